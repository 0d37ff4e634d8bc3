/- The program's print of an address, and the reference's: the same. Conditions: the bounds named in each theorem. -/
import Derived.Test.YtkhkemagkcjdoaaDoorPureAddr1
namespace Go.Proofs.YtkhkemagkcjdoaaDoor.Pure
open Go.RowKit Go.Proofs.YtkhkemagkcjdoaaDoorW.PrintWords Go.Proofs.YtkhkemagkcjdoaaDoor.Gv Go.Proofs.YtkhkemagkcjdoaaDoor.XAD

/-! ### groups -/
def groups : List UInt8 → List Nat
  | x :: y :: r => (x.toNat * 256 + y.toNat) :: groups r
  | _ => []
theorem groups_drop : ∀ (j : Nat) (l : List UInt8), groups (l.drop (2 * j)) = (groups l).drop j := by
  intro j
  induction j with
  | zero => intro l; rfl
  | succ j ih =>
    intro l
    match l with
    | [] => simp [groups]
    | [x] => rw [show 2 * (j + 1) = (2 * j + 1) + 1 by omega, List.drop_succ_cons, List.drop_nil]; simp [groups]
    | x :: y :: r =>
      rw [show 2 * (j + 1) = (2 * j) + 1 + 1 by omega, List.drop_succ_cons, List.drop_succ_cons, ih r]
      rfl
theorem groups_length : ∀ (n : Nat) (l : List UInt8), l.length = 2 * n → (groups l).length = n := by
  intro n
  induction n with
  | zero => intro l h; have := List.eq_nil_of_length_eq_zero h; subst this; rfl
  | succ n ih =>
    intro l h
    match l with
    | [] => simp at h
    | [x] => simp at h; omega
    | x :: y :: r =>
      unfold groups
      rw [List.length_cons, ih r (by simp at h; omega)]
theorem grp_at (a : ByteArray) (h : a.size = 16) (j : Nat) (hj : j < 8) : ∃ b0 b1 : Nat, b0 < 256 ∧ b1 < 256 ∧ bt a ((2 * j : Nat) : Int) = (b0 : Int) ∧ bt a ((2 * j + 1 : Nat) : Int) = (b1 : Int) ∧ (groups (L a)).drop j = (b0 * 256 + b1) :: (groups (L a)).drop (j + 1) := by
  obtain ⟨x, r, e1, e2, hb1⟩ := bt_get a (2 * j) (by omega)
  obtain ⟨y, r', f1, f2, hb2⟩ := bt_get a (2 * j + 1) (by omega)
  refine ⟨x.toNat, y.toNat, x.toNat_lt, y.toNat_lt, hb1, hb2, ?_⟩
  rw [← groups_drop, ← groups_drop, e1, ← e2, f1, show 2 * (j + 1) = 2 * j + 1 + 1 by omega, f2]
  rfl
theorem grp_lt : ∀ (n : Nat) (l : List UInt8), l.length ≤ n → ∀ g ∈ groups l, g < 65536 := by
  intro n
  induction n with
  | zero => intro l h g hg; have := List.eq_nil_of_length_eq_zero (Nat.le_zero.1 h); subst this; simp [groups] at hg
  | succ n ih =>
    intro l h g hg
    match l with
    | [] => simp [groups] at hg
    | [x] => simp [groups] at hg
    | x :: y :: r =>
      unfold groups at hg
      rcases List.mem_cons.1 hg with rfl | hg
      · have := x.toNat_lt; have := y.toNat_lt; omega
      · exact ih r (by simp at h; omega) g hg

/-! ### runs of zeros -/
def zr : List Nat → Nat
  | [] => 0
  | g :: r => if g = 0 then zr r + 1 else 0
/-- The longest run so far, and where it begins. -/
def best : List Nat → Nat → Int → Nat → Int × Nat
  | [], _, a, s => (a, s)
  | g :: r, i, a, s => if zr (g :: r) > s then best r (i + 1) (i : Int) (zr (g :: r)) else best r (i + 1) a s
theorem zr_cons (g : Nat) (r : List Nat) : zr (g :: r) = if g = 0 then zr r + 1 else 0 := rfl
theorem zr_le : ∀ l : List Nat, zr l ≤ l.length := by
  intro l
  induction l with
  | nil => exact Nat.le_refl _
  | cons g r ih => unfold zr; split <;> simp; omega
theorem zr_take : ∀ (l : List Nat), l.take (zr l) = List.replicate (zr l) 0 := by
  intro l
  induction l with
  | nil => rfl
  | cons g r ih =>
    unfold zr
    split
    · rename_i h; rw [List.take_succ_cons, ih, h]; rfl
    · rfl
theorem best_same : ∀ (l : List Nat) (i : Nat) (a a' : Int) (s : Nat), (best l i a s).2 = (best l i a' s).2 ∧ ((best l i a s).1 = (best l i a' s).1 ∨ ((best l i a s) = (a, s) ∧ (best l i a' s) = (a', s))) := by
  intro l
  induction l with
  | nil => intro i a a' s; exact ⟨rfl, .inr ⟨rfl, rfl⟩⟩
  | cons g r ih =>
    intro i a a' s
    unfold best
    split
    · exact ⟨rfl, .inl rfl⟩
    · exact ih (i + 1) a a' s
theorem best_spec : ∀ (l : List Nat) (i : Nat) (a : Int) (s : Nat), (best l i a s = (a, s)) ∨ ∃ j, j < l.length ∧ best l i a s = (((i + j : Nat) : Int), zr (l.drop j)) ∧ s < zr (l.drop j) := by
  intro l
  induction l with
  | nil => intro i a s; exact .inl rfl
  | cons g r ih =>
    intro i a s
    unfold best
    split
    · rename_i h
      rcases ih (i + 1) (i : Int) (zr (g :: r)) with e | ⟨j, hj, e, hlt⟩
      · exact .inr ⟨0, by simp, by rw [e]; rfl, h⟩
      · exact .inr ⟨j + 1, by simp; omega, by rw [e, List.drop_succ_cons, show i + 1 + j = i + (j + 1) by omega], by rw [List.drop_succ_cons]; omega⟩
    · rcases ih (i + 1) a s with e | ⟨j, hj, e, hlt⟩
      · exact .inl e
      · exact .inr ⟨j + 1, by simp; omega, by rw [e, List.drop_succ_cons, show i + 1 + j = i + (j + 1) by omega], by rw [List.drop_succ_cons]; exact hlt⟩

theorem tdiv2 (n : Nat) (h : n < 1000) : wrap64 (Int.tdiv ((2 * n : Nat) : Int) 2) = (n : Int) := by
  rw [Int.tdiv_eq_ediv_of_nonneg (by omega)]
  unfold wrap64
  omega
theorem wsub2 (i n : Nat) (h : i + n < 1000) : wrap64 (((2 * (i + n) : Nat) : Int) - ((2 * i : Nat) : Int)) = ((2 * n : Nat) : Int) := by
  unfold wrap64
  omega
theorem wadd (n m : Nat) (h : n + m < 100000) : wrap64 ((n : Int) + (m : Int)) = ((n + m : Nat) : Int) := by
  unfold wrap64
  omega

/-- One run, counted by the program. -/
theorem run_count_ev (a : ByteArray) (h : a.size = 16) (at_ : Int) (s i : Nat) (hi : i < 8) (R : Int × Int)
    (hR : Ev (fun k => addr_run.l0 k a (if zr ((groups (L a)).drop i) > s then (i : Int) else at_) ((if zr ((groups (L a)).drop i) > s then zr ((groups (L a)).drop i) else s : Nat) : Int) ((2 * (i + 1) : Nat) : Int)) R) :
    ∀ (d n : Nat), 8 - (i + n) = d → i + n ≤ 8 → n + zr ((groups (L a)).drop (i + n)) = zr ((groups (L a)).drop i) →
    Ev (fun k => addr_run.l1 k a at_ (s : Int) ((2 * i : Nat) : Int) ((2 * (i + n) : Nat) : Int)) R := by
  have hlen := groups_length 8 (L a) (by rw [← L_size, h])
  have hend : ∀ n, i + n ≤ 8 → n = zr ((groups (L a)).drop i) → ∀ k,
      (if (wrap64 (Int.tdiv (wrap64 (((2 * (i + n) : Nat) : Int) - ((2 * i : Nat) : Int))) 2)) > (s : Int) then (addr_run.l0 k a (wrap64 (Int.tdiv ((2 * i : Nat) : Int) 2)) (wrap64 (Int.tdiv (wrap64 (((2 * (i + n) : Nat) : Int) - ((2 * i : Nat) : Int))) 2)) (wrap64 (((2 * i : Nat) : Int) + 2))) else (addr_run.l0 k a at_ (s : Int) (wrap64 (((2 * i : Nat) : Int) + 2)))) =
      addr_run.l0 k a (if zr ((groups (L a)).drop i) > s then (i : Int) else at_) ((if zr ((groups (L a)).drop i) > s then zr ((groups (L a)).drop i) else s : Nat) : Int) ((2 * (i + 1) : Nat) : Int) := by
    intro n hn e k
    have w2 : wrap64 (((2 * i : Nat) : Int) + 2) = ((2 * (i + 1) : Nat) : Int) := by unfold wrap64; omega
    rw [wsub2 i n (by omega), tdiv2 n (by omega), tdiv2 i (by omega), w2, ← e]
    by_cases hs : n > s
    · rw [if_pos (by omega), if_pos hs, if_pos hs]
    · rw [if_neg (by omega), if_neg hs, if_neg hs]
  intro d
  induction d with
  | zero =>
    intro n hd hn hz
    have hn8 : i + n = 8 := by omega
    have hz0 : zr ((groups (L a)).drop (i + n)) = 0 := by rw [hn8, List.drop_eq_nil_of_le (by omega)]; rfl
    refine Ev.step (fun k => ?_) hR
    simp only [addr_run.l1]
    rw [if_neg (by omega)]
    exact hend n hn (by omega) k
  | succ d ih =>
    intro n hd hn hz
    obtain ⟨b0, b1, h0, h1, hb0, hb1, hg⟩ := grp_at a h (i + n) (by omega)
    have w1 : wrap64 (((2 * (i + n) : Nat) : Int) + 1) = ((2 * (i + n) + 1 : Nat) : Int) := by unfold wrap64; omega
    have w2 : wrap64 (((2 * (i + n) : Nat) : Int) + 2) = ((2 * (i + (n + 1)) : Nat) : Int) := by unfold wrap64; omega
    rw [hg, zr_cons] at hz
    by_cases hzero : b0 * 256 + b1 = 0
    · rw [if_pos hzero] at hz
      refine Ev.step (fun k => ?_) (ih (n + 1) (by omega) (by omega) (by rw [show i + (n + 1) = i + n + 1 by omega]; omega))
      simp only [addr_run.l1]
      rw [if_pos (by omega), if_pos (by omega), if_pos (by omega), hb0, if_pos (by omega), w1, if_pos (by omega), if_pos (by omega), hb1, if_pos (by omega), w2]
    · rw [if_neg hzero] at hz
      refine Ev.step (fun k => ?_) hR
      have he := hend n hn (by omega) k
      simp only [addr_run.l1]
      rw [if_pos (by omega), if_pos (by omega), if_pos (by omega), hb0, w1, hb1]
      by_cases hb : b0 = 0
      · rw [if_pos (by omega), if_pos (by omega), if_pos (by omega), if_neg (by omega)]
        exact he
      · rw [if_neg (by omega)]
        exact he

theorem run_ev (a : ByteArray) (h : a.size = 16) : ∀ (d i : Nat) (at_ : Int) (s : Nat), 8 - i = d → i ≤ 8 →
    Ev (fun k => addr_run.l0 k a at_ (s : Int) ((2 * i : Nat) : Int)) ((best ((groups (L a)).drop i) i at_ s).1, ((best ((groups (L a)).drop i) i at_ s).2 : Int)) := by
  have hlen := groups_length 8 (L a) (by rw [← L_size, h])
  intro d
  induction d with
  | zero =>
    intro i at_ s hd hi
    obtain rfl : i = 8 := by omega
    rw [List.drop_eq_nil_of_le (by omega)]
    refine Ev.step (f := fun _ => some (at_, (s : Int))) (fun k => ?_) (Ev.now _)
    simp only [addr_run.l0]
    rw [if_neg (by omega)]
  | succ d ih =>
    intro i at_ s hd hi
    refine Ev.step (f := fun k => addr_run.l1 k a at_ (s : Int) ((2 * i : Nat) : Int) ((2 * (i + 0) : Nat) : Int)) (fun k => ?_) (run_count_ev a h at_ s i (by omega) _ ?_ (8 - (i + 0)) 0 rfl (by omega) (by rw [Nat.add_zero]; omega))
    · simp only [addr_run.l0]
      rw [if_pos (by omega)]
      rfl
    · obtain ⟨b0, b1, h0, h1, hb0, hb1, hg⟩ := grp_at a h i (by omega)
      have := ih (i + 1) (if zr ((groups (L a)).drop i) > s then (i : Int) else at_) (if zr ((groups (L a)).drop i) > s then zr ((groups (L a)).drop i) else s) (by omega) (by omega)
      rw [hg]
      unfold best
      rw [← hg]
      by_cases hs : zr ((groups (L a)).drop i) > s
      · simp only [if_pos hs] at this ⊢
        exact this
      · simp only [if_neg hs] at this ⊢
        exact this
theorem addr_run_ev (a : ByteArray) (h : a.size = 16) : Ev (fun k => addr_run.f k a) ((best (groups (L a)) 0 0 1).1, ((best (groups (L a)) 0 0 1).2 : Int)) := by
  have := run_ev a h 8 0 0 1 (by omega) (by omega)
  exact this
end Go.Proofs.YtkhkemagkcjdoaaDoor.Pure
