/- The program's print of an address, and the reference's: the same. Conditions: the bounds named in each theorem. -/
import Derived.Test.YtkhkemagkcjdoaaDoorPureAddr2
namespace Go.Proofs.YtkhkemagkcjdoaaDoor.Pure
open Go.RowKit Go.Proofs.YtkhkemagkcjdoaaDoorW.PrintWords Go.Proofs.YtkhkemagkcjdoaaDoor.Gv Go.Proofs.YtkhkemagkcjdoaaDoor.XAD

/-! ### joins -/
abbrev J (sep : UInt8) (xs : List (List UInt8)) : List UInt8 := Lib.join xs [sep]
theorem J_snoc (sep : UInt8) (xs : List (List UInt8)) (y : List UInt8) (h : xs ≠ []) : J sep (xs ++ [y]) = J sep xs ++ sep :: y := by
  cases xs with
  | nil => exact absurd rfl h
  | cons x r =>
    show Lib.join (x :: (r ++ [y])) [sep] = Lib.join (x :: r) [sep] ++ sep :: y
    rw [Lib.join_cons, Lib.join_cons]
    simp [Lib.joinTail, List.append_assoc]
theorem take_snoc (xs : List (List UInt8)) (i : Nat) (h : i < xs.length) : xs.take (i + 1) = xs.take i ++ [xs[i]'h] := by
  rw [List.take_add_one, List.getElem?_eq_getElem h]
  rfl
theorem J_take (sep : UInt8) (xs : List (List UInt8)) (i : Nat) (h : i < xs.length) : J sep (xs.take (i + 1)) = if i = 0 then xs[i]'h else J sep (xs.take i) ++ sep :: xs[i]'h := by
  rw [take_snoc xs i h]
  by_cases h0 : i = 0
  · subst h0
    rw [if_pos rfl, List.take_zero, List.nil_append]
    exact Lib.join_one _ _
  · rw [if_neg h0, J_snoc]
    intro e
    have := congrArg List.length e
    rw [List.length_take, List.length_nil] at this
    omega
theorem J_length (sep : UInt8) (m : Nat) : ∀ (xs : List (List UInt8)), (∀ x ∈ xs, x.length ≤ m) → (J sep xs).length ≤ (m + 1) * xs.length := by
  intro xs h
  cases xs with
  | nil => simp [J, Lib.join_nil]
  | cons x r =>
    have hx := h x List.mem_cons_self
    have key : ∀ r : List (List UInt8), (∀ x ∈ r, x.length ≤ m) → (Lib.joinTail [sep] r).length ≤ (m + 1) * r.length := by
      intro r
      induction r with
      | nil => intro _; simp [Lib.joinTail]
      | cons y r ih =>
        intro h2
        have h3 := ih (fun z hz => h2 z (List.mem_cons_of_mem _ hz))
        have h4 := h2 y List.mem_cons_self
        have e : Lib.joinTail [sep] (y :: r) = ([sep] ++ y) ++ Lib.joinTail [sep] r := by simp [Lib.joinTail]
        rw [e, List.length_append, List.length_append, List.length_singleton, List.length_cons, Nat.mul_succ]
        omega
    have h5 := key r (fun z hz => h z (List.mem_cons_of_mem _ hz))
    show (Lib.join (x :: r) [sep]).length ≤ _
    rw [Lib.join_cons, List.length_append, List.length_cons, Nat.mul_succ]
    omega

theorem joinL_mk (xs : List (List UInt8)) (sep : UInt8) : joinL (xs.map mk) (⟨#[sep]⟩ : ByteArray) = J sep xs := by
  unfold joinL
  rw [List.map_map]
  have : ((fun x : ByteArray => x.data.toList) ∘ mk) = id := by funext x; exact L_mk x
  rw [this, List.map_id]
theorem Join_f (xs : List (List UInt8)) (sep : UInt8) (h1 : xs.length ≤ 1000) (h2 : (J sep xs).length ≤ 1000000) : strings_Join.f (xs.map mk) (⟨#[sep]⟩ : ByteArray) = some (mk (J sep xs)) := by
  unfold strings_Join.f
  rw [joinL_mk, if_pos ⟨by rw [List.length_map]; omega, by omega⟩]
  rfl

/-! ### numerals' lengths -/
theorem dec_len (n : Nat) (h : n < 1000) : (Lib.decDigits n).length ≤ 3 := by
  rw [Lib.decDigits]
  split
  · simp
  · rw [List.length_append, Lib.decDigits]
    split
    · simp
    · rw [List.length_append, Lib.decDigits, dif_pos (by omega)]
      simp
theorem hex_len (n : Nat) (h : n < 65536) : (hexL n).length ≤ 4 := by
  rw [hexL]
  split
  · simp
  · rw [List.length_append, hexL]
    split
    · simp
    · rw [List.length_append, hexL]
      split
      · simp
      · rw [List.length_append, hexL, dif_pos (by omega)]
        simp

/-! ### the first kind -/
def decs (a : ByteArray) : List (List UInt8) := (L a).map fun c => Lib.decDigits c.toNat
theorem decs_length (a : ByteArray) : (decs a).length = a.size := by unfold decs; rw [List.length_map, ← L_size]
theorem decs_at (a : ByteArray) (j : Nat) (h : j < a.size) : ∃ n : Nat, n < 256 ∧ bt a (j : Int) = (n : Int) ∧ (decs a)[j]'(by rw [decs_length]; exact h) = Lib.decDigits n := by
  refine ⟨_, UInt8.toNat_lt _, bt_nat a j h, ?_⟩
  unfold decs
  rw [List.getElem_map]
theorem decs_small (a : ByteArray) : ∀ x ∈ decs a, x.length ≤ 3 := by
  intro x hx
  obtain ⟨c, _, rfl⟩ := List.mem_map.1 hx
  exact dec_len _ (by have := c.toNat_lt; omega)
theorem take_small {m : Nat} {xs : List (List UInt8)} (h : ∀ x ∈ xs, x.length ≤ m) (i : Nat) : ∀ x ∈ xs.take i, x.length ≤ m := fun x hx => h x (List.mem_of_mem_take hx)
theorem drop_small {m : Nat} {xs : List (List UInt8)} (h : ∀ x ∈ xs, x.length ≤ m) (i : Nat) : ∀ x ∈ xs.drop i, x.length ≤ m := fun x hx => h x (List.mem_of_mem_drop hx)
theorem small_wrap (n : Nat) (h : n < 100000) : wrap64 (n : Int) = (n : Int) := by unfold wrap64; omega
theorem map_snoc (xs : List (List UInt8)) (i : Nat) (h : i < xs.length) : (xs.take i).map mk ++ [mk (xs[i]'h)] = (xs.take (i + 1)).map mk := by
  rw [take_snoc xs i h, List.map_append]
  rfl

theorem print4_ev (a : ByteArray) (h : a.size = 4) : ∀ (d j : Nat), 4 - j = d → j ≤ 4 → Ev (fun k => addr_Print.l0 k a (((decs a).take j).map mk) (j : Int)) (mk (J 46 (decs a))) := by
  have hl := decs_length a
  intro d
  induction d with
  | zero =>
    intro j hd hj
    obtain rfl : j = 4 := by omega
    refine Ev.step (f := fun _ => some (mk (J 46 (decs a)))) (fun k => ?_) (Ev.now _)
    simp only [addr_Print.l0]
    rw [if_neg (by omega), List.take_of_length_le (by omega), Join_f _ _ (by omega) (by have := J_length 46 3 (decs a) (decs_small a); omega)]
    rfl
  | succ d ih =>
    intro j hd hj
    obtain ⟨n, hn, hb, hg⟩ := decs_at a j (by omega)
    have hi : strconv_Itoa.f (n : Int) = some (mk (Lib.decDigits n)) := by
      unfold strconv_Itoa.f
      rw [if_pos (by omega), Lib.itoa_nonneg]
      rfl
    refine Ev.step (fun k => ?_) (ih (j + 1) (by omega) (by omega))
    simp only [addr_Print.l0]
    rw [if_pos (by omega), if_pos (by omega), if_pos (by omega), hb, small_wrap n (by omega), hi]
    simp only [Option.bind_some]
    rw [if_pos (by rw [List.length_map, List.length_take]; omega), wrap_nat j (by omega), ← hg, map_snoc]

theorem ref4_ev (a : ByteArray) (h : a.size = 4) : ∀ (d j : Nat), 4 - j = d → j ≤ 4 → Ev (fun k => conciergeref2_Print.l0 k a (mk (J 46 ((decs a).take j))) (j : Int)) (mk (J 46 (decs a))) := by
  have hl := decs_length a
  intro d
  induction d with
  | zero =>
    intro j hd hj
    obtain rfl : j = 4 := by omega
    refine Ev.step (f := fun _ => some (mk (J 46 (decs a)))) (fun k => ?_) (Ev.now _)
    simp only [conciergeref2_Print.l0]
    rw [if_neg (by omega), List.take_of_length_le (by omega)]
  | succ d ih =>
    intro j hd hj
    obtain ⟨n, hn, hb, hg⟩ := decs_at a j (by omega)
    have hlen := J_length 46 3 _ (take_small (decs_small a) j)
    rw [List.length_take] at hlen
    have hdl := dec_len n (by omega)
    have e46 : (⟨#[46]⟩ : ByteArray) = mk [46] := rfl
    have hJ := J_take 46 (decs a) j (by omega)
    rw [hg] at hJ
    by_cases h0 : j = 0
    · rw [if_pos h0] at hJ
      have hnil : J 46 ((decs a).take j) = [] := by rw [h0, List.take_zero]; rfl
      refine Ev.step (f := fun k => (conciergeref2_Dec.f k (n : Int)).bind fun t176 => if (mk (J 46 ((decs a).take j))).size + t176.size ≤ 9223372036854775807 then conciergeref2_Print.l0 k a (mk (J 46 ((decs a).take j)) ++ t176) ((j + 1 : Nat) : Int) else none) (fun k => ?_) (Ev.bind (Dec_ev n (by omega)) ?_)
      · simp only [conciergeref2_Print.l0]
        rw [if_pos (by omega), if_neg (by omega), if_pos (by omega), if_pos (by omega), hb, small_wrap n (by omega), wrap_nat j (by omega)]
      · simp only [hnil, mk_app, List.nil_append]
        refine Ev.congr (fun k => if_pos (by rw [size_mk, size_mk, List.length_nil]; omega)) ?_
        have := ih (j + 1) (by omega) (by omega)
        rw [hJ] at this
        exact this
    · rw [if_neg h0] at hJ
      refine Ev.step (f := fun k => (conciergeref2_Dec.f k (n : Int)).bind fun t175 => if (mk (J 46 ((decs a).take j)) ++ (⟨#[46]⟩ : ByteArray)).size + t175.size ≤ 9223372036854775807 then conciergeref2_Print.l0 k a ((mk (J 46 ((decs a).take j)) ++ (⟨#[46]⟩ : ByteArray)) ++ t175) ((j + 1 : Nat) : Int) else none) (fun k => ?_) (Ev.bind (Dec_ev n (by omega)) ?_)
      · simp only [conciergeref2_Print.l0]
        rw [if_pos (by omega), if_pos (by omega), if_pos (by rw [size_mk]; omega), if_pos (by omega), if_pos (by omega), hb, small_wrap n (by omega), wrap_nat j (by omega)]
      · simp only [e46, mk_app, List.append_assoc, List.singleton_append]
        refine Ev.congr (fun k => if_pos (by rw [size_mk, size_mk, List.length_append, List.length_singleton]; omega)) ?_
        have := ih (j + 1) (by omega) (by omega)
        rw [hJ] at this
        exact this

/-! ### the second kind -/
def hexs (a : ByteArray) : List (List UInt8) := (groups (L a)).map hexL
theorem hexs_length (a : ByteArray) (h : a.size = 16) : (hexs a).length = 8 := by unfold hexs; rw [List.length_map, groups_length 8 _ (by rw [← L_size, h])]
theorem hexs_small (a : ByteArray) : ∀ x ∈ hexs a, x.length ≤ 4 := by
  intro x hx
  obtain ⟨g, hg, rfl⟩ := List.mem_map.1 hx
  exact hex_len _ (grp_lt _ _ (Nat.le_refl _) g hg)
theorem hexs_at (a : ByteArray) (h : a.size = 16) (j : Nat) (hj : j < 8) : ∃ b0 b1 : Nat, b0 < 256 ∧ b1 < 256 ∧ bt a ((2 * j : Nat) : Int) = (b0 : Int) ∧ bt a ((2 * j + 1 : Nat) : Int) = (b1 : Int) ∧ (hexs a)[j]'(by rw [hexs_length a h]; exact hj) = hexL (b0 * 256 + b1) := by
  obtain ⟨b0, b1, h0, h1, hb0, hb1, hg⟩ := grp_at a h j hj
  refine ⟨b0, b1, h0, h1, hb0, hb1, ?_⟩
  unfold hexs
  rw [List.getElem_map]
  congr 1
  have hlen := groups_length 8 (L a) (by rw [← L_size, h])
  have := List.drop_eq_getElem_cons (l := groups (L a)) (i := j) (by omega)
  rw [hg] at this
  injection this with e _
  exact e.symm

theorem or_join (b0 b1 : Nat) (h0 : b0 < 256) (h1 : b1 < 256) : Go.bits .or .u64 (IntKind.u64.wrap ((IntKind.u64.wrap (b0 : Int)) * 256)) (IntKind.u64.wrap (b1 : Int)) = ((b0 * 256 + b1 : Nat) : Int) := by
  have e0 : IntKind.u64.wrap (b0 : Int) = (b0 : Int) := by rw [IntKind.wrap_u64]; omega
  have e1 : IntKind.u64.wrap (b1 : Int) = (b1 : Int) := by rw [IntKind.wrap_u64]; omega
  have e2 : IntKind.u64.wrap ((b0 : Int) * 256) = ((b0 * 256 : Nat) : Int) := by rw [IntKind.wrap_u64]; omega
  rw [e0, e1, e2, u64_or_nat _ _ (by omega) (by omega), nat_join 8 _ _ (by omega) (by omega)]

/-- The text of an address of the second kind: the longest run of zeros, where it is at least two, is told by two points. -/
def print6 (xs : List (List UInt8)) (b : Int × Nat) : List UInt8 := if b.2 < 2 then J 58 xs else J 58 (xs.take b.1.toNat) ++ 58 :: 58 :: J 58 (xs.drop (b.1.toNat + b.2))

theorem best_bounds (a : ByteArray) (h : a.size = 16) (at0 : Int) : (best (groups (L a)) 0 at0 1 = (at0, 1)) ∨ ∃ j : Nat, j < 8 ∧ best (groups (L a)) 0 at0 1 = ((j : Int), zr ((groups (L a)).drop j)) ∧ 2 ≤ zr ((groups (L a)).drop j) ∧ j + zr ((groups (L a)).drop j) ≤ 8 := by
  have hlen := groups_length 8 (L a) (by rw [← L_size, h])
  rcases best_spec (groups (L a)) 0 at0 1 with e | ⟨j, hj, e, hlt⟩
  · exact .inl e
  · have := zr_le ((groups (L a)).drop j)
    rw [List.length_drop] at this
    exact .inr ⟨j, by omega, by rw [e, Nat.zero_add], hlt, by omega⟩

theorem print6_ev (a : ByteArray) (h : a.size = 16) : ∀ (d j : Nat), 8 - j = d → j ≤ 8 → Ev (fun k => addr_Print.l1 k a (((hexs a).take j).map mk) ((2 * j : Nat) : Int)) (mk (print6 (hexs a) (best (groups (L a)) 0 0 1))) := by
  have hl := hexs_length a h
  intro d
  induction d with
  | zero =>
    intro j hd hj
    obtain rfl : j = 8 := by omega
    refine Ev.step (fun k => ?_) (Ev.bind (addr_run_ev a h) (f := fun k bt152 => (if bt152.2 < 2 then ((strings_Join.f ((hexs a).map mk) (⟨#[58]⟩ : ByteArray)).bind fun t154 => (some t154)) else (if 0 ≤ bt152.1 then (if bt152.1 ≤ ((((hexs a).map mk).length : Nat) : Int) then ((strings_Join.f (((hexs a).map mk).take (bt152.1 : Int).toNat) (⟨#[58]⟩ : ByteArray)).bind fun t159 => (if t159.size + 2 ≤ 9223372036854775807 then (if 0 ≤ (wrap64 (bt152.1 + bt152.2)) then (if (wrap64 (bt152.1 + bt152.2)) ≤ ((((hexs a).map mk).length : Nat) : Int) then ((strings_Join.f (((hexs a).map mk).drop ((wrap64 (bt152.1 + bt152.2)) : Int).toNat) (⟨#[58]⟩ : ByteArray)).bind fun t164 => (if (t159 ++ (⟨#[58, 58]⟩ : ByteArray)).size + t164.size ≤ 9223372036854775807 then (some ((t159 ++ (⟨#[58, 58]⟩ : ByteArray)) ++ t164)) else (none))) else (none)) else (none)) else (none))) else (none)) else (none)))) ?_)
    · simp only [addr_Print.l1]
      rw [if_neg (by omega), List.take_of_length_le (by omega)]
    · have hb := best_bounds a h 0
      unfold print6
      generalize best (groups (L a)) 0 0 1 = b at *
      rcases hb with rfl | ⟨j, hj, rfl, h2, h8⟩
      · simp only
        rw [if_pos (by decide), if_pos (by decide)]
        refine Ev.congr (f := fun _ => some (mk (J 58 (hexs a)))) (fun k => ?_) (Ev.now _)
        rw [Join_f _ _ (by omega) (by have := J_length 58 4 (hexs a) (hexs_small a); omega)]
        rfl
      · generalize zr ((groups (L a)).drop j) = z at *
        simp only
        have w := wadd j z (by omega)
        have hJ1 := J_length 58 4 _ (take_small (hexs_small a) j)
        have hJ2 := J_length 58 4 _ (drop_small (hexs_small a) (j + z))
        rw [List.length_take] at hJ1
        rw [List.length_drop] at hJ2
        refine Ev.congr (f := fun _ => some (mk (J 58 ((hexs a).take j) ++ 58 :: 58 :: J 58 ((hexs a).drop (j + z))))) (fun k => ?_) ?_
        · rw [if_neg (by omega), if_pos (by omega), if_pos (by rw [List.length_map]; omega), w, Int.toNat_natCast, Int.toNat_natCast, ← List.map_take, ← List.map_drop, Join_f _ _ (by rw [List.length_take]; omega) (by omega)]
          simp only [Option.bind_some]
          rw [if_pos (by rw [size_mk]; omega), if_pos (by omega), if_pos (by rw [List.length_map]; omega), Join_f _ _ (by rw [List.length_drop]; omega) (by omega)]
          simp only [Option.bind_some]
          have e58 : (⟨#[58, 58]⟩ : ByteArray) = mk [58, 58] := rfl
          rw [e58, mk_app, if_pos (by rw [size_mk, size_mk, List.length_append]; show _ + 2 + _ ≤ _; omega), mk_app, List.append_assoc]
          rfl
        · rw [if_neg (by omega), Int.toNat_natCast]
          exact Ev.now _
  | succ d ih =>
    intro j hd hj
    obtain ⟨b0, b1, h0, h1, hb0, hb1, hg⟩ := hexs_at a h j (by omega)
    have w1 : wrap64 (((2 * j : Nat) : Int) + 1) = ((2 * j + 1 : Nat) : Int) := by unfold wrap64; omega
    have w2 : wrap64 (((2 * j : Nat) : Int) + 2) = ((2 * (j + 1) : Nat) : Int) := by unfold wrap64; omega
    have hf : strconv_FormatUint.f ((b0 * 256 + b1 : Nat) : Int) 16 = some (mk (hexL (b0 * 256 + b1))) := by
      unfold strconv_FormatUint.f
      rw [if_neg (by omega), if_pos (by omega), Int.toNat_natCast]
      rfl
    refine Ev.step (fun k => ?_) (ih (j + 1) (by omega) (by omega))
    simp only [addr_Print.l1]
    rw [if_pos (by omega), if_pos (by omega), if_pos (by omega), w1, if_pos (by omega), if_pos (by omega), hb0, hb1, or_join b0 b1 h0 h1, hf]
    simp only [Option.bind_some]
    rw [if_pos (by rw [List.length_map, List.length_take]; omega), w2, ← hg, map_snoc]

/-- An address's text. -/
def printV (a : ByteArray) : ByteArray := if a.size = 4 then mk (J 46 (decs a)) else if a.size = 16 then mk (print6 (hexs a) (best (groups (L a)) 0 0 1)) else ⟨#[]⟩
theorem addr_Print_ev (a : ByteArray) : Ev (fun k => addr_Print.f k a) (printV a) := by
  unfold printV addr_Print.f
  by_cases h4 : a.size = 4
  · rw [if_pos h4]
    exact Ev.congr (fun k => if_pos (by omega)) (print4_ev a h4 4 0 (by omega) (by omega))
  · rw [if_neg h4]
    refine Ev.congr (fun k => if_neg (by omega)) ?_
    by_cases h16 : a.size = 16
    · rw [if_pos h16]
      exact Ev.congr (fun k => if_pos (by omega)) (print6_ev a h16 8 0 (by omega) (by omega))
    · rw [if_neg h16]
      exact Ev.congr (fun k => if_neg (by omega)) (Ev.now _)
end Go.Proofs.YtkhkemagkcjdoaaDoor.Pure
