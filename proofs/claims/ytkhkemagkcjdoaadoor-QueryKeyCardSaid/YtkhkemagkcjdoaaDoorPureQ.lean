/- What the printed functions of names and queries come to. Conditions: the sizes named in each theorem. -/
import Derived.Test.YtkhkemagkcjdoaaDoorXQA
import Derived.Test.YtkhkemagkcjdoaaDoorPureStr
namespace Go.Proofs.YtkhkemagkcjdoaaDoor.Pure
open Go.RowKit Go.Proofs.YtkhkemagkcjdoaaDoorW.PrintWords Go.Proofs.YtkhkemagkcjdoaaDoor.Gv Go.Proofs.YtkhkemagkcjdoaaDoor.XQA

/-- A letter, a digit. -/
def Alnum (x : Int) : Prop := (97 ≤ x ∧ x ≤ 122) ∨ (65 ≤ x ∧ x ≤ 90) ∨ (48 ≤ x ∧ x ≤ 57)
instance (x : Int) : Decidable (Alnum x) := by unfold Alnum; infer_instance
def okL (c : UInt8) : Bool := decide (Alnum c.toNat ∨ (c.toNat : Int) = 45 ∨ (c.toNat : Int) = 95)
def isLabel (l : List UInt8) : Bool := l.all okL && (!l.isEmpty && decide (l.length ≤ 63))

theorem or32 (c : UInt8) : (97 ≤ Go.bits .or .u8 (c.toNat : Int) 32 ∧ Go.bits .or .u8 (c.toNat : Int) 32 ≤ 122) ↔ ((97 ≤ (c.toNat : Int) ∧ (c.toNat : Int) ≤ 122) ∨ (65 ≤ (c.toNat : Int) ∧ (c.toNat : Int) ≤ 90)) := by
  have h := u8_or_nat c.toNat 32 c.toNat_lt (by decide)
  have e : ((32 : Nat) : Int) = 32 := rfl
  rw [e] at h
  rw [h]
  have all : ∀ a, a < 256 → ((97 ≤ (a ||| 32) ∧ (a ||| 32) ≤ 122) ↔ ((97 ≤ a ∧ a ≤ 122) ∨ (65 ≤ a ∧ a ≤ 90))) := by decide +kernel
  have := all c.toNat c.toNat_lt
  omega

theorem label_ev (s : ByteArray) (hs : s.size < 4611686018427387904) : ∀ (d j : Nat), s.size - j = d → j ≤ s.size →
    Ev (fun k => names_label.l0 k s (s.size : Int) (j : Int)) (((L s).drop j).all okL && (!(L s).isEmpty && decide ((L s).length ≤ 63))) := by
  intro d
  induction d with
  | zero =>
    intro j hd hj
    obtain rfl : j = s.size := by omega
    refine Ev.step (f := fun _ => some (((L s).drop s.size).all okL && (!(L s).isEmpty && decide ((L s).length ≤ 63)))) (fun k => ?_) (Ev.now _)
    simp only [names_label.l0]
    rw [if_neg (by omega), List.drop_eq_nil_of_le (by rw [L_size]; exact Nat.le_refl _), toList_L, L_size]
    cases h : L s with
    | nil => simp
    | cons x r => simp; omega
  | succ d ih =>
    intro j hd hj
    have hlt : j < s.size := by omega
    obtain ⟨c, r, e1, e2, hb⟩ := bt_get s j hlt
    have hw := wrap_nat j (by omega)
    have hor := or32 c
    by_cases hok : okL c = true
    · have hP : Alnum c.toNat ∨ (c.toNat : Int) = 45 ∨ (c.toNat : Int) = 95 := by simpa [okL] using hok
      unfold Alnum at hP
      refine Ev.step (f := fun k => names_label.l0 k s (s.size : Int) ((j + 1 : Nat) : Int)) (fun k => ?_) ?_
      · simp only [names_label.l0]
        rw [if_pos (by omega), if_pos (by omega), if_pos (by omega), hb, hw]
        repeat' split
        all_goals first | rfl | (exfalso; omega)
      · have := ih (j + 1) (by omega) (by omega)
        rw [e1, List.all_cons, hok, Bool.true_and, ← e2]
        exact this
    · have hP : ¬ (Alnum c.toNat ∨ (c.toNat : Int) = 45 ∨ (c.toNat : Int) = 95) := by simpa [okL] using hok
      unfold Alnum at hP
      refine Ev.step (f := fun _ => some false) (fun k => ?_) ?_
      · simp only [names_label.l0]
        rw [if_pos (by omega), if_pos (by omega), if_pos (by omega), hb]
        repeat' split
        all_goals first | rfl | (exfalso; omega)
      · rw [e1, List.all_cons, Bool.eq_false_iff.2 hok]
        exact Ev.now _

theorem names_label_ev (s : ByteArray) (hs : s.size < 4611686018427387904) : Ev (fun k => names_label.f k s) (isLabel (L s)) := by
  have := label_ev s hs s.size 0 (by omega) (by omega)
  exact this

def okS (c : UInt8) : Bool := decide (Alnum c.toNat ∨ (c.toNat : Int) = 45 ∨ (c.toNat : Int) = 95 ∨ (c.toNat : Int) = 46)
def isService (l : List UInt8) : Bool := l.all okS && (!l.isEmpty && decide (l.length ≤ 32))

theorem service_ev (s : ByteArray) (hs : s.size < 4611686018427387904) : ∀ (d j : Nat), s.size - j = d → j ≤ s.size →
    Ev (fun k => svctab_Name.l0 k s (s.size : Int) (j : Int)) (((L s).drop j).all okS && (!(L s).isEmpty && decide ((L s).length ≤ 32))) := by
  intro d
  induction d with
  | zero =>
    intro j hd hj
    obtain rfl : j = s.size := by omega
    refine Ev.step (f := fun _ => some (((L s).drop s.size).all okS && (!(L s).isEmpty && decide ((L s).length ≤ 32)))) (fun k => ?_) (Ev.now _)
    simp only [svctab_Name.l0]
    rw [if_neg (by omega), List.drop_eq_nil_of_le (by rw [L_size]; exact Nat.le_refl _), toList_L, L_size]
    cases h : L s with
    | nil => simp
    | cons x r => simp; omega
  | succ d ih =>
    intro j hd hj
    have hlt : j < s.size := by omega
    obtain ⟨c, r, e1, e2, hb⟩ := bt_get s j hlt
    have hw := wrap_nat j (by omega)
    have hor := or32 c
    by_cases hok : okS c = true
    · have hP : Alnum c.toNat ∨ (c.toNat : Int) = 45 ∨ (c.toNat : Int) = 95 ∨ (c.toNat : Int) = 46 := by simpa [okS] using hok
      unfold Alnum at hP
      refine Ev.step (f := fun k => svctab_Name.l0 k s (s.size : Int) ((j + 1 : Nat) : Int)) (fun k => ?_) ?_
      · simp only [svctab_Name.l0]
        rw [if_pos (by omega), if_pos (by omega), if_pos (by omega), hb, hw]
        repeat' split
        all_goals first | rfl | (exfalso; omega)
      · have := ih (j + 1) (by omega) (by omega)
        rw [e1, List.all_cons, hok, Bool.true_and, ← e2]
        exact this
    · have hP : ¬ (Alnum c.toNat ∨ (c.toNat : Int) = 45 ∨ (c.toNat : Int) = 95 ∨ (c.toNat : Int) = 46) := by simpa [okS] using hok
      unfold Alnum at hP
      refine Ev.step (f := fun _ => some false) (fun k => ?_) ?_
      · simp only [svctab_Name.l0]
        rw [if_pos (by omega), if_pos (by omega), if_pos (by omega), hb]
        repeat' split
        all_goals first | rfl | (exfalso; omega)
      · rw [e1, List.all_cons, Bool.eq_false_iff.2 hok]
        exact Ev.now _
theorem svctab_Name_ev (s : ByteArray) (hs : s.size < 4611686018427387904) : Ev (fun k => svctab_Name.f k s) (isService (L s)) := by
  have := service_ev s hs s.size 0 (by omega) (by omega)
  exact this

/-! ### a protocol -/
def okP (c : UInt8) : Bool := decide ((97 ≤ (c.toNat : Int) ∧ (c.toNat : Int) ≤ 122) ∨ (65 ≤ (c.toNat : Int) ∧ (c.toNat : Int) ≤ 90))
def fold (s : ByteArray) : ByteArray := ⟨((L s).map foldB).toArray⟩
/-- A protocol as it is kept, and whether it may be. -/
def protoV (s : ByteArray) : ByteArray × Bool := if (L s).all okP = true then (fold s, !(L s).isEmpty && decide ((L s).length ≤ 8)) else (⟨#[]⟩, false)

theorem text_Fold_f (s : ByteArray) (hs : s.size ≤ 140737488355328) : text_Fold.f s = some (fold s) := by unfold text_Fold.f; rw [if_pos hs]; rfl
theorem ref_Fold_f (s : ByteArray) (hs : s.size ≤ 140737488355328) : conciergeref2_Fold.f s = some (fold s) := by unfold conciergeref2_Fold.f; rw [if_pos hs]; rfl

theorem proto_ev (s : ByteArray) (hs : s.size ≤ 140737488355328) : ∀ (d j : Nat), s.size - j = d → j ≤ s.size →
    Ev (fun k => svctab_Proto.l0 k s (s.size : Int) (j : Int)) (if ((L s).drop j).all okP = true then (fold s, !(L s).isEmpty && decide ((L s).length ≤ 8)) else (⟨#[]⟩, false)) := by
  intro d
  induction d with
  | zero =>
    intro j hd hj
    obtain rfl : j = s.size := by omega
    refine Ev.step (f := fun _ => some (fold s, !(L s).isEmpty && decide ((L s).length ≤ 8))) (fun k => ?_) ?_
    · simp only [svctab_Proto.l0]
      rw [if_neg (by omega), text_Fold_f s hs, toList_L, L_size]
      simp only [Option.bind_some]
      cases h : L s with
      | nil => simp
      | cons x r => simp; omega
    · rw [List.drop_eq_nil_of_le (by rw [L_size]; exact Nat.le_refl _)]
      exact Ev.now _
  | succ d ih =>
    intro j hd hj
    have hlt : j < s.size := by omega
    obtain ⟨c, r, e1, e2, hb⟩ := bt_get s j hlt
    have hw := wrap_nat j (by omega)
    have hor := or32 c
    by_cases hok : okP c = true
    · have hP : (97 ≤ (c.toNat : Int) ∧ (c.toNat : Int) ≤ 122) ∨ (65 ≤ (c.toNat : Int) ∧ (c.toNat : Int) ≤ 90) := by simpa only [okP, decide_eq_true_eq] using hok
      refine Ev.step (f := fun k => svctab_Proto.l0 k s (s.size : Int) ((j + 1 : Nat) : Int)) (fun k => ?_) ?_
      · simp only [svctab_Proto.l0]
        rw [if_pos (by omega), if_pos (by omega), if_pos (by omega), hb, hw]
        repeat' split
        all_goals first | rfl | (exfalso; omega)
      · have := ih (j + 1) (by omega) (by omega)
        rw [e1, List.all_cons, hok, Bool.true_and, ← e2]
        exact this
    · have hP : ¬ ((97 ≤ (c.toNat : Int) ∧ (c.toNat : Int) ≤ 122) ∨ (65 ≤ (c.toNat : Int) ∧ (c.toNat : Int) ≤ 90)) := by simpa only [okP, decide_eq_true_eq] using hok
      refine Ev.step (f := fun _ => some (⟨#[]⟩, false)) (fun k => ?_) ?_
      · simp only [svctab_Proto.l0]
        rw [if_pos (by omega), if_pos (by omega), if_pos (by omega), hb]
        repeat' split
        all_goals first | rfl | (exfalso; omega)
      · rw [e1, List.all_cons, Bool.eq_false_iff.2 hok]
        exact Ev.now _
theorem svctab_Proto_ev (s : ByteArray) (hs : s.size ≤ 140737488355328) : Ev (fun k => svctab_Proto.f k s) (protoV s) := by
  have := proto_ev s hs s.size 0 (by omega) (by omega)
  exact this

theorem refproto_ev (s : ByteArray) (hs : s.size ≤ 140737488355328) : ∀ (d j : Nat), s.size - j = d → j ≤ s.size →
    Ev (fun k => conciergeref2_Proto.l0 k s (j : Int)) (((L s).drop j).all okP) := by
  intro d
  induction d with
  | zero =>
    intro j hd hj
    obtain rfl : j = s.size := by omega
    refine Ev.step (f := fun _ => some true) (fun k => ?_) ?_
    · simp only [conciergeref2_Proto.l0]
      rw [if_neg (by omega)]
    · rw [List.drop_eq_nil_of_le (by rw [L_size]; exact Nat.le_refl _)]
      exact Ev.now _
  | succ d ih =>
    intro j hd hj
    have hlt : j < s.size := by omega
    obtain ⟨c, r, e1, e2, hb⟩ := bt_get s j hlt
    have hw := wrap_nat j (by omega)
    by_cases hok : okP c = true
    · have hP : (97 ≤ (c.toNat : Int) ∧ (c.toNat : Int) ≤ 122) ∨ (65 ≤ (c.toNat : Int) ∧ (c.toNat : Int) ≤ 90) := by simpa only [okP, decide_eq_true_eq] using hok
      refine Ev.step (f := fun k => conciergeref2_Proto.l0 k s ((j + 1 : Nat) : Int)) (fun k => ?_) ?_
      · simp only [conciergeref2_Proto.l0]
        rw [if_pos (by omega), if_pos (by omega), hb, hw]
        repeat' split
        all_goals first | rfl | (exfalso; omega)
      · have := ih (j + 1) (by omega) (by omega)
        rw [e1, List.all_cons, hok, Bool.true_and, ← e2]
        exact this
    · have hP : ¬ ((97 ≤ (c.toNat : Int) ∧ (c.toNat : Int) ≤ 122) ∨ (65 ≤ (c.toNat : Int) ∧ (c.toNat : Int) ≤ 90)) := by simpa only [okP, decide_eq_true_eq] using hok
      refine Ev.step (f := fun _ => some false) (fun k => ?_) ?_
      · simp only [conciergeref2_Proto.l0]
        rw [if_pos (by omega), if_pos (by omega), hb]
        repeat' split
        all_goals first | rfl | (exfalso; omega)
      · rw [e1, List.all_cons, Bool.eq_false_iff.2 hok]
        exact Ev.now _
theorem conciergeref2_Proto_ev (s : ByteArray) (hs : s.size ≤ 140737488355328) : Ev (fun k => conciergeref2_Proto.f k s) (!(L s).isEmpty && decide ((L s).length ≤ 8) && (L s).all okP) := by
  have hsz := L_size s
  by_cases h1 : (L s).length < 1
  · have e : L s = [] := List.eq_nil_of_length_eq_zero (by omega)
    refine Ev.congr (f := fun k => conciergeref2_Proto.j0 k s true) (fun k => by unfold conciergeref2_Proto.f; rw [if_pos (by omega)]) ?_
    rw [e]
    exact Ev.step (f := fun _ => some false) (fun k => by simp only [conciergeref2_Proto.j0]; rfl) (Ev.now _)
  · have he : (L s).isEmpty = false := by
      cases h : L s with
      | nil => rw [h] at h1; exact absurd (by simp) h1
      | cons => rfl
    refine Ev.congr (f := fun k => conciergeref2_Proto.j0 k s (decide ((s.size : Int) > 8))) (fun k => by unfold conciergeref2_Proto.f; rw [if_neg (by omega)]) ?_
    rw [he]
    by_cases h8 : (L s).length ≤ 8
    · refine Ev.step (f := fun k => conciergeref2_Proto.l0 k s ((0 : Nat) : Int)) (fun k => by simp only [conciergeref2_Proto.j0]; rw [decide_eq_false (by omega), if_neg (by simp)]; rfl) ?_
      have := refproto_ev s hs s.size 0 (by omega) (by omega)
      rw [decide_eq_true h8]
      exact this
    · refine Ev.step (f := fun _ => some false) (fun k => by simp only [conciergeref2_Proto.j0]; rw [decide_eq_true (by omega)]; rfl) ?_
      rw [decide_eq_false h8]
      exact Ev.now _

/-! ### the reference's letters -/
def okM (m : List UInt8) (c : UInt8) : Bool := decide (Alnum c.toNat) || m.contains c

theorem ref_more_ev (s m : ByteArray) (hm : m.size < 4611686018427387904) (i : Int) (c : UInt8) (R : Bool) : ∀ (d j : Nat) (ok : Bool), m.size - j = d → j ≤ m.size →
    Ev (fun k => if (ok || ((L m).drop j).contains c) = true then conciergeref2_letters.l0 k s m (wrap64 (i + 1)) else some false) R →
    Ev (fun k => conciergeref2_letters.l1 k s m i (c.toNat : Int) ok (j : Int)) R := by
  intro d
  induction d with
  | zero =>
    intro j ok hd hj h
    obtain rfl : j = m.size := by omega
    rw [List.drop_eq_nil_of_le (by rw [L_size]; exact Nat.le_refl _)] at h
    simp only [List.contains_nil, Bool.or_false] at h
    refine Ev.step (fun k => ?_) h
    simp only [conciergeref2_letters.l1]
    rw [if_neg (by omega)]
  | succ d ih =>
    intro j ok hd hj h
    have hlt : j < m.size := by omega
    obtain ⟨x, r, e1, e2, hb⟩ := bt_get m j hlt
    have hw := wrap_nat j (by omega)
    rw [e1, List.contains_cons, ← e2] at h
    cases ok with
    | true =>
      refine Ev.step (f := fun k => conciergeref2_letters.l1 k s m i (c.toNat : Int) true ((j + 1 : Nat) : Int)) (fun k => ?_) (ih (j + 1) true (by omega) (by omega) h)
      simp only [conciergeref2_letters.l1]
      rw [if_pos (by omega), if_pos trivial, hw]
    | false =>
      refine Ev.step (f := fun k => conciergeref2_letters.l1 k s m i (c.toNat : Int) (c == x) ((j + 1 : Nat) : Int)) (fun k => ?_) (ih (j + 1) (c == x) (by omega) (by omega) (by rw [Bool.false_or] at h; exact h))
      simp only [conciergeref2_letters.l1]
      have ex : ((c.toNat : Int) == (x.toNat : Int)) = (c == x) := by
        by_cases hcx : c = x
        · subst hcx; simp
        · have : ¬ (c.toNat : Int) = (x.toNat : Int) := fun e => hcx (UInt8.toNat_inj.1 (by omega))
          rw [beq_eq_false_iff_ne.2 this, beq_eq_false_iff_ne.2 hcx]
      rw [if_pos (by omega), if_neg (by simp), if_pos (by omega), hw, hb, ex]

theorem ref_letters_ev (s m : ByteArray) (hs : s.size < 4611686018427387904) (hm : m.size < 4611686018427387904) : ∀ (d j : Nat), s.size - j = d → j ≤ s.size →
    Ev (fun k => conciergeref2_letters.l0 k s m (j : Int)) (((L s).drop j).all (okM (L m)) && !(L s).isEmpty) := by
  intro d
  induction d with
  | zero =>
    intro j hd hj
    obtain rfl : j = s.size := by omega
    refine Ev.step (f := fun _ => some (!(L s).isEmpty)) (fun k => ?_) ?_
    · simp only [conciergeref2_letters.l0]
      rw [if_neg (by omega), toList_L]
      cases L s <;> rfl
    · rw [List.drop_eq_nil_of_le (by rw [L_size]; exact Nat.le_refl _)]
      exact Ev.now _
  | succ d ih =>
    intro j hd hj
    have hlt : j < s.size := by omega
    obtain ⟨c, r, e1, e2, hb⟩ := bt_get s j hlt
    have hw := wrap_nat j (by omega)
    refine Ev.step (f := fun k => conciergeref2_letters.j1 k s m (j : Int) (c.toNat : Int) (decide (Alnum c.toNat))) (fun k => ?_) ?_
    · simp only [conciergeref2_letters.l0]
      rw [if_pos (by omega), if_pos (by omega), hb]
      by_cases hA : Alnum c.toNat
      · rw [decide_eq_true hA]
        unfold Alnum at hA
        repeat' split
        all_goals first | rfl | (exfalso; omega) | (rw [decide_eq_true (by omega)])
      · rw [decide_eq_false hA]
        unfold Alnum at hA
        repeat' split
        all_goals first | rfl | (exfalso; omega) | (rw [decide_eq_false (by omega)])
    · refine Ev.step (f := fun k => conciergeref2_letters.l1 k s m (j : Int) (c.toNat : Int) (decide (Alnum c.toNat)) ((0 : Nat) : Int)) (fun k => rfl) ?_
      refine ref_more_ev s m hm (j : Int) c _ m.size 0 _ (by omega) (by omega) ?_
      rw [List.drop_zero, hw, e1, List.all_cons, ← e2]
      have ho : (decide (Alnum c.toNat) || (L m).contains c) = okM (L m) c := rfl
      rw [ho]
      by_cases hok : okM (L m) c = true
      · rw [hok]
        simp only [if_true, Bool.true_and]
        exact ih (j + 1) (by omega) (by omega)
      · rw [Bool.eq_false_iff.2 hok]
        exact Ev.now _
theorem conciergeref2_letters_ev (s m : ByteArray) (hs : s.size < 4611686018427387904) (hm : m.size < 4611686018427387904) : Ev (fun k => conciergeref2_letters.f k s m) ((L s).all (okM (L m)) && !(L s).isEmpty) := by
  have := ref_letters_ev s m hs hm s.size 0 (by omega) (by omega)
  exact this

end Go.Proofs.YtkhkemagkcjdoaaDoor.Pure
