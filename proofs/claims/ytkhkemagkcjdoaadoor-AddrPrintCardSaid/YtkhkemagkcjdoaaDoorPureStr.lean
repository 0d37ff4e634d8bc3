/- Plain facts on texts as lists of bytes: bytes by place, pieces between points. No program. Conditions: none. -/
import Derived.Test.YtkhkemagkcjdoaaDoorWWords
import Derived.Lib.SplitLaws
import Derived.Lib.Strings
import Derived.Laws.BitsAllLaws
namespace Go.Proofs.YtkhkemagkcjdoaaDoor.Pure
open Go.RowKit Go.Proofs.YtkhkemagkcjdoaaDoorW.PrintWords

abbrev L (s : ByteArray) : List UInt8 := s.data.toList
def mk (l : List UInt8) : ByteArray := ⟨l.toArray⟩
theorem L_mk (l : List UInt8) : L (mk l) = l := by simp [L, mk]
theorem mk_L (s : ByteArray) : mk (L s) = s := by simp [L, mk]
theorem L_size (s : ByteArray) : s.size = (L s).length := Lib.size_eq s
theorem size_mk (l : List UInt8) : (mk l).size = l.length := by rw [L_size, L_mk]
theorem toList_L (s : ByteArray) : s.toList = L s := ByteArray.toList_eq s
theorem L_inj {a b : ByteArray} (h : L a = L b) : a = b := by rw [← mk_L a, h, mk_L]
theorem L_extract (s : ByteArray) (a b : Nat) : L (s.extract a b) = ((L s).drop a).take (b - a) := by
  have := Lib.extract_toList s a b
  rw [toList_L] at this
  exact this
theorem extract_mk' (s : ByteArray) (a b : Nat) : s.extract a b = mk (((L s).drop a).take (b - a)) := L_inj (by rw [L_extract, L_mk])
theorem L_append (a b : ByteArray) : L (a ++ b) = L a ++ L b := by
  simp [L, ByteArray.data_append]
theorem L_lit (l : List UInt8) : L ⟨l.toArray⟩ = l := by simp [L]

theorem bt_nat (s : ByteArray) (j : Nat) (h : j < s.size) : bt s (j : Int) = (((L s)[j]'(by rw [← L_size]; exact h)).toNat : Int) := by
  unfold bt
  simp only [Int.toNat_natCast, h, dif_pos]
  rfl
theorem bt_get (s : ByteArray) (j : Nat) (h : j < s.size) : ∃ c r, (L s).drop j = c :: r ∧ (L s).drop (j + 1) = r ∧ bt s (j : Int) = (c.toNat : Int) :=
  ⟨_, _, List.drop_eq_getElem_cons (by rw [← L_size]; exact h), rfl, bt_nat s j h⟩
theorem wrap_nat (j : Nat) (h : j < 9223372036854775807) : wrap64 ((j : Int) + 1) = ((j + 1 : Nat) : Int) := by
  unfold wrap64
  omega
theorem wrap_pred (n : Nat) (h0 : 1 ≤ n) (h : n < 9223372036854775807) : wrap64 ((n : Int) - 1) = ((n - 1 : Nat) : Int) := by
  unfold wrap64
  omega

/-! ### pieces -/
/-- The pieces of a text between the bytes c. -/
def spl (c : UInt8) : List UInt8 → List (List UInt8)
  | [] => [[]]
  | x :: r => if x = c then [] :: spl c r else match spl c r with
    | [] => [[x]]
    | p :: ps => (x :: p) :: ps

theorem spl_no {c : UInt8} {l : List UInt8} (h : c ∉ l) : spl c l = [l] := by
  induction l with
  | nil => rfl
  | cons x r ih =>
    rw [List.mem_cons, not_or] at h
    unfold spl
    rw [if_neg (fun e => h.1 e.symm), ih h.2]
theorem spl_at {c : UInt8} {a : List UInt8} (b : List UInt8) (h : c ∉ a) : spl c (a ++ c :: b) = a :: spl c b := by
  induction a with
  | nil => show (if c = c then _ else _) = _; rw [if_pos rfl]
  | cons x r ih =>
    rw [List.mem_cons, not_or] at h
    have e : spl c (x :: r ++ c :: b) = if x = c then [] :: spl c (r ++ c :: b) else match spl c (r ++ c :: b) with
      | [] => [[x]]
      | p :: ps => (x :: p) :: ps := rfl
    rw [e, if_neg (fun e => h.1 e.symm), ih h.2]

theorem index_no {c : UInt8} {l : List UInt8} (h : c ∉ l) : Lib.index l [c] = -1 := by
  induction l with
  | nil => rfl
  | cons x r ih =>
    rw [List.mem_cons, not_or] at h
    simp [Lib.index, h.1, ih h.2]
theorem index_at {c : UInt8} {a : List UInt8} (b : List UInt8) (h : c ∉ a) : Lib.index (a ++ c :: b) [c] = (a.length : Int) := by
  induction a with
  | nil => simp [Lib.index]
  | cons x r ih =>
    rw [List.mem_cons, not_or] at h
    have n : ¬ ((Lib.index (r ++ c :: b) [c] == -1) = true) := by rw [ih h.2, beq_iff_eq]; omega
    have p : ¬ (([c] : List UInt8).isPrefixOf (x :: r ++ c :: b) = true) := by simp [h.1]
    rw [List.cons_append] at p ⊢
    unfold Lib.index
    rw [if_neg p, if_neg n, ih h.2, List.length_cons]
    omega

theorem splitK_spl (c : UInt8) : ∀ (n : Nat) (l : List UInt8), l.count c = n → Lib.splitK [c] 0 n l = spl c l := by
  intro n
  induction n with
  | zero =>
    intro l h
    have : c ∉ l := List.count_eq_zero.1 h
    rw [spl_no this]
    rfl
  | succ n ih =>
    intro l h
    have hm : c ∈ l := List.count_pos_iff.1 (by omega)
    obtain ⟨a, b, rfl, ha⟩ := List.eq_append_cons_of_mem hm
    have hb : b.count c = n := by
      rw [List.count_append, List.count_cons_self, List.count_eq_zero.2 ha] at h
      omega
    rw [spl_at b ha]
    unfold Lib.splitK
    have hi := index_at b ha
    have hn : ¬ ((Lib.index (a ++ c :: b) [c] == -1) = true) := by rw [hi, beq_iff_eq]; omega
    rw [if_neg hn, hi]
    have e1 : (a ++ c :: b).take (((a.length : Int)).toNat + 0) = a := by simp
    have e2 : (a ++ c :: b).drop (((a.length : Int)).toNat + [c].length) = b := by
      simp
    rw [e1, e2, ih b hb]

theorem list_mk (xs : List ByteArray) : xs = (xs.map (·.data.toList)).map mk := by
  rw [List.map_map]
  have : (mk ∘ fun x : ByteArray => x.data.toList) = id := by
    funext x
    exact mk_L x
  rw [this, List.map_id]

theorem splitB_spl (s : ByteArray) (c : UInt8) : Lib.splitB ⟨#[c]⟩ 0 (Lib.countB s ⟨#[c]⟩) s = (spl c (L s)).map mk := by
  rw [list_mk (Lib.splitB ⟨#[c]⟩ 0 (Lib.countB s ⟨#[c]⟩) s), Lib.splitB_data]
  congr 1
  refine splitK_spl c _ _ ?_
  show _ = Lib.count _ _
  rw [Lib.count_one]

end Go.Proofs.YtkhkemagkcjdoaaDoor.Pure
