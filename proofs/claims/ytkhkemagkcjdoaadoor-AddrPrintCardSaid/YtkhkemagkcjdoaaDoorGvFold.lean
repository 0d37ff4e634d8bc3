/- Go functions that fold letters, walked: each comes to the letters folded. Conditions: the text's size. -/
import Derived.Test.YtkhkemagkcjdoaaDoorGvBase
import Derived.Lib.ConvBytes
import Derived.Lib.Hide
import Derived.Lib.Strings
import Derived.WalkKit
import Derived.LoopTactic
import Derived.BigCall
import Derived.BigGuard
namespace Go.Proofs.YtkhkemagkcjdoaaDoor.Gv
open Go.RowKit Go.Proofs.YtkhkemagkcjdoaaDoorW.PrintWords
set_option linter.unusedVariables false
set_option linter.unusedSimpArgs false

/-- A great letter turned into a small one. -/
def foldB (c : UInt8) : UInt8 := if 65 ≤ c.toNat ∧ c.toNat ≤ 90 then UInt8.ofNat (c.toNat + 32) else c
/-- A text's byte, as a number. -/
def num (l : List UInt8) (j : Nat) : Int := ((l.getD j 0).toNat : Int)
/-- The bytes behind k rounds. -/
def foldTo (l : List UInt8) (k j : Nat) : Int := if j < k then ((foldB (l.getD j 0)).toNat : Int) else num l j

theorem foldB_up {c : UInt8} (h1 : 65 ≤ (c.toNat : Int)) (h2 : (c.toNat : Int) ≤ 90) : ((foldB c).toNat : Int) = (c.toNat : Int) + 32 := by
  have e : foldB c = UInt8.ofNat (c.toNat + 32) := if_pos ⟨by omega, by omega⟩
  rw [e, UInt8.toNat_ofNat']
  omega
theorem foldB_no {c : UInt8} (h : ¬ (65 ≤ (c.toNat : Int) ∧ (c.toNat : Int) ≤ 90)) : foldB c = c := if_neg (by omega)

theorem bytes_free (w : World) (e : TypeId) (s : ByteArray) (j : Nat) (hj : j < s.size) : (Lib.bytesWorld w e s).frozen? ⟨w.heap.size, j, none⟩ = false := by
  have h1 : s.size ≤ (Lib.bytesCells w e s).size := by
    unfold Lib.bytesCells
    rw [Array.size_append, Array.size_map]
    exact Nat.le_add_right _ _
  unfold World.frozen?
  rw [Lib.bytesWorld_at_new]
  simp
  omega

theorem below_bytes (w : World) (e : TypeId) (s : ByteArray) : Below w.heap.size w (Lib.bytesWorld w e s) :=
  ⟨rfl, rfl, rfl, by rw [Lib.bytesWorld_size]; omega, fun k hk => Lib.bytesWorld_at_old w e s k hk⟩

/-- The cells of the copy, k rounds done. -/
def FoldAt (w0 wr : World) (b n : Nat) (l : List UInt8) (k : Nat) : Prop :=
  Below b w0 wr ∧ (∀ j, j < n → wr.cell? ⟨b, j, none⟩ = some (.int .u8 (foldTo l k j))) ∧ ∀ j, j < n → wr.frozen? ⟨b, j, none⟩ = false

theorem FoldAt.start (w : World) (e : TypeId) (s : ByteArray) : FoldAt w (Lib.bytesWorld w e s) w.heap.size s.size s.data.toList 0 :=
  ⟨below_bytes w e s, fun j hj => by rw [Lib.bytesWorld_cell w e s j hj]; simp [foldTo, num], fun j hj => bytes_free w e s j hj⟩

theorem FoldAt.store {w0 wr : World} {n : Nat} {l : List UInt8} {k : Nat} (h : FoldAt w0 wr w0.heap.size n l k) (hk : k < n) (v : Int) (hv : v = ((foldB (l.getD k 0)).toNat : Int)) :
    FoldAt w0 (wr.setCell ⟨w0.heap.size, k, none⟩ (.int .u8 v)) w0.heap.size n l (k + 1) := by
  obtain ⟨h1, h2, h3⟩ := h
  refine ⟨h1.setCell (Nat.le_refl _) _, fun j hj => ?_, fun j hj => by rw [World.frozen?_setCell]; exact h3 j hj⟩
  by_cases e : j = k
  · subst e
    rw [World.cell?_setCell_same _ _ _ (h2 j hj), hv]
    simp [foldTo]
  · rw [World.cell?_setCell_other _ _ _ _ (by intro he; injection he with _ h2 _; exact e h2.symm), h2 j hj]
    unfold foldTo
    by_cases hl : j < k
    · rw [if_pos hl, if_pos (by omega)]
    · rw [if_neg hl, if_neg (by omega)]

theorem FoldAt.keep {w0 wr : World} {n : Nat} {l : List UInt8} {k : Nat} (h : FoldAt w0 wr w0.heap.size n l k) (hv : foldB (l.getD k 0) = l.getD k 0) : FoldAt w0 wr w0.heap.size n l (k + 1) := by
  obtain ⟨h1, h2, h3⟩ := h
  refine ⟨h1, fun j hj => ?_, h3⟩
  rw [h2 j hj]
  unfold foldTo
  by_cases hl : j < k
  · rw [if_pos hl, if_pos (by omega)]
  · rw [if_neg hl]
    by_cases e : j = k
    · subst e; rw [if_pos (by omega), hv]; rfl
    · rw [if_neg (by omega)]

theorem FoldAt.whole {P : Program} {w0 wr : World} {n : Nat} {l : List UInt8} {src dst e : TypeId} (h : FoldAt w0 wr w0.heap.size n l n) (hn : l.length = n) (hm : n ≤ 9223372036854775807)
    (hs : P.underlying src = some (.slice e)) (he : P.underlying e = some (.int .u8)) (hd : P.underlying dst = some .string) (c : Nat) :
    (convert src dst (.slice (some ⟨w0.heap.size, 0, none⟩) n c)).run P wr = .ok (.string ⟨(l.map foldB).toArray⟩) wr := by
  have hx : ReadsInt wr .u8 (some ⟨w0.heap.size, 0, none⟩) n (l.map fun x => ((foldB x).toNat : Int)) := by
    refine ⟨by simpa using hn, hm, fun _ => ⟨_, rfl, fun j hj => ?_⟩⟩
    have := h.2.1 j hj
    simp only [foldTo, if_pos hj] at this
    have ha : (⟨w0.heap.size, 0, none⟩ : Addr).add j = ⟨w0.heap.size, j, none⟩ := by
      unfold Addr.add
      split <;> simp_all
    rw [ha, this]
    simp [List.getD_eq_getElem?_getD, List.getElem?_eq_getElem (show j < l.length by omega)]
  rw [string_of_reads hs he hd hx]
  congr 3
  unfold strOfNums
  congr 1
  simp

def text_Fold.f (a0 : ByteArray) : Option ByteArray := if a0.size ≤ 140737488355328 then some ⟨(a0.data.toList.map foldB).toArray⟩ else none
set_option maxHeartbeats 1000000 in
set_option maxRecDepth 100000 in
theorem text_Fold.calls (a0 r : ByteArray) (w : World) (h : text_Fold.f a0 = some r) :
    Calls Tryd.prog 102 #[.string a0] w fun e w' => e = .returned (.string r) ∧ Below w.heap.size w w' := by
  unfold text_Fold.f at h
  split at h
  · rename_i hs
    obtain rfl := Option.some.inj h
    clear h
    have hcv := Lib.run_convert_string_bytes (P := Tryd.prog) w 9 37 5 a0 (u := .string) Tryd.underlying9 Tryd.underlying37 Tryd.underlying5
    have H0 := Lib.hid (FoldAt.start w 5 a0)
    have hl : a0.data.toList.length = a0.size := (Lib.size_eq a0).symm
    obtain ⟨W1, hW1⟩ : ∃ W1, W1 = Lib.bytesWorld w 5 a0 := ⟨_, rfl⟩
    rw [← hW1] at hcv H0
    clear hW1
    obtain ⟨l, hL⟩ : ∃ l, l = a0.data.toList := ⟨_, rfl⟩
    rw [← hL] at H0 hl ⊢
    have HL := Lib.hid hl
    clear hL hl
    go_enter Tryd.func102, Tryd.ntmps102
    go_wp2
    go_loopw [10] (fun v wr => ∃ k : Nat, v = .int .i64 k ∧ k ≤ a0.size ∧ Hid (FoldAt w wr w.heap.size a0.size l k)) (fun v _ => a0.size - (intOf v).toNat)
    case atStart => exact ⟨0, rfl, Nat.zero_le _, H0⟩
    case round =>
      obtain ⟨k, rfl, hk, H⟩ := hrel
      clear H0
      by_cases hlt : k < a0.size
      · have hc := H.out.2.1 k hlt
        have hf := H.out.2.2 k hlt
        rw [show foldTo l k k = ((l.getD k 0).toNat : Int) from by simp [foldTo, num]] at hc
        have HS := fun v hv => Lib.hid (FoldAt.store H.out hlt v hv)
        have HK := fun hv => Lib.hid (FoldAt.keep H.out hv)
        generalize l.getD k 0 = c at hc HS HK
        have h256 : (c.toNat : Int) < 256 := by have := c.toNat_lt; omega
        have h0 : 0 ≤ (c.toNat : Int) := by omega
        by_cases hu : 65 ≤ (c.toNat : Int) ∧ (c.toNat : Int) ≤ 90
        · obtain ⟨u1, u2⟩ := hu
          have HN := HS ((c.toNat : Int) + 97 - 65) (by rw [foldB_up u1 u2]; omega)
          clear HS HK
          go_wp2
          go_roundw
          case rel => exact ⟨k + 1, by go_num, by omega, by exact HN⟩
          case measure => simp [intOf]; omega
        · have HN := HK (foldB_no hu)
          clear HS HK
          by_cases u1 : 65 ≤ (c.toNat : Int)
          all_goals
            go_wp2
            go_roundw
            case rel => exact ⟨k + 1, by go_num, by omega, HN⟩
            case measure => simp [intOf]; omega
      · obtain rfl : k = a0.size := by omega
        have hB := H.out.1
        have hcs := fun c => FoldAt.whole (P := Tryd.prog) H.out HL.out (by omega) Tryd.underlying37 Tryd.underlying5 Tryd.underlying9 c
        go_wp2
        go_ret
        exact ⟨rfl, hB⟩
  · cases h

def conciergeref2_Fold.f (a0 : ByteArray) : Option ByteArray := if a0.size ≤ 140737488355328 then some ⟨(a0.data.toList.map foldB).toArray⟩ else none
set_option maxHeartbeats 1000000 in
set_option maxRecDepth 100000 in
theorem conciergeref2_Fold.calls (a0 r : ByteArray) (w : World) (h : conciergeref2_Fold.f a0 = some r) :
    Calls Tryd.prog 54 #[.string a0] w fun e w' => e = .returned (.string r) ∧ Below w.heap.size w w' := by
  unfold conciergeref2_Fold.f at h
  split at h
  · rename_i hs
    obtain rfl := Option.some.inj h
    clear h
    have hcv := Lib.run_convert_string_bytes (P := Tryd.prog) w 9 37 5 a0 (u := .string) Tryd.underlying9 Tryd.underlying37 Tryd.underlying5
    have H0 := Lib.hid (FoldAt.start w 5 a0)
    have hl : a0.data.toList.length = a0.size := (Lib.size_eq a0).symm
    obtain ⟨W1, hW1⟩ : ∃ W1, W1 = Lib.bytesWorld w 5 a0 := ⟨_, rfl⟩
    rw [← hW1] at hcv H0
    clear hW1
    obtain ⟨l, hL⟩ : ∃ l, l = a0.data.toList := ⟨_, rfl⟩
    rw [← hL] at H0 hl ⊢
    have HL := Lib.hid hl
    clear hL hl
    go_enter Tryd.func54, Tryd.ntmps54
    go_wp2
    go_loopw [4] (fun v wr => ∃ k : Nat, v = .int .i64 k ∧ k ≤ a0.size ∧ Hid (FoldAt w wr w.heap.size a0.size l k)) (fun v _ => a0.size - (intOf v).toNat)
    case atStart => exact ⟨0, rfl, Nat.zero_le _, H0⟩
    case round =>
      obtain ⟨k, rfl, hk, H⟩ := hrel
      clear H0
      by_cases hlt : k < a0.size
      · have hc := H.out.2.1 k hlt
        have hf := H.out.2.2 k hlt
        rw [show foldTo l k k = ((l.getD k 0).toNat : Int) from by simp [foldTo, num]] at hc
        have HS := fun v hv => Lib.hid (FoldAt.store H.out hlt v hv)
        have HK := fun hv => Lib.hid (FoldAt.keep H.out hv)
        generalize l.getD k 0 = c at hc HS HK
        have h256 : (c.toNat : Int) < 256 := by have := c.toNat_lt; omega
        have h0 : 0 ≤ (c.toNat : Int) := by omega
        by_cases hu : 65 ≤ (c.toNat : Int) ∧ (c.toNat : Int) ≤ 90
        · obtain ⟨u1, u2⟩ := hu
          have HN := HS ((c.toNat : Int) + 32) (by rw [foldB_up u1 u2])
          clear HS HK
          go_wp2
          go_roundw
          case rel => exact ⟨k + 1, by go_num, by omega, by exact HN⟩
          case measure => simp [intOf]; omega
        · have HN := HK (foldB_no hu)
          clear HS HK
          by_cases u1 : 65 ≤ (c.toNat : Int)
          all_goals
            go_wp2
            go_roundw
            case rel => exact ⟨k + 1, by go_num, by omega, HN⟩
            case measure => simp [intOf]; omega
      · obtain rfl : k = a0.size := by omega
        have hB := H.out.1
        have hcs := fun c => FoldAt.whole (P := Tryd.prog) H.out HL.out (by omega) Tryd.underlying37 Tryd.underlying5 Tryd.underlying9 c
        go_wp2
        go_ret
        exact ⟨rfl, hB⟩
  · cases h

end Go.Proofs.YtkhkemagkcjdoaaDoor.Gv
