/- The query of a key, walked. Conditions: the printed functions' rounds. -/
import Derived.Test.YtkhkemagkcjdoaaDoorXQA
import Derived.WalkLawsBesides
namespace Go.Proofs.YtkhkemagkcjdoaaDoor.Gv
open Go.RowKit Go.Proofs.YtkhkemagkcjdoaaDoorW.PrintWords Go.Proofs.YtkhkemagkcjdoaaDoorW.PrintLast Go.Proofs.YtkhkemagkcjdoaaDoor.XQA
set_option linter.unusedVariables false
set_option linter.unusedSimpArgs false

def atoiN (l : List UInt8) : Int := match Lib.atoiAll l with
  | .ok v => v
  | .range => Lib.atoiSat l
  | _ => 0
def atoiOk (l : List UInt8) : Bool := match Lib.atoiAll l with
  | .ok _ => true
  | _ => false
/-- An error of the library's: none, or one. -/
def ErrIs (ev : Value) (b : Bool) : Prop := (b = true ∧ ev = .nilIface) ∨ (b = false ∧ ∃ p, ev = .iface 199 p)

theorem ErrIs.nil_of {ev : Value} {b : Bool} (h : ErrIs ev b) (hb : b = true) : ev = .nilIface := by
  rcases h with ⟨_, h⟩ | ⟨h, _⟩
  · exact h
  · rw [hb] at h; cases h
theorem ErrIs.err_of {ev : Value} {b : Bool} (h : ErrIs ev b) (hb : b = false) : ∃ p, ev = .iface 199 p := by
  rcases h with ⟨h, _⟩ | ⟨_, h⟩
  · rw [hb] at h; cases h
  · exact h
theorem eq_numErr (v : Value) (W : World) : (binOp .eql 39 (.iface 199 v) .nilIface).run Tryd.prog W = .ok (.bool false) W := by kernel_rfl

theorem Atoi_any (s : ByteArray) (w : World) (hs : s.size ≤ 281474976710656) (hG : Gl w) :
    Calls Tryd.prog 67 #[.string s] w fun e w' => ∃ ev, e = .returned (.tuple #[.int .i64 (atoiN s.data.toList), ev]) ∧ ErrIs ev (atoiOk s.data.toList) ∧ Below w.heap.size w w' := by
  cases h : Lib.atoiAll s.data.toList with
  | ok v =>
    refine (Tryd.strconv_Atoi_ok s (by omega) v h w).mono ?_
    rintro e w' ⟨rfl, hw⟩
    refine ⟨_, by simp [atoiN, h], .inl ⟨by simp [atoiOk, h], rfl⟩, ?_⟩
    rcases hw with rfl | ⟨t, rfl⟩
    · exact Below.refl _ _
    · exact below_bytes w _ t
  | range =>
    obtain ⟨te, pe, hc⟩ := hG.rang
    refine (Tryd.strconv_Atoi_range s hs h _ w hc (.inr ⟨te, pe, rfl⟩)).mono ?_
    rintro e w' ⟨N, rfl, _, _, hb⟩
    exact ⟨_, by simp [atoiN, h]; rfl, .inr ⟨by simp [atoiOk, h], _, rfl⟩, hb⟩
  | _ =>
    obtain ⟨te, pe, hc⟩ := hG.synt
    refine (Tryd.strconv_Atoi_syntax s hs h _ w hc (.inr ⟨te, pe, rfl⟩)).mono ?_
    rintro e w' ⟨N, rfl, _, _, hb⟩
    exact ⟨_, by simp [atoiN, h]; rfl, .inr ⟨by simp [atoiOk, h], _, rfl⟩, hb⟩

theorem not_empty {s : ByteArray} (h : s.size ≠ 0) : s.toList.isEmpty = false := by
  rw [ByteArray.toList_eq, List.isEmpty_eq_false_iff]
  intro e
  refine h ?_
  rw [Lib.size_eq, e]
  rfl
abbrev zeroQ : Int × ByteArray × ByteArray × Int × Bool := (0, ⟨#[]⟩, ⟨#[]⟩, 0, false)
def fromKeyEnd (k : Nat) (a0 : ByteArray) (ok : Bool) (c : Int × ByteArray × ByteArray × Int × Option Int) : Option (Int × ByteArray × ByteArray × Int × Bool) :=
  if ok = true then (if c.2.2.2.2.isNone = true then (query_Key.f k c.1 c.2.1 c.2.2.1 c.2.2.2.1).bind fun key => if key.toList = a0.toList then some (c.1, c.2.1, c.2.2.1, c.2.2.2.1, true) else some zeroQ else some zeroQ) else some zeroQ
def query_FromKey.f (k : Nat) (a0 : ByteArray) : Option (Int × ByteArray × ByteArray × Int × Bool) :=
  if a0.size = 0 then some zeroQ
  else (strings_Cut.f (a0.extract 1 a0.size) (⟨#[47]⟩ : ByteArray)).bind fun c =>
    if bt a0 0 = 52 then (if c.1.size ≤ 281474976710656 then (query_Check.f k 4 (⟨#[]⟩ : ByteArray) c.2.1 (atoiN c.1.data.toList)).bind (fromKeyEnd k a0 (c.2.2 && atoiOk c.1.data.toList)) else none)
    else (query_Check.f k (bt a0 0 - 48) c.2.1 c.1 0).bind (fromKeyEnd k a0 c.2.2)

set_option maxHeartbeats 8000000 in
set_option maxRecDepth 100000 in
theorem FromKey_no4 (k : Nat) (a0 : ByteArray) (r1 : Int) (r2 r3 : ByteArray) (r4 : Int) (r5 : Bool) (w : World) (h0 : a0.size ≠ 0) (h4 : bt a0 0 ≠ 52) (h : query_FromKey.f k a0 = some (r1, r2, r3, r4, r5)) (hG : Gl w) :
    Calls Tryd.prog 30 #[.string a0] w fun e w' => e = .returned (.tuple #[.agg #[.int .i64 r1, .string r2, .string r3, .int .i64 r4], .bool r5]) ∧ Below w.heap.size w w' := by
  have h_1 := h
  clear h
  unfold query_FromKey.f at h_1
  rw [if_neg h0] at h_1
  obtain ⟨⟨c1, c2, c3⟩, hcut, h⟩ := Option.bind_eq_some_iff.1 h_1
  rw [if_neg h4] at h
  obtain ⟨⟨d1, d2, d3, d4, d5⟩, hchk, h⟩ := Option.bind_eq_some_iff.1 h
  have Hcut := Aside0.mk hcut
  have Hchk := Aside0.mk hchk
  have H := Aside0.mk h
  clear hcut hchk h h_1
  simp only at Hchk H
  have hb : ∀ h : 0 < a0.size, ((a0[0]'h).toNat : Int) = bt a0 0 := fun h => by simp [bt, h]
  obtain ⟨hr0, hr1⟩ := bt_range a0 0
  have hd : (bt a0 0 - 48 == 4) = false := by rw [beq_eq_false_iff_ne]; omega
  have he : a0.toList.isEmpty = false := not_empty h0
  have hs : 0 < a0.size := by omega
  cases c3 with
  | false =>
    have e0 := H.out
    simp only [fromKeyEnd, Bool.false_eq_true, if_false, Option.some.injEq, Prod.mk.injEq] at e0
    obtain ⟨rfl, rfl, rfl, rfl, rfl⟩ := e0
    clear H
    go_enter Tryd.func30, Tryd.ntmps30
    go_wp2_with (fail)
    refine (strings_Cut.calls (a0.extract 1 a0.size) (⟨#[47]⟩ : ByteArray) c1 c2 _ _ Hcut.out (hG.below (below_alloc (Below.refl _ _) _))).mono ?_
    rintro e w' ⟨rfl, ⟨n, rfl⟩⟩
    go_wp2_with (fail)
    refine (query_Check.calls k (bt a0 0 - 48) c2 c1 0 d1 d2 d3 d4 _ _ Hchk.out (hG.below (by with_reducible repeat (first | exact Below.refl _ _ | apply below_alloc | apply pw_below_drewN)))).mono ?_
    rintro e w1 ⟨rfl, hb1⟩
    have BK : Aside0 (w1.heap[w.heap.size]? = some (.cells #[.int .i64 0, .string (⟨#[]⟩ : ByteArray), .string (⟨#[]⟩ : ByteArray), .int .i64 0] 32 (0, 0))) := ⟨blk_below (blk_alloc (blk_drewN (heap_alloc_new w _) _) _) hb1⟩
    have q0 : w1.cell? ⟨w.heap.size, 0, none⟩ = some (.int .i64 0) := (blk_cell BK.out 0).trans rfl
    have q1 : w1.cell? ⟨w.heap.size, 1, none⟩ = some (.string (⟨#[]⟩ : ByteArray)) := (blk_cell BK.out 1).trans rfl
    have q2 : w1.cell? ⟨w.heap.size, 2, none⟩ = some (.string (⟨#[]⟩ : ByteArray)) := (blk_cell BK.out 2).trans rfl
    have q3 : w1.cell? ⟨w.heap.size, 3, none⟩ = some (.int .i64 0) := (blk_cell BK.out 3).trans rfl
    have f0 := blk_frozen BK.out 0
    have f1 := blk_frozen BK.out 1
    have f2 := blk_frozen BK.out 2
    have f3 := blk_frozen BK.out 3
    have hz : w.heap.size < w1.heap.size := by have := hb1.size; simp at this; omega
    have HB : Aside0 (Below w.heap.size w w1) := ⟨below_then (below_alloc (pw_below_drewN (below_alloc (Below.refl _ _) _) _) _) (by simp; omega) hb1⟩
    clear hb1
    (try simp only [errW_none, errW_some])
    go_wp2_with (fail)
    refine bodyPost_ret (results_ct rfl _ _ w.heap.size 32 #[.int .i64 0, .string (⟨#[]⟩ : ByteArray), .string (⟨#[]⟩ : ByteArray), .int .i64 0] (0, 0) _ rfl (by (with_reducible repeat (first | refine blk_drewN ?_ _ | refine blk_drew ?_ | refine blk_alloc ?_ _)); refine blk_put (cs := #[.int .i64 0, .string (⟨#[]⟩ : ByteArray), .string (⟨#[]⟩ : ByteArray), .int .i64 0]) ?_ 3 _ rfl; (with_reducible repeat (first | refine blk_drewN ?_ _ | refine blk_drew ?_ | refine blk_alloc ?_ _)); refine blk_put (cs := #[.int .i64 0, .string (⟨#[]⟩ : ByteArray), .string (⟨#[]⟩ : ByteArray), .int .i64 0]) ?_ 2 _ rfl; (with_reducible repeat (first | refine blk_drewN ?_ _ | refine blk_drew ?_ | refine blk_alloc ?_ _)); refine blk_put (cs := #[.int .i64 0, .string (⟨#[]⟩ : ByteArray), .string (⟨#[]⟩ : ByteArray), .int .i64 0]) ?_ 1 _ rfl; (with_reducible repeat (first | refine blk_drewN ?_ _ | refine blk_drew ?_ | refine blk_alloc ?_ _)); refine blk_put (cs := #[.int .i64 0, .string (⟨#[]⟩ : ByteArray), .string (⟨#[]⟩ : ByteArray), .int .i64 0]) ?_ 0 _ rfl; (with_reducible repeat (first | refine blk_drewN ?_ _ | refine blk_drew ?_ | refine blk_alloc ?_ _)); exact BK.out) Tryd.underlying32 rfl (by kernel_rfl)) rfl ⟨rfl, ?_⟩
    repeat (first | (with_reducible first | exact HB.out | apply below_alloc | apply pw_below_drewN | apply below_drew1 | refine below_set ?_ (Nat.le_refl _)) | exact HB.out)
  | true =>
    cases d5 with
    | some z =>
      have e0 := H.out
      simp only [fromKeyEnd, Option.isNone_some, Bool.false_eq_true, if_false, if_true, Option.some.injEq, Prod.mk.injEq] at e0
      obtain ⟨rfl, rfl, rfl, rfl, rfl⟩ := e0
      clear H
      have hn := ne_code (.int .i64 z)
      go_enter Tryd.func30, Tryd.ntmps30
      go_wp2_with (fail)
      refine (strings_Cut.calls (a0.extract 1 a0.size) (⟨#[47]⟩ : ByteArray) c1 c2 _ _ Hcut.out (hG.below (below_alloc (Below.refl _ _) _))).mono ?_
      rintro e w' ⟨rfl, ⟨n, rfl⟩⟩
      go_wp2_with (fail)
      refine (query_Check.calls k (bt a0 0 - 48) c2 c1 0 d1 d2 d3 d4 _ _ Hchk.out (hG.below (by with_reducible repeat (first | exact Below.refl _ _ | apply below_alloc | apply pw_below_drewN)))).mono ?_
      rintro e w1 ⟨rfl, hb1⟩
      have BK : Aside0 (w1.heap[w.heap.size]? = some (.cells #[.int .i64 0, .string (⟨#[]⟩ : ByteArray), .string (⟨#[]⟩ : ByteArray), .int .i64 0] 32 (0, 0))) := ⟨blk_below (blk_alloc (blk_drewN (heap_alloc_new w _) _) _) hb1⟩
      have q0 : w1.cell? ⟨w.heap.size, 0, none⟩ = some (.int .i64 0) := (blk_cell BK.out 0).trans rfl
      have q1 : w1.cell? ⟨w.heap.size, 1, none⟩ = some (.string (⟨#[]⟩ : ByteArray)) := (blk_cell BK.out 1).trans rfl
      have q2 : w1.cell? ⟨w.heap.size, 2, none⟩ = some (.string (⟨#[]⟩ : ByteArray)) := (blk_cell BK.out 2).trans rfl
      have q3 : w1.cell? ⟨w.heap.size, 3, none⟩ = some (.int .i64 0) := (blk_cell BK.out 3).trans rfl
      have f0 := blk_frozen BK.out 0
      have f1 := blk_frozen BK.out 1
      have f2 := blk_frozen BK.out 2
      have f3 := blk_frozen BK.out 3
      have hz : w.heap.size < w1.heap.size := by have := hb1.size; simp at this; omega
      have HB : Aside0 (Below w.heap.size w w1) := ⟨below_then (below_alloc (pw_below_drewN (below_alloc (Below.refl _ _) _) _) _) (by simp; omega) hb1⟩
      clear hb1
      (try simp only [errW_none, errW_some])
      go_wp2_with (fail)
      refine bodyPost_ret (results_ct rfl _ _ w.heap.size 32 #[.int .i64 0, .string (⟨#[]⟩ : ByteArray), .string (⟨#[]⟩ : ByteArray), .int .i64 0] (0, 0) _ rfl (by (with_reducible repeat (first | refine blk_drewN ?_ _ | refine blk_drew ?_ | refine blk_alloc ?_ _)); refine blk_put (cs := #[.int .i64 0, .string (⟨#[]⟩ : ByteArray), .string (⟨#[]⟩ : ByteArray), .int .i64 0]) ?_ 3 _ rfl; (with_reducible repeat (first | refine blk_drewN ?_ _ | refine blk_drew ?_ | refine blk_alloc ?_ _)); refine blk_put (cs := #[.int .i64 0, .string (⟨#[]⟩ : ByteArray), .string (⟨#[]⟩ : ByteArray), .int .i64 0]) ?_ 2 _ rfl; (with_reducible repeat (first | refine blk_drewN ?_ _ | refine blk_drew ?_ | refine blk_alloc ?_ _)); refine blk_put (cs := #[.int .i64 0, .string (⟨#[]⟩ : ByteArray), .string (⟨#[]⟩ : ByteArray), .int .i64 0]) ?_ 1 _ rfl; (with_reducible repeat (first | refine blk_drewN ?_ _ | refine blk_drew ?_ | refine blk_alloc ?_ _)); refine blk_put (cs := #[.int .i64 0, .string (⟨#[]⟩ : ByteArray), .string (⟨#[]⟩ : ByteArray), .int .i64 0]) ?_ 0 _ rfl; (with_reducible repeat (first | refine blk_drewN ?_ _ | refine blk_drew ?_ | refine blk_alloc ?_ _)); exact BK.out) Tryd.underlying32 rfl (by kernel_rfl)) rfl ⟨rfl, ?_⟩
      repeat (first | (with_reducible first | exact HB.out | apply below_alloc | apply pw_below_drewN | apply below_drew1 | refine below_set ?_ (Nat.le_refl _)) | exact HB.out)
    | none =>
      have e0 := H.out
      simp only [fromKeyEnd, Option.isNone_none, if_true] at e0
      obtain ⟨kk, hkk, e0⟩ := Option.bind_eq_some_iff.1 e0
      have HK := Aside0.mk hkk
      clear H hkk
      have hn := ne_nil
      by_cases hka : kk.toList = a0.toList
      · rw [if_pos hka] at e0
        simp only [Option.some.injEq, Prod.mk.injEq] at e0
        obtain ⟨rfl, rfl, rfl, rfl, rfl⟩ := e0
        have HE := Aside0.mk (show (kk.toList == a0.toList) = true from beq_iff_eq.mpr hka)
        clear hka
        go_enter Tryd.func30, Tryd.ntmps30
        go_wp2_with (fail)
        refine (strings_Cut.calls (a0.extract 1 a0.size) (⟨#[47]⟩ : ByteArray) c1 c2 _ _ Hcut.out (hG.below (below_alloc (Below.refl _ _) _))).mono ?_
        rintro e w' ⟨rfl, ⟨n, rfl⟩⟩
        go_wp2_with (fail)
        refine (query_Check.calls k (bt a0 0 - 48) c2 c1 0 d1 d2 d3 d4 _ _ Hchk.out (hG.below (by with_reducible repeat (first | exact Below.refl _ _ | apply below_alloc | apply pw_below_drewN)))).mono ?_
        rintro e w1 ⟨rfl, hb1⟩
        have BK : Aside0 (w1.heap[w.heap.size]? = some (.cells #[.int .i64 0, .string (⟨#[]⟩ : ByteArray), .string (⟨#[]⟩ : ByteArray), .int .i64 0] 32 (0, 0))) := ⟨blk_below (blk_alloc (blk_drewN (heap_alloc_new w _) _) _) hb1⟩
        have q0 : w1.cell? ⟨w.heap.size, 0, none⟩ = some (.int .i64 0) := (blk_cell BK.out 0).trans rfl
        have q1 : w1.cell? ⟨w.heap.size, 1, none⟩ = some (.string (⟨#[]⟩ : ByteArray)) := (blk_cell BK.out 1).trans rfl
        have q2 : w1.cell? ⟨w.heap.size, 2, none⟩ = some (.string (⟨#[]⟩ : ByteArray)) := (blk_cell BK.out 2).trans rfl
        have q3 : w1.cell? ⟨w.heap.size, 3, none⟩ = some (.int .i64 0) := (blk_cell BK.out 3).trans rfl
        have f0 := blk_frozen BK.out 0
        have f1 := blk_frozen BK.out 1
        have f2 := blk_frozen BK.out 2
        have f3 := blk_frozen BK.out 3
        have hz : w.heap.size < w1.heap.size := by have := hb1.size; simp at this; omega
        have HB : Aside0 (Below w.heap.size w w1) := ⟨below_then (below_alloc (pw_below_drewN (below_alloc (Below.refl _ _) _) _) _) (by simp; omega) hb1⟩
        clear hb1
        (try simp only [errW_none, errW_some])
        go_wp2_with (fail)
        refine (query_Key.calls k d1 d2 d3 d4 kk _ HK.out (hG.below (by repeat (first | (with_reducible first | exact HB.out | apply below_alloc | apply pw_below_drewN | apply below_drew1) | exact HB.out)))).mono ?_
        rintro e w2 ⟨rfl, hb2⟩
        have BK2 : Aside0 (w2.heap[w.heap.size]? = some (.cells #[.int .i64 0, .string (⟨#[]⟩ : ByteArray), .string (⟨#[]⟩ : ByteArray), .int .i64 0] 32 (0, 0))) := ⟨blk_below (by (with_reducible repeat (first | refine blk_drewN ?_ _ | refine blk_drew ?_ | refine blk_alloc ?_ _)); exact BK.out) hb2⟩
        have BD2 : Aside0 (w2.heap[w1.heap.size]? = some (.cells #[.int .i64 d1, .string d2, .string d3, .int .i64 d4] 32 (0, 0))) := ⟨blk_below (by (with_reducible repeat (first | refine blk_drewN ?_ _ | refine blk_drew ?_)); exact heap_alloc_new w1 _) hb2⟩
        have HB2 : Aside0 (Below w.heap.size w w2) := ⟨below_then (by repeat (first | (with_reducible first | exact HB.out | apply below_alloc | apply pw_below_drewN | apply below_drew1) | exact HB.out)) (by simp; omega) hb2⟩
        clear hb2 BK HB q0 q1 q2 q3 f0 f1 f2 f3
        have BK := BK2
        have HB := HB2
        clear BK2 HB2
        have q0 : w2.cell? ⟨w.heap.size, 0, none⟩ = some (.int .i64 0) := (blk_cell BK.out 0).trans rfl
        have q1 : w2.cell? ⟨w.heap.size, 1, none⟩ = some (.string (⟨#[]⟩ : ByteArray)) := (blk_cell BK.out 1).trans rfl
        have q2 : w2.cell? ⟨w.heap.size, 2, none⟩ = some (.string (⟨#[]⟩ : ByteArray)) := (blk_cell BK.out 2).trans rfl
        have q3 : w2.cell? ⟨w.heap.size, 3, none⟩ = some (.int .i64 0) := (blk_cell BK.out 3).trans rfl
        have f0 := blk_frozen BK.out 0
        have f1 := blk_frozen BK.out 1
        have f2 := blk_frozen BK.out 2
        have f3 := blk_frozen BK.out 3
        have g0 : w2.cell? ⟨w1.heap.size, 0, none⟩ = some (.int .i64 d1) := (blk_cell BD2.out 0).trans rfl
        have g1 : w2.cell? ⟨w1.heap.size, 1, none⟩ = some (.string d2) := (blk_cell BD2.out 1).trans rfl
        have g2 : w2.cell? ⟨w1.heap.size, 2, none⟩ = some (.string d3) := (blk_cell BD2.out 2).trans rfl
        have g3 : w2.cell? ⟨w1.heap.size, 3, none⟩ = some (.int .i64 d4) := (blk_cell BD2.out 3).trans rfl
        have hk := HE.out
        go_wp2_with (fail)
        refine bodyPost_ret (results_ct rfl _ _ w.heap.size 32 #[.int .i64 d1, .string d2, .string d3, .int .i64 d4] (0, 0) _ rfl (by (with_reducible repeat (first | refine blk_drewN ?_ _ | refine blk_drew ?_ | refine blk_alloc ?_ _)); refine blk_put (cs := #[.int .i64 d1, .string d2, .string d3, .int .i64 0]) ?_ 3 _ rfl; (with_reducible repeat (first | refine blk_drewN ?_ _ | refine blk_drew ?_ | refine blk_alloc ?_ _)); refine blk_put (cs := #[.int .i64 d1, .string d2, .string (⟨#[]⟩ : ByteArray), .int .i64 0]) ?_ 2 _ rfl; (with_reducible repeat (first | refine blk_drewN ?_ _ | refine blk_drew ?_ | refine blk_alloc ?_ _)); refine blk_put (cs := #[.int .i64 d1, .string (⟨#[]⟩ : ByteArray), .string (⟨#[]⟩ : ByteArray), .int .i64 0]) ?_ 1 _ rfl; (with_reducible repeat (first | refine blk_drewN ?_ _ | refine blk_drew ?_ | refine blk_alloc ?_ _)); refine blk_put (cs := #[.int .i64 0, .string (⟨#[]⟩ : ByteArray), .string (⟨#[]⟩ : ByteArray), .int .i64 0]) ?_ 0 _ rfl; (with_reducible repeat (first | refine blk_drewN ?_ _ | refine blk_drew ?_ | refine blk_alloc ?_ _)); exact BK.out) Tryd.underlying32 rfl (by kernel_rfl)) rfl ⟨rfl, ?_⟩
        repeat (first | (with_reducible first | exact HB.out | apply below_alloc | apply pw_below_drewN | apply below_drew1 | refine below_set ?_ (Nat.le_refl _)) | exact HB.out)
      · rw [if_neg hka] at e0
        simp only [Option.some.injEq, Prod.mk.injEq] at e0
        obtain ⟨rfl, rfl, rfl, rfl, rfl⟩ := e0
        have HE := Aside0.mk (show (kk.toList == a0.toList) = false from beq_eq_false_iff_ne.mpr hka)
        clear hka
        go_enter Tryd.func30, Tryd.ntmps30
        go_wp2_with (fail)
        refine (strings_Cut.calls (a0.extract 1 a0.size) (⟨#[47]⟩ : ByteArray) c1 c2 _ _ Hcut.out (hG.below (below_alloc (Below.refl _ _) _))).mono ?_
        rintro e w' ⟨rfl, ⟨n, rfl⟩⟩
        go_wp2_with (fail)
        refine (query_Check.calls k (bt a0 0 - 48) c2 c1 0 d1 d2 d3 d4 _ _ Hchk.out (hG.below (by with_reducible repeat (first | exact Below.refl _ _ | apply below_alloc | apply pw_below_drewN)))).mono ?_
        rintro e w1 ⟨rfl, hb1⟩
        have BK : Aside0 (w1.heap[w.heap.size]? = some (.cells #[.int .i64 0, .string (⟨#[]⟩ : ByteArray), .string (⟨#[]⟩ : ByteArray), .int .i64 0] 32 (0, 0))) := ⟨blk_below (blk_alloc (blk_drewN (heap_alloc_new w _) _) _) hb1⟩
        have q0 : w1.cell? ⟨w.heap.size, 0, none⟩ = some (.int .i64 0) := (blk_cell BK.out 0).trans rfl
        have q1 : w1.cell? ⟨w.heap.size, 1, none⟩ = some (.string (⟨#[]⟩ : ByteArray)) := (blk_cell BK.out 1).trans rfl
        have q2 : w1.cell? ⟨w.heap.size, 2, none⟩ = some (.string (⟨#[]⟩ : ByteArray)) := (blk_cell BK.out 2).trans rfl
        have q3 : w1.cell? ⟨w.heap.size, 3, none⟩ = some (.int .i64 0) := (blk_cell BK.out 3).trans rfl
        have f0 := blk_frozen BK.out 0
        have f1 := blk_frozen BK.out 1
        have f2 := blk_frozen BK.out 2
        have f3 := blk_frozen BK.out 3
        have hz : w.heap.size < w1.heap.size := by have := hb1.size; simp at this; omega
        have HB : Aside0 (Below w.heap.size w w1) := ⟨below_then (below_alloc (pw_below_drewN (below_alloc (Below.refl _ _) _) _) _) (by simp; omega) hb1⟩
        clear hb1
        (try simp only [errW_none, errW_some])
        go_wp2_with (fail)
        refine (query_Key.calls k d1 d2 d3 d4 kk _ HK.out (hG.below (by repeat (first | (with_reducible first | exact HB.out | apply below_alloc | apply pw_below_drewN | apply below_drew1) | exact HB.out)))).mono ?_
        rintro e w2 ⟨rfl, hb2⟩
        have BK2 : Aside0 (w2.heap[w.heap.size]? = some (.cells #[.int .i64 0, .string (⟨#[]⟩ : ByteArray), .string (⟨#[]⟩ : ByteArray), .int .i64 0] 32 (0, 0))) := ⟨blk_below (by (with_reducible repeat (first | refine blk_drewN ?_ _ | refine blk_drew ?_ | refine blk_alloc ?_ _)); exact BK.out) hb2⟩
        have BD2 : Aside0 (w2.heap[w1.heap.size]? = some (.cells #[.int .i64 d1, .string d2, .string d3, .int .i64 d4] 32 (0, 0))) := ⟨blk_below (by (with_reducible repeat (first | refine blk_drewN ?_ _ | refine blk_drew ?_)); exact heap_alloc_new w1 _) hb2⟩
        have HB2 : Aside0 (Below w.heap.size w w2) := ⟨below_then (by repeat (first | (with_reducible first | exact HB.out | apply below_alloc | apply pw_below_drewN | apply below_drew1) | exact HB.out)) (by simp; omega) hb2⟩
        clear hb2 BK HB q0 q1 q2 q3 f0 f1 f2 f3
        have BK := BK2
        have HB := HB2
        clear BK2 HB2
        have q0 : w2.cell? ⟨w.heap.size, 0, none⟩ = some (.int .i64 0) := (blk_cell BK.out 0).trans rfl
        have q1 : w2.cell? ⟨w.heap.size, 1, none⟩ = some (.string (⟨#[]⟩ : ByteArray)) := (blk_cell BK.out 1).trans rfl
        have q2 : w2.cell? ⟨w.heap.size, 2, none⟩ = some (.string (⟨#[]⟩ : ByteArray)) := (blk_cell BK.out 2).trans rfl
        have q3 : w2.cell? ⟨w.heap.size, 3, none⟩ = some (.int .i64 0) := (blk_cell BK.out 3).trans rfl
        have f0 := blk_frozen BK.out 0
        have f1 := blk_frozen BK.out 1
        have f2 := blk_frozen BK.out 2
        have f3 := blk_frozen BK.out 3
        have g0 : w2.cell? ⟨w1.heap.size, 0, none⟩ = some (.int .i64 d1) := (blk_cell BD2.out 0).trans rfl
        have g1 : w2.cell? ⟨w1.heap.size, 1, none⟩ = some (.string d2) := (blk_cell BD2.out 1).trans rfl
        have g2 : w2.cell? ⟨w1.heap.size, 2, none⟩ = some (.string d3) := (blk_cell BD2.out 2).trans rfl
        have g3 : w2.cell? ⟨w1.heap.size, 3, none⟩ = some (.int .i64 d4) := (blk_cell BD2.out 3).trans rfl
        have hk := HE.out
        go_wp2_with (fail)
        refine bodyPost_ret (results_ct rfl _ _ w.heap.size 32 #[.int .i64 0, .string (⟨#[]⟩ : ByteArray), .string (⟨#[]⟩ : ByteArray), .int .i64 0] (0, 0) _ rfl (by (with_reducible repeat (first | refine blk_drewN ?_ _ | refine blk_drew ?_ | refine blk_alloc ?_ _)); refine blk_put (cs := #[.int .i64 0, .string (⟨#[]⟩ : ByteArray), .string (⟨#[]⟩ : ByteArray), .int .i64 0]) ?_ 3 _ rfl; (with_reducible repeat (first | refine blk_drewN ?_ _ | refine blk_drew ?_ | refine blk_alloc ?_ _)); refine blk_put (cs := #[.int .i64 0, .string (⟨#[]⟩ : ByteArray), .string (⟨#[]⟩ : ByteArray), .int .i64 0]) ?_ 2 _ rfl; (with_reducible repeat (first | refine blk_drewN ?_ _ | refine blk_drew ?_ | refine blk_alloc ?_ _)); refine blk_put (cs := #[.int .i64 0, .string (⟨#[]⟩ : ByteArray), .string (⟨#[]⟩ : ByteArray), .int .i64 0]) ?_ 1 _ rfl; (with_reducible repeat (first | refine blk_drewN ?_ _ | refine blk_drew ?_ | refine blk_alloc ?_ _)); refine blk_put (cs := #[.int .i64 0, .string (⟨#[]⟩ : ByteArray), .string (⟨#[]⟩ : ByteArray), .int .i64 0]) ?_ 0 _ rfl; (with_reducible repeat (first | refine blk_drewN ?_ _ | refine blk_drew ?_ | refine blk_alloc ?_ _)); exact BK.out) Tryd.underlying32 rfl (by kernel_rfl)) rfl ⟨rfl, ?_⟩
        repeat (first | (with_reducible first | exact HB.out | apply below_alloc | apply pw_below_drewN | apply below_drew1 | refine below_set ?_ (Nat.le_refl _)) | exact HB.out)

set_option maxHeartbeats 8000000 in
set_option maxRecDepth 100000 in
theorem FromKey_4 (k : Nat) (a0 : ByteArray) (r1 : Int) (r2 r3 : ByteArray) (r4 : Int) (r5 : Bool) (w : World) (h0 : a0.size ≠ 0) (h4 : bt a0 0 = 52) (h : query_FromKey.f k a0 = some (r1, r2, r3, r4, r5)) (hG : Gl w) :
    Calls Tryd.prog 30 #[.string a0] w fun e w' => e = .returned (.tuple #[.agg #[.int .i64 r1, .string r2, .string r3, .int .i64 r4], .bool r5]) ∧ Below w.heap.size w w' := by
  have h_1 := h
  clear h
  unfold query_FromKey.f at h_1
  rw [if_neg h0] at h_1
  obtain ⟨⟨c1, c2, c3⟩, hcut, h⟩ := Option.bind_eq_some_iff.1 h_1
  clear h_1
  rw [if_pos h4] at h
  by_cases hsz0 : c1.size ≤ 281474976710656
  case neg => simp only at h; rw [if_neg hsz0] at h; cases h
  simp only at h
  rw [if_pos hsz0] at h
  obtain ⟨⟨d1, d2, d3, d4, d5⟩, hchk, h⟩ := Option.bind_eq_some_iff.1 h
  have hsz := hsz0
  have Hcut := Aside0.mk hcut
  have Hchk := Aside0.mk hchk
  have H := Aside0.mk h
  clear hcut hchk h hsz0
  have hb : ∀ h : 0 < a0.size, ((a0[0]'h).toNat : Int) = 52 := fun h => by rw [← h4]; simp [bt, h]
  clear h4
  have he : a0.toList.isEmpty = false := not_empty h0
  have hs : 0 < a0.size := by omega
  cases c3 with
  | false =>
    have e0 := H.out
    simp only [fromKeyEnd, Bool.false_and, Bool.false_eq_true, if_false, Option.some.injEq, Prod.mk.injEq] at e0
    obtain ⟨rfl, rfl, rfl, rfl, rfl⟩ := e0
    clear H
    go_enter Tryd.func30, Tryd.ntmps30
    go_wp2_with (fail)
    refine (strings_Cut.calls (a0.extract 1 a0.size) (⟨#[47]⟩ : ByteArray) c1 c2 _ _ Hcut.out (hG.below (below_alloc (Below.refl _ _) _))).mono ?_
    rintro e w' ⟨rfl, ⟨n, rfl⟩⟩
    go_wp2_with (fail)
    refine (Atoi_any c1 _ hsz (hG.below (by with_reducible repeat (first | exact Below.refl _ _ | apply below_alloc | apply pw_below_drewN)))).mono ?_
    rintro e w0 ⟨ev, rfl, hev, hb0⟩
    have BK0 : Aside0 (w0.heap[w.heap.size]? = some (.cells #[.int .i64 0, .string (⟨#[]⟩ : ByteArray), .string (⟨#[]⟩ : ByteArray), .int .i64 0] 32 (0, 0))) := ⟨blk_below (blk_alloc (blk_drewN (heap_alloc_new w _) _) _) hb0⟩
    have BQ0 : Aside0 (w0.heap[w.heap.size + 1]? = some (.cells #[.int .i64 4, .string c2, .string c1, .int .i64 0] 32 (0, 0))) := ⟨blk_below (by have := heap_alloc_new ((w.alloc (.cells #[.int .i64 0, .string (⟨#[]⟩ : ByteArray), .string (⟨#[]⟩ : ByteArray), .int .i64 0] 32)).drewN n) (.cells #[.int .i64 4, .string c2, .string c1, .int .i64 0] 32); simpa using this) hb0⟩
    have hz0 : w.heap.size + 1 < w0.heap.size := by have := hb0.size; simp at this; omega
    have HB0 : Aside0 (Below w.heap.size w w0) := ⟨below_then (below_alloc (pw_below_drewN (below_alloc (Below.refl _ _) _) _) _) (by simp; omega) hb0⟩
    clear hb0
    have p0 : w0.cell? ⟨w.heap.size + 1, 0, none⟩ = some (.int .i64 4) := (blk_cell BQ0.out 0).trans rfl
    have p1 : w0.cell? ⟨w.heap.size + 1, 1, none⟩ = some (.string c2) := (blk_cell BQ0.out 1).trans rfl
    have p2 : w0.cell? ⟨w.heap.size + 1, 2, none⟩ = some (.string c1) := (blk_cell BQ0.out 2).trans rfl
    have p3 : w0.cell? ⟨w.heap.size + 1, 3, none⟩ = some (.int .i64 0) := (blk_cell BQ0.out 3).trans rfl
    have pf0 := blk_frozen BQ0.out 0
    have pf1 := blk_frozen BQ0.out 1
    have pf2 := blk_frozen BQ0.out 2
    have pf3 := blk_frozen BQ0.out 3
    clear hev
    go_wp2_with (fail)
    have hne : w.heap.size ≠ w.heap.size + 1 := by omega
    have BK3 : Aside0 (((((w0.setCell ⟨w.heap.size + 1, 0, none⟩ (.int .i64 4)).setCell ⟨w.heap.size + 1, 1, none⟩ (.string (⟨#[]⟩ : ByteArray))).setCell ⟨w.heap.size + 1, 2, none⟩ (.string c2)).setCell ⟨w.heap.size + 1, 3, none⟩ (.int .i64 (atoiN c1.data.toList))).heap[w.heap.size]? = some (.cells #[.int .i64 0, .string (⟨#[]⟩ : ByteArray), .string (⟨#[]⟩ : ByteArray), .int .i64 0] 32 (0, 0))) := ⟨(blk_far (blk_far (blk_far (blk_far BK0.out hne _) hne _) hne _) hne _)⟩
    have HB3 : Aside0 (Below w.heap.size w ((((w0.setCell ⟨w.heap.size + 1, 0, none⟩ (.int .i64 4)).setCell ⟨w.heap.size + 1, 1, none⟩ (.string (⟨#[]⟩ : ByteArray))).setCell ⟨w.heap.size + 1, 2, none⟩ (.string c2)).setCell ⟨w.heap.size + 1, 3, none⟩ (.int .i64 (atoiN c1.data.toList)))) := ⟨(below_set (below_set (below_set (below_set HB0.out (Nat.le_succ _)) (Nat.le_succ _)) (Nat.le_succ _)) (Nat.le_succ _))⟩
    refine (query_Check.calls k 4 (⟨#[]⟩ : ByteArray) c2 (atoiN c1.data.toList) d1 d2 d3 d4 _ _ Hchk.out (hG.below (by exact HB3.out))).mono ?_
    rintro e w1 ⟨rfl, hb1⟩
    have BK : Aside0 (w1.heap[w.heap.size]? = some (.cells #[.int .i64 0, .string (⟨#[]⟩ : ByteArray), .string (⟨#[]⟩ : ByteArray), .int .i64 0] 32 (0, 0))) := ⟨blk_below BK3.out hb1⟩
    have q0 : w1.cell? ⟨w.heap.size, 0, none⟩ = some (.int .i64 0) := (blk_cell BK.out 0).trans rfl
    have q1 : w1.cell? ⟨w.heap.size, 1, none⟩ = some (.string (⟨#[]⟩ : ByteArray)) := (blk_cell BK.out 1).trans rfl
    have q2 : w1.cell? ⟨w.heap.size, 2, none⟩ = some (.string (⟨#[]⟩ : ByteArray)) := (blk_cell BK.out 2).trans rfl
    have q3 : w1.cell? ⟨w.heap.size, 3, none⟩ = some (.int .i64 0) := (blk_cell BK.out 3).trans rfl
    have f0 := blk_frozen BK.out 0
    have f1 := blk_frozen BK.out 1
    have f2 := blk_frozen BK.out 2
    have f3 := blk_frozen BK.out 3
    have hz : w.heap.size < w1.heap.size := by have := hb1.size; simp at this; omega
    have HB : Aside0 (Below w.heap.size w w1) := ⟨below_then HB3.out (by simp; omega) hb1⟩
    clear hb1 BK3 HB3 BK0 BQ0 HB0 p0 p1 p2 p3 pf0 pf1 pf2 pf3
    (try simp only [errW_none, errW_some])
    go_wp2_with (fail)
    refine bodyPost_ret (results_ct rfl _ _ w.heap.size 32 #[.int .i64 0, .string (⟨#[]⟩ : ByteArray), .string (⟨#[]⟩ : ByteArray), .int .i64 0] (0, 0) _ rfl (by (with_reducible repeat (first | refine blk_drewN ?_ _ | refine blk_drew ?_ | refine blk_alloc ?_ _)); refine blk_put (cs := #[.int .i64 0, .string (⟨#[]⟩ : ByteArray), .string (⟨#[]⟩ : ByteArray), .int .i64 0]) ?_ 3 _ rfl; (with_reducible repeat (first | refine blk_drewN ?_ _ | refine blk_drew ?_ | refine blk_alloc ?_ _)); refine blk_put (cs := #[.int .i64 0, .string (⟨#[]⟩ : ByteArray), .string (⟨#[]⟩ : ByteArray), .int .i64 0]) ?_ 2 _ rfl; (with_reducible repeat (first | refine blk_drewN ?_ _ | refine blk_drew ?_ | refine blk_alloc ?_ _)); refine blk_put (cs := #[.int .i64 0, .string (⟨#[]⟩ : ByteArray), .string (⟨#[]⟩ : ByteArray), .int .i64 0]) ?_ 1 _ rfl; (with_reducible repeat (first | refine blk_drewN ?_ _ | refine blk_drew ?_ | refine blk_alloc ?_ _)); refine blk_put (cs := #[.int .i64 0, .string (⟨#[]⟩ : ByteArray), .string (⟨#[]⟩ : ByteArray), .int .i64 0]) ?_ 0 _ rfl; (with_reducible repeat (first | refine blk_drewN ?_ _ | refine blk_drew ?_ | refine blk_alloc ?_ _)); exact BK.out) Tryd.underlying32 rfl (by kernel_rfl)) rfl ⟨rfl, ?_⟩
    repeat (first | (with_reducible first | exact HB.out | apply below_alloc | apply pw_below_drewN | apply below_drew1 | refine below_set ?_ (Nat.le_refl _)) | exact HB.out)
  | true =>
    cases hok0 : atoiOk c1.data.toList with
    | false =>
      have hok := Aside0.mk hok0
      rw [hok0] at H
      clear hok0
      have e0 := H.out
      simp only [fromKeyEnd, Bool.true_and, Bool.false_eq_true, if_false, Option.some.injEq, Prod.mk.injEq] at e0
      obtain ⟨rfl, rfl, rfl, rfl, rfl⟩ := e0
      clear H
      go_enter Tryd.func30, Tryd.ntmps30
      go_wp2_with (fail)
      refine (strings_Cut.calls (a0.extract 1 a0.size) (⟨#[47]⟩ : ByteArray) c1 c2 _ _ Hcut.out (hG.below (below_alloc (Below.refl _ _) _))).mono ?_
      rintro e w' ⟨rfl, ⟨n, rfl⟩⟩
      go_wp2_with (fail)
      refine (Atoi_any c1 _ hsz (hG.below (by with_reducible repeat (first | exact Below.refl _ _ | apply below_alloc | apply pw_below_drewN)))).mono ?_
      rintro e w0 ⟨ev, rfl, hev, hb0⟩
      have BK0 : Aside0 (w0.heap[w.heap.size]? = some (.cells #[.int .i64 0, .string (⟨#[]⟩ : ByteArray), .string (⟨#[]⟩ : ByteArray), .int .i64 0] 32 (0, 0))) := ⟨blk_below (blk_alloc (blk_drewN (heap_alloc_new w _) _) _) hb0⟩
      have BQ0 : Aside0 (w0.heap[w.heap.size + 1]? = some (.cells #[.int .i64 4, .string c2, .string c1, .int .i64 0] 32 (0, 0))) := ⟨blk_below (by have := heap_alloc_new ((w.alloc (.cells #[.int .i64 0, .string (⟨#[]⟩ : ByteArray), .string (⟨#[]⟩ : ByteArray), .int .i64 0] 32)).drewN n) (.cells #[.int .i64 4, .string c2, .string c1, .int .i64 0] 32); simpa using this) hb0⟩
      have hz0 : w.heap.size + 1 < w0.heap.size := by have := hb0.size; simp at this; omega
      have HB0 : Aside0 (Below w.heap.size w w0) := ⟨below_then (below_alloc (pw_below_drewN (below_alloc (Below.refl _ _) _) _) _) (by simp; omega) hb0⟩
      clear hb0
      have p0 : w0.cell? ⟨w.heap.size + 1, 0, none⟩ = some (.int .i64 4) := (blk_cell BQ0.out 0).trans rfl
      have p1 : w0.cell? ⟨w.heap.size + 1, 1, none⟩ = some (.string c2) := (blk_cell BQ0.out 1).trans rfl
      have p2 : w0.cell? ⟨w.heap.size + 1, 2, none⟩ = some (.string c1) := (blk_cell BQ0.out 2).trans rfl
      have p3 : w0.cell? ⟨w.heap.size + 1, 3, none⟩ = some (.int .i64 0) := (blk_cell BQ0.out 3).trans rfl
      have pf0 := blk_frozen BQ0.out 0
      have pf1 := blk_frozen BQ0.out 1
      have pf2 := blk_frozen BQ0.out 2
      have pf3 := blk_frozen BQ0.out 3
      obtain ⟨pe, rfl⟩ := hev.err_of hok.out
      have he0 := eq_numErr pe
      skip
      go_wp2_with (fail)
      have hne : w.heap.size ≠ w.heap.size + 1 := by omega
      have BK3 : Aside0 (((((w0.setCell ⟨w.heap.size + 1, 0, none⟩ (.int .i64 4)).setCell ⟨w.heap.size + 1, 1, none⟩ (.string (⟨#[]⟩ : ByteArray))).setCell ⟨w.heap.size + 1, 2, none⟩ (.string c2)).setCell ⟨w.heap.size + 1, 3, none⟩ (.int .i64 (atoiN c1.data.toList))).heap[w.heap.size]? = some (.cells #[.int .i64 0, .string (⟨#[]⟩ : ByteArray), .string (⟨#[]⟩ : ByteArray), .int .i64 0] 32 (0, 0))) := ⟨(blk_far (blk_far (blk_far (blk_far BK0.out hne _) hne _) hne _) hne _)⟩
      have HB3 : Aside0 (Below w.heap.size w ((((w0.setCell ⟨w.heap.size + 1, 0, none⟩ (.int .i64 4)).setCell ⟨w.heap.size + 1, 1, none⟩ (.string (⟨#[]⟩ : ByteArray))).setCell ⟨w.heap.size + 1, 2, none⟩ (.string c2)).setCell ⟨w.heap.size + 1, 3, none⟩ (.int .i64 (atoiN c1.data.toList)))) := ⟨(below_set (below_set (below_set (below_set HB0.out (Nat.le_succ _)) (Nat.le_succ _)) (Nat.le_succ _)) (Nat.le_succ _))⟩
      refine (query_Check.calls k 4 (⟨#[]⟩ : ByteArray) c2 (atoiN c1.data.toList) d1 d2 d3 d4 _ _ Hchk.out (hG.below (by exact HB3.out))).mono ?_
      rintro e w1 ⟨rfl, hb1⟩
      have BK : Aside0 (w1.heap[w.heap.size]? = some (.cells #[.int .i64 0, .string (⟨#[]⟩ : ByteArray), .string (⟨#[]⟩ : ByteArray), .int .i64 0] 32 (0, 0))) := ⟨blk_below BK3.out hb1⟩
      have q0 : w1.cell? ⟨w.heap.size, 0, none⟩ = some (.int .i64 0) := (blk_cell BK.out 0).trans rfl
      have q1 : w1.cell? ⟨w.heap.size, 1, none⟩ = some (.string (⟨#[]⟩ : ByteArray)) := (blk_cell BK.out 1).trans rfl
      have q2 : w1.cell? ⟨w.heap.size, 2, none⟩ = some (.string (⟨#[]⟩ : ByteArray)) := (blk_cell BK.out 2).trans rfl
      have q3 : w1.cell? ⟨w.heap.size, 3, none⟩ = some (.int .i64 0) := (blk_cell BK.out 3).trans rfl
      have f0 := blk_frozen BK.out 0
      have f1 := blk_frozen BK.out 1
      have f2 := blk_frozen BK.out 2
      have f3 := blk_frozen BK.out 3
      have hz : w.heap.size < w1.heap.size := by have := hb1.size; simp at this; omega
      have HB : Aside0 (Below w.heap.size w w1) := ⟨below_then HB3.out (by simp; omega) hb1⟩
      clear hb1 BK3 HB3 BK0 BQ0 HB0 p0 p1 p2 p3 pf0 pf1 pf2 pf3
      (try simp only [errW_none, errW_some])
      go_wp2_with (fail)
      refine bodyPost_ret (results_ct rfl _ _ w.heap.size 32 #[.int .i64 0, .string (⟨#[]⟩ : ByteArray), .string (⟨#[]⟩ : ByteArray), .int .i64 0] (0, 0) _ rfl (by (with_reducible repeat (first | refine blk_drewN ?_ _ | refine blk_drew ?_ | refine blk_alloc ?_ _)); refine blk_put (cs := #[.int .i64 0, .string (⟨#[]⟩ : ByteArray), .string (⟨#[]⟩ : ByteArray), .int .i64 0]) ?_ 3 _ rfl; (with_reducible repeat (first | refine blk_drewN ?_ _ | refine blk_drew ?_ | refine blk_alloc ?_ _)); refine blk_put (cs := #[.int .i64 0, .string (⟨#[]⟩ : ByteArray), .string (⟨#[]⟩ : ByteArray), .int .i64 0]) ?_ 2 _ rfl; (with_reducible repeat (first | refine blk_drewN ?_ _ | refine blk_drew ?_ | refine blk_alloc ?_ _)); refine blk_put (cs := #[.int .i64 0, .string (⟨#[]⟩ : ByteArray), .string (⟨#[]⟩ : ByteArray), .int .i64 0]) ?_ 1 _ rfl; (with_reducible repeat (first | refine blk_drewN ?_ _ | refine blk_drew ?_ | refine blk_alloc ?_ _)); refine blk_put (cs := #[.int .i64 0, .string (⟨#[]⟩ : ByteArray), .string (⟨#[]⟩ : ByteArray), .int .i64 0]) ?_ 0 _ rfl; (with_reducible repeat (first | refine blk_drewN ?_ _ | refine blk_drew ?_ | refine blk_alloc ?_ _)); exact BK.out) Tryd.underlying32 rfl (by kernel_rfl)) rfl ⟨rfl, ?_⟩
      repeat (first | (with_reducible first | exact HB.out | apply below_alloc | apply pw_below_drewN | apply below_drew1 | refine below_set ?_ (Nat.le_refl _)) | exact HB.out)
    | true =>
      have hok := Aside0.mk hok0
      rw [hok0] at H
      clear hok0
      cases d5 with
      | some z =>
        have e0 := H.out
        simp only [fromKeyEnd, Bool.true_and, Option.isNone_some, Bool.false_eq_true, if_false, if_true, Option.some.injEq, Prod.mk.injEq] at e0
        obtain ⟨rfl, rfl, rfl, rfl, rfl⟩ := e0
        clear H
        have hn := ne_code (.int .i64 z)
        go_enter Tryd.func30, Tryd.ntmps30
        go_wp2_with (fail)
        refine (strings_Cut.calls (a0.extract 1 a0.size) (⟨#[47]⟩ : ByteArray) c1 c2 _ _ Hcut.out (hG.below (below_alloc (Below.refl _ _) _))).mono ?_
        rintro e w' ⟨rfl, ⟨n, rfl⟩⟩
        go_wp2_with (fail)
        refine (Atoi_any c1 _ hsz (hG.below (by with_reducible repeat (first | exact Below.refl _ _ | apply below_alloc | apply pw_below_drewN)))).mono ?_
        rintro e w0 ⟨ev, rfl, hev, hb0⟩
        have BK0 : Aside0 (w0.heap[w.heap.size]? = some (.cells #[.int .i64 0, .string (⟨#[]⟩ : ByteArray), .string (⟨#[]⟩ : ByteArray), .int .i64 0] 32 (0, 0))) := ⟨blk_below (blk_alloc (blk_drewN (heap_alloc_new w _) _) _) hb0⟩
        have BQ0 : Aside0 (w0.heap[w.heap.size + 1]? = some (.cells #[.int .i64 4, .string c2, .string c1, .int .i64 0] 32 (0, 0))) := ⟨blk_below (by have := heap_alloc_new ((w.alloc (.cells #[.int .i64 0, .string (⟨#[]⟩ : ByteArray), .string (⟨#[]⟩ : ByteArray), .int .i64 0] 32)).drewN n) (.cells #[.int .i64 4, .string c2, .string c1, .int .i64 0] 32); simpa using this) hb0⟩
        have hz0 : w.heap.size + 1 < w0.heap.size := by have := hb0.size; simp at this; omega
        have HB0 : Aside0 (Below w.heap.size w w0) := ⟨below_then (below_alloc (pw_below_drewN (below_alloc (Below.refl _ _) _) _) _) (by simp; omega) hb0⟩
        clear hb0
        have p0 : w0.cell? ⟨w.heap.size + 1, 0, none⟩ = some (.int .i64 4) := (blk_cell BQ0.out 0).trans rfl
        have p1 : w0.cell? ⟨w.heap.size + 1, 1, none⟩ = some (.string c2) := (blk_cell BQ0.out 1).trans rfl
        have p2 : w0.cell? ⟨w.heap.size + 1, 2, none⟩ = some (.string c1) := (blk_cell BQ0.out 2).trans rfl
        have p3 : w0.cell? ⟨w.heap.size + 1, 3, none⟩ = some (.int .i64 0) := (blk_cell BQ0.out 3).trans rfl
        have pf0 := blk_frozen BQ0.out 0
        have pf1 := blk_frozen BQ0.out 1
        have pf2 := blk_frozen BQ0.out 2
        have pf3 := blk_frozen BQ0.out 3
        have hv := hev.nil_of hok.out
        subst hv
        have he0 := eq_nil
        skip
        go_wp2_with (fail)
        have hne : w.heap.size ≠ w.heap.size + 1 := by omega
        have BK3 : Aside0 (((((w0.setCell ⟨w.heap.size + 1, 0, none⟩ (.int .i64 4)).setCell ⟨w.heap.size + 1, 1, none⟩ (.string (⟨#[]⟩ : ByteArray))).setCell ⟨w.heap.size + 1, 2, none⟩ (.string c2)).setCell ⟨w.heap.size + 1, 3, none⟩ (.int .i64 (atoiN c1.data.toList))).heap[w.heap.size]? = some (.cells #[.int .i64 0, .string (⟨#[]⟩ : ByteArray), .string (⟨#[]⟩ : ByteArray), .int .i64 0] 32 (0, 0))) := ⟨(blk_far (blk_far (blk_far (blk_far BK0.out hne _) hne _) hne _) hne _)⟩
        have HB3 : Aside0 (Below w.heap.size w ((((w0.setCell ⟨w.heap.size + 1, 0, none⟩ (.int .i64 4)).setCell ⟨w.heap.size + 1, 1, none⟩ (.string (⟨#[]⟩ : ByteArray))).setCell ⟨w.heap.size + 1, 2, none⟩ (.string c2)).setCell ⟨w.heap.size + 1, 3, none⟩ (.int .i64 (atoiN c1.data.toList)))) := ⟨(below_set (below_set (below_set (below_set HB0.out (Nat.le_succ _)) (Nat.le_succ _)) (Nat.le_succ _)) (Nat.le_succ _))⟩
        refine (query_Check.calls k 4 (⟨#[]⟩ : ByteArray) c2 (atoiN c1.data.toList) d1 d2 d3 d4 _ _ Hchk.out (hG.below (by exact HB3.out))).mono ?_
        rintro e w1 ⟨rfl, hb1⟩
        have BK : Aside0 (w1.heap[w.heap.size]? = some (.cells #[.int .i64 0, .string (⟨#[]⟩ : ByteArray), .string (⟨#[]⟩ : ByteArray), .int .i64 0] 32 (0, 0))) := ⟨blk_below BK3.out hb1⟩
        have q0 : w1.cell? ⟨w.heap.size, 0, none⟩ = some (.int .i64 0) := (blk_cell BK.out 0).trans rfl
        have q1 : w1.cell? ⟨w.heap.size, 1, none⟩ = some (.string (⟨#[]⟩ : ByteArray)) := (blk_cell BK.out 1).trans rfl
        have q2 : w1.cell? ⟨w.heap.size, 2, none⟩ = some (.string (⟨#[]⟩ : ByteArray)) := (blk_cell BK.out 2).trans rfl
        have q3 : w1.cell? ⟨w.heap.size, 3, none⟩ = some (.int .i64 0) := (blk_cell BK.out 3).trans rfl
        have f0 := blk_frozen BK.out 0
        have f1 := blk_frozen BK.out 1
        have f2 := blk_frozen BK.out 2
        have f3 := blk_frozen BK.out 3
        have hz : w.heap.size < w1.heap.size := by have := hb1.size; simp at this; omega
        have HB : Aside0 (Below w.heap.size w w1) := ⟨below_then HB3.out (by simp; omega) hb1⟩
        clear hb1 BK3 HB3 BK0 BQ0 HB0 p0 p1 p2 p3 pf0 pf1 pf2 pf3
        (try simp only [errW_none, errW_some])
        go_wp2_with (fail)
        refine bodyPost_ret (results_ct rfl _ _ w.heap.size 32 #[.int .i64 0, .string (⟨#[]⟩ : ByteArray), .string (⟨#[]⟩ : ByteArray), .int .i64 0] (0, 0) _ rfl (by (with_reducible repeat (first | refine blk_drewN ?_ _ | refine blk_drew ?_ | refine blk_alloc ?_ _)); refine blk_put (cs := #[.int .i64 0, .string (⟨#[]⟩ : ByteArray), .string (⟨#[]⟩ : ByteArray), .int .i64 0]) ?_ 3 _ rfl; (with_reducible repeat (first | refine blk_drewN ?_ _ | refine blk_drew ?_ | refine blk_alloc ?_ _)); refine blk_put (cs := #[.int .i64 0, .string (⟨#[]⟩ : ByteArray), .string (⟨#[]⟩ : ByteArray), .int .i64 0]) ?_ 2 _ rfl; (with_reducible repeat (first | refine blk_drewN ?_ _ | refine blk_drew ?_ | refine blk_alloc ?_ _)); refine blk_put (cs := #[.int .i64 0, .string (⟨#[]⟩ : ByteArray), .string (⟨#[]⟩ : ByteArray), .int .i64 0]) ?_ 1 _ rfl; (with_reducible repeat (first | refine blk_drewN ?_ _ | refine blk_drew ?_ | refine blk_alloc ?_ _)); refine blk_put (cs := #[.int .i64 0, .string (⟨#[]⟩ : ByteArray), .string (⟨#[]⟩ : ByteArray), .int .i64 0]) ?_ 0 _ rfl; (with_reducible repeat (first | refine blk_drewN ?_ _ | refine blk_drew ?_ | refine blk_alloc ?_ _)); exact BK.out) Tryd.underlying32 rfl (by kernel_rfl)) rfl ⟨rfl, ?_⟩
        repeat (first | (with_reducible first | exact HB.out | apply below_alloc | apply pw_below_drewN | apply below_drew1 | refine below_set ?_ (Nat.le_refl _)) | exact HB.out)
      | none =>
        have e0 := H.out
        simp only [fromKeyEnd, Bool.true_and, Option.isNone_none, if_true] at e0
        obtain ⟨kk, hkk, e0⟩ := Option.bind_eq_some_iff.1 e0
        have HK := Aside0.mk hkk
        clear H hkk
        have hn := ne_nil
        by_cases hka : kk.toList = a0.toList
        · rw [if_pos hka] at e0
          simp only [Option.some.injEq, Prod.mk.injEq] at e0
          obtain ⟨rfl, rfl, rfl, rfl, rfl⟩ := e0
          have HE := Aside0.mk (show (kk.toList == a0.toList) = true from beq_iff_eq.mpr hka)
          clear hka
          go_enter Tryd.func30, Tryd.ntmps30
          go_wp2_with (fail)
          refine (strings_Cut.calls (a0.extract 1 a0.size) (⟨#[47]⟩ : ByteArray) c1 c2 _ _ Hcut.out (hG.below (below_alloc (Below.refl _ _) _))).mono ?_
          rintro e w' ⟨rfl, ⟨n, rfl⟩⟩
          go_wp2_with (fail)
          refine (Atoi_any c1 _ hsz (hG.below (by with_reducible repeat (first | exact Below.refl _ _ | apply below_alloc | apply pw_below_drewN)))).mono ?_
          rintro e w0 ⟨ev, rfl, hev, hb0⟩
          have BK0 : Aside0 (w0.heap[w.heap.size]? = some (.cells #[.int .i64 0, .string (⟨#[]⟩ : ByteArray), .string (⟨#[]⟩ : ByteArray), .int .i64 0] 32 (0, 0))) := ⟨blk_below (blk_alloc (blk_drewN (heap_alloc_new w _) _) _) hb0⟩
          have BQ0 : Aside0 (w0.heap[w.heap.size + 1]? = some (.cells #[.int .i64 4, .string c2, .string c1, .int .i64 0] 32 (0, 0))) := ⟨blk_below (by have := heap_alloc_new ((w.alloc (.cells #[.int .i64 0, .string (⟨#[]⟩ : ByteArray), .string (⟨#[]⟩ : ByteArray), .int .i64 0] 32)).drewN n) (.cells #[.int .i64 4, .string c2, .string c1, .int .i64 0] 32); simpa using this) hb0⟩
          have hz0 : w.heap.size + 1 < w0.heap.size := by have := hb0.size; simp at this; omega
          have HB0 : Aside0 (Below w.heap.size w w0) := ⟨below_then (below_alloc (pw_below_drewN (below_alloc (Below.refl _ _) _) _) _) (by simp; omega) hb0⟩
          clear hb0
          have p0 : w0.cell? ⟨w.heap.size + 1, 0, none⟩ = some (.int .i64 4) := (blk_cell BQ0.out 0).trans rfl
          have p1 : w0.cell? ⟨w.heap.size + 1, 1, none⟩ = some (.string c2) := (blk_cell BQ0.out 1).trans rfl
          have p2 : w0.cell? ⟨w.heap.size + 1, 2, none⟩ = some (.string c1) := (blk_cell BQ0.out 2).trans rfl
          have p3 : w0.cell? ⟨w.heap.size + 1, 3, none⟩ = some (.int .i64 0) := (blk_cell BQ0.out 3).trans rfl
          have pf0 := blk_frozen BQ0.out 0
          have pf1 := blk_frozen BQ0.out 1
          have pf2 := blk_frozen BQ0.out 2
          have pf3 := blk_frozen BQ0.out 3
          have hv := hev.nil_of hok.out
          subst hv
          have he0 := eq_nil
          skip
          go_wp2_with (fail)
          have hne : w.heap.size ≠ w.heap.size + 1 := by omega
          have BK3 : Aside0 (((((w0.setCell ⟨w.heap.size + 1, 0, none⟩ (.int .i64 4)).setCell ⟨w.heap.size + 1, 1, none⟩ (.string (⟨#[]⟩ : ByteArray))).setCell ⟨w.heap.size + 1, 2, none⟩ (.string c2)).setCell ⟨w.heap.size + 1, 3, none⟩ (.int .i64 (atoiN c1.data.toList))).heap[w.heap.size]? = some (.cells #[.int .i64 0, .string (⟨#[]⟩ : ByteArray), .string (⟨#[]⟩ : ByteArray), .int .i64 0] 32 (0, 0))) := ⟨(blk_far (blk_far (blk_far (blk_far BK0.out hne _) hne _) hne _) hne _)⟩
          have HB3 : Aside0 (Below w.heap.size w ((((w0.setCell ⟨w.heap.size + 1, 0, none⟩ (.int .i64 4)).setCell ⟨w.heap.size + 1, 1, none⟩ (.string (⟨#[]⟩ : ByteArray))).setCell ⟨w.heap.size + 1, 2, none⟩ (.string c2)).setCell ⟨w.heap.size + 1, 3, none⟩ (.int .i64 (atoiN c1.data.toList)))) := ⟨(below_set (below_set (below_set (below_set HB0.out (Nat.le_succ _)) (Nat.le_succ _)) (Nat.le_succ _)) (Nat.le_succ _))⟩
          refine (query_Check.calls k 4 (⟨#[]⟩ : ByteArray) c2 (atoiN c1.data.toList) d1 d2 d3 d4 _ _ Hchk.out (hG.below (by exact HB3.out))).mono ?_
          rintro e w1 ⟨rfl, hb1⟩
          have BK : Aside0 (w1.heap[w.heap.size]? = some (.cells #[.int .i64 0, .string (⟨#[]⟩ : ByteArray), .string (⟨#[]⟩ : ByteArray), .int .i64 0] 32 (0, 0))) := ⟨blk_below BK3.out hb1⟩
          have q0 : w1.cell? ⟨w.heap.size, 0, none⟩ = some (.int .i64 0) := (blk_cell BK.out 0).trans rfl
          have q1 : w1.cell? ⟨w.heap.size, 1, none⟩ = some (.string (⟨#[]⟩ : ByteArray)) := (blk_cell BK.out 1).trans rfl
          have q2 : w1.cell? ⟨w.heap.size, 2, none⟩ = some (.string (⟨#[]⟩ : ByteArray)) := (blk_cell BK.out 2).trans rfl
          have q3 : w1.cell? ⟨w.heap.size, 3, none⟩ = some (.int .i64 0) := (blk_cell BK.out 3).trans rfl
          have f0 := blk_frozen BK.out 0
          have f1 := blk_frozen BK.out 1
          have f2 := blk_frozen BK.out 2
          have f3 := blk_frozen BK.out 3
          have hz : w.heap.size < w1.heap.size := by have := hb1.size; simp at this; omega
          have HB : Aside0 (Below w.heap.size w w1) := ⟨below_then HB3.out (by simp; omega) hb1⟩
          clear hb1 BK3 HB3 BK0 BQ0 HB0 p0 p1 p2 p3 pf0 pf1 pf2 pf3
          (try simp only [errW_none, errW_some])
          go_wp2_with (fail)
          refine (query_Key.calls k d1 d2 d3 d4 kk _ HK.out (hG.below (by repeat (first | (with_reducible first | exact HB.out | apply below_alloc | apply pw_below_drewN | apply below_drew1) | exact HB.out)))).mono ?_
          rintro e w2 ⟨rfl, hb2⟩
          have BK2 : Aside0 (w2.heap[w.heap.size]? = some (.cells #[.int .i64 0, .string (⟨#[]⟩ : ByteArray), .string (⟨#[]⟩ : ByteArray), .int .i64 0] 32 (0, 0))) := ⟨blk_below (by (with_reducible repeat (first | refine blk_drewN ?_ _ | refine blk_drew ?_ | refine blk_alloc ?_ _)); exact BK.out) hb2⟩
          have BD2 : Aside0 (w2.heap[w1.heap.size]? = some (.cells #[.int .i64 d1, .string d2, .string d3, .int .i64 d4] 32 (0, 0))) := ⟨blk_below (by (with_reducible repeat (first | refine blk_drewN ?_ _ | refine blk_drew ?_)); exact heap_alloc_new w1 _) hb2⟩
          have HB2 : Aside0 (Below w.heap.size w w2) := ⟨below_then (by repeat (first | (with_reducible first | exact HB.out | apply below_alloc | apply pw_below_drewN | apply below_drew1) | exact HB.out)) (by simp; omega) hb2⟩
          clear hb2 BK HB q0 q1 q2 q3 f0 f1 f2 f3
          have BK := BK2
          have HB := HB2
          clear BK2 HB2
          have q0 : w2.cell? ⟨w.heap.size, 0, none⟩ = some (.int .i64 0) := (blk_cell BK.out 0).trans rfl
          have q1 : w2.cell? ⟨w.heap.size, 1, none⟩ = some (.string (⟨#[]⟩ : ByteArray)) := (blk_cell BK.out 1).trans rfl
          have q2 : w2.cell? ⟨w.heap.size, 2, none⟩ = some (.string (⟨#[]⟩ : ByteArray)) := (blk_cell BK.out 2).trans rfl
          have q3 : w2.cell? ⟨w.heap.size, 3, none⟩ = some (.int .i64 0) := (blk_cell BK.out 3).trans rfl
          have f0 := blk_frozen BK.out 0
          have f1 := blk_frozen BK.out 1
          have f2 := blk_frozen BK.out 2
          have f3 := blk_frozen BK.out 3
          have g0 : w2.cell? ⟨w1.heap.size, 0, none⟩ = some (.int .i64 d1) := (blk_cell BD2.out 0).trans rfl
          have g1 : w2.cell? ⟨w1.heap.size, 1, none⟩ = some (.string d2) := (blk_cell BD2.out 1).trans rfl
          have g2 : w2.cell? ⟨w1.heap.size, 2, none⟩ = some (.string d3) := (blk_cell BD2.out 2).trans rfl
          have g3 : w2.cell? ⟨w1.heap.size, 3, none⟩ = some (.int .i64 d4) := (blk_cell BD2.out 3).trans rfl
          have hk := HE.out
          go_wp2_with (fail)
          refine bodyPost_ret (results_ct rfl _ _ w.heap.size 32 #[.int .i64 d1, .string d2, .string d3, .int .i64 d4] (0, 0) _ rfl (by (with_reducible repeat (first | refine blk_drewN ?_ _ | refine blk_drew ?_ | refine blk_alloc ?_ _)); refine blk_put (cs := #[.int .i64 d1, .string d2, .string d3, .int .i64 0]) ?_ 3 _ rfl; (with_reducible repeat (first | refine blk_drewN ?_ _ | refine blk_drew ?_ | refine blk_alloc ?_ _)); refine blk_put (cs := #[.int .i64 d1, .string d2, .string (⟨#[]⟩ : ByteArray), .int .i64 0]) ?_ 2 _ rfl; (with_reducible repeat (first | refine blk_drewN ?_ _ | refine blk_drew ?_ | refine blk_alloc ?_ _)); refine blk_put (cs := #[.int .i64 d1, .string (⟨#[]⟩ : ByteArray), .string (⟨#[]⟩ : ByteArray), .int .i64 0]) ?_ 1 _ rfl; (with_reducible repeat (first | refine blk_drewN ?_ _ | refine blk_drew ?_ | refine blk_alloc ?_ _)); refine blk_put (cs := #[.int .i64 0, .string (⟨#[]⟩ : ByteArray), .string (⟨#[]⟩ : ByteArray), .int .i64 0]) ?_ 0 _ rfl; (with_reducible repeat (first | refine blk_drewN ?_ _ | refine blk_drew ?_ | refine blk_alloc ?_ _)); exact BK.out) Tryd.underlying32 rfl (by kernel_rfl)) rfl ⟨rfl, ?_⟩
          repeat (first | (with_reducible first | exact HB.out | apply below_alloc | apply pw_below_drewN | apply below_drew1 | refine below_set ?_ (Nat.le_refl _)) | exact HB.out)
        · rw [if_neg hka] at e0
          simp only [Option.some.injEq, Prod.mk.injEq] at e0
          obtain ⟨rfl, rfl, rfl, rfl, rfl⟩ := e0
          have HE := Aside0.mk (show (kk.toList == a0.toList) = false from beq_eq_false_iff_ne.mpr hka)
          clear hka
          go_enter Tryd.func30, Tryd.ntmps30
          go_wp2_with (fail)
          refine (strings_Cut.calls (a0.extract 1 a0.size) (⟨#[47]⟩ : ByteArray) c1 c2 _ _ Hcut.out (hG.below (below_alloc (Below.refl _ _) _))).mono ?_
          rintro e w' ⟨rfl, ⟨n, rfl⟩⟩
          go_wp2_with (fail)
          refine (Atoi_any c1 _ hsz (hG.below (by with_reducible repeat (first | exact Below.refl _ _ | apply below_alloc | apply pw_below_drewN)))).mono ?_
          rintro e w0 ⟨ev, rfl, hev, hb0⟩
          have BK0 : Aside0 (w0.heap[w.heap.size]? = some (.cells #[.int .i64 0, .string (⟨#[]⟩ : ByteArray), .string (⟨#[]⟩ : ByteArray), .int .i64 0] 32 (0, 0))) := ⟨blk_below (blk_alloc (blk_drewN (heap_alloc_new w _) _) _) hb0⟩
          have BQ0 : Aside0 (w0.heap[w.heap.size + 1]? = some (.cells #[.int .i64 4, .string c2, .string c1, .int .i64 0] 32 (0, 0))) := ⟨blk_below (by have := heap_alloc_new ((w.alloc (.cells #[.int .i64 0, .string (⟨#[]⟩ : ByteArray), .string (⟨#[]⟩ : ByteArray), .int .i64 0] 32)).drewN n) (.cells #[.int .i64 4, .string c2, .string c1, .int .i64 0] 32); simpa using this) hb0⟩
          have hz0 : w.heap.size + 1 < w0.heap.size := by have := hb0.size; simp at this; omega
          have HB0 : Aside0 (Below w.heap.size w w0) := ⟨below_then (below_alloc (pw_below_drewN (below_alloc (Below.refl _ _) _) _) _) (by simp; omega) hb0⟩
          clear hb0
          have p0 : w0.cell? ⟨w.heap.size + 1, 0, none⟩ = some (.int .i64 4) := (blk_cell BQ0.out 0).trans rfl
          have p1 : w0.cell? ⟨w.heap.size + 1, 1, none⟩ = some (.string c2) := (blk_cell BQ0.out 1).trans rfl
          have p2 : w0.cell? ⟨w.heap.size + 1, 2, none⟩ = some (.string c1) := (blk_cell BQ0.out 2).trans rfl
          have p3 : w0.cell? ⟨w.heap.size + 1, 3, none⟩ = some (.int .i64 0) := (blk_cell BQ0.out 3).trans rfl
          have pf0 := blk_frozen BQ0.out 0
          have pf1 := blk_frozen BQ0.out 1
          have pf2 := blk_frozen BQ0.out 2
          have pf3 := blk_frozen BQ0.out 3
          have hv := hev.nil_of hok.out
          subst hv
          have he0 := eq_nil
          skip
          go_wp2_with (fail)
          have hne : w.heap.size ≠ w.heap.size + 1 := by omega
          have BK3 : Aside0 (((((w0.setCell ⟨w.heap.size + 1, 0, none⟩ (.int .i64 4)).setCell ⟨w.heap.size + 1, 1, none⟩ (.string (⟨#[]⟩ : ByteArray))).setCell ⟨w.heap.size + 1, 2, none⟩ (.string c2)).setCell ⟨w.heap.size + 1, 3, none⟩ (.int .i64 (atoiN c1.data.toList))).heap[w.heap.size]? = some (.cells #[.int .i64 0, .string (⟨#[]⟩ : ByteArray), .string (⟨#[]⟩ : ByteArray), .int .i64 0] 32 (0, 0))) := ⟨(blk_far (blk_far (blk_far (blk_far BK0.out hne _) hne _) hne _) hne _)⟩
          have HB3 : Aside0 (Below w.heap.size w ((((w0.setCell ⟨w.heap.size + 1, 0, none⟩ (.int .i64 4)).setCell ⟨w.heap.size + 1, 1, none⟩ (.string (⟨#[]⟩ : ByteArray))).setCell ⟨w.heap.size + 1, 2, none⟩ (.string c2)).setCell ⟨w.heap.size + 1, 3, none⟩ (.int .i64 (atoiN c1.data.toList)))) := ⟨(below_set (below_set (below_set (below_set HB0.out (Nat.le_succ _)) (Nat.le_succ _)) (Nat.le_succ _)) (Nat.le_succ _))⟩
          refine (query_Check.calls k 4 (⟨#[]⟩ : ByteArray) c2 (atoiN c1.data.toList) d1 d2 d3 d4 _ _ Hchk.out (hG.below (by exact HB3.out))).mono ?_
          rintro e w1 ⟨rfl, hb1⟩
          have BK : Aside0 (w1.heap[w.heap.size]? = some (.cells #[.int .i64 0, .string (⟨#[]⟩ : ByteArray), .string (⟨#[]⟩ : ByteArray), .int .i64 0] 32 (0, 0))) := ⟨blk_below BK3.out hb1⟩
          have q0 : w1.cell? ⟨w.heap.size, 0, none⟩ = some (.int .i64 0) := (blk_cell BK.out 0).trans rfl
          have q1 : w1.cell? ⟨w.heap.size, 1, none⟩ = some (.string (⟨#[]⟩ : ByteArray)) := (blk_cell BK.out 1).trans rfl
          have q2 : w1.cell? ⟨w.heap.size, 2, none⟩ = some (.string (⟨#[]⟩ : ByteArray)) := (blk_cell BK.out 2).trans rfl
          have q3 : w1.cell? ⟨w.heap.size, 3, none⟩ = some (.int .i64 0) := (blk_cell BK.out 3).trans rfl
          have f0 := blk_frozen BK.out 0
          have f1 := blk_frozen BK.out 1
          have f2 := blk_frozen BK.out 2
          have f3 := blk_frozen BK.out 3
          have hz : w.heap.size < w1.heap.size := by have := hb1.size; simp at this; omega
          have HB : Aside0 (Below w.heap.size w w1) := ⟨below_then HB3.out (by simp; omega) hb1⟩
          clear hb1 BK3 HB3 BK0 BQ0 HB0 p0 p1 p2 p3 pf0 pf1 pf2 pf3
          (try simp only [errW_none, errW_some])
          go_wp2_with (fail)
          refine (query_Key.calls k d1 d2 d3 d4 kk _ HK.out (hG.below (by repeat (first | (with_reducible first | exact HB.out | apply below_alloc | apply pw_below_drewN | apply below_drew1) | exact HB.out)))).mono ?_
          rintro e w2 ⟨rfl, hb2⟩
          have BK2 : Aside0 (w2.heap[w.heap.size]? = some (.cells #[.int .i64 0, .string (⟨#[]⟩ : ByteArray), .string (⟨#[]⟩ : ByteArray), .int .i64 0] 32 (0, 0))) := ⟨blk_below (by (with_reducible repeat (first | refine blk_drewN ?_ _ | refine blk_drew ?_ | refine blk_alloc ?_ _)); exact BK.out) hb2⟩
          have BD2 : Aside0 (w2.heap[w1.heap.size]? = some (.cells #[.int .i64 d1, .string d2, .string d3, .int .i64 d4] 32 (0, 0))) := ⟨blk_below (by (with_reducible repeat (first | refine blk_drewN ?_ _ | refine blk_drew ?_)); exact heap_alloc_new w1 _) hb2⟩
          have HB2 : Aside0 (Below w.heap.size w w2) := ⟨below_then (by repeat (first | (with_reducible first | exact HB.out | apply below_alloc | apply pw_below_drewN | apply below_drew1) | exact HB.out)) (by simp; omega) hb2⟩
          clear hb2 BK HB q0 q1 q2 q3 f0 f1 f2 f3
          have BK := BK2
          have HB := HB2
          clear BK2 HB2
          have q0 : w2.cell? ⟨w.heap.size, 0, none⟩ = some (.int .i64 0) := (blk_cell BK.out 0).trans rfl
          have q1 : w2.cell? ⟨w.heap.size, 1, none⟩ = some (.string (⟨#[]⟩ : ByteArray)) := (blk_cell BK.out 1).trans rfl
          have q2 : w2.cell? ⟨w.heap.size, 2, none⟩ = some (.string (⟨#[]⟩ : ByteArray)) := (blk_cell BK.out 2).trans rfl
          have q3 : w2.cell? ⟨w.heap.size, 3, none⟩ = some (.int .i64 0) := (blk_cell BK.out 3).trans rfl
          have f0 := blk_frozen BK.out 0
          have f1 := blk_frozen BK.out 1
          have f2 := blk_frozen BK.out 2
          have f3 := blk_frozen BK.out 3
          have g0 : w2.cell? ⟨w1.heap.size, 0, none⟩ = some (.int .i64 d1) := (blk_cell BD2.out 0).trans rfl
          have g1 : w2.cell? ⟨w1.heap.size, 1, none⟩ = some (.string d2) := (blk_cell BD2.out 1).trans rfl
          have g2 : w2.cell? ⟨w1.heap.size, 2, none⟩ = some (.string d3) := (blk_cell BD2.out 2).trans rfl
          have g3 : w2.cell? ⟨w1.heap.size, 3, none⟩ = some (.int .i64 d4) := (blk_cell BD2.out 3).trans rfl
          have hk := HE.out
          go_wp2_with (fail)
          refine bodyPost_ret (results_ct rfl _ _ w.heap.size 32 #[.int .i64 0, .string (⟨#[]⟩ : ByteArray), .string (⟨#[]⟩ : ByteArray), .int .i64 0] (0, 0) _ rfl (by (with_reducible repeat (first | refine blk_drewN ?_ _ | refine blk_drew ?_ | refine blk_alloc ?_ _)); refine blk_put (cs := #[.int .i64 0, .string (⟨#[]⟩ : ByteArray), .string (⟨#[]⟩ : ByteArray), .int .i64 0]) ?_ 3 _ rfl; (with_reducible repeat (first | refine blk_drewN ?_ _ | refine blk_drew ?_ | refine blk_alloc ?_ _)); refine blk_put (cs := #[.int .i64 0, .string (⟨#[]⟩ : ByteArray), .string (⟨#[]⟩ : ByteArray), .int .i64 0]) ?_ 2 _ rfl; (with_reducible repeat (first | refine blk_drewN ?_ _ | refine blk_drew ?_ | refine blk_alloc ?_ _)); refine blk_put (cs := #[.int .i64 0, .string (⟨#[]⟩ : ByteArray), .string (⟨#[]⟩ : ByteArray), .int .i64 0]) ?_ 1 _ rfl; (with_reducible repeat (first | refine blk_drewN ?_ _ | refine blk_drew ?_ | refine blk_alloc ?_ _)); refine blk_put (cs := #[.int .i64 0, .string (⟨#[]⟩ : ByteArray), .string (⟨#[]⟩ : ByteArray), .int .i64 0]) ?_ 0 _ rfl; (with_reducible repeat (first | refine blk_drewN ?_ _ | refine blk_drew ?_ | refine blk_alloc ?_ _)); exact BK.out) Tryd.underlying32 rfl (by kernel_rfl)) rfl ⟨rfl, ?_⟩
          repeat (first | (with_reducible first | exact HB.out | apply below_alloc | apply pw_below_drewN | apply below_drew1 | refine below_set ?_ (Nat.le_refl _)) | exact HB.out)

set_option maxHeartbeats 1000000 in
set_option maxRecDepth 100000 in
theorem FromKey_none (k : Nat) (a0 : ByteArray) (r1 : Int) (r2 r3 : ByteArray) (r4 : Int) (r5 : Bool) (w : World) (h0 : a0.size = 0) (h : query_FromKey.f k a0 = some (r1, r2, r3, r4, r5)) :
    Calls Tryd.prog 30 #[.string a0] w fun e w' => e = .returned (.tuple #[.agg #[.int .i64 r1, .string r2, .string r3, .int .i64 r4], .bool r5]) ∧ Below w.heap.size w w' := by
  unfold query_FromKey.f at h
  rw [if_pos h0] at h
  simp only [Option.some.injEq, Prod.mk.injEq] at h
  obtain ⟨rfl, rfl, rfl, rfl, rfl⟩ := h
  have he : a0.toList.isEmpty = true := by
    rw [ByteArray.toList_eq, List.isEmpty_iff]
    exact List.length_eq_zero_iff.1 (by rw [← Lib.size_eq]; exact h0)
  clear h0
  go_enter Tryd.func30, Tryd.ntmps30
  go_wp2_with (fail)
  refine bodyPost_ret (results_ct rfl _ _ w.heap.size 32 #[.int .i64 0, .string (⟨#[]⟩ : ByteArray), .string (⟨#[]⟩ : ByteArray), .int .i64 0] (0, 0) _ rfl (by exact heap_alloc_new w _) Tryd.underlying32 rfl (by kernel_rfl)) rfl ⟨rfl, ?_⟩
  exact below_alloc (Below.refl _ _) _

theorem query_FromKey.calls (k : Nat) (a0 : ByteArray) (r1 : Int) (r2 r3 : ByteArray) (r4 : Int) (r5 : Bool) (w : World) (h : query_FromKey.f k a0 = some (r1, r2, r3, r4, r5)) (hG : Gl w) :
    Calls Tryd.prog 30 #[.string a0] w fun e w' => e = .returned (.tuple #[.agg #[.int .i64 r1, .string r2, .string r3, .int .i64 r4], .bool r5]) ∧ Below w.heap.size w w' := by
  by_cases h0 : a0.size = 0
  · exact FromKey_none k a0 r1 r2 r3 r4 r5 w h0 h
  · by_cases h4 : bt a0 0 = 52
    · exact FromKey_4 k a0 r1 r2 r3 r4 r5 w h0 h4 h hG
    · exact FromKey_no4 k a0 r1 r2 r3 r4 r5 w h0 h4 h hG
theorem query_FromKey.mono : ∀ a0 k, LeO (query_FromKey.f k a0) (query_FromKey.f (k + 1) a0) := by
  intro a0 k
  have he : ∀ ok c, LeO (fromKeyEnd k a0 ok c) (fromKeyEnd (k + 1) a0 ok c) := by
    intro ok c
    unfold fromKeyEnd
    refine LeO.ite (LeO.ite (LeO.bind (query_Key.mono _ _ _ _ _) fun _ => LeO.refl _) (LeO.refl _)) (LeO.refl _)
  unfold query_FromKey.f
  exact LeO.ite (LeO.refl _) (LeO.bind (LeO.refl _) fun c => LeO.ite (LeO.ite (LeO.bind (query_Check.mono _ _ _ _ _) fun _ => he _ _) (LeO.none _)) (LeO.bind (query_Check.mono _ _ _ _ _) fun _ => he _ _))

end Go.Proofs.YtkhkemagkcjdoaaDoor.Gv
