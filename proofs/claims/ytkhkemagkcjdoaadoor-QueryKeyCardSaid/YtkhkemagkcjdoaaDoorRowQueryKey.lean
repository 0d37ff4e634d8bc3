/- conciergelaw14.QueryKey returns true for every input (the card that ties the listed variables to the program's text). Conditions: none. -/
import Derived.Test.YtkhkemagkcjdoaaDoorCards
import Derived.Test.YtkhkemagkcjdoaaDoorTie
import Derived.Test.YtkhkemagkcjdoaaDoorRowBase
import Derived.Test.YtkhkemagkcjdoaaDoorPureQueryKey
import Derived.ProofKit
import Derived.OpenShut
import Derived.ShutString
import Derived.Lib.SmallJoins
import Derived.SizedLaws
namespace Go.Proofs.YtkhkemagkcjdoaaDoor.queryKey
open Go.ChangeShapes Go.WideShapes Go.ChangeAt Go.RowKit Go.Joins Go.Proofs.YtkhkemagkcjdoaaDoor.RowBase
open Go.ChangeMaps (open_string shut_string)
set_option linter.unusedVariables false

theorem cellsQ : Tryd.prog.cellsOf 32 = 4 := by kernel_rfl

set_option maxRecDepth 100000 in
set_option maxHeartbeats 1000000 in
theorem contract (H : Type) (enc : TypeId × Value → H) (W : World) (base : Nat) (args : Array Value) (ds gs : List (DataW H)) (before : List MemPlace)
    (hval : ∀ (j : Nat) t v, Tryd.f5.params[j]? = some t → args[j]? = some v → Value.okWide Tryd.prog W .any base t v)
    (hW : DataW.Whole enc Tryd.prog Tryd.f5.params.toList Rows.queryKeySpec.vars false W args.toList ds gs before) (hL : laidMetH Tryd.prog laid7 W) (hS : W.ShapedOpen Tryd.prog) :
    Calls Tryd.prog 5 args W fun e W' => ∃ v, e = .returned v ∧ Rows.queryKeySpec.post enc Tryd.prog Tryd.f5 false true false false W args v W' := by
  have hW' := hW
  obtain ⟨p, q, hA0, hV, rfl, hfz, hnd⟩ := hW
  have hA : DataW.TrodAll enc Tryd.prog W 0 (fun _ => true) true Tryd.f5.params.toList args.toList ds p := hA0
  rw [Tryd.params5] at hA hval
  obtain ⟨v0, vs0, d0, ds0, p0, q0, hargs, rfl, rfl, h0, r0⟩ := trodAll_cons hA
  obtain ⟨v1, vs1, d1, ds1, p1, q1, rfl, rfl, rfl, h1, r1⟩ := trodAll_cons r0
  obtain ⟨v2, vs2, d2, ds2, p2, q2, rfl, rfl, rfl, h2, r2⟩ := trodAll_cons r1
  obtain ⟨rfl, rfl, rfl⟩ := trodAll_nil r2
  obtain rfl : args = #[v0, v1, v2] := by cases args; simp_all
  obtain ⟨rfl, rfl⟩ := trodVars_none hV
  obtain ⟨c00, c01, c02, c03, y00, y01, y02, y03, m0, rfl, rfl, rfl, hy00, hy01, hy02, hy03⟩ := open_agg4 Tryd.underlying32 (by kernel_rfl) cellsQ (hval 0 32 v0 rfl rfl) h0
  obtain ⟨a0, e00, rfl, w00⟩ := DataW.trod_int Tryd.underlying3 hy00
  obtain ⟨a1, e01, rfl, w01⟩ := DataW.trod_string Tryd.underlying9 hy01
  obtain ⟨a2, e02, rfl, w02⟩ := DataW.trod_string Tryd.underlying9 hy02
  obtain ⟨a3, e03, rfl, w03⟩ := DataW.trod_int Tryd.underlying3 hy03
  simp at e00 e01 e02 e03
  subst e00 e01 e02 e03
  obtain ⟨c10, c11, c12, c13, y10, y11, y12, y13, m1, rfl, rfl, rfl, hy10, hy11, hy12, hy13⟩ := open_agg4 Tryd.underlying32 (by kernel_rfl) cellsQ (hval 1 32 v1 rfl rfl) h1
  obtain ⟨b0, e10, rfl, w10⟩ := DataW.trod_int Tryd.underlying3 hy10
  obtain ⟨b1, e11, rfl, w11⟩ := DataW.trod_string Tryd.underlying9 hy11
  obtain ⟨b2, e12, rfl, w12⟩ := DataW.trod_string Tryd.underlying9 hy12
  obtain ⟨b3, e13, rfl, w13⟩ := DataW.trod_int Tryd.underlying3 hy13
  simp at e10 e11 e12 e13
  subst e10 e11 e12 e13
  obtain ⟨s, rfl, rfl, rfl, w2⟩ := open_string Tryd.underlying9 (hval 2 9 v2 rfl rfl) h2
  clear hA0
  have back : ∀ (W' : World) (at_ : Nat) (sp : Nat → Bool) (a0 : Int) (a1 a2 : ByteArray) (a3 : Int), (Lit.int IntKind.i64 a0).wf = true → a1.size ≤ maxLen → a2.size ≤ maxLen → (Lit.int IntKind.i64 a3).wf = true → DataW.Trod enc Tryd.prog W' at_ sp true 32 (.agg #[.int .i64 a0, .string a1, .string a2, .int .i64 a3]) (.agg [.lit (.int .i64 a0), .lit (.string a1.data.toList), .lit (.string a2.data.toList), .lit (.int .i64 a3)]) [] := fun W' at_ sp a0 a1 a2 a3 wa0 wa1 wa2 wa3 =>
    shut_agg4 (y0 := (.lit (.int .i64 a0), [])) (y1 := (.lit (.string a1.data.toList), [])) (y2 := (.lit (.string a2.data.toList), [])) (y3 := (.lit (.int .i64 a3), [])) Tryd.underlying32 (by kernel_rfl) cellsQ
      ⟨1, by simp [DataW.trod, Tryd.underlying3, wa0]⟩ ⟨1, by simp [DataW.trod, Tryd.underlying9, wa1]⟩ ⟨1, by simp [DataW.trod, Tryd.underlying9, wa2]⟩ ⟨1, by simp [DataW.trod, Tryd.underlying3, wa3]⟩
  obtain ⟨k, hk⟩ := Pure.QueryKey a0 a1 a2 a3 b0 b1 b2 b3 s
  refine (XQK.conciergelaw14_QueryKey.calls k a0 a1 a2 a3 b0 b1 b2 b3 s true W hk (gl_of hL hS)).mono ?_
  rintro e W' ⟨rfl, bel⟩
  exact ⟨_, rfl, _, _, _, [], _, [], hW', trodAll_mk1 (shut_bool Tryd.underlying4 _), (trodAll_cons_mk (back _ _ _ _ _ _ _ w00 w01 w02 w03) (trodAll_cons_mk (back _ _ _ _ _ _ _ w10 w11 w12 w13) (trodAll_cons_mk (shut_string Tryd.underlying9 w2) trodAll_mk0))), rfl, bel.frame _, fun h => by cases h⟩

theorem reads (os : Os) {H : Type} (enc : TypeId × Value → H) : ∃ places, DataW.whole enc Tryd.prog ((laidWorld os).forCall (fun _ _ => 0) ⟨#[], #[.agg #[.int .i64 0, .string ⟨#[]⟩, .string ⟨#[]⟩, .int .i64 0], .agg #[.int .i64 0, .string ⟨#[]⟩, .string ⟨#[]⟩, .int .i64 0], .string ⟨#[]⟩], []⟩).memory Tryd.f5.params.toList Rows.queryKeySpec.vars false #[Value.agg #[.int .i64 0, .string ⟨#[]⟩, .string ⟨#[]⟩, .int .i64 0], .agg #[.int .i64 0, .string ⟨#[]⟩, .string ⟨#[]⟩, .int .i64 0], .string ⟨#[]⟩].toList 8 = some ([.agg [.lit (.int .i64 0), .lit (.string []), .lit (.string []), .lit (.int .i64 0)], .agg [.lit (.int .i64 0), .lit (.string []), .lit (.string []), .lit (.int .i64 0)], .lit (.string [])], [], places) :=
  ⟨[], by kernel_rfl⟩

set_option maxRecDepth 100000 in
theorem lifted (os : Os) (started : os.Started) (H : Type) (enc : TypeId × Value → H) (F : Stop.Interp) :
    ReturnsInHanded {} Tryd.checked os 5 .any ((OpenSpec.ofChange Rows.queryKeySpec).preRow enc Tryd.prog Tryd.f5 Rows.queryKeyRow.domain false Rows.queryKeyRow.laid) (((OpenSpec.ofChange Rows.queryKeySpec).at F).post enc Tryd.prog Tryd.f5 false true false false) := by
  obtain ⟨places, hx⟩ := reads os enc
  refine returnsInHanded_of_row (C := Tryd.checked) (s := OpenSpec.ofChange Rows.queryKeySpec) own started (by kernel_rfl) Tryd.func5
    (witness_row_atRef (enc := enc) (C := Tryd.checked) false (laidWorld os) #[.agg #[.int .i64 0, .string ⟨#[]⟩, .string ⟨#[]⟩, .int .i64 0], .agg #[.int .i64 0, .string ⟨#[]⟩, .string ⟨#[]⟩, .int .i64 0], .string ⟨#[]⟩] rfl (by kernel_rfl) (by kernel_rfl) (by kernel_rfl)
      (OpenSpec.preRow_of_cond 8 hx (by kernel_rfl) (fun k hk => by cases hk) (by kernel_rfl) (laid_met os _))) ?_
  intro W base args ds gs before hval hW _ _ _ hL hS _
  exact contract H enc W base args ds gs before hval hW hL hS

theorem said : Rows.QueryKeySaid :=
  OpenClaim.holds_of_cond 5 Tryd.f5 rfl rfl rfl rfl rfl rfl rfl ⟨rfl, rfl, rfl, rfl, rfl⟩ rfl rfl rfl rfl rfl (by kernel_rfl) Tryd.func5 (by kernel_rfl)
    (of_decide_eq_true (by kernel_rfl)) (by unfold Func.isWrapper; first | (rw [if_pos (by decide +kernel)]; kernel_rfl) | (rw [if_neg (by decide +kernel)]; exact ⟨rfl, rfl⟩))
    (fun os started H enc _ F => by rw [OpenClaim.pre_eq_preRow]; exact lifted os started H enc F)

theorem plain (f : FuncId) (fn : Func) (hf : Tryd.pinned.checked.prog.funcNamed "concierge/conciergelaw14.QueryKey" = some f) (hfn : Tryd.pinned.checked.prog.funcs[f]? = some fn) :
    true = Tryd.pinned.checked.prog.looks [] ∧ ∀ (j : Nat) t, fn.params[j]? = some t → Tryd.pinned.checked.prog.wantsStandIn t = false := by
  obtain rfl : f = 5 := Option.some.inj ((show Tryd.prog.funcNamed "concierge/conciergelaw14.QueryKey" = some 5 by kernel_rfl).symm.trans hf) |>.symm
  obtain rfl : fn = Tryd.f5 := (Option.some.inj (Tryd.func5.symm.trans hfn)).symm
  refine ⟨by kernel_rfl, fun j t ht => ?_⟩
  rw [Tryd.params5] at ht
  have hm : t ∈ [32, 32, 9] := by simpa using Array.mem_of_getElem? ht
  have hall : ([32, 32, 9].all fun u => !Tryd.prog.wantsStandIn u) = true := by kernel_rfl
  exact (show Tryd.prog.wantsStandIn t = false by simpa using List.all_eq_true.1 hall t hm)

theorem card : Rows.QueryKeyCardSaid :=
  Claim7.holds_tied_plain_at .later [] _ _ _ _ said (fun _ h => by cases h) (by kernel_rfl) (fun _ h => by cases h) queryKey_row_tie rfl ⟨rfl, rfl⟩ (by kernel_rfl) rfl plain (by kernel_rfl)
#print axioms card
end Go.Proofs.YtkhkemagkcjdoaaDoor.queryKey
