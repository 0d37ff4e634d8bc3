/- The law of checked queries is true at every query. Conditions: none. -/
import Derived.Test.YtkhkemagkcjdoaaDoorXQC
import Derived.Test.YtkhkemagkcjdoaaDoorPureQ3
namespace Go.Proofs.YtkhkemagkcjdoaaDoor.Pure
open Go.RowKit Go.Proofs.YtkhkemagkcjdoaaDoorW.PrintWords Go.Proofs.YtkhkemagkcjdoaaDoor.Gv Go.Proofs.YtkhkemagkcjdoaaDoor.XQA Go.Proofs.YtkhkemagkcjdoaaDoor.XQC
theorem begun14_ev : Ev (fun k => conciergelaw14_begun.f k) true := Ev.of conciergelaw14_begun.mono (k := 60) (by decide +kernel)

theorem cut_ev (s : ByteArray) (n : Nat) : ∃ t : ByteArray, conciergelaw2_Cut.f s (n : Int) = some t ∧ t.size ≤ n := by
  unfold conciergelaw2_Cut.f
  by_cases h : (s.size : Int) > (n : Int)
  · rw [if_pos h, if_pos (by omega), if_pos (by omega)]
    refine ⟨_, rfl, ?_⟩
    rw [ByteArray.size_extract]
    omega
  · rw [if_neg h]
    exact ⟨_, rfl, by omega⟩
theorem cutQuery_ev (d : Int) (n p : ByteArray) (port : Int) : ∃ n' p' : ByteArray, conciergelaw8_CutQuery.f d n p port = some (d, n', p', port) ∧ n'.size ≤ 300 ∧ p'.size ≤ 20 := by
  obtain ⟨n', hn, h1⟩ := cut_ev n 300
  obtain ⟨p', hp, h2⟩ := cut_ev p 20
  refine ⟨n', p', ?_, h1, h2⟩
  have hn2 : conciergelaw2_Cut.f n 300 = some n' := hn
  have hp2 : conciergelaw2_Cut.f p 20 = some p' := hp
  unfold conciergelaw8_CutQuery.f
  rw [hn2, Option.bind_some, hp2]
  rfl

theorem checkV_code (d : Int) (n p : ByteArray) (port : Int) : (checkV d n p port).2.2.2.2 = none ∨ (checkV d n p port).2.2.2.2 = some 6 ∨ (checkV d n p port).2.2.2.2 = some 7 := by
  unfold checkV
  repeat' split
  all_goals simp
theorem code_f (c : Option Int) (h : c = none ∨ c = some 6 ∨ c = some 7) : conciergelaw0_Code.f c = some (codeOf c) := by
  rcases h with rfl | rfl | rfl <;> decide +kernel
theorem eqQuery_f (d : Int) (n p : ByteArray) (port : Int) : conciergeref2_EqQuery.f d n p port d n p port = some true := by
  unfold conciergeref2_EqQuery.f
  rw [if_pos rfl, if_pos rfl, if_pos rfl]
  simp

theorem QueryCheck (a0 : Int) (a1 a2 : ByteArray) (a3 : Int) : ∃ k, conciergelaw14_QueryCheck.f k a0 a1 a2 a3 = some true := by
  obtain ⟨n, p, hcut, hn, hp⟩ := cutQuery_ev a0 a1 a2 a3
  refine Ev.rounds (g := fun k => conciergelaw14_QueryCheck.f k a0 a1 a2 a3) ?_
  refine Ev.bind begun14_ev ?_
  simp only [if_true, hcut, Option.bind_some]
  refine Ev.bind (query_Check_ev a0 n p a3 (by omega) (by omega)) ?_
  refine Ev.bind (conciergeref2_Check_ev a0 n p a3 (by omega) (by omega)) ?_
  rw [code_f _ (checkV_code a0 n p a3), Option.bind_some]
  simp only [refV, if_true, eqQuery_f]
  exact Ev.now _
end Go.Proofs.YtkhkemagkcjdoaaDoor.Pure
