/- The law of an address's print is true at every text. Conditions: none. -/
import Derived.Test.YtkhkemagkcjdoaaDoorXAP
import Derived.Test.YtkhkemagkcjdoaaDoorPureAddr4
import Derived.Test.YtkhkemagkcjdoaaDoorPureAddr9
namespace Go.Proofs.YtkhkemagkcjdoaaDoor.Pure
open Go.RowKit Go.Proofs.YtkhkemagkcjdoaaDoorW.PrintWords Go.Proofs.YtkhkemagkcjdoaaDoor.Gv Go.Proofs.YtkhkemagkcjdoaaDoor.XAD Go.Proofs.YtkhkemagkcjdoaaDoor.XAP
theorem begun3p_ev : Ev (fun k => conciergelaw3_begun.f k) true := Ev.of conciergelaw3_begun.mono (k := 200) (by decide +kernel)
theorem cut3p_ev (s : ByteArray) (n : Nat) : ∃ t : ByteArray, conciergelaw2_Cut.f s (n : Int) = some t ∧ t.size ≤ n := by
  unfold conciergelaw2_Cut.f
  by_cases h : (s.size : Int) > (n : Int)
  · rw [if_pos h, if_pos (by omega), if_pos (by omega)]
    refine ⟨_, rfl, ?_⟩
    rw [ByteArray.size_extract]
    omega
  · rw [if_neg h]
    exact ⟨_, rfl, by omega⟩

theorem print_j0_ev (a : ByteArray) (h : a.size = 4 ∨ a.size = 16) : Ev (fun k => conciergelaw3_AddrPrint.j0 k a true (printV a) false) true := by
  have hs := printV_size a
  refine Ev.step (f := fun k => (addr_Parse.f k (printV a)).bind fun bt120 => ((conciergeref2_Print.f k a).bind fun t122 => (if (printV a).toList = t122.toList then (if bt120.2 = true then (some (bt120.1.toList == a.toList)) else (some false)) else (some false)))) (fun k => ?_) ?_
  · simp only [conciergelaw3_AddrPrint.j0]
    rw [if_neg (by simp)]
    rfl
  · refine Ev.bind (addr_Parse_ev (printV a) (by omega)) ?_
    refine Ev.bind (ref_Print_ev a) ?_
    rw [parse_print a h]
    refine Ev.congr (f := fun _ => some true) (fun k => ?_) (Ev.now _)
    rw [if_pos rfl, if_pos rfl, beq_self_eq_true]

theorem AddrPrint (a0 : ByteArray) : ∃ k, conciergelaw3_AddrPrint.f k a0 = some true := by
  obtain ⟨a, ha0, has⟩ := cut3p_ev a0 20
  have ha : conciergelaw2_Cut.f a0 20 = some a := ha0
  refine Ev.rounds (g := fun k => conciergelaw3_AddrPrint.f k a0) ?_
  refine Ev.bind begun3p_ev ?_
  refine Ev.congr (fun k => if_pos rfl) ?_
  refine Ev.congr (f := fun k => (addr_Print.f k a).bind fun t119 => (if (a.size : Int) = 4 then (conciergelaw3_AddrPrint.j0 k a true t119 false) else (conciergelaw3_AddrPrint.j0 k a true t119 ((a.size : Int) != 16)))) (fun k => by rw [ha, Option.bind_some]) ?_
  refine Ev.bind (addr_Print_ev a) ?_
  by_cases h4 : a.size = 4
  · exact Ev.congr (fun k => if_pos (by omega)) (print_j0_ev a (.inl h4))
  · refine Ev.congr (fun k => if_neg (by omega)) ?_
    by_cases h16 : a.size = 16
    · rw [bne_eq_false_iff_eq.2 (show (a.size : Int) = 16 by omega)]
      exact print_j0_ev a (.inr h16)
    · rw [bne_iff_ne.2 (show (a.size : Int) ≠ 16 by omega)]
      have e : printV a = ⟨#[]⟩ := by unfold printV; rw [if_neg h4, if_neg h16]
      rw [e]
      refine Ev.step (f := fun _ => some true) (fun k => ?_) (Ev.now _)
      simp only [conciergelaw3_AddrPrint.j0]
      rw [if_pos trivial, if_pos trivial, toList_L]
      rfl
end Go.Proofs.YtkhkemagkcjdoaaDoor.Pure
