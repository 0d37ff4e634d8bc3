/- The code that an error is: walked at errors that are codes (or none). Conditions: none. -/
import Derived.Test.YtkhkemagkcjdoaaDoorGvBase
import Derived.Lib.Hide
import Derived.WalkKit
import Derived.LoopTactic
import Derived.BigCall
import Derived.BigGuard
import Derived.KernelRfl
import Derived.WalkLawsBesides
import Derived.WideLaws
import Derived.Stop.Asserts
namespace Go.Proofs.YtkhkemagkcjdoaaDoor.Gv
open Go.RowKit Go.Proofs.YtkhkemagkcjdoaaDoorW.PrintWords
set_option linter.unusedVariables false
set_option linter.unusedSimpArgs false

theorem ta_code (v : Value) (W : World) : (Instr.typeAssert (.iface 34 v) 39 34 true).run Tryd.prog W = .ok (.tuple #[v, .bool true]) W := by kernel_rfl
theorem ta_wrapper (v : Value) (W : World) : (Instr.typeAssert (.iface 34 v) 39 166 true).run Tryd.prog W = .ok (.tuple #[.nilIface, .bool false]) W := run_typeAssert_lacksB Tryd.underlying166 (by kernel_rfl) (by kernel_rfl) v _ W
theorem ne_code (v : Value) (W : World) : (binOp .neq 39 (.iface 34 v) .nilIface).run Tryd.prog W = .ok (.bool true) W := by kernel_rfl
theorem ne_nil (W : World) : (binOp .neq 39 .nilIface .nilIface).run Tryd.prog W = .ok (.bool false) W := by kernel_rfl
theorem eq_code (v : Value) (W : World) : (binOp .eql 39 (.iface 34 v) .nilIface).run Tryd.prog W = .ok (.bool false) W := by kernel_rfl
theorem eq_nil (W : World) : (binOp .eql 39 .nilIface .nilIface).run Tryd.prog W = .ok (.bool true) W := by kernel_rfl

set_option maxHeartbeats 1000000 in
set_option maxRecDepth 100000 in
theorem Is_code (c d : Int) (w : World) :
    Calls Tryd.prog 55 #[.iface 34 (.int .i64 c), .int .i64 d] w fun e w' => e = .returned (.bool (c == d)) ∧ Drawn0 w w' := by
  have h1 := ta_code
  have h2 := ta_wrapper
  have h3 := ne_code
  by_cases hcd : c = d
  · subst hcd
    go_enter Tryd.func55, Tryd.ntmps55
    go_wp2
    refine wp_loop_rounds 1 ?_
    rw [rounds_succ]
    go_wp2
    go_ret
    exact ⟨by simp, Drawn0.refl _⟩
  · have hb : (c == d) = false := by simpa using hcd
    go_enter Tryd.func55, Tryd.ntmps55
    go_wp2
    refine wp_loop_rounds 1 ?_
    rw [rounds_succ]
    go_wp2
    go_ret
    exact ⟨by simp [hb], Drawn0.refl _⟩

def codesL : List Int := [1, 3, 4, 7, 5, 6, 8, 9, 10, 11]
def codeCells : Array Value := #[.int .i64 1, .int .i64 3, .int .i64 4, .int .i64 7, .int .i64 5, .int .i64 6, .int .i64 8, .int .i64 9, .int .i64 10, .int .i64 11]
theorem codes_cell (w : World) (k : Nat) (hk : k < 10) : (w.alloc (.cells codeCells 34)).cell? ⟨w.heap.size, k, none⟩ = some (.int .i64 (codesL.getD k 0)) := by
  have : k = 0 ∨ k = 1 ∨ k = 2 ∨ k = 3 ∨ k = 4 ∨ k = 5 ∨ k = 6 ∨ k = 7 ∨ k = 8 ∨ k = 9 := by omega
  rcases this with rfl | rfl | rfl | rfl | rfl | rfl | rfl | rfl | rfl | rfl <;> simp [codesL, codeCells]

/-- What Code tells: of those that Of tells; else unavailable; none: found. -/
def conciergelaw0_Code.f (a0 : Option Int) : Option Int := match a0 with
  | none => some 0
  | some c => if c ∈ codesL then some c else some 2

theorem code_at {c : Int} {k : Nat} (hk : k < 10) (h : codesL.getD k 0 = c) : conciergelaw0_Code.f (some c) = some c := by
  have hm : c ∈ codesL := by
    rw [← h, List.getD_eq_getElem?_getD, List.getElem?_eq_getElem (show k < codesL.length from hk)]
    exact List.getElem_mem _
  simp [conciergelaw0_Code.f, hm]
theorem code_none {c : Int} (h : ∀ j, j < 10 → codesL.getD j 0 ≠ c) : conciergelaw0_Code.f (some c) = some 2 := by
  have hm : ¬ c ∈ codesL := by
    intro hm
    obtain ⟨j, hj, e⟩ := List.getElem_of_mem hm
    refine h j hj ?_
    rw [List.getD_eq_getElem?_getD, List.getElem?_eq_getElem hj]
    exact e
  simp [conciergelaw0_Code.f, hm]

theorem drawn_cell {w w' : World} (h : Drawn0 w w') (a : Addr) : w'.cell? a = w.cell? a := by
  obtain ⟨n, rfl⟩ := h
  rfl

set_option maxHeartbeats 1000000 in
set_option maxRecDepth 100000 in
theorem Code_some (c r : Int) (w : World) (h : conciergelaw0_Code.f (some c) = some r) :
    Calls Tryd.prog 17 #[.iface 34 (.int .i64 c)] w fun e w' => e = .returned (.int .i64 r) ∧ Below w.heap.size w w' := by
  have h4 := eq_code
  have HH := Lib.hid h
  clear h
  go_enter Tryd.func17, Tryd.ntmps17
  go_wp2
  go_loopw [4] (fun v wr => ∃ k : Nat, v = .int .i64 k ∧ k ≤ 10 ∧ Hid (Drawn0 (w.alloc (.cells codeCells 34)) wr) ∧ Hid (∀ j, j < k → codesL.getD j 0 ≠ c)) (fun v _ => 10 - (intOf v).toNat)
  case atStart => exact ⟨0, rfl, Nat.zero_le _, Drawn0.refl _, fun j hj => absurd hj (Nat.not_lt_zero _)⟩
  case round =>
    obtain ⟨k, rfl, hk, HD, HN⟩ := hrel
    by_cases hlt : k < 10
    · have hc := (drawn_cell HD.out _).trans (codes_cell w k hlt)
      by_cases hcd : codesL.getD k 0 = c
      · have HR := Lib.hid (code_at hlt hcd)
        rw [hcd] at hc
        go_wp2_with (go_at_call 55; refine (Is_code _ _ _).mono ?_; rintro e w' ⟨rfl, ⟨n, rfl⟩⟩)
        go_ret
        refine ⟨?_, ?_⟩
        · have e1 := HH.out.symm.trans HR.out
          rw [Option.some.inj e1]
          rfl
        · exact (below_alloc (Below.refl _ _) _).trans (by obtain ⟨m, rfl⟩ := HD.out; exact pw_below_drewN (pw_below_drewN (Below.refl _ _) _) _)
      · have HE := Lib.hid (show (c == codesL.getD k 0) = false by simpa using fun e => hcd e.symm)
        have HN' : Hid (∀ j, j < k + 1 → codesL.getD j 0 ≠ c) := fun j hj => by
          by_cases e : j = k
          · subst e; exact hcd
          · exact HN.out j (by omega)
        clear hcd
        generalize codesL.getD k 0 = d at hc HE
        go_wp2_with (go_at_call 55; refine (Is_code _ _ _).mono ?_; rintro e w' ⟨rfl, ⟨n, rfl⟩⟩; rw [HE.out])
        go_roundw
        case rel => exact ⟨k + 1, by go_num, by omega, HD.out.step n, HN'⟩
        case measure => simp [intOf]; omega
    · obtain rfl : k = 10 := by omega
      have HR := Lib.hid (code_none HN.out)
      go_wp2
      go_ret
      refine ⟨?_, ?_⟩
      · have e1 := HH.out.symm.trans HR.out
        rw [Option.some.inj e1]
        rfl
      · exact (below_alloc (Below.refl _ _) _).trans (by obtain ⟨m, rfl⟩ := HD.out; exact pw_below_drewN (Below.refl _ _) _)

set_option maxHeartbeats 1000000 in
set_option maxRecDepth 100000 in
theorem Code_none (w : World) :
    Calls Tryd.prog 17 #[.nilIface] w fun e w' => e = .returned (.int .i64 0) ∧ Below w.heap.size w w' := by
  have h4 := eq_nil
  go_enter Tryd.func17, Tryd.ntmps17
  go_wp2
  go_ret
  exact ⟨rfl, Below.refl _ _⟩

/-- An error of the program's as a value: none, or a code. -/
def errW : Option Int → Value
  | none => .nilIface
  | some c => .iface 34 (.int .i64 c)

theorem errW_none : errW none = .nilIface := rfl
theorem errW_some (c : Int) : errW (some c) = .iface 34 (.int .i64 c) := rfl

theorem conciergelaw0_Code.calls (a0 : Option Int) (r : Int) (w : World) (h : conciergelaw0_Code.f a0 = some r) :
    Calls Tryd.prog 17 #[errW a0] w fun e w' => e = .returned (.int .i64 r) ∧ Below w.heap.size w w' := by
  cases a0 with
  | none =>
    obtain rfl := Option.some.inj h
    exact Code_none w
  | some c => exact Code_some c r w h

end Go.Proofs.YtkhkemagkcjdoaaDoor.Gv
