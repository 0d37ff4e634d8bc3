/- Printed by xprint.py (wip) out of the translation of this seat: Lean functions of the same answers as the Go functions, each with the theorem that the Go call comes to them. Conditions: the premises of each theorem. -/
import Derived.Test.YtkhkemagkcjdoaaDoorXAP0
namespace Go.Proofs.YtkhkemagkcjdoaaDoor.XAP
open Go.RowKit Go.Proofs.YtkhkemagkcjdoaaDoorW.PrintWords Go.Proofs.YtkhkemagkcjdoaaDoorW.PrintLast Go.Proofs.YtkhkemagkcjdoaaDoor.Gv Go.Proofs.YtkhkemagkcjdoaaDoor.XAD 
set_option linter.unusedVariables false
set_option linter.unusedSimpArgs false

/-! ### conciergelaw3_begun: function 40 -/
def conciergelaw3_begun.f (k : Nat)  : Option (Bool) := (addr_Parse.f k (⟨#[49, 48, 46, 48, 46, 48, 46, 50, 53, 53]⟩ : ByteArray)).bind fun bt101 => ((addr_Parse.f k (⟨#[50, 48, 48, 49, 58, 68, 66, 56, 58, 58, 49]⟩ : ByteArray)).bind fun bt103 => (if bt101.2 = true then (if bt101.1.toList = ([10, 0, 0, 255] : List UInt8) then (if bt103.2 = true then (if (bt103.1.size : Int) = 16 then ((addr_Print.f k bt103.1).bind fun t105 => (if t105.toList = ([50, 48, 48, 49, 58, 100, 98, 56, 58, 58, 49] : List UInt8) then ((addr_Print.f k bt101.1).bind fun t106 => (if t106.toList = ([49, 48, 46, 48, 46, 48, 46, 50, 53, 53] : List UInt8) then ((addr_Common.f k bt101.1 bt101.1).bind fun t107 => (if t107 = 32 then ((addr_In.f k bt101.1 (⟨#[10, 0, 0, 0]⟩ : ByteArray) 8).bind fun t108 => (some t108)) else (some false))) else (some false))) else (some false))) else (some false)) else (some false)) else (some false)) else (some false)))
theorem conciergelaw3_begun.mono : ∀ k, LeO (conciergelaw3_begun.f k ) (conciergelaw3_begun.f (k + 1) ) := by
  intro  k
  unfold conciergelaw3_begun.f
  repeat' first
      | (with_reducible exact addr_Common.mono _ _ _)
      | (with_reducible exact addr_In.mono _ _ _ _)
      | (with_reducible exact addr_Parse.mono _ _)
      | (with_reducible exact addr_Print.mono _ _)
      | (with_reducible exact LeO.refl _)
      | (with_reducible exact LeO.none _)
      | (with_reducible refine LeO.ite ?_ ?_)
      | (with_reducible refine LeO.bind ?_ (fun _ => ?_))
      | exact addr_Common.mono _ _ _
      | exact addr_In.mono _ _ _ _
      | exact addr_Parse.mono _ _
      | exact addr_Print.mono _ _
      | exact LeO.none _
      | refine LeO.ite ?_ ?_
      | refine LeO.bind ?_ (fun _ => ?_)
set_option maxHeartbeats 8000000 in
set_option maxRecDepth 100000 in
theorem conciergelaw3_begun.calls (k : Nat)  (r : Bool) (w : World) (h : conciergelaw3_begun.f k  = some r) (hG : Gl w) :
    Calls Tryd.prog 40 #[] w fun e w' => e = .returned (.bool r) ∧ Below w.heap.size w w' := by
  have HB := Aside0.mk (Below.refl w.heap.size w)
  have H : ((addr_Parse.f k (⟨#[49, 48, 46, 48, 46, 48, 46, 50, 53, 53]⟩ : ByteArray)).bind fun bt101 => ((addr_Parse.f k (⟨#[50, 48, 48, 49, 58, 68, 66, 56, 58, 58, 49]⟩ : ByteArray)).bind fun bt103 => (if bt101.2 = true then (if bt101.1.toList = ([10, 0, 0, 255] : List UInt8) then (if bt103.2 = true then (if (bt103.1.size : Int) = 16 then ((addr_Print.f k bt103.1).bind fun t105 => (if t105.toList = ([50, 48, 48, 49, 58, 100, 98, 56, 58, 58, 49] : List UInt8) then ((addr_Print.f k bt101.1).bind fun t106 => (if t106.toList = ([49, 48, 46, 48, 46, 48, 46, 50, 53, 53] : List UInt8) then ((addr_Common.f k bt101.1 bt101.1).bind fun t107 => (if t107 = 32 then ((addr_In.f k bt101.1 (⟨#[10, 0, 0, 0]⟩ : ByteArray) 8).bind fun t108 => (some t108)) else (some false))) else (some false))) else (some false))) else (some false)) else (some false)) else (some false)) else (some false)))) = some r := h
  clear h
  replace H := Option.bind_eq_some_iff.mp H
  obtain ⟨⟨t101, t102⟩, A10, H⟩ := H
  replace H : ((addr_Parse.f k (⟨#[50, 48, 48, 49, 58, 68, 66, 56, 58, 58, 49]⟩ : ByteArray)).bind fun bt103 => (if t102 = true then (if t101.toList = ([10, 0, 0, 255] : List UInt8) then (if bt103.2 = true then (if (bt103.1.size : Int) = 16 then ((addr_Print.f k bt103.1).bind fun t105 => (if t105.toList = ([50, 48, 48, 49, 58, 100, 98, 56, 58, 58, 49] : List UInt8) then ((addr_Print.f k t101).bind fun t106 => (if t106.toList = ([49, 48, 46, 48, 46, 48, 46, 50, 53, 53] : List UInt8) then ((addr_Common.f k t101 t101).bind fun t107 => (if t107 = 32 then ((addr_In.f k t101 (⟨#[10, 0, 0, 0]⟩ : ByteArray) 8).bind fun t108 => (some t108)) else (some false))) else (some false))) else (some false))) else (some false)) else (some false)) else (some false)) else (some false))) = some r := H
  have A1 := Aside0.mk A10
  clear A10
  replace H := Option.bind_eq_some_iff.mp H
  obtain ⟨⟨t103, t104⟩, A20, H⟩ := H
  replace H : (if t102 = true then (if t101.toList = ([10, 0, 0, 255] : List UInt8) then (if t104 = true then (if (t103.size : Int) = 16 then ((addr_Print.f k t103).bind fun t105 => (if t105.toList = ([50, 48, 48, 49, 58, 100, 98, 56, 58, 58, 49] : List UInt8) then ((addr_Print.f k t101).bind fun t106 => (if t106.toList = ([49, 48, 46, 48, 46, 48, 46, 50, 53, 53] : List UInt8) then ((addr_Common.f k t101 t101).bind fun t107 => (if t107 = 32 then ((addr_In.f k t101 (⟨#[10, 0, 0, 0]⟩ : ByteArray) 8).bind fun t108 => (some t108)) else (some false))) else (some false))) else (some false))) else (some false)) else (some false)) else (some false)) else (some false)) = some r := H
  have A2 := Aside0.mk A20
  clear A20
  by_cases c3 : t102 = true
  · subst c3
    have H1 : (if t101.toList = ([10, 0, 0, 255] : List UInt8) then (if t104 = true then (if (t103.size : Int) = 16 then ((addr_Print.f k t103).bind fun t105 => (if t105.toList = ([50, 48, 48, 49, 58, 100, 98, 56, 58, 58, 49] : List UInt8) then ((addr_Print.f k t101).bind fun t106 => (if t106.toList = ([49, 48, 46, 48, 46, 48, 46, 50, 53, 53] : List UInt8) then ((addr_Common.f k t101 t101).bind fun t107 => (if t107 = 32 then ((addr_In.f k t101 (⟨#[10, 0, 0, 0]⟩ : ByteArray) 8).bind fun t108 => (some t108)) else (some false))) else (some false))) else (some false))) else (some false)) else (some false)) else (some false)) = some r := by first | (rw [if_pos rfl] at H; exact H) | (rw [if_pos trivial] at H; exact H)
    clear H
    have H := H1
    clear H1
    by_cases c4 : t101.toList = ([10, 0, 0, 255] : List UInt8)
    · rw [if_pos c4] at H
      have c4b0 : (t101.toList == ([10, 0, 0, 255] : List UInt8)) = true := beq_iff_eq.mpr c4
      have c4b1 : (t101.toList != ([10, 0, 0, 255] : List UInt8)) = false := bne_eq_false_iff_eq.mpr c4
      clear c4
      by_cases c5 : t104 = true
      · subst c5
        have H1 : (if (t103.size : Int) = 16 then ((addr_Print.f k t103).bind fun t105 => (if t105.toList = ([50, 48, 48, 49, 58, 100, 98, 56, 58, 58, 49] : List UInt8) then ((addr_Print.f k t101).bind fun t106 => (if t106.toList = ([49, 48, 46, 48, 46, 48, 46, 50, 53, 53] : List UInt8) then ((addr_Common.f k t101 t101).bind fun t107 => (if t107 = 32 then ((addr_In.f k t101 (⟨#[10, 0, 0, 0]⟩ : ByteArray) 8).bind fun t108 => (some t108)) else (some false))) else (some false))) else (some false))) else (some false)) = some r := by first | (rw [if_pos rfl] at H; exact H) | (rw [if_pos trivial] at H; exact H)
        clear H
        have H := H1
        clear H1
        by_cases c6 : (t103.size : Int) = 16
        · rw [if_pos c6] at H
          have c6b0 : ((t103.size : Int) == 16) = true := beq_iff_eq.mpr c6
          have c6b1 : ((t103.size : Int) != 16) = false := bne_eq_false_iff_eq.mpr c6
          clear c6
          replace H := Option.bind_eq_some_iff.mp H
          obtain ⟨t105, A70, H⟩ := H
          replace H : (if t105.toList = ([50, 48, 48, 49, 58, 100, 98, 56, 58, 58, 49] : List UInt8) then ((addr_Print.f k t101).bind fun t106 => (if t106.toList = ([49, 48, 46, 48, 46, 48, 46, 50, 53, 53] : List UInt8) then ((addr_Common.f k t101 t101).bind fun t107 => (if t107 = 32 then ((addr_In.f k t101 (⟨#[10, 0, 0, 0]⟩ : ByteArray) 8).bind fun t108 => (some t108)) else (some false))) else (some false))) else (some false)) = some r := H
          have A7 := Aside0.mk A70
          clear A70
          by_cases c8 : t105.toList = ([50, 48, 48, 49, 58, 100, 98, 56, 58, 58, 49] : List UInt8)
          · rw [if_pos c8] at H
            have c8b0 : (t105.toList == ([50, 48, 48, 49, 58, 100, 98, 56, 58, 58, 49] : List UInt8)) = true := beq_iff_eq.mpr c8
            have c8b1 : (t105.toList != ([50, 48, 48, 49, 58, 100, 98, 56, 58, 58, 49] : List UInt8)) = false := bne_eq_false_iff_eq.mpr c8
            clear c8
            replace H := Option.bind_eq_some_iff.mp H
            obtain ⟨t106, A90, H⟩ := H
            replace H : (if t106.toList = ([49, 48, 46, 48, 46, 48, 46, 50, 53, 53] : List UInt8) then ((addr_Common.f k t101 t101).bind fun t107 => (if t107 = 32 then ((addr_In.f k t101 (⟨#[10, 0, 0, 0]⟩ : ByteArray) 8).bind fun t108 => (some t108)) else (some false))) else (some false)) = some r := H
            have A9 := Aside0.mk A90
            clear A90
            by_cases c10 : t106.toList = ([49, 48, 46, 48, 46, 48, 46, 50, 53, 53] : List UInt8)
            · rw [if_pos c10] at H
              have c10b0 : (t106.toList == ([49, 48, 46, 48, 46, 48, 46, 50, 53, 53] : List UInt8)) = true := beq_iff_eq.mpr c10
              have c10b1 : (t106.toList != ([49, 48, 46, 48, 46, 48, 46, 50, 53, 53] : List UInt8)) = false := bne_eq_false_iff_eq.mpr c10
              clear c10
              replace H := Option.bind_eq_some_iff.mp H
              obtain ⟨t107, A110, H⟩ := H
              replace H : (if t107 = 32 then ((addr_In.f k t101 (⟨#[10, 0, 0, 0]⟩ : ByteArray) 8).bind fun t108 => (some t108)) else (some false)) = some r := H
              have A11 := Aside0.mk A110
              clear A110
              by_cases c12 : t107 = 32
              · rw [if_pos c12] at H
                have c12b0 : (t107 == 32) = true := beq_iff_eq.mpr c12
                have c12b1 : (t107 != 32) = false := bne_eq_false_iff_eq.mpr c12
                clear c12
                replace H := Option.bind_eq_some_iff.mp H
                obtain ⟨t108, A130, H⟩ := H
                replace H : (some t108) = some r := H
                have A13 := Aside0.mk A130
                clear A130
                obtain rfl := Option.some.inj H
                go_enter Tryd.func40, Tryd.ntmps40
                go_wp2_with (first | ((with_reducible refine gate_callee (f := 41) rfl ?_); refine goesL_ (some 6) rfl rfl Tryd.func41 (by kernel_rfl) rfl #[.string (⟨#[49, 48, 46, 48, 46, 48, 46, 50, 53, 53]⟩ : ByteArray)] rfl (by (try simp only [List.map_toArray, List.map_cons, List.map_nil]); first | done | rfl | (simp only [List.length_drop, List.length_take]; rfl)) ?_; (with_reducible refine (addr_Parse.calls k (⟨#[49, 48, 46, 48, 46, 48, 46, 50, 53, 53]⟩ : ByteArray) t101 true _ A1.out (by first | exact hG | (refine Gl.below ?_ hG; (repeat (first | (with_reducible first | exact HB.out | apply below_alloc | apply pw_below_drewN | apply below_drew1) | exact HB.out)); done) | (refine Gl.drawn ?_ hG; (repeat (first | exact Drawn0.refl _ | apply Drawn0.step)); done))).mono ?_); rintro e w14 ⟨rfl, hb⟩; refine ⟨_, rfl, ?_⟩; have n0_ := Aside0.mk (below_step (by repeat (first | (with_reducible first | exact HB.out | apply below_alloc | apply pw_below_drewN | apply below_drew1) | exact HB.out)) hb); clear HB; have HB := n0_; clear n0_; (try clear hb); (try clear hb2); (try clear hk); (try clear hi)) | ((with_reducible refine gate_callee (f := 41) rfl ?_); refine goesL_ (some 10) rfl rfl Tryd.func41 (by kernel_rfl) rfl #[.string (⟨#[50, 48, 48, 49, 58, 68, 66, 56, 58, 58, 49]⟩ : ByteArray)] rfl (by (try simp only [List.map_toArray, List.map_cons, List.map_nil]); first | done | rfl | (simp only [List.length_drop, List.length_take]; rfl)) ?_; (with_reducible refine (addr_Parse.calls k (⟨#[50, 48, 48, 49, 58, 68, 66, 56, 58, 58, 49]⟩ : ByteArray) t103 true _ A2.out (by first | exact hG | (refine Gl.below ?_ hG; (repeat (first | (with_reducible first | exact HB.out | apply below_alloc | apply pw_below_drewN | apply below_drew1) | exact HB.out)); done) | (refine Gl.drawn ?_ hG; (repeat (first | exact Drawn0.refl _ | apply Drawn0.step)); done))).mono ?_); rintro e w15 ⟨rfl, hb⟩; refine ⟨_, rfl, ?_⟩; have n0_ := Aside0.mk (below_step (by repeat (first | (with_reducible first | exact HB.out | apply below_alloc | apply pw_below_drewN | apply below_drew1) | exact HB.out)) hb); clear HB; have HB := n0_; clear n0_; (try clear hb); (try clear hb2); (try clear hk); (try clear hi)) | (go_at_call 43; (with_reducible refine (addr_Print.calls k t103 t105 _ A7.out (by first | exact hG | (refine Gl.below ?_ hG; (repeat (first | (with_reducible first | exact HB.out | apply below_alloc | apply pw_below_drewN | apply below_drew1) | exact HB.out)); done) | (refine Gl.drawn ?_ hG; (repeat (first | exact Drawn0.refl _ | apply Drawn0.step)); done))).mono ?_); rintro e w16 ⟨rfl, hb⟩; have n0_ := Aside0.mk (below_step (by repeat (first | (with_reducible first | exact HB.out | apply below_alloc | apply pw_below_drewN | apply below_drew1) | exact HB.out)) hb); clear HB; have HB := n0_; clear n0_; (try clear hb); (try clear hb2); (try clear hk); (try clear hi)) | (go_at_call 43; (with_reducible refine (addr_Print.calls k t101 t106 _ A9.out (by first | exact hG | (refine Gl.below ?_ hG; (repeat (first | (with_reducible first | exact HB.out | apply below_alloc | apply pw_below_drewN | apply below_drew1) | exact HB.out)); done) | (refine Gl.drawn ?_ hG; (repeat (first | exact Drawn0.refl _ | apply Drawn0.step)); done))).mono ?_); rintro e w17 ⟨rfl, hb⟩; have n0_ := Aside0.mk (below_step (by repeat (first | (with_reducible first | exact HB.out | apply below_alloc | apply pw_below_drewN | apply below_drew1) | exact HB.out)) hb); clear HB; have HB := n0_; clear n0_; (try clear hb); (try clear hb2); (try clear hk); (try clear hi)) | (go_at_call 45; (with_reducible refine (addr_Common.calls k t101 t101 t107 _ A11.out).mono ?_); rintro e w' ⟨rfl, ⟨nd, rfl⟩⟩) | (go_at_call 46; (with_reducible refine (addr_In.calls k t101 (⟨#[10, 0, 0, 0]⟩ : ByteArray) 8 t108 _ A13.out).mono ?_); rintro e w' ⟨rfl, ⟨nd, rfl⟩⟩))
                go_ret
                exact ⟨by first | rfl | (simp only [isEmpty_beq, bne, Bool.not_not]; done) | (simp only [isEmpty_beq, bne, Bool.not_not]; rfl) | (simp [errW_none, errW_some] <;> rfl) | (simp [*, errW_none, errW_some] <;> rfl), by repeat (first | (with_reducible first | exact HB.out | apply below_alloc | apply pw_below_drewN | apply below_drew1) | exact HB.out)⟩
              · rw [if_neg c12] at H
                have c12b0 : (t107 == 32) = false := beq_eq_false_iff_ne.mpr c12
                have c12b1 : (t107 != 32) = true := bne_iff_ne.mpr c12
                obtain rfl := Option.some.inj H
                go_enter Tryd.func40, Tryd.ntmps40
                go_wp2_with (first | ((with_reducible refine gate_callee (f := 41) rfl ?_); refine goesL_ (some 6) rfl rfl Tryd.func41 (by kernel_rfl) rfl #[.string (⟨#[49, 48, 46, 48, 46, 48, 46, 50, 53, 53]⟩ : ByteArray)] rfl (by (try simp only [List.map_toArray, List.map_cons, List.map_nil]); first | done | rfl | (simp only [List.length_drop, List.length_take]; rfl)) ?_; (with_reducible refine (addr_Parse.calls k (⟨#[49, 48, 46, 48, 46, 48, 46, 50, 53, 53]⟩ : ByteArray) t101 true _ A1.out (by first | exact hG | (refine Gl.below ?_ hG; (repeat (first | (with_reducible first | exact HB.out | apply below_alloc | apply pw_below_drewN | apply below_drew1) | exact HB.out)); done) | (refine Gl.drawn ?_ hG; (repeat (first | exact Drawn0.refl _ | apply Drawn0.step)); done))).mono ?_); rintro e w18 ⟨rfl, hb⟩; refine ⟨_, rfl, ?_⟩; have n0_ := Aside0.mk (below_step (by repeat (first | (with_reducible first | exact HB.out | apply below_alloc | apply pw_below_drewN | apply below_drew1) | exact HB.out)) hb); clear HB; have HB := n0_; clear n0_; (try clear hb); (try clear hb2); (try clear hk); (try clear hi)) | ((with_reducible refine gate_callee (f := 41) rfl ?_); refine goesL_ (some 10) rfl rfl Tryd.func41 (by kernel_rfl) rfl #[.string (⟨#[50, 48, 48, 49, 58, 68, 66, 56, 58, 58, 49]⟩ : ByteArray)] rfl (by (try simp only [List.map_toArray, List.map_cons, List.map_nil]); first | done | rfl | (simp only [List.length_drop, List.length_take]; rfl)) ?_; (with_reducible refine (addr_Parse.calls k (⟨#[50, 48, 48, 49, 58, 68, 66, 56, 58, 58, 49]⟩ : ByteArray) t103 true _ A2.out (by first | exact hG | (refine Gl.below ?_ hG; (repeat (first | (with_reducible first | exact HB.out | apply below_alloc | apply pw_below_drewN | apply below_drew1) | exact HB.out)); done) | (refine Gl.drawn ?_ hG; (repeat (first | exact Drawn0.refl _ | apply Drawn0.step)); done))).mono ?_); rintro e w19 ⟨rfl, hb⟩; refine ⟨_, rfl, ?_⟩; have n0_ := Aside0.mk (below_step (by repeat (first | (with_reducible first | exact HB.out | apply below_alloc | apply pw_below_drewN | apply below_drew1) | exact HB.out)) hb); clear HB; have HB := n0_; clear n0_; (try clear hb); (try clear hb2); (try clear hk); (try clear hi)) | (go_at_call 43; (with_reducible refine (addr_Print.calls k t103 t105 _ A7.out (by first | exact hG | (refine Gl.below ?_ hG; (repeat (first | (with_reducible first | exact HB.out | apply below_alloc | apply pw_below_drewN | apply below_drew1) | exact HB.out)); done) | (refine Gl.drawn ?_ hG; (repeat (first | exact Drawn0.refl _ | apply Drawn0.step)); done))).mono ?_); rintro e w20 ⟨rfl, hb⟩; have n0_ := Aside0.mk (below_step (by repeat (first | (with_reducible first | exact HB.out | apply below_alloc | apply pw_below_drewN | apply below_drew1) | exact HB.out)) hb); clear HB; have HB := n0_; clear n0_; (try clear hb); (try clear hb2); (try clear hk); (try clear hi)) | (go_at_call 43; (with_reducible refine (addr_Print.calls k t101 t106 _ A9.out (by first | exact hG | (refine Gl.below ?_ hG; (repeat (first | (with_reducible first | exact HB.out | apply below_alloc | apply pw_below_drewN | apply below_drew1) | exact HB.out)); done) | (refine Gl.drawn ?_ hG; (repeat (first | exact Drawn0.refl _ | apply Drawn0.step)); done))).mono ?_); rintro e w21 ⟨rfl, hb⟩; have n0_ := Aside0.mk (below_step (by repeat (first | (with_reducible first | exact HB.out | apply below_alloc | apply pw_below_drewN | apply below_drew1) | exact HB.out)) hb); clear HB; have HB := n0_; clear n0_; (try clear hb); (try clear hb2); (try clear hk); (try clear hi)) | (go_at_call 45; (with_reducible refine (addr_Common.calls k t101 t101 t107 _ A11.out).mono ?_); rintro e w' ⟨rfl, ⟨nd, rfl⟩⟩))
                go_ret
                exact ⟨by first | rfl | (simp only [isEmpty_beq, bne, Bool.not_not]; done) | (simp only [isEmpty_beq, bne, Bool.not_not]; rfl) | (simp [errW_none, errW_some] <;> rfl) | (simp [*, errW_none, errW_some] <;> rfl), by repeat (first | (with_reducible first | exact HB.out | apply below_alloc | apply pw_below_drewN | apply below_drew1) | exact HB.out)⟩
            · rw [if_neg c10] at H
              have c10b0 : (t106.toList == ([49, 48, 46, 48, 46, 48, 46, 50, 53, 53] : List UInt8)) = false := beq_eq_false_iff_ne.mpr c10
              have c10b1 : (t106.toList != ([49, 48, 46, 48, 46, 48, 46, 50, 53, 53] : List UInt8)) = true := bne_iff_ne.mpr c10
              obtain rfl := Option.some.inj H
              go_enter Tryd.func40, Tryd.ntmps40
              go_wp2_with (first | ((with_reducible refine gate_callee (f := 41) rfl ?_); refine goesL_ (some 6) rfl rfl Tryd.func41 (by kernel_rfl) rfl #[.string (⟨#[49, 48, 46, 48, 46, 48, 46, 50, 53, 53]⟩ : ByteArray)] rfl (by (try simp only [List.map_toArray, List.map_cons, List.map_nil]); first | done | rfl | (simp only [List.length_drop, List.length_take]; rfl)) ?_; (with_reducible refine (addr_Parse.calls k (⟨#[49, 48, 46, 48, 46, 48, 46, 50, 53, 53]⟩ : ByteArray) t101 true _ A1.out (by first | exact hG | (refine Gl.below ?_ hG; (repeat (first | (with_reducible first | exact HB.out | apply below_alloc | apply pw_below_drewN | apply below_drew1) | exact HB.out)); done) | (refine Gl.drawn ?_ hG; (repeat (first | exact Drawn0.refl _ | apply Drawn0.step)); done))).mono ?_); rintro e w22 ⟨rfl, hb⟩; refine ⟨_, rfl, ?_⟩; have n0_ := Aside0.mk (below_step (by repeat (first | (with_reducible first | exact HB.out | apply below_alloc | apply pw_below_drewN | apply below_drew1) | exact HB.out)) hb); clear HB; have HB := n0_; clear n0_; (try clear hb); (try clear hb2); (try clear hk); (try clear hi)) | ((with_reducible refine gate_callee (f := 41) rfl ?_); refine goesL_ (some 10) rfl rfl Tryd.func41 (by kernel_rfl) rfl #[.string (⟨#[50, 48, 48, 49, 58, 68, 66, 56, 58, 58, 49]⟩ : ByteArray)] rfl (by (try simp only [List.map_toArray, List.map_cons, List.map_nil]); first | done | rfl | (simp only [List.length_drop, List.length_take]; rfl)) ?_; (with_reducible refine (addr_Parse.calls k (⟨#[50, 48, 48, 49, 58, 68, 66, 56, 58, 58, 49]⟩ : ByteArray) t103 true _ A2.out (by first | exact hG | (refine Gl.below ?_ hG; (repeat (first | (with_reducible first | exact HB.out | apply below_alloc | apply pw_below_drewN | apply below_drew1) | exact HB.out)); done) | (refine Gl.drawn ?_ hG; (repeat (first | exact Drawn0.refl _ | apply Drawn0.step)); done))).mono ?_); rintro e w23 ⟨rfl, hb⟩; refine ⟨_, rfl, ?_⟩; have n0_ := Aside0.mk (below_step (by repeat (first | (with_reducible first | exact HB.out | apply below_alloc | apply pw_below_drewN | apply below_drew1) | exact HB.out)) hb); clear HB; have HB := n0_; clear n0_; (try clear hb); (try clear hb2); (try clear hk); (try clear hi)) | (go_at_call 43; (with_reducible refine (addr_Print.calls k t103 t105 _ A7.out (by first | exact hG | (refine Gl.below ?_ hG; (repeat (first | (with_reducible first | exact HB.out | apply below_alloc | apply pw_below_drewN | apply below_drew1) | exact HB.out)); done) | (refine Gl.drawn ?_ hG; (repeat (first | exact Drawn0.refl _ | apply Drawn0.step)); done))).mono ?_); rintro e w24 ⟨rfl, hb⟩; have n0_ := Aside0.mk (below_step (by repeat (first | (with_reducible first | exact HB.out | apply below_alloc | apply pw_below_drewN | apply below_drew1) | exact HB.out)) hb); clear HB; have HB := n0_; clear n0_; (try clear hb); (try clear hb2); (try clear hk); (try clear hi)) | (go_at_call 43; (with_reducible refine (addr_Print.calls k t101 t106 _ A9.out (by first | exact hG | (refine Gl.below ?_ hG; (repeat (first | (with_reducible first | exact HB.out | apply below_alloc | apply pw_below_drewN | apply below_drew1) | exact HB.out)); done) | (refine Gl.drawn ?_ hG; (repeat (first | exact Drawn0.refl _ | apply Drawn0.step)); done))).mono ?_); rintro e w25 ⟨rfl, hb⟩; have n0_ := Aside0.mk (below_step (by repeat (first | (with_reducible first | exact HB.out | apply below_alloc | apply pw_below_drewN | apply below_drew1) | exact HB.out)) hb); clear HB; have HB := n0_; clear n0_; (try clear hb); (try clear hb2); (try clear hk); (try clear hi)))
              go_ret
              exact ⟨by first | rfl | (simp only [isEmpty_beq, bne, Bool.not_not]; done) | (simp only [isEmpty_beq, bne, Bool.not_not]; rfl) | (simp [errW_none, errW_some] <;> rfl) | (simp [*, errW_none, errW_some] <;> rfl), by repeat (first | (with_reducible first | exact HB.out | apply below_alloc | apply pw_below_drewN | apply below_drew1) | exact HB.out)⟩
          · rw [if_neg c8] at H
            have c8b0 : (t105.toList == ([50, 48, 48, 49, 58, 100, 98, 56, 58, 58, 49] : List UInt8)) = false := beq_eq_false_iff_ne.mpr c8
            have c8b1 : (t105.toList != ([50, 48, 48, 49, 58, 100, 98, 56, 58, 58, 49] : List UInt8)) = true := bne_iff_ne.mpr c8
            obtain rfl := Option.some.inj H
            go_enter Tryd.func40, Tryd.ntmps40
            go_wp2_with (first | ((with_reducible refine gate_callee (f := 41) rfl ?_); refine goesL_ (some 6) rfl rfl Tryd.func41 (by kernel_rfl) rfl #[.string (⟨#[49, 48, 46, 48, 46, 48, 46, 50, 53, 53]⟩ : ByteArray)] rfl (by (try simp only [List.map_toArray, List.map_cons, List.map_nil]); first | done | rfl | (simp only [List.length_drop, List.length_take]; rfl)) ?_; (with_reducible refine (addr_Parse.calls k (⟨#[49, 48, 46, 48, 46, 48, 46, 50, 53, 53]⟩ : ByteArray) t101 true _ A1.out (by first | exact hG | (refine Gl.below ?_ hG; (repeat (first | (with_reducible first | exact HB.out | apply below_alloc | apply pw_below_drewN | apply below_drew1) | exact HB.out)); done) | (refine Gl.drawn ?_ hG; (repeat (first | exact Drawn0.refl _ | apply Drawn0.step)); done))).mono ?_); rintro e w26 ⟨rfl, hb⟩; refine ⟨_, rfl, ?_⟩; have n0_ := Aside0.mk (below_step (by repeat (first | (with_reducible first | exact HB.out | apply below_alloc | apply pw_below_drewN | apply below_drew1) | exact HB.out)) hb); clear HB; have HB := n0_; clear n0_; (try clear hb); (try clear hb2); (try clear hk); (try clear hi)) | ((with_reducible refine gate_callee (f := 41) rfl ?_); refine goesL_ (some 10) rfl rfl Tryd.func41 (by kernel_rfl) rfl #[.string (⟨#[50, 48, 48, 49, 58, 68, 66, 56, 58, 58, 49]⟩ : ByteArray)] rfl (by (try simp only [List.map_toArray, List.map_cons, List.map_nil]); first | done | rfl | (simp only [List.length_drop, List.length_take]; rfl)) ?_; (with_reducible refine (addr_Parse.calls k (⟨#[50, 48, 48, 49, 58, 68, 66, 56, 58, 58, 49]⟩ : ByteArray) t103 true _ A2.out (by first | exact hG | (refine Gl.below ?_ hG; (repeat (first | (with_reducible first | exact HB.out | apply below_alloc | apply pw_below_drewN | apply below_drew1) | exact HB.out)); done) | (refine Gl.drawn ?_ hG; (repeat (first | exact Drawn0.refl _ | apply Drawn0.step)); done))).mono ?_); rintro e w27 ⟨rfl, hb⟩; refine ⟨_, rfl, ?_⟩; have n0_ := Aside0.mk (below_step (by repeat (first | (with_reducible first | exact HB.out | apply below_alloc | apply pw_below_drewN | apply below_drew1) | exact HB.out)) hb); clear HB; have HB := n0_; clear n0_; (try clear hb); (try clear hb2); (try clear hk); (try clear hi)) | (go_at_call 43; (with_reducible refine (addr_Print.calls k t103 t105 _ A7.out (by first | exact hG | (refine Gl.below ?_ hG; (repeat (first | (with_reducible first | exact HB.out | apply below_alloc | apply pw_below_drewN | apply below_drew1) | exact HB.out)); done) | (refine Gl.drawn ?_ hG; (repeat (first | exact Drawn0.refl _ | apply Drawn0.step)); done))).mono ?_); rintro e w28 ⟨rfl, hb⟩; have n0_ := Aside0.mk (below_step (by repeat (first | (with_reducible first | exact HB.out | apply below_alloc | apply pw_below_drewN | apply below_drew1) | exact HB.out)) hb); clear HB; have HB := n0_; clear n0_; (try clear hb); (try clear hb2); (try clear hk); (try clear hi)))
            go_ret
            exact ⟨by first | rfl | (simp only [isEmpty_beq, bne, Bool.not_not]; done) | (simp only [isEmpty_beq, bne, Bool.not_not]; rfl) | (simp [errW_none, errW_some] <;> rfl) | (simp [*, errW_none, errW_some] <;> rfl), by repeat (first | (with_reducible first | exact HB.out | apply below_alloc | apply pw_below_drewN | apply below_drew1) | exact HB.out)⟩
        · rw [if_neg c6] at H
          have c6b0 : ((t103.size : Int) == 16) = false := beq_eq_false_iff_ne.mpr c6
          have c6b1 : ((t103.size : Int) != 16) = true := bne_iff_ne.mpr c6
          obtain rfl := Option.some.inj H
          go_enter Tryd.func40, Tryd.ntmps40
          go_wp2_with (first | ((with_reducible refine gate_callee (f := 41) rfl ?_); refine goesL_ (some 6) rfl rfl Tryd.func41 (by kernel_rfl) rfl #[.string (⟨#[49, 48, 46, 48, 46, 48, 46, 50, 53, 53]⟩ : ByteArray)] rfl (by (try simp only [List.map_toArray, List.map_cons, List.map_nil]); first | done | rfl | (simp only [List.length_drop, List.length_take]; rfl)) ?_; (with_reducible refine (addr_Parse.calls k (⟨#[49, 48, 46, 48, 46, 48, 46, 50, 53, 53]⟩ : ByteArray) t101 true _ A1.out (by first | exact hG | (refine Gl.below ?_ hG; (repeat (first | (with_reducible first | exact HB.out | apply below_alloc | apply pw_below_drewN | apply below_drew1) | exact HB.out)); done) | (refine Gl.drawn ?_ hG; (repeat (first | exact Drawn0.refl _ | apply Drawn0.step)); done))).mono ?_); rintro e w29 ⟨rfl, hb⟩; refine ⟨_, rfl, ?_⟩; have n0_ := Aside0.mk (below_step (by repeat (first | (with_reducible first | exact HB.out | apply below_alloc | apply pw_below_drewN | apply below_drew1) | exact HB.out)) hb); clear HB; have HB := n0_; clear n0_; (try clear hb); (try clear hb2); (try clear hk); (try clear hi)) | ((with_reducible refine gate_callee (f := 41) rfl ?_); refine goesL_ (some 10) rfl rfl Tryd.func41 (by kernel_rfl) rfl #[.string (⟨#[50, 48, 48, 49, 58, 68, 66, 56, 58, 58, 49]⟩ : ByteArray)] rfl (by (try simp only [List.map_toArray, List.map_cons, List.map_nil]); first | done | rfl | (simp only [List.length_drop, List.length_take]; rfl)) ?_; (with_reducible refine (addr_Parse.calls k (⟨#[50, 48, 48, 49, 58, 68, 66, 56, 58, 58, 49]⟩ : ByteArray) t103 true _ A2.out (by first | exact hG | (refine Gl.below ?_ hG; (repeat (first | (with_reducible first | exact HB.out | apply below_alloc | apply pw_below_drewN | apply below_drew1) | exact HB.out)); done) | (refine Gl.drawn ?_ hG; (repeat (first | exact Drawn0.refl _ | apply Drawn0.step)); done))).mono ?_); rintro e w30 ⟨rfl, hb⟩; refine ⟨_, rfl, ?_⟩; have n0_ := Aside0.mk (below_step (by repeat (first | (with_reducible first | exact HB.out | apply below_alloc | apply pw_below_drewN | apply below_drew1) | exact HB.out)) hb); clear HB; have HB := n0_; clear n0_; (try clear hb); (try clear hb2); (try clear hk); (try clear hi)))
          go_ret
          exact ⟨by first | rfl | (simp only [isEmpty_beq, bne, Bool.not_not]; done) | (simp only [isEmpty_beq, bne, Bool.not_not]; rfl) | (simp [errW_none, errW_some] <;> rfl) | (simp [*, errW_none, errW_some] <;> rfl), by repeat (first | (with_reducible first | exact HB.out | apply below_alloc | apply pw_below_drewN | apply below_drew1) | exact HB.out)⟩
      · replace c5 := Bool.eq_false_iff.mpr c5
        subst c5
        have H1 : (some false) = some r := by rw [if_neg (show ¬ (false = true) by decide)] at H; exact H
        clear H
        have H := H1
        clear H1
        obtain rfl := Option.some.inj H
        go_enter Tryd.func40, Tryd.ntmps40
        go_wp2_with (first | ((with_reducible refine gate_callee (f := 41) rfl ?_); refine goesL_ (some 6) rfl rfl Tryd.func41 (by kernel_rfl) rfl #[.string (⟨#[49, 48, 46, 48, 46, 48, 46, 50, 53, 53]⟩ : ByteArray)] rfl (by (try simp only [List.map_toArray, List.map_cons, List.map_nil]); first | done | rfl | (simp only [List.length_drop, List.length_take]; rfl)) ?_; (with_reducible refine (addr_Parse.calls k (⟨#[49, 48, 46, 48, 46, 48, 46, 50, 53, 53]⟩ : ByteArray) t101 true _ A1.out (by first | exact hG | (refine Gl.below ?_ hG; (repeat (first | (with_reducible first | exact HB.out | apply below_alloc | apply pw_below_drewN | apply below_drew1) | exact HB.out)); done) | (refine Gl.drawn ?_ hG; (repeat (first | exact Drawn0.refl _ | apply Drawn0.step)); done))).mono ?_); rintro e w31 ⟨rfl, hb⟩; refine ⟨_, rfl, ?_⟩; have n0_ := Aside0.mk (below_step (by repeat (first | (with_reducible first | exact HB.out | apply below_alloc | apply pw_below_drewN | apply below_drew1) | exact HB.out)) hb); clear HB; have HB := n0_; clear n0_; (try clear hb); (try clear hb2); (try clear hk); (try clear hi)) | ((with_reducible refine gate_callee (f := 41) rfl ?_); refine goesL_ (some 10) rfl rfl Tryd.func41 (by kernel_rfl) rfl #[.string (⟨#[50, 48, 48, 49, 58, 68, 66, 56, 58, 58, 49]⟩ : ByteArray)] rfl (by (try simp only [List.map_toArray, List.map_cons, List.map_nil]); first | done | rfl | (simp only [List.length_drop, List.length_take]; rfl)) ?_; (with_reducible refine (addr_Parse.calls k (⟨#[50, 48, 48, 49, 58, 68, 66, 56, 58, 58, 49]⟩ : ByteArray) t103 false _ A2.out (by first | exact hG | (refine Gl.below ?_ hG; (repeat (first | (with_reducible first | exact HB.out | apply below_alloc | apply pw_below_drewN | apply below_drew1) | exact HB.out)); done) | (refine Gl.drawn ?_ hG; (repeat (first | exact Drawn0.refl _ | apply Drawn0.step)); done))).mono ?_); rintro e w32 ⟨rfl, hb⟩; refine ⟨_, rfl, ?_⟩; have n0_ := Aside0.mk (below_step (by repeat (first | (with_reducible first | exact HB.out | apply below_alloc | apply pw_below_drewN | apply below_drew1) | exact HB.out)) hb); clear HB; have HB := n0_; clear n0_; (try clear hb); (try clear hb2); (try clear hk); (try clear hi)))
        go_ret
        exact ⟨by first | rfl | (simp only [isEmpty_beq, bne, Bool.not_not]; done) | (simp only [isEmpty_beq, bne, Bool.not_not]; rfl) | (simp [errW_none, errW_some] <;> rfl) | (simp [*, errW_none, errW_some] <;> rfl), by repeat (first | (with_reducible first | exact HB.out | apply below_alloc | apply pw_below_drewN | apply below_drew1) | exact HB.out)⟩
    · rw [if_neg c4] at H
      have c4b0 : (t101.toList == ([10, 0, 0, 255] : List UInt8)) = false := beq_eq_false_iff_ne.mpr c4
      have c4b1 : (t101.toList != ([10, 0, 0, 255] : List UInt8)) = true := bne_iff_ne.mpr c4
      obtain rfl := Option.some.inj H
      go_enter Tryd.func40, Tryd.ntmps40
      go_wp2_with (first | ((with_reducible refine gate_callee (f := 41) rfl ?_); refine goesL_ (some 6) rfl rfl Tryd.func41 (by kernel_rfl) rfl #[.string (⟨#[49, 48, 46, 48, 46, 48, 46, 50, 53, 53]⟩ : ByteArray)] rfl (by (try simp only [List.map_toArray, List.map_cons, List.map_nil]); first | done | rfl | (simp only [List.length_drop, List.length_take]; rfl)) ?_; (with_reducible refine (addr_Parse.calls k (⟨#[49, 48, 46, 48, 46, 48, 46, 50, 53, 53]⟩ : ByteArray) t101 true _ A1.out (by first | exact hG | (refine Gl.below ?_ hG; (repeat (first | (with_reducible first | exact HB.out | apply below_alloc | apply pw_below_drewN | apply below_drew1) | exact HB.out)); done) | (refine Gl.drawn ?_ hG; (repeat (first | exact Drawn0.refl _ | apply Drawn0.step)); done))).mono ?_); rintro e w33 ⟨rfl, hb⟩; refine ⟨_, rfl, ?_⟩; have n0_ := Aside0.mk (below_step (by repeat (first | (with_reducible first | exact HB.out | apply below_alloc | apply pw_below_drewN | apply below_drew1) | exact HB.out)) hb); clear HB; have HB := n0_; clear n0_; (try clear hb); (try clear hb2); (try clear hk); (try clear hi)) | ((with_reducible refine gate_callee (f := 41) rfl ?_); refine goesL_ (some 10) rfl rfl Tryd.func41 (by kernel_rfl) rfl #[.string (⟨#[50, 48, 48, 49, 58, 68, 66, 56, 58, 58, 49]⟩ : ByteArray)] rfl (by (try simp only [List.map_toArray, List.map_cons, List.map_nil]); first | done | rfl | (simp only [List.length_drop, List.length_take]; rfl)) ?_; (with_reducible refine (addr_Parse.calls k (⟨#[50, 48, 48, 49, 58, 68, 66, 56, 58, 58, 49]⟩ : ByteArray) t103 t104 _ A2.out (by first | exact hG | (refine Gl.below ?_ hG; (repeat (first | (with_reducible first | exact HB.out | apply below_alloc | apply pw_below_drewN | apply below_drew1) | exact HB.out)); done) | (refine Gl.drawn ?_ hG; (repeat (first | exact Drawn0.refl _ | apply Drawn0.step)); done))).mono ?_); rintro e w34 ⟨rfl, hb⟩; refine ⟨_, rfl, ?_⟩; have n0_ := Aside0.mk (below_step (by repeat (first | (with_reducible first | exact HB.out | apply below_alloc | apply pw_below_drewN | apply below_drew1) | exact HB.out)) hb); clear HB; have HB := n0_; clear n0_; (try clear hb); (try clear hb2); (try clear hk); (try clear hi)))
      go_ret
      exact ⟨by first | rfl | (simp only [isEmpty_beq, bne, Bool.not_not]; done) | (simp only [isEmpty_beq, bne, Bool.not_not]; rfl) | (simp [errW_none, errW_some] <;> rfl) | (simp [*, errW_none, errW_some] <;> rfl), by repeat (first | (with_reducible first | exact HB.out | apply below_alloc | apply pw_below_drewN | apply below_drew1) | exact HB.out)⟩
  · replace c3 := Bool.eq_false_iff.mpr c3
    subst c3
    have H1 : (some false) = some r := by rw [if_neg (show ¬ (false = true) by decide)] at H; exact H
    clear H
    have H := H1
    clear H1
    obtain rfl := Option.some.inj H
    go_enter Tryd.func40, Tryd.ntmps40
    go_wp2_with (first | ((with_reducible refine gate_callee (f := 41) rfl ?_); refine goesL_ (some 6) rfl rfl Tryd.func41 (by kernel_rfl) rfl #[.string (⟨#[49, 48, 46, 48, 46, 48, 46, 50, 53, 53]⟩ : ByteArray)] rfl (by (try simp only [List.map_toArray, List.map_cons, List.map_nil]); first | done | rfl | (simp only [List.length_drop, List.length_take]; rfl)) ?_; (with_reducible refine (addr_Parse.calls k (⟨#[49, 48, 46, 48, 46, 48, 46, 50, 53, 53]⟩ : ByteArray) t101 false _ A1.out (by first | exact hG | (refine Gl.below ?_ hG; (repeat (first | (with_reducible first | exact HB.out | apply below_alloc | apply pw_below_drewN | apply below_drew1) | exact HB.out)); done) | (refine Gl.drawn ?_ hG; (repeat (first | exact Drawn0.refl _ | apply Drawn0.step)); done))).mono ?_); rintro e w35 ⟨rfl, hb⟩; refine ⟨_, rfl, ?_⟩; have n0_ := Aside0.mk (below_step (by repeat (first | (with_reducible first | exact HB.out | apply below_alloc | apply pw_below_drewN | apply below_drew1) | exact HB.out)) hb); clear HB; have HB := n0_; clear n0_; (try clear hb); (try clear hb2); (try clear hk); (try clear hi)) | ((with_reducible refine gate_callee (f := 41) rfl ?_); refine goesL_ (some 10) rfl rfl Tryd.func41 (by kernel_rfl) rfl #[.string (⟨#[50, 48, 48, 49, 58, 68, 66, 56, 58, 58, 49]⟩ : ByteArray)] rfl (by (try simp only [List.map_toArray, List.map_cons, List.map_nil]); first | done | rfl | (simp only [List.length_drop, List.length_take]; rfl)) ?_; (with_reducible refine (addr_Parse.calls k (⟨#[50, 48, 48, 49, 58, 68, 66, 56, 58, 58, 49]⟩ : ByteArray) t103 t104 _ A2.out (by first | exact hG | (refine Gl.below ?_ hG; (repeat (first | (with_reducible first | exact HB.out | apply below_alloc | apply pw_below_drewN | apply below_drew1) | exact HB.out)); done) | (refine Gl.drawn ?_ hG; (repeat (first | exact Drawn0.refl _ | apply Drawn0.step)); done))).mono ?_); rintro e w36 ⟨rfl, hb⟩; refine ⟨_, rfl, ?_⟩; have n0_ := Aside0.mk (below_step (by repeat (first | (with_reducible first | exact HB.out | apply below_alloc | apply pw_below_drewN | apply below_drew1) | exact HB.out)) hb); clear HB; have HB := n0_; clear n0_; (try clear hb); (try clear hb2); (try clear hk); (try clear hi)))
    go_ret
    exact ⟨by first | rfl | (simp only [isEmpty_beq, bne, Bool.not_not]; done) | (simp only [isEmpty_beq, bne, Bool.not_not]; rfl) | (simp [errW_none, errW_some] <;> rfl) | (simp [*, errW_none, errW_some] <;> rfl), by repeat (first | (with_reducible first | exact HB.out | apply below_alloc | apply pw_below_drewN | apply below_drew1) | exact HB.out)⟩

/-! ### conciergelaw3_AddrPrefix: function 10 -/
mutual
def conciergelaw3_AddrPrefix.j0 : Nat → ByteArray → ByteArray → Bool → Bool → Option (Bool)
  | 0, _, _, _, _ => none
  | k + 1, x0, x1, x5, x29 => if x29 = true then (some x5) else ((addr_Common.f k x0 x1).bind fun t112 => (conciergelaw3_AddrPrefix.l0 k x0 x1 x5 t112 0))
def conciergelaw3_AddrPrefix.l0 : Nat → ByteArray → ByteArray → Bool → Int → Int → Option (Bool)
  | 0, _, _, _, _, _ => none
  | k + 1, x0, x1, x5, x6, x7 => if x7 ≤ (wrap64 (8 * (x0.size : Int))) then ((addr_In.f k x0 x0 x7).bind fun t115 => (if t115 = true then ((addr_In.f k x0 x1 x7).bind fun t116 => (if (t116 != (decide (x7 ≤ x6))) = true then (some false) else (conciergelaw3_AddrPrefix.l0 k x0 x1 x5 x6 (wrap64 (x7 + 1))))) else (some false))) else (if x5 = true then ((addr_In.f k x0 x0 (wrap64 ((wrap64 (8 * (x0.size : Int))) + 1))).bind fun t113 => (if t113 = true then (some false) else ((addr_In.f k x0 x0 (-1)).bind fun t114 => (if t114 = true then (some false) else (some ((x6 == (wrap64 (8 * (x0.size : Int)))) == (x0.toList == x1.toList))))))) else (some false))
end
def conciergelaw3_AddrPrefix.f (k : Nat) (a0 : ByteArray) (a1 : ByteArray) : Option (Bool) := (conciergelaw3_begun.f k).bind fun t109 => (if t109 = true then ((conciergelaw2_Cut.f a0 16).bind fun t110 => ((conciergelaw2_Cut.f a1 16).bind fun t111 => (if (t110.size : Int) = (t111.size : Int) then (if (t110.size : Int) = 4 then (conciergelaw3_AddrPrefix.j0 k t110 t111 t109 false) else (conciergelaw3_AddrPrefix.j0 k t110 t111 t109 ((t110.size : Int) != 16))) else (conciergelaw3_AddrPrefix.j0 k t110 t111 t109 true)))) else (some false))
theorem conciergelaw3_AddrPrefix.mono_l : ∀ k, (∀ y0 y1 y2 y3, LeO (conciergelaw3_AddrPrefix.j0 k y0 y1 y2 y3) (conciergelaw3_AddrPrefix.j0 (k + 1) y0 y1 y2 y3)) ∧ (∀ y0 y1 y2 y3 y4, LeO (conciergelaw3_AddrPrefix.l0 k y0 y1 y2 y3 y4) (conciergelaw3_AddrPrefix.l0 (k + 1) y0 y1 y2 y3 y4))
  | 0 => ⟨fun _ _ _ _ r h => by simp [conciergelaw3_AddrPrefix.j0] at h, fun _ _ _ _ _ r h => by simp [conciergelaw3_AddrPrefix.l0] at h⟩
  | k + 1 => by
    obtain ⟨ih0, ih1⟩ := conciergelaw3_AddrPrefix.mono_l k
    refine ⟨?_, ?_⟩
    · intro y0 y1 y2 y3
      unfold conciergelaw3_AddrPrefix.j0
      repeat' first
      | (with_reducible exact ih0 _ _ _ _)
      | (with_reducible exact ih1 _ _ _ _ _)
      | (with_reducible exact addr_Common.mono _ _ _)
      | (with_reducible exact addr_In.mono _ _ _ _)
      | (with_reducible exact conciergelaw3_begun.mono _)
      | (with_reducible exact LeO.refl _)
      | (with_reducible exact LeO.none _)
      | (with_reducible refine LeO.ite ?_ ?_)
      | (with_reducible refine LeO.bind ?_ (fun _ => ?_))
      | exact ih0 _ _ _ _
      | exact ih1 _ _ _ _ _
      | exact addr_Common.mono _ _ _
      | exact addr_In.mono _ _ _ _
      | exact conciergelaw3_begun.mono _
      | exact LeO.none _
      | refine LeO.ite ?_ ?_
      | refine LeO.bind ?_ (fun _ => ?_)
    · intro y0 y1 y2 y3 y4
      unfold conciergelaw3_AddrPrefix.l0
      repeat' first
      | (with_reducible exact ih0 _ _ _ _)
      | (with_reducible exact ih1 _ _ _ _ _)
      | (with_reducible exact addr_Common.mono _ _ _)
      | (with_reducible exact addr_In.mono _ _ _ _)
      | (with_reducible exact conciergelaw3_begun.mono _)
      | (with_reducible exact LeO.refl _)
      | (with_reducible exact LeO.none _)
      | (with_reducible refine LeO.ite ?_ ?_)
      | (with_reducible refine LeO.bind ?_ (fun _ => ?_))
      | exact ih0 _ _ _ _
      | exact ih1 _ _ _ _ _
      | exact addr_Common.mono _ _ _
      | exact addr_In.mono _ _ _ _
      | exact conciergelaw3_begun.mono _
      | exact LeO.none _
      | refine LeO.ite ?_ ?_
      | refine LeO.bind ?_ (fun _ => ?_)
theorem conciergelaw3_AddrPrefix.mono : ∀ a0 a1 k, LeO (conciergelaw3_AddrPrefix.f k a0 a1) (conciergelaw3_AddrPrefix.f (k + 1) a0 a1) := by
  intro a0 a1 k
  obtain ⟨ih0, ih1⟩ := conciergelaw3_AddrPrefix.mono_l k
  unfold conciergelaw3_AddrPrefix.f
  repeat' first
      | (with_reducible exact ih0 _ _ _ _)
      | (with_reducible exact ih1 _ _ _ _ _)
      | (with_reducible exact addr_Common.mono _ _ _)
      | (with_reducible exact addr_In.mono _ _ _ _)
      | (with_reducible exact conciergelaw3_begun.mono _)
      | (with_reducible exact LeO.refl _)
      | (with_reducible exact LeO.none _)
      | (with_reducible refine LeO.ite ?_ ?_)
      | (with_reducible refine LeO.bind ?_ (fun _ => ?_))
      | exact ih0 _ _ _ _
      | exact ih1 _ _ _ _ _
      | exact addr_Common.mono _ _ _
      | exact addr_In.mono _ _ _ _
      | exact conciergelaw3_begun.mono _
      | exact LeO.none _
      | refine LeO.ite ?_ ?_
      | refine LeO.bind ?_ (fun _ => ?_)
set_option maxHeartbeats 8000000 in
set_option maxRecDepth 100000 in
theorem conciergelaw3_AddrPrefix.calls (k : Nat) (a0 : ByteArray) (a1 : ByteArray) (r : Bool) (w : World) (h : conciergelaw3_AddrPrefix.f k a0 a1 = some r) (hG : Gl w) :
    Calls Tryd.prog 10 #[.string a0, .string a1] w fun e w' => e = .returned (.bool r) ∧ Below w.heap.size w w' := by
  have HB := Aside0.mk (Below.refl w.heap.size w)
  have H : ((conciergelaw3_begun.f k).bind fun t109 => (if t109 = true then ((conciergelaw2_Cut.f a0 16).bind fun t110 => ((conciergelaw2_Cut.f a1 16).bind fun t111 => (if (t110.size : Int) = (t111.size : Int) then (if (t110.size : Int) = 4 then (conciergelaw3_AddrPrefix.j0 k t110 t111 t109 false) else (conciergelaw3_AddrPrefix.j0 k t110 t111 t109 ((t110.size : Int) != 16))) else (conciergelaw3_AddrPrefix.j0 k t110 t111 t109 true)))) else (some false))) = some r := h
  clear h
  replace H := Option.bind_eq_some_iff.mp H
  obtain ⟨t109, A30, H⟩ := H
  replace H : (if t109 = true then ((conciergelaw2_Cut.f a0 16).bind fun t110 => ((conciergelaw2_Cut.f a1 16).bind fun t111 => (if (t110.size : Int) = (t111.size : Int) then (if (t110.size : Int) = 4 then (conciergelaw3_AddrPrefix.j0 k t110 t111 t109 false) else (conciergelaw3_AddrPrefix.j0 k t110 t111 t109 ((t110.size : Int) != 16))) else (conciergelaw3_AddrPrefix.j0 k t110 t111 t109 true)))) else (some false)) = some r := H
  have A3 := Aside0.mk A30
  clear A30
  by_cases c4 : t109 = true
  · subst c4
    have H1 : ((conciergelaw2_Cut.f a0 16).bind fun t110 => ((conciergelaw2_Cut.f a1 16).bind fun t111 => (if (t110.size : Int) = (t111.size : Int) then (if (t110.size : Int) = 4 then (conciergelaw3_AddrPrefix.j0 k t110 t111 true false) else (conciergelaw3_AddrPrefix.j0 k t110 t111 true ((t110.size : Int) != 16))) else (conciergelaw3_AddrPrefix.j0 k t110 t111 true true)))) = some r := by first | (rw [if_pos rfl] at H; exact H) | (rw [if_pos trivial] at H; exact H)
    clear H
    have H := H1
    clear H1
    replace H := Option.bind_eq_some_iff.mp H
    obtain ⟨t110, A50, H⟩ := H
    replace H : ((conciergelaw2_Cut.f a1 16).bind fun t111 => (if (t110.size : Int) = (t111.size : Int) then (if (t110.size : Int) = 4 then (conciergelaw3_AddrPrefix.j0 k t110 t111 true false) else (conciergelaw3_AddrPrefix.j0 k t110 t111 true ((t110.size : Int) != 16))) else (conciergelaw3_AddrPrefix.j0 k t110 t111 true true))) = some r := H
    have A5 := Aside0.mk A50
    clear A50
    replace H := Option.bind_eq_some_iff.mp H
    obtain ⟨t111, A60, H⟩ := H
    replace H : (if (t110.size : Int) = (t111.size : Int) then (if (t110.size : Int) = 4 then (conciergelaw3_AddrPrefix.j0 k t110 t111 true false) else (conciergelaw3_AddrPrefix.j0 k t110 t111 true ((t110.size : Int) != 16))) else (conciergelaw3_AddrPrefix.j0 k t110 t111 true true)) = some r := H
    have A6 := Aside0.mk A60
    clear A60
    have HC7 := Aside0.mk H
    clear H
    go_enter Tryd.func10, Tryd.ntmps10
    go_upto_region 5 with (first | ((with_reducible refine gate_callee (f := 40) rfl ?_); refine goesL_ (some 8) rfl rfl Tryd.func40 (by kernel_rfl) rfl #[] rfl (by (try simp only [List.map_toArray, List.map_cons, List.map_nil]); first | done | rfl | (simp only [List.length_drop, List.length_take]; rfl)) ?_; (with_reducible refine (conciergelaw3_begun.calls k  true _ A3.out (by first | exact hG | (refine Gl.below ?_ hG; (repeat (first | (with_reducible first | exact HB.out | apply below_alloc | apply pw_below_drewN | apply below_drew1) | exact HB.out)); done) | (refine Gl.drawn ?_ hG; (repeat (first | exact Drawn0.refl _ | apply Drawn0.step)); done))).mono ?_); rintro e w8 ⟨rfl, hb⟩; refine ⟨_, rfl, ?_⟩; have n0_ := Aside0.mk (below_step (by repeat (first | (with_reducible first | exact HB.out | apply below_alloc | apply pw_below_drewN | apply below_drew1) | exact HB.out)) hb); clear HB; have HB := n0_; clear n0_; (try clear hb); (try clear hb2); (try clear hk); (try clear hi)) | ((with_reducible refine gate_callee (f := 31) rfl ?_); refine goesL_ (some 12) rfl rfl Tryd.func31 (by kernel_rfl) rfl #[.string a0, .int .i64 16] rfl (by (try simp only [List.map_toArray, List.map_cons, List.map_nil]); first | done | rfl | (simp only [List.length_drop, List.length_take]; rfl)) ?_; (with_reducible refine (conciergelaw2_Cut.calls a0 16 t110 _ A5.out).mono ?_); rintro e w' ⟨rfl, ⟨nd, rfl⟩⟩; refine ⟨_, rfl, ?_⟩) | ((with_reducible refine gate_callee (f := 31) rfl ?_); refine goesL_ (some 14) rfl rfl Tryd.func31 (by kernel_rfl) rfl #[.string a1, .int .i64 16] rfl (by (try simp only [List.map_toArray, List.map_cons, List.map_nil]); first | done | rfl | (simp only [List.length_drop, List.length_take]; rfl)) ?_; (with_reducible refine (conciergelaw2_Cut.calls a1 16 t111 _ A6.out).mono ?_); rintro e w' ⟨rfl, ⟨nd, rfl⟩⟩; refine ⟨_, rfl, ?_⟩))
    (try simp only [Act.put, List.setIfInBounds_toArray, List.set_cons_zero, List.set_cons_succ])
    go_cut [29] (fun v29 wc => ∃ (kq : Nat) (x29_6 : Bool), v29 = .bool x29_6 ∧ Aside0 (conciergelaw3_AddrPrefix.j0 kq t110 t111 true x29_6 = some r) ∧ Aside0 (kq ≤ k) ∧ Aside0 (Below w.heap.size w wc))
    case first =>
      have H := HC7.out
      clear HC7
      by_cases c9 : (t110.size : Int) = (t111.size : Int)
      · rw [if_pos c9] at H
        have c9b0 : ((t110.size : Int) == (t111.size : Int)) = true := beq_iff_eq.mpr c9
        have c9b1 : ((t110.size : Int) != (t111.size : Int)) = false := bne_eq_false_iff_eq.mpr c9
        have c9b2 : (t110.size == t111.size) = true := by first | simpa using c9 | (simp at c9 ⊢; omega)
        clear c9
        (first | rw [c9b0] | (simp only [i64_w, i32_w]; rw [c9b0]) | skip)
        by_cases c10 : (t110.size : Int) = 4
        · rw [if_pos c10] at H
          have c10b0 : ((t110.size : Int) == 4) = true := beq_iff_eq.mpr c10
          have c10b1 : ((t110.size : Int) != 4) = false := bne_eq_false_iff_eq.mpr c10
          clear c10
          have H' := Aside0.mk H
          clear H
          go_wp2
          go_meet
          case rel => exact ⟨_, (false), (by first | rfl | (simp; done) | (simp [*]; done) | (simp only [isEmpty_beq, bne, Bool.not_not]; done) | (simp only [isEmpty_beq, bne, Bool.not_not]; rfl)), H', ⟨by first | omega | exact Nat.le_refl _⟩, ⟨by repeat (first | (with_reducible first | exact HB.out | apply below_alloc | apply pw_below_drewN | apply below_drew1) | exact HB.out)⟩⟩
        · rw [if_neg c10] at H
          have c10b0 : ((t110.size : Int) == 4) = false := beq_eq_false_iff_ne.mpr c10
          have c10b1 : ((t110.size : Int) != 4) = true := bne_iff_ne.mpr c10
          have H' := Aside0.mk H
          clear H
          go_wp2
          go_meet
          case rel => exact ⟨_, (((t110.size : Int) != 16)), (by first | rfl | (simp; done) | (simp [*]; done) | (simp only [isEmpty_beq, bne, Bool.not_not]; done) | (simp only [isEmpty_beq, bne, Bool.not_not]; rfl)), H', ⟨by first | omega | exact Nat.le_refl _⟩, ⟨by repeat (first | (with_reducible first | exact HB.out | apply below_alloc | apply pw_below_drewN | apply below_drew1) | exact HB.out)⟩⟩
      · rw [if_neg c9] at H
        have c9b0 : ((t110.size : Int) == (t111.size : Int)) = false := beq_eq_false_iff_ne.mpr c9
        have c9b1 : ((t110.size : Int) != (t111.size : Int)) = true := bne_iff_ne.mpr c9
        have c9b2 : (t110.size == t111.size) = false := by first | simpa using c9 | (simp at c9 ⊢; omega)
        (first | rw [c9b0] | (simp only [i64_w, i32_w]; rw [c9b0]) | skip)
        have H' := Aside0.mk H
        clear H
        go_wp2
        go_meet
        case rel => exact ⟨_, (true), (by first | rfl | (simp; done) | (simp [*]; done) | (simp only [isEmpty_beq, bne, Bool.not_not]; done) | (simp only [isEmpty_beq, bne, Bool.not_not]; rfl)), H', ⟨by first | omega | exact Nat.le_refl _⟩, ⟨by repeat (first | (with_reducible first | exact HB.out | apply below_alloc | apply pw_below_drewN | apply below_drew1) | exact HB.out)⟩⟩
    case rest =>
      clear HC7
      try clear c1
      try clear p2
      try clear c3
      try clear c4
      try clear c9
      try clear c9b0
      try clear c9b1
      try clear c9b2
      try clear c10
      try clear c10b0
      try clear c10b1
      obtain ⟨kq, x29_6, rfl, HA, HJ6, HB⟩ := hcut
      cases kq with
      | zero => exact absurd HA.out (by simp [conciergelaw3_AddrPrefix.j0])
      | succ kj6 =>
        have H := HA.out
        clear HA
        simp only [conciergelaw3_AddrPrefix.j0] at H
        by_cases c11 : x29_6 = true
        · subst c11
          have H1 : (some true) = some r := by first | (rw [if_pos rfl] at H; exact H) | (rw [if_pos trivial] at H; exact H)
          clear H
          have H := H1
          clear H1
          obtain rfl := Option.some.inj H
          go_wp2
          go_ret
          exact ⟨by first | rfl | (simp only [isEmpty_beq, bne, Bool.not_not]; done) | (simp only [isEmpty_beq, bne, Bool.not_not]; rfl) | (simp [errW_none, errW_some] <;> rfl) | (simp [*, errW_none, errW_some] <;> rfl), by repeat (first | (with_reducible first | exact HB.out | apply below_alloc | apply pw_below_drewN | apply below_drew1) | exact HB.out)⟩
        · replace c11 := Bool.eq_false_iff.mpr c11
          subst c11
          have H1 : ((addr_Common.f kj6 t110 t111).bind fun t112 => (conciergelaw3_AddrPrefix.l0 kj6 t110 t111 true t112 0)) = some r := by rw [if_neg (show ¬ (false = true) by decide)] at H; exact H
          clear H
          have H := H1
          clear H1
          replace H := Option.bind_eq_some_iff.mp H
          obtain ⟨t112, A120, H⟩ := H
          replace H : (conciergelaw3_AddrPrefix.l0 kj6 t110 t111 true t112 0) = some r := H
          have A12 := Aside0.mk A120
          clear A120
          have H' := Aside0.mk H
          clear H
          go_wp2_with (first | ((with_reducible refine gate_callee (f := 45) rfl ?_); refine goesL_ (some 33) rfl rfl Tryd.func45 (by kernel_rfl) rfl #[.string t110, .string t111] rfl (by (try simp only [List.map_toArray, List.map_cons, List.map_nil]); first | done | rfl | (simp only [List.length_drop, List.length_take]; rfl)) ?_; (with_reducible refine (addr_Common.calls kj6 t110 t111 t112 _ A12.out).mono ?_); rintro e w' ⟨rfl, ⟨nd, rfl⟩⟩; refine ⟨_, rfl, ?_⟩))
          go_loopg [7] kj6 (fun kq v7 w' => ∃ (x7_2 : Int), v7 = .int .i64 x7_2 ∧ Aside0 (conciergelaw3_AddrPrefix.l0 kq t110 t111 true t112 x7_2 = some r) ∧ Aside0 (kq ≤ kj6) ∧ Aside0 (Below w.heap.size w w'))
          case atStart => exact ⟨(0), (by first | rfl | (simp; done) | (simp [*]; done) | (simp only [isEmpty_beq, bne, Bool.not_not]; done) | (simp only [isEmpty_beq, bne, Bool.not_not]; rfl)), H', ⟨Nat.le_refl _⟩, ⟨by repeat (first | (with_reducible first | exact HB.out | apply below_alloc | apply pw_below_drewN | apply below_drew1) | exact HB.out)⟩⟩
          case round =>
            clear H'
            try clear c1
            try clear p2
            try clear c3
            try clear c4
            try clear c9
            try clear c9b0
            try clear c9b1
            try clear c9b2
            try clear c10
            try clear c10b0
            try clear c10b1
            try clear c11
            try clear p2
            obtain ⟨x7_2, rfl, HA, HK2, HB⟩ := hrel
            cases gk with
            | zero => exact absurd HA.out (by simp [conciergelaw3_AddrPrefix.l0])
            | succ k2 =>
              have H := HA.out
              clear HA
              simp only [conciergelaw3_AddrPrefix.l0] at H
              by_cases c13 : x7_2 ≤ (wrap64 (8 * (t110.size : Int)))
              · rw [if_pos c13] at H
                have c13b0 : decide (x7_2 ≤ (wrap64 (8 * (t110.size : Int)))) = true := decide_eq_true c13
                clear c13
                replace H := Option.bind_eq_some_iff.mp H
                obtain ⟨t115, A140, H⟩ := H
                replace H : (if t115 = true then ((addr_In.f k2 t110 t111 x7_2).bind fun t116 => (if (t116 != (decide (x7_2 ≤ t112))) = true then (some false) else (conciergelaw3_AddrPrefix.l0 k2 t110 t111 true t112 (wrap64 (x7_2 + 1))))) else (some false)) = some r := H
                have A14 := Aside0.mk A140
                clear A140
                by_cases c15 : t115 = true
                · subst c15
                  have H1 : ((addr_In.f k2 t110 t111 x7_2).bind fun t116 => (if (t116 != (decide (x7_2 ≤ t112))) = true then (some false) else (conciergelaw3_AddrPrefix.l0 k2 t110 t111 true t112 (wrap64 (x7_2 + 1))))) = some r := by first | (rw [if_pos rfl] at H; exact H) | (rw [if_pos trivial] at H; exact H)
                  clear H
                  have H := H1
                  clear H1
                  replace H := Option.bind_eq_some_iff.mp H
                  obtain ⟨t116, A160, H⟩ := H
                  replace H : (if (t116 != (decide (x7_2 ≤ t112))) = true then (some false) else (conciergelaw3_AddrPrefix.l0 k2 t110 t111 true t112 (wrap64 (x7_2 + 1)))) = some r := H
                  have A16 := Aside0.mk A160
                  clear A160
                  by_cases c17 : (t116 != (decide (x7_2 ≤ t112))) = true
                  · rw [if_pos c17] at H
                    have c17b0 : (t116 != (decide (x7_2 ≤ t112))) = true := c17
                    (try (have c17b1 : decide (t116 = (decide (x7_2 ≤ t112))) = false := by simpa using c17))
                    (try (have c17b2 : (t116 == (decide (x7_2 ≤ t112))) = false := by simpa using c17))
                    (try (have c17b3 : ¬ (t116 = (decide (x7_2 ≤ t112))) := by simpa using c17))
                    clear c17
                    obtain rfl := Option.some.inj H
                    go_wp2_with (first | ((with_reducible refine gate_callee (f := 46) rfl ?_); refine goesL_ (some 44) rfl rfl Tryd.func46 (by kernel_rfl) rfl #[.string t110, .string t110, .int .i64 x7_2] rfl (by (try simp only [List.map_toArray, List.map_cons, List.map_nil]); first | done | rfl | (simp only [List.length_drop, List.length_take]; rfl)) ?_; (with_reducible refine (addr_In.calls k2 t110 t110 x7_2 true _ A14.out).mono ?_); rintro e w' ⟨rfl, ⟨nd, rfl⟩⟩; refine ⟨_, rfl, ?_⟩) | (go_at_call 46; (with_reducible refine (addr_In.calls k2 t110 t111 x7_2 t116 _ A16.out).mono ?_); rintro e w' ⟨rfl, ⟨nd, rfl⟩⟩))
                    go_ret
                    exact ⟨by first | rfl | (simp only [isEmpty_beq, bne, Bool.not_not]; done) | (simp only [isEmpty_beq, bne, Bool.not_not]; rfl) | (simp [errW_none, errW_some] <;> rfl) | (simp [*, errW_none, errW_some] <;> rfl), by repeat (first | (with_reducible first | exact HB.out | apply below_alloc | apply pw_below_drewN | apply below_drew1) | exact HB.out)⟩
                  · rw [if_neg c17] at H
                    have c17b0 : (t116 != (decide (x7_2 ≤ t112))) = false := by simpa using c17
                    (try (have c17b1 : decide (t116 = (decide (x7_2 ≤ t112))) = true := by simpa using c17))
                    (try (have c17b2 : (t116 == (decide (x7_2 ≤ t112))) = true := by simpa using c17))
                    clear c17
                    have H' := Aside0.mk H
                    clear H
                    go_wp2_with (first | ((with_reducible refine gate_callee (f := 46) rfl ?_); refine goesL_ (some 44) rfl rfl Tryd.func46 (by kernel_rfl) rfl #[.string t110, .string t110, .int .i64 x7_2] rfl (by (try simp only [List.map_toArray, List.map_cons, List.map_nil]); first | done | rfl | (simp only [List.length_drop, List.length_take]; rfl)) ?_; (with_reducible refine (addr_In.calls k2 t110 t110 x7_2 true _ A14.out).mono ?_); rintro e w' ⟨rfl, ⟨nd, rfl⟩⟩; refine ⟨_, rfl, ?_⟩) | (go_at_call 46; (with_reducible refine (addr_In.calls k2 t110 t111 x7_2 t116 _ A16.out).mono ?_); rintro e w' ⟨rfl, ⟨nd, rfl⟩⟩))
                    go_roundg k2
                    case measure => have := HJ6.out; have := HK2.out; omega
                    case rel => exact ⟨(wrap64 (x7_2 + 1)), (by first | rfl | (simp; done) | (simp [*]; done) | (simp only [isEmpty_beq, bne, Bool.not_not]; done) | (simp only [isEmpty_beq, bne, Bool.not_not]; rfl)), H', ⟨by have := HJ6.out; have := HK2.out; omega⟩, ⟨by repeat (first | (with_reducible first | exact HB.out | apply below_alloc | apply pw_below_drewN | apply below_drew1) | exact HB.out)⟩⟩
                · replace c15 := Bool.eq_false_iff.mpr c15
                  subst c15
                  have H1 : (some false) = some r := by rw [if_neg (show ¬ (false = true) by decide)] at H; exact H
                  clear H
                  have H := H1
                  clear H1
                  obtain rfl := Option.some.inj H
                  go_wp2_with (first | ((with_reducible refine gate_callee (f := 46) rfl ?_); refine goesL_ (some 44) rfl rfl Tryd.func46 (by kernel_rfl) rfl #[.string t110, .string t110, .int .i64 x7_2] rfl (by (try simp only [List.map_toArray, List.map_cons, List.map_nil]); first | done | rfl | (simp only [List.length_drop, List.length_take]; rfl)) ?_; (with_reducible refine (addr_In.calls k2 t110 t110 x7_2 false _ A14.out).mono ?_); rintro e w' ⟨rfl, ⟨nd, rfl⟩⟩; refine ⟨_, rfl, ?_⟩))
                  go_ret
                  exact ⟨by first | rfl | (simp only [isEmpty_beq, bne, Bool.not_not]; done) | (simp only [isEmpty_beq, bne, Bool.not_not]; rfl) | (simp [errW_none, errW_some] <;> rfl) | (simp [*, errW_none, errW_some] <;> rfl), by repeat (first | (with_reducible first | exact HB.out | apply below_alloc | apply pw_below_drewN | apply below_drew1) | exact HB.out)⟩
              · rw [if_neg c13] at H
                have c13b0 : decide (x7_2 ≤ (wrap64 (8 * (t110.size : Int)))) = false := decide_eq_false c13
                clear c13
                by_cases c18 : true = true
                · clear c18
                  have H1 : ((addr_In.f k2 t110 t110 (wrap64 ((wrap64 (8 * (t110.size : Int))) + 1))).bind fun t113 => (if t113 = true then (some false) else ((addr_In.f k2 t110 t110 (-1)).bind fun t114 => (if t114 = true then (some false) else (some ((t112 == (wrap64 (8 * (t110.size : Int)))) == (t110.toList == t111.toList))))))) = some r := by first | (rw [if_pos rfl] at H; exact H) | (rw [if_pos trivial] at H; exact H)
                  clear H
                  have H := H1
                  clear H1
                  replace H := Option.bind_eq_some_iff.mp H
                  obtain ⟨t113, A190, H⟩ := H
                  replace H : (if t113 = true then (some false) else ((addr_In.f k2 t110 t110 (-1)).bind fun t114 => (if t114 = true then (some false) else (some ((t112 == (wrap64 (8 * (t110.size : Int)))) == (t110.toList == t111.toList)))))) = some r := H
                  have A19 := Aside0.mk A190
                  clear A190
                  by_cases c20 : t113 = true
                  · subst c20
                    have H1 : (some false) = some r := by first | (rw [if_pos rfl] at H; exact H) | (rw [if_pos trivial] at H; exact H)
                    clear H
                    have H := H1
                    clear H1
                    obtain rfl := Option.some.inj H
                    go_wp2_with (first | (go_at_call 46; (with_reducible refine (addr_In.calls k2 t110 t110 (wrap64 ((wrap64 (8 * (t110.size : Int))) + 1)) true _ A19.out).mono ?_); rintro e w' ⟨rfl, ⟨nd, rfl⟩⟩))
                    go_ret
                    exact ⟨by first | rfl | (simp only [isEmpty_beq, bne, Bool.not_not]; done) | (simp only [isEmpty_beq, bne, Bool.not_not]; rfl) | (simp [errW_none, errW_some] <;> rfl) | (simp [*, errW_none, errW_some] <;> rfl), by repeat (first | (with_reducible first | exact HB.out | apply below_alloc | apply pw_below_drewN | apply below_drew1) | exact HB.out)⟩
                  · replace c20 := Bool.eq_false_iff.mpr c20
                    subst c20
                    have H1 : ((addr_In.f k2 t110 t110 (-1)).bind fun t114 => (if t114 = true then (some false) else (some ((t112 == (wrap64 (8 * (t110.size : Int)))) == (t110.toList == t111.toList))))) = some r := by rw [if_neg (show ¬ (false = true) by decide)] at H; exact H
                    clear H
                    have H := H1
                    clear H1
                    replace H := Option.bind_eq_some_iff.mp H
                    obtain ⟨t114, A210, H⟩ := H
                    replace H : (if t114 = true then (some false) else (some ((t112 == (wrap64 (8 * (t110.size : Int)))) == (t110.toList == t111.toList)))) = some r := H
                    have A21 := Aside0.mk A210
                    clear A210
                    by_cases c22 : t114 = true
                    · subst c22
                      have H1 : (some false) = some r := by first | (rw [if_pos rfl] at H; exact H) | (rw [if_pos trivial] at H; exact H)
                      clear H
                      have H := H1
                      clear H1
                      obtain rfl := Option.some.inj H
                      go_wp2_with (first | (go_at_call 46; (with_reducible refine (addr_In.calls k2 t110 t110 (wrap64 ((wrap64 (8 * (t110.size : Int))) + 1)) false _ A19.out).mono ?_); rintro e w' ⟨rfl, ⟨nd, rfl⟩⟩) | (go_at_call 46; (with_reducible refine (addr_In.calls k2 t110 t110 (-1) true _ A21.out).mono ?_); rintro e w' ⟨rfl, ⟨nd, rfl⟩⟩))
                      go_ret
                      exact ⟨by first | rfl | (simp only [isEmpty_beq, bne, Bool.not_not]; done) | (simp only [isEmpty_beq, bne, Bool.not_not]; rfl) | (simp [errW_none, errW_some] <;> rfl) | (simp [*, errW_none, errW_some] <;> rfl), by repeat (first | (with_reducible first | exact HB.out | apply below_alloc | apply pw_below_drewN | apply below_drew1) | exact HB.out)⟩
                    · replace c22 := Bool.eq_false_iff.mpr c22
                      subst c22
                      have H1 : (some ((t112 == (wrap64 (8 * (t110.size : Int)))) == (t110.toList == t111.toList))) = some r := by rw [if_neg (show ¬ (false = true) by decide)] at H; exact H
                      clear H
                      have H := H1
                      clear H1
                      obtain rfl := Option.some.inj H
                      go_wp2_with (first | (go_at_call 46; (with_reducible refine (addr_In.calls k2 t110 t110 (wrap64 ((wrap64 (8 * (t110.size : Int))) + 1)) false _ A19.out).mono ?_); rintro e w' ⟨rfl, ⟨nd, rfl⟩⟩) | (go_at_call 46; (with_reducible refine (addr_In.calls k2 t110 t110 (-1) false _ A21.out).mono ?_); rintro e w' ⟨rfl, ⟨nd, rfl⟩⟩))
                      go_ret
                      exact ⟨by first | rfl | (simp only [isEmpty_beq, bne, Bool.not_not]; done) | (simp only [isEmpty_beq, bne, Bool.not_not]; rfl) | (simp [errW_none, errW_some] <;> rfl) | (simp [*, errW_none, errW_some] <;> rfl), by repeat (first | (with_reducible first | exact HB.out | apply below_alloc | apply pw_below_drewN | apply below_drew1) | exact HB.out)⟩
                · exact absurd rfl c18
  · replace c4 := Bool.eq_false_iff.mpr c4
    subst c4
    have H1 : (some false) = some r := by rw [if_neg (show ¬ (false = true) by decide)] at H; exact H
    clear H
    have H := H1
    clear H1
    obtain rfl := Option.some.inj H
    go_enter Tryd.func10, Tryd.ntmps10
    go_wp2_with (first | ((with_reducible refine gate_callee (f := 40) rfl ?_); refine goesL_ (some 8) rfl rfl Tryd.func40 (by kernel_rfl) rfl #[] rfl (by (try simp only [List.map_toArray, List.map_cons, List.map_nil]); first | done | rfl | (simp only [List.length_drop, List.length_take]; rfl)) ?_; (with_reducible refine (conciergelaw3_begun.calls k  false _ A3.out (by first | exact hG | (refine Gl.below ?_ hG; (repeat (first | (with_reducible first | exact HB.out | apply below_alloc | apply pw_below_drewN | apply below_drew1) | exact HB.out)); done) | (refine Gl.drawn ?_ hG; (repeat (first | exact Drawn0.refl _ | apply Drawn0.step)); done))).mono ?_); rintro e w23 ⟨rfl, hb⟩; refine ⟨_, rfl, ?_⟩; have n0_ := Aside0.mk (below_step (by repeat (first | (with_reducible first | exact HB.out | apply below_alloc | apply pw_below_drewN | apply below_drew1) | exact HB.out)) hb); clear HB; have HB := n0_; clear n0_; (try clear hb); (try clear hb2); (try clear hk); (try clear hi)))
    go_ret
    exact ⟨by first | rfl | (simp only [isEmpty_beq, bne, Bool.not_not]; done) | (simp only [isEmpty_beq, bne, Bool.not_not]; rfl) | (simp [errW_none, errW_some] <;> rfl) | (simp [*, errW_none, errW_some] <;> rfl), by repeat (first | (with_reducible first | exact HB.out | apply below_alloc | apply pw_below_drewN | apply below_drew1) | exact HB.out)⟩


/-! ### conciergelaw3_AddrPrint: function 9 -/
def conciergelaw3_AddrPrint.j0 : Nat → ByteArray → Bool → ByteArray → Bool → Option (Bool)
  | 0, _, _, _, _ => none
  | k + 1, x0, x3, x4, x21 => if x21 = true then (if x3 = true then (some (x4.toList == ([] : List UInt8))) else (some false)) else ((addr_Parse.f k x4).bind fun bt120 => (if x3 = true then ((conciergeref2_Print.f k x0).bind fun t122 => (if x4.toList = t122.toList then (if bt120.2 = true then (some (bt120.1.toList == x0.toList)) else (some false)) else (some false))) else (some false)))
def conciergelaw3_AddrPrint.f (k : Nat) (a0 : ByteArray) : Option (Bool) := (conciergelaw3_begun.f k).bind fun t117 => (if t117 = true then ((conciergelaw2_Cut.f a0 20).bind fun t118 => ((addr_Print.f k t118).bind fun t119 => (if (t118.size : Int) = 4 then (conciergelaw3_AddrPrint.j0 k t118 t117 t119 false) else (conciergelaw3_AddrPrint.j0 k t118 t117 t119 ((t118.size : Int) != 16))))) else (some false))
theorem conciergelaw3_AddrPrint.mono_l : ∀ k, (∀ y0 y1 y2 y3, LeO (conciergelaw3_AddrPrint.j0 k y0 y1 y2 y3) (conciergelaw3_AddrPrint.j0 (k + 1) y0 y1 y2 y3))
  | 0 => fun _ _ _ _ r h => by simp [conciergelaw3_AddrPrint.j0] at h
  | k + 1 => by
    have ih0 := conciergelaw3_AddrPrint.mono_l k
    · intro y0 y1 y2 y3
      unfold conciergelaw3_AddrPrint.j0
      repeat' first
      | (with_reducible exact ih0 _ _ _ _)
      | (with_reducible exact addr_Parse.mono _ _)
      | (with_reducible exact addr_Print.mono _ _)
      | (with_reducible exact conciergelaw3_begun.mono _)
      | (with_reducible exact conciergeref2_Print.mono _ _)
      | (with_reducible exact LeO.refl _)
      | (with_reducible exact LeO.none _)
      | (with_reducible refine LeO.ite ?_ ?_)
      | (with_reducible refine LeO.bind ?_ (fun _ => ?_))
      | exact ih0 _ _ _ _
      | exact addr_Parse.mono _ _
      | exact addr_Print.mono _ _
      | exact conciergelaw3_begun.mono _
      | exact conciergeref2_Print.mono _ _
      | exact LeO.none _
      | refine LeO.ite ?_ ?_
      | refine LeO.bind ?_ (fun _ => ?_)
theorem conciergelaw3_AddrPrint.mono : ∀ a0 k, LeO (conciergelaw3_AddrPrint.f k a0) (conciergelaw3_AddrPrint.f (k + 1) a0) := by
  intro a0 k
  have ih0 := conciergelaw3_AddrPrint.mono_l k
  unfold conciergelaw3_AddrPrint.f
  repeat' first
      | (with_reducible exact ih0 _ _ _ _)
      | (with_reducible exact addr_Parse.mono _ _)
      | (with_reducible exact addr_Print.mono _ _)
      | (with_reducible exact conciergelaw3_begun.mono _)
      | (with_reducible exact conciergeref2_Print.mono _ _)
      | (with_reducible exact LeO.refl _)
      | (with_reducible exact LeO.none _)
      | (with_reducible refine LeO.ite ?_ ?_)
      | (with_reducible refine LeO.bind ?_ (fun _ => ?_))
      | exact ih0 _ _ _ _
      | exact addr_Parse.mono _ _
      | exact addr_Print.mono _ _
      | exact conciergelaw3_begun.mono _
      | exact conciergeref2_Print.mono _ _
      | exact LeO.none _
      | refine LeO.ite ?_ ?_
      | refine LeO.bind ?_ (fun _ => ?_)
set_option maxHeartbeats 8000000 in
set_option maxRecDepth 100000 in
theorem conciergelaw3_AddrPrint.calls (k : Nat) (a0 : ByteArray) (r : Bool) (w : World) (h : conciergelaw3_AddrPrint.f k a0 = some r) (hG : Gl w) :
    Calls Tryd.prog 9 #[.string a0] w fun e w' => e = .returned (.bool r) ∧ Below w.heap.size w w' := by
  have HB := Aside0.mk (Below.refl w.heap.size w)
  have H : ((conciergelaw3_begun.f k).bind fun t117 => (if t117 = true then ((conciergelaw2_Cut.f a0 20).bind fun t118 => ((addr_Print.f k t118).bind fun t119 => (if (t118.size : Int) = 4 then (conciergelaw3_AddrPrint.j0 k t118 t117 t119 false) else (conciergelaw3_AddrPrint.j0 k t118 t117 t119 ((t118.size : Int) != 16))))) else (some false))) = some r := h
  clear h
  replace H := Option.bind_eq_some_iff.mp H
  obtain ⟨t117, A20, H⟩ := H
  replace H : (if t117 = true then ((conciergelaw2_Cut.f a0 20).bind fun t118 => ((addr_Print.f k t118).bind fun t119 => (if (t118.size : Int) = 4 then (conciergelaw3_AddrPrint.j0 k t118 t117 t119 false) else (conciergelaw3_AddrPrint.j0 k t118 t117 t119 ((t118.size : Int) != 16))))) else (some false)) = some r := H
  have A2 := Aside0.mk A20
  clear A20
  by_cases c3 : t117 = true
  · subst c3
    have H1 : ((conciergelaw2_Cut.f a0 20).bind fun t118 => ((addr_Print.f k t118).bind fun t119 => (if (t118.size : Int) = 4 then (conciergelaw3_AddrPrint.j0 k t118 true t119 false) else (conciergelaw3_AddrPrint.j0 k t118 true t119 ((t118.size : Int) != 16))))) = some r := by first | (rw [if_pos rfl] at H; exact H) | (rw [if_pos trivial] at H; exact H)
    clear H
    have H := H1
    clear H1
    replace H := Option.bind_eq_some_iff.mp H
    obtain ⟨t118, A40, H⟩ := H
    replace H : ((addr_Print.f k t118).bind fun t119 => (if (t118.size : Int) = 4 then (conciergelaw3_AddrPrint.j0 k t118 true t119 false) else (conciergelaw3_AddrPrint.j0 k t118 true t119 ((t118.size : Int) != 16)))) = some r := H
    have A4 := Aside0.mk A40
    clear A40
    replace H := Option.bind_eq_some_iff.mp H
    obtain ⟨t119, A50, H⟩ := H
    replace H : (if (t118.size : Int) = 4 then (conciergelaw3_AddrPrint.j0 k t118 true t119 false) else (conciergelaw3_AddrPrint.j0 k t118 true t119 ((t118.size : Int) != 16))) = some r := H
    have A5 := Aside0.mk A50
    clear A50
    have HC6 := Aside0.mk H
    clear H
    go_enter Tryd.func9, Tryd.ntmps9
    go_upto_region 6 with (first | ((with_reducible refine gate_callee (f := 40) rfl ?_); refine goesL_ (some 7) rfl rfl Tryd.func40 (by kernel_rfl) rfl #[] rfl (by (try simp only [List.map_toArray, List.map_cons, List.map_nil]); first | done | rfl | (simp only [List.length_drop, List.length_take]; rfl)) ?_; (with_reducible refine (conciergelaw3_begun.calls k  true _ A2.out (by first | exact hG | (refine Gl.below ?_ hG; (repeat (first | (with_reducible first | exact HB.out | apply below_alloc | apply pw_below_drewN | apply below_drew1) | exact HB.out)); done) | (refine Gl.drawn ?_ hG; (repeat (first | exact Drawn0.refl _ | apply Drawn0.step)); done))).mono ?_); rintro e w7 ⟨rfl, hb⟩; refine ⟨_, rfl, ?_⟩; have n0_ := Aside0.mk (below_step (by repeat (first | (with_reducible first | exact HB.out | apply below_alloc | apply pw_below_drewN | apply below_drew1) | exact HB.out)) hb); clear HB; have HB := n0_; clear n0_; (try clear hb); (try clear hb2); (try clear hk); (try clear hi)) | ((with_reducible refine gate_callee (f := 31) rfl ?_); refine goesL_ (some 11) rfl rfl Tryd.func31 (by kernel_rfl) rfl #[.string a0, .int .i64 20] rfl (by (try simp only [List.map_toArray, List.map_cons, List.map_nil]); first | done | rfl | (simp only [List.length_drop, List.length_take]; rfl)) ?_; (with_reducible refine (conciergelaw2_Cut.calls a0 20 t118 _ A4.out).mono ?_); rintro e w' ⟨rfl, ⟨nd, rfl⟩⟩; refine ⟨_, rfl, ?_⟩) | ((with_reducible refine gate_callee (f := 43) rfl ?_); refine goesL_ (some 13) rfl rfl Tryd.func43 (by kernel_rfl) rfl #[.string t118] rfl (by (try simp only [List.map_toArray, List.map_cons, List.map_nil]); first | done | rfl | (simp only [List.length_drop, List.length_take]; rfl)) ?_; (with_reducible refine (addr_Print.calls k t118 t119 _ A5.out (by first | exact hG | (refine Gl.below ?_ hG; (repeat (first | (with_reducible first | exact HB.out | apply below_alloc | apply pw_below_drewN | apply below_drew1) | exact HB.out)); done) | (refine Gl.drawn ?_ hG; (repeat (first | exact Drawn0.refl _ | apply Drawn0.step)); done))).mono ?_); rintro e w8 ⟨rfl, hb⟩; refine ⟨_, rfl, ?_⟩; have n0_ := Aside0.mk (below_step (by repeat (first | (with_reducible first | exact HB.out | apply below_alloc | apply pw_below_drewN | apply below_drew1) | exact HB.out)) hb); clear HB; have HB := n0_; clear n0_; (try clear hb); (try clear hb2); (try clear hk); (try clear hi)))
    (try simp only [Act.put, List.setIfInBounds_toArray, List.set_cons_zero, List.set_cons_succ])
    go_cut [21] (fun v21 wc => ∃ (kq : Nat) (x21_5 : Bool), v21 = .bool x21_5 ∧ Aside0 (conciergelaw3_AddrPrint.j0 kq t118 true t119 x21_5 = some r) ∧ Aside0 (kq ≤ k) ∧ Aside0 (Below w.heap.size w wc))
    case first =>
      have H := HC6.out
      clear HC6
      by_cases c9 : (t118.size : Int) = 4
      · rw [if_pos c9] at H
        have c9b0 : ((t118.size : Int) == 4) = true := beq_iff_eq.mpr c9
        have c9b1 : ((t118.size : Int) != 4) = false := bne_eq_false_iff_eq.mpr c9
        clear c9
        (first | rw [c9b0] | (simp only [i64_w, i32_w]; rw [c9b0]) | skip)
        have H' := Aside0.mk H
        clear H
        go_wp2
        go_meet
        case rel => exact ⟨_, (false), (by first | rfl | (simp; done) | (simp [*]; done) | (simp only [isEmpty_beq, bne, Bool.not_not]; done) | (simp only [isEmpty_beq, bne, Bool.not_not]; rfl)), H', ⟨by first | omega | exact Nat.le_refl _⟩, ⟨by repeat (first | (with_reducible first | exact HB.out | apply below_alloc | apply pw_below_drewN | apply below_drew1) | exact HB.out)⟩⟩
      · rw [if_neg c9] at H
        have c9b0 : ((t118.size : Int) == 4) = false := beq_eq_false_iff_ne.mpr c9
        have c9b1 : ((t118.size : Int) != 4) = true := bne_iff_ne.mpr c9
        (first | rw [c9b0] | (simp only [i64_w, i32_w]; rw [c9b0]) | skip)
        have H' := Aside0.mk H
        clear H
        go_wp2
        go_meet
        case rel => exact ⟨_, (((t118.size : Int) != 16)), (by first | rfl | (simp; done) | (simp [*]; done) | (simp only [isEmpty_beq, bne, Bool.not_not]; done) | (simp only [isEmpty_beq, bne, Bool.not_not]; rfl)), H', ⟨by first | omega | exact Nat.le_refl _⟩, ⟨by repeat (first | (with_reducible first | exact HB.out | apply below_alloc | apply pw_below_drewN | apply below_drew1) | exact HB.out)⟩⟩
    case rest =>
      clear HC6
      try clear p2
      try clear c3
      try clear c4
      try clear c9
      try clear c9b0
      try clear c9b1
      obtain ⟨kq, x21_5, rfl, HA, HJ5, HB⟩ := hcut
      cases kq with
      | zero => exact absurd HA.out (by simp [conciergelaw3_AddrPrint.j0])
      | succ kj5 =>
        have H := HA.out
        clear HA
        simp only [conciergelaw3_AddrPrint.j0] at H
        by_cases c10 : x21_5 = true
        · subst c10
          have H1 : (if true = true then (some (t119.toList == ([] : List UInt8))) else (some false)) = some r := by first | (rw [if_pos rfl] at H; exact H) | (rw [if_pos trivial] at H; exact H)
          clear H
          have H := H1
          clear H1
          by_cases c11 : true = true
          · clear c11
            have H1 : (some (t119.toList == ([] : List UInt8))) = some r := by first | (rw [if_pos rfl] at H; exact H) | (rw [if_pos trivial] at H; exact H)
            clear H
            have H := H1
            clear H1
            obtain rfl := Option.some.inj H
            go_wp2
            go_ret
            exact ⟨by first | rfl | (simp only [isEmpty_beq, bne, Bool.not_not]; done) | (simp only [isEmpty_beq, bne, Bool.not_not]; rfl) | (simp [errW_none, errW_some] <;> rfl) | (simp [*, errW_none, errW_some] <;> rfl), by repeat (first | (with_reducible first | exact HB.out | apply below_alloc | apply pw_below_drewN | apply below_drew1) | exact HB.out)⟩
          · exact absurd rfl c11
        · replace c10 := Bool.eq_false_iff.mpr c10
          subst c10
          have H1 : ((addr_Parse.f kj5 t119).bind fun bt120 => (if true = true then ((conciergeref2_Print.f kj5 t118).bind fun t122 => (if t119.toList = t122.toList then (if bt120.2 = true then (some (bt120.1.toList == t118.toList)) else (some false)) else (some false))) else (some false))) = some r := by rw [if_neg (show ¬ (false = true) by decide)] at H; exact H
          clear H
          have H := H1
          clear H1
          replace H := Option.bind_eq_some_iff.mp H
          obtain ⟨⟨t120, t121⟩, A120, H⟩ := H
          replace H : (if true = true then ((conciergeref2_Print.f kj5 t118).bind fun t122 => (if t119.toList = t122.toList then (if t121 = true then (some (t120.toList == t118.toList)) else (some false)) else (some false))) else (some false)) = some r := H
          have A12 := Aside0.mk A120
          clear A120
          by_cases c13 : true = true
          · clear c13
            have H1 : ((conciergeref2_Print.f kj5 t118).bind fun t122 => (if t119.toList = t122.toList then (if t121 = true then (some (t120.toList == t118.toList)) else (some false)) else (some false))) = some r := by first | (rw [if_pos rfl] at H; exact H) | (rw [if_pos trivial] at H; exact H)
            clear H
            have H := H1
            clear H1
            replace H := Option.bind_eq_some_iff.mp H
            obtain ⟨t122, A140, H⟩ := H
            replace H : (if t119.toList = t122.toList then (if t121 = true then (some (t120.toList == t118.toList)) else (some false)) else (some false)) = some r := H
            have A14 := Aside0.mk A140
            clear A140
            by_cases c15 : t119.toList = t122.toList
            · rw [if_pos c15] at H
              have c15b0 : (t119.toList == t122.toList) = true := beq_iff_eq.mpr c15
              have c15b1 : (t119.toList != t122.toList) = false := bne_eq_false_iff_eq.mpr c15
              clear c15
              by_cases c16 : t121 = true
              · subst c16
                have H1 : (some (t120.toList == t118.toList)) = some r := by first | (rw [if_pos rfl] at H; exact H) | (rw [if_pos trivial] at H; exact H)
                clear H
                have H := H1
                clear H1
                obtain rfl := Option.some.inj H
                go_wp2_with (first | ((with_reducible refine gate_callee (f := 41) rfl ?_); refine goesL_ (some 29) rfl rfl Tryd.func41 (by kernel_rfl) rfl #[.string t119] rfl (by (try simp only [List.map_toArray, List.map_cons, List.map_nil]); first | done | rfl | (simp only [List.length_drop, List.length_take]; rfl)) ?_; (with_reducible refine (addr_Parse.calls kj5 t119 t120 true _ A12.out (by first | exact hG | (refine Gl.below ?_ hG; (repeat (first | (with_reducible first | exact HB.out | apply below_alloc | apply pw_below_drewN | apply below_drew1) | exact HB.out)); done) | (refine Gl.drawn ?_ hG; (repeat (first | exact Drawn0.refl _ | apply Drawn0.step)); done))).mono ?_); rintro e w17 ⟨rfl, hb⟩; refine ⟨_, rfl, ?_⟩; have n0_ := Aside0.mk (below_step (by repeat (first | (with_reducible first | exact HB.out | apply below_alloc | apply pw_below_drewN | apply below_drew1) | exact HB.out)) hb); clear HB; have HB := n0_; clear n0_; (try clear hb); (try clear hb2); (try clear hk); (try clear hi)) | (go_at_call 44; (with_reducible refine (conciergeref2_Print.calls kj5 t118 t122 _ A14.out).mono ?_); rintro e w18 ⟨rfl, hb⟩; have n0_ := Aside0.mk (below_step (by repeat (first | (with_reducible first | exact HB.out | apply below_alloc | apply pw_below_drewN | apply below_drew1) | exact HB.out)) hb); clear HB; have HB := n0_; clear n0_; (try clear hb); (try clear hb2); (try clear hk); (try clear hi)))
                go_ret
                exact ⟨by first | rfl | (simp only [isEmpty_beq, bne, Bool.not_not]; done) | (simp only [isEmpty_beq, bne, Bool.not_not]; rfl) | (simp [errW_none, errW_some] <;> rfl) | (simp [*, errW_none, errW_some] <;> rfl), by repeat (first | (with_reducible first | exact HB.out | apply below_alloc | apply pw_below_drewN | apply below_drew1) | exact HB.out)⟩
              · replace c16 := Bool.eq_false_iff.mpr c16
                subst c16
                have H1 : (some false) = some r := by rw [if_neg (show ¬ (false = true) by decide)] at H; exact H
                clear H
                have H := H1
                clear H1
                obtain rfl := Option.some.inj H
                go_wp2_with (first | ((with_reducible refine gate_callee (f := 41) rfl ?_); refine goesL_ (some 29) rfl rfl Tryd.func41 (by kernel_rfl) rfl #[.string t119] rfl (by (try simp only [List.map_toArray, List.map_cons, List.map_nil]); first | done | rfl | (simp only [List.length_drop, List.length_take]; rfl)) ?_; (with_reducible refine (addr_Parse.calls kj5 t119 t120 false _ A12.out (by first | exact hG | (refine Gl.below ?_ hG; (repeat (first | (with_reducible first | exact HB.out | apply below_alloc | apply pw_below_drewN | apply below_drew1) | exact HB.out)); done) | (refine Gl.drawn ?_ hG; (repeat (first | exact Drawn0.refl _ | apply Drawn0.step)); done))).mono ?_); rintro e w19 ⟨rfl, hb⟩; refine ⟨_, rfl, ?_⟩; have n0_ := Aside0.mk (below_step (by repeat (first | (with_reducible first | exact HB.out | apply below_alloc | apply pw_below_drewN | apply below_drew1) | exact HB.out)) hb); clear HB; have HB := n0_; clear n0_; (try clear hb); (try clear hb2); (try clear hk); (try clear hi)) | (go_at_call 44; (with_reducible refine (conciergeref2_Print.calls kj5 t118 t122 _ A14.out).mono ?_); rintro e w20 ⟨rfl, hb⟩; have n0_ := Aside0.mk (below_step (by repeat (first | (with_reducible first | exact HB.out | apply below_alloc | apply pw_below_drewN | apply below_drew1) | exact HB.out)) hb); clear HB; have HB := n0_; clear n0_; (try clear hb); (try clear hb2); (try clear hk); (try clear hi)))
                go_ret
                exact ⟨by first | rfl | (simp only [isEmpty_beq, bne, Bool.not_not]; done) | (simp only [isEmpty_beq, bne, Bool.not_not]; rfl) | (simp [errW_none, errW_some] <;> rfl) | (simp [*, errW_none, errW_some] <;> rfl), by repeat (first | (with_reducible first | exact HB.out | apply below_alloc | apply pw_below_drewN | apply below_drew1) | exact HB.out)⟩
            · rw [if_neg c15] at H
              have c15b0 : (t119.toList == t122.toList) = false := beq_eq_false_iff_ne.mpr c15
              have c15b1 : (t119.toList != t122.toList) = true := bne_iff_ne.mpr c15
              obtain rfl := Option.some.inj H
              go_wp2_with (first | ((with_reducible refine gate_callee (f := 41) rfl ?_); refine goesL_ (some 29) rfl rfl Tryd.func41 (by kernel_rfl) rfl #[.string t119] rfl (by (try simp only [List.map_toArray, List.map_cons, List.map_nil]); first | done | rfl | (simp only [List.length_drop, List.length_take]; rfl)) ?_; (with_reducible refine (addr_Parse.calls kj5 t119 t120 t121 _ A12.out (by first | exact hG | (refine Gl.below ?_ hG; (repeat (first | (with_reducible first | exact HB.out | apply below_alloc | apply pw_below_drewN | apply below_drew1) | exact HB.out)); done) | (refine Gl.drawn ?_ hG; (repeat (first | exact Drawn0.refl _ | apply Drawn0.step)); done))).mono ?_); rintro e w21 ⟨rfl, hb⟩; refine ⟨_, rfl, ?_⟩; have n0_ := Aside0.mk (below_step (by repeat (first | (with_reducible first | exact HB.out | apply below_alloc | apply pw_below_drewN | apply below_drew1) | exact HB.out)) hb); clear HB; have HB := n0_; clear n0_; (try clear hb); (try clear hb2); (try clear hk); (try clear hi)) | (go_at_call 44; (with_reducible refine (conciergeref2_Print.calls kj5 t118 t122 _ A14.out).mono ?_); rintro e w22 ⟨rfl, hb⟩; have n0_ := Aside0.mk (below_step (by repeat (first | (with_reducible first | exact HB.out | apply below_alloc | apply pw_below_drewN | apply below_drew1) | exact HB.out)) hb); clear HB; have HB := n0_; clear n0_; (try clear hb); (try clear hb2); (try clear hk); (try clear hi)))
              go_ret
              exact ⟨by first | rfl | (simp only [isEmpty_beq, bne, Bool.not_not]; done) | (simp only [isEmpty_beq, bne, Bool.not_not]; rfl) | (simp [errW_none, errW_some] <;> rfl) | (simp [*, errW_none, errW_some] <;> rfl), by repeat (first | (with_reducible first | exact HB.out | apply below_alloc | apply pw_below_drewN | apply below_drew1) | exact HB.out)⟩
          · exact absurd rfl c13
  · replace c3 := Bool.eq_false_iff.mpr c3
    subst c3
    have H1 : (some false) = some r := by rw [if_neg (show ¬ (false = true) by decide)] at H; exact H
    clear H
    have H := H1
    clear H1
    obtain rfl := Option.some.inj H
    go_enter Tryd.func9, Tryd.ntmps9
    go_wp2_with (first | ((with_reducible refine gate_callee (f := 40) rfl ?_); refine goesL_ (some 7) rfl rfl Tryd.func40 (by kernel_rfl) rfl #[] rfl (by (try simp only [List.map_toArray, List.map_cons, List.map_nil]); first | done | rfl | (simp only [List.length_drop, List.length_take]; rfl)) ?_; (with_reducible refine (conciergelaw3_begun.calls k  false _ A2.out (by first | exact hG | (refine Gl.below ?_ hG; (repeat (first | (with_reducible first | exact HB.out | apply below_alloc | apply pw_below_drewN | apply below_drew1) | exact HB.out)); done) | (refine Gl.drawn ?_ hG; (repeat (first | exact Drawn0.refl _ | apply Drawn0.step)); done))).mono ?_); rintro e w24 ⟨rfl, hb⟩; refine ⟨_, rfl, ?_⟩; have n0_ := Aside0.mk (below_step (by repeat (first | (with_reducible first | exact HB.out | apply below_alloc | apply pw_below_drewN | apply below_drew1) | exact HB.out)) hb); clear HB; have HB := n0_; clear n0_; (try clear hb); (try clear hb2); (try clear hk); (try clear hi)))
    go_ret
    exact ⟨by first | rfl | (simp only [isEmpty_beq, bne, Bool.not_not]; done) | (simp only [isEmpty_beq, bne, Bool.not_not]; rfl) | (simp [errW_none, errW_some] <;> rfl) | (simp [*, errW_none, errW_some] <;> rfl), by repeat (first | (with_reducible first | exact HB.out | apply below_alloc | apply pw_below_drewN | apply below_drew1) | exact HB.out)⟩


end Go.Proofs.YtkhkemagkcjdoaaDoor.XAP
