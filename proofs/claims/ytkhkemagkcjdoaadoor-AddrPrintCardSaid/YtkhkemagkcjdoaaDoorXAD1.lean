/- Printed by xprint.py (wip) out of the translation of this seat: Lean functions of the same answers as the Go functions, each with the theorem that the Go call comes to them. Conditions: the premises of each theorem. -/
import Derived.Test.YtkhkemagkcjdoaaDoorXAD0
namespace Go.Proofs.YtkhkemagkcjdoaaDoor.XAD
open Go.RowKit Go.Proofs.YtkhkemagkcjdoaaDoorW.PrintWords Go.Proofs.YtkhkemagkcjdoaaDoorW.PrintLast Go.Proofs.YtkhkemagkcjdoaaDoor.Gv 
set_option linter.unusedVariables false
set_option linter.unusedSimpArgs false

/-! ### addr_four: function 79 -/
def addr_four.l0 : Nat → List Int → List ByteArray → Int → Int → Option (ByteArray × Bool)
  | 0, _, _, _, _ => none
  | k + 1, x5, x15, x16, x17 => if x17 < x16 then (if 0 ≤ x17 then (if x17 < (x15.length : Int) then ((strconv_ParseUint.f (rdOf ByteArray.empty x15 x17) 10 8).bind fun bt105 => (if bt105.2.isNone = true then ((strconv_FormatUint.f bt105.1 10).bind fun t108 => (if t108.toList = (rdOf ByteArray.empty x15 x17).toList then (if x5.length < 140737488355328 then (addr_four.l0 k (x5 ++ [(bt105.1) % 256]) x15 x16 (wrap64 (x17 + 1))) else (none)) else (some ((⟨#[]⟩ : ByteArray), false)))) else (some ((⟨#[]⟩ : ByteArray), false)))) else (none)) else (none)) else (some (strOfNums x5, true))
def addr_four.f (k : Nat) (a0 : ByteArray) : Option (ByteArray × Bool) := (strings_Split.f a0 (⟨#[46]⟩ : ByteArray)).bind fun t101 => (if (t101.length : Int) = 4 then (addr_four.l0 k ([] : List Int) t101 (t101.length : Int) 0) else (some ((⟨#[]⟩ : ByteArray), false)))
theorem addr_four.mono_l : ∀ k, (∀ y0 y1 y2 y3, LeO (addr_four.l0 k y0 y1 y2 y3) (addr_four.l0 (k + 1) y0 y1 y2 y3))
  | 0 => fun _ _ _ _ r h => by simp [addr_four.l0] at h
  | k + 1 => by
    have ih0 := addr_four.mono_l k
    · intro y0 y1 y2 y3
      unfold addr_four.l0
      repeat' first
      | (with_reducible exact ih0 _ _ _ _)
      | (with_reducible exact LeO.refl _)
      | (with_reducible exact LeO.none _)
      | (with_reducible refine LeO.ite ?_ ?_)
      | (with_reducible refine LeO.bind ?_ (fun _ => ?_))
      | exact ih0 _ _ _ _
      | exact LeO.none _
      | refine LeO.ite ?_ ?_
      | refine LeO.bind ?_ (fun _ => ?_)
theorem addr_four.mono : ∀ a0 k, LeO (addr_four.f k a0) (addr_four.f (k + 1) a0) := by
  intro a0 k
  have ih0 := addr_four.mono_l k
  unfold addr_four.f
  repeat' first
      | (with_reducible exact ih0 _ _ _ _)
      | (with_reducible exact LeO.refl _)
      | (with_reducible exact LeO.none _)
      | (with_reducible refine LeO.ite ?_ ?_)
      | (with_reducible refine LeO.bind ?_ (fun _ => ?_))
      | exact ih0 _ _ _ _
      | exact LeO.none _
      | refine LeO.ite ?_ ?_
      | refine LeO.bind ?_ (fun _ => ?_)
set_option maxHeartbeats 8000000 in
set_option maxRecDepth 100000 in
theorem addr_four.calls (k : Nat) (a0 : ByteArray) (r1 : ByteArray) (r2 : Bool) (w : World) (h : addr_four.f k a0 = some (r1, r2)) (hG : Gl w) :
    Calls Tryd.prog 79 #[.string a0] w fun e w' => e = .returned (.tuple #[.string r1, .bool r2]) ∧ Below w.heap.size w w' := by
  have hne_strconv_ParseUint := ne_numErr
  have hu39 := Tryd.underlying39
  have HB := Aside0.mk (Below.refl w.heap.size w)
  have H : ((strings_Split.f a0 (⟨#[46]⟩ : ByteArray)).bind fun t101 => (if (t101.length : Int) = 4 then (addr_four.l0 k ([] : List Int) t101 (t101.length : Int) 0) else (some ((⟨#[]⟩ : ByteArray), false)))) = some (r1, r2) := h
  clear h
  replace H := Option.bind_eq_some_iff.mp H
  obtain ⟨t101, A20, H⟩ := H
  replace H : (if (t101.length : Int) = 4 then (addr_four.l0 k ([] : List Int) t101 (t101.length : Int) 0) else (some ((⟨#[]⟩ : ByteArray), false))) = some (r1, r2) := H
  have A2 := Aside0.mk A20
  clear A20
  by_cases c3 : (t101.length : Int) = 4
  · rw [if_pos c3] at H
    have c3b0 : ((t101.length : Int) == 4) = true := beq_iff_eq.mpr c3
    have c3b1 : ((t101.length : Int) != 4) = false := bne_eq_false_iff_eq.mpr c3
    clear c3
    have H' := Aside0.mk H
    clear H
    go_enter Tryd.func79, Tryd.ntmps79
    go_wp2_with (first | ((with_reducible refine gate_callee (f := 104) rfl ?_); refine goesL_ (some 11) rfl rfl Tryd.func104 (by kernel_rfl) rfl #[.string a0, .string (⟨#[46]⟩ : ByteArray)] rfl (by (try simp only [List.map_toArray, List.map_cons, List.map_nil]); first | done | rfl | (simp only [List.length_drop, List.length_take]; rfl)) ?_; (with_reducible refine (strings_Split.calls a0 (⟨#[46]⟩ : ByteArray) t101 _ A2.out (by first | exact hG | (refine Gl.below ?_ hG; (repeat (first | (with_reducible first | exact HB.out | apply below_alloc | apply pw_below_drewN | apply below_drew1) | exact HB.out)); done) | (refine Gl.drawn ?_ hG; (repeat (first | exact Drawn0.refl _ | apply Drawn0.step)); done))).mono ?_); rintro e w4 ⟨v102, rfl, ho0, hb⟩; refine ⟨_, rfl, ?_⟩; have n0_ := Aside0.mk (Kd.R_lower ho0 (below_size (by repeat (first | (with_reducible first | exact HB.out | apply below_alloc | apply pw_below_drewN | apply below_drew1) | exact HB.out)))); have n1_ := Aside0.mk (below_step (by repeat (first | (with_reducible first | exact HB.out | apply below_alloc | apply pw_below_drewN | apply below_drew1) | exact HB.out)) hb); clear HB; have HO103 := n0_; have HB := n1_; clear n0_ n1_; (try clear hb); (try clear hb2); (try clear hk); (try clear hi); (try clear ho0); obtain ⟨Ao5, co5, eo5⟩ := Kd.R_slice HO103.out; subst eo5))
    go_loopg [5, 17] k (fun kq v5 v17 w' => ∃ (x5_1 : List Int) (x17_1 : Int), v17 = .int .i64 x17_1 ∧ Aside0 (addr_four.l0 kq x5_1 t101 (t101.length : Int) x17_1 = some (r1, r2)) ∧ Aside0 (kq ≤ k) ∧ Aside0 (Kd.R (Kd.int .u8) 5 w' w.heap.size (fun _ => True) v5 x5_1) ∧ Aside0 (Kd.R Kd.string 9 w' w.heap.size (fun _ => True) (.slice Ao5 t101.length co5) t101) ∧ Aside0 (Below w.heap.size w w'))
    case atStart => exact ⟨(([] : List Int)), (0), (by first | rfl | (simp; done) | (simp [*]; done) | (simp only [isEmpty_beq, bne, Bool.not_not]; done) | (simp only [isEmpty_beq, bne, Bool.not_not]; rfl)), H', ⟨Nat.le_refl _⟩, ⟨by first | exact Kd.R_nil _ _ _ _ _ | exact Kd.N_nil _ _ _ _ _ | exact Kd.V_nil _ _ _ _ _ | exact Kd.Q_nil _ _ _ _ _ | exact Kd.S_nil _ _ _ _ _⟩, ⟨by (with_reducible repeat (first | apply Kd.R_alloc | apply Kd.R_drewN | apply Kd.R_drew)); exact HO103.out⟩, ⟨by repeat (first | (with_reducible first | exact HB.out | apply below_alloc | apply pw_below_drewN | apply below_drew1) | exact HB.out)⟩⟩
    case round =>
      clear H'
      try clear c1
      try clear p2
      try clear c3
      try clear c3b0
      try clear c3b1
      obtain ⟨x5_1, x17_1, rfl, HA, HK1, HO_5, HO_15, HB⟩ := hrel
      cases gk with
      | zero => exact absurd HA.out (by simp [addr_four.l0])
      | succ k1 =>
        have H := HA.out
        clear HA
        simp only [addr_four.l0] at H
        by_cases c6 : x17_1 < (t101.length : Int)
        · rw [if_pos c6] at H
          have c6b0 : decide (x17_1 < (t101.length : Int)) = true := decide_eq_true c6
          clear c6
          by_cases c7 : 0 ≤ x17_1
          · rw [if_pos c7] at H
            have c7b0 : decide (0 ≤ x17_1) = true := decide_eq_true c7
            clear c7
            by_cases c8 : x17_1 < (t101.length : Int)
            · rw [if_pos c8] at H
              have c8b0 : decide (x17_1 < (t101.length : Int)) = true := decide_eq_true c8
              clear c8
              replace H := Option.bind_eq_some_iff.mp H
              obtain ⟨⟨t105, t106⟩, A90, H⟩ := H
              replace H : (if t106.isNone = true then ((strconv_FormatUint.f t105 10).bind fun t108 => (if t108.toList = (rdOf ByteArray.empty t101 x17_1).toList then (if x5_1.length < 140737488355328 then (addr_four.l0 k1 (x5_1 ++ [(t105) % 256]) t101 (t101.length : Int) (wrap64 (x17_1 + 1))) else (none)) else (some ((⟨#[]⟩ : ByteArray), false)))) else (some ((⟨#[]⟩ : ByteArray), false))) = some (r1, r2) := H
              have A9 := Aside0.mk A90
              clear A90
              rcases t106 with _ | q107
              · have H1 : ((strconv_FormatUint.f t105 10).bind fun t108 => (if t108.toList = (rdOf ByteArray.empty t101 x17_1).toList then (if x5_1.length < 140737488355328 then (addr_four.l0 k1 (x5_1 ++ [(t105) % 256]) t101 (t101.length : Int) (wrap64 (x17_1 + 1))) else (none)) else (some ((⟨#[]⟩ : ByteArray), false)))) = some (r1, r2) := by rw [if_pos (show (none : Option Int).isNone = true by rfl)] at H; exact H
                clear H
                have H := H1
                clear H1
                try simp only [errW_none, errW_some]
                replace H := Option.bind_eq_some_iff.mp H
                obtain ⟨t108, A100, H⟩ := H
                replace H : (if t108.toList = (rdOf ByteArray.empty t101 x17_1).toList then (if x5_1.length < 140737488355328 then (addr_four.l0 k1 (x5_1 ++ [(t105) % 256]) t101 (t101.length : Int) (wrap64 (x17_1 + 1))) else (none)) else (some ((⟨#[]⟩ : ByteArray), false))) = some (r1, r2) := H
                have A10 := Aside0.mk A100
                clear A100
                by_cases c11 : t108.toList = (rdOf ByteArray.empty t101 x17_1).toList
                · rw [if_pos c11] at H
                  have c11b0 : (t108.toList == (rdOf ByteArray.empty t101 x17_1).toList) = true := beq_iff_eq.mpr c11
                  have c11b1 : (t108.toList != (rdOf ByteArray.empty t101 x17_1).toList) = false := bne_eq_false_iff_eq.mpr c11
                  clear c11
                  by_cases c12 : x5_1.length < 140737488355328
                  · rw [if_pos c12] at H
                    have LMc12 := Aside0.mk c12
                    clear c12
                    obtain ⟨y109, hy109⟩ : ∃ y_ : List Int, y_ = (x5_1 ++ [(t105) % 256]) := ⟨_, rfl⟩
                    replace H : (addr_four.l0 k1 y109 t101 (t101.length : Int) (wrap64 (x17_1 + 1))) = some (r1, r2) := by first | (rw [hy109]; with_reducible exact H) | (have H2_ := (Option.bind_some _ _).symm.trans H; rw [hy109]; with_reducible exact H2_) | (have H2_ := (Option.bind_some _ _).symm.trans H; with_reducible exact H2_) | with_reducible exact H | (rw [hy109]; exact H) | exact H
                    have Ny109 := Aside0.mk hy109
                    clear hy109
                    have H' := Aside0.mk H
                    clear H
                    have p104 : 0 ≤ (x17_1 : Int) := of_decide_eq_true (by first | (with_reducible assumption) | assumption)
                    have q104 : x17_1 < (t101.length : Int) := of_decide_eq_true (by first | (with_reducible assumption) | assumption)
                    obtain ⟨ad104, e104, hx104_0⟩ := Kd.at_string (Kd.R_reads' HO_15.out).2.2 x17_1 p104 q104
                    cases e104
                    replace p104 := eq_true p104
                    replace q104 := eq_true q104
                    go_wp2_with (first | ((with_reducible refine gate_callee (f := 112) rfl ?_); refine goesL_ (some 23) rfl rfl Tryd.func112 (by kernel_rfl) rfl #[.string (rdOf ByteArray.empty t101 x17_1), .int .i64 10, .int .i64 8] rfl (by (try simp only [List.map_toArray, List.map_cons, List.map_nil]); first | done | rfl | (simp only [List.length_drop, List.length_take]; rfl)) ?_; (with_reducible refine (strconv_ParseUint.calls (rdOf ByteArray.empty t101 x17_1) 10 8 t105 none _ A9.out (by first | exact hG | (refine Gl.below ?_ hG; (repeat (first | (with_reducible first | exact HB.out | apply below_alloc | apply pw_below_drewN | apply below_drew1) | exact HB.out)); done) | (refine Gl.drawn ?_ hG; (repeat (first | exact Drawn0.refl _ | apply Drawn0.step)); done))).mono ?_); rintro e w13 ⟨ep, rfl, hb⟩; refine ⟨_, rfl, ?_⟩; have n0_ := Aside0.mk (Kd.R_below (by (with_reducible repeat (first | apply Kd.R_alloc | apply Kd.R_drewN | apply Kd.R_drew)); exact HO_5.out) hb); have n1_ := Aside0.mk (Kd.R_below (by (with_reducible repeat (first | apply Kd.R_alloc | apply Kd.R_drewN | apply Kd.R_drew)); exact HO_15.out) hb); have n2_ := Aside0.mk (below_step (by repeat (first | (with_reducible first | exact HB.out | apply below_alloc | apply pw_below_drewN | apply below_drew1) | exact HB.out)) hb); clear HO_5; clear HO_15; clear HB; have HO_5 := n0_; have HO_15 := n1_; have HB := n2_; clear n0_ n1_ n2_; (try clear hb); (try clear hb2); (try clear hk); (try clear hi); (try simp only [errW_none, errW_some])) | (go_at_call 86; (with_reducible refine (strconv_FormatUint.calls t105 10 t108 _ A10.out (by first | exact hG | (refine Gl.below ?_ hG; (repeat (first | (with_reducible first | exact HB.out | apply below_alloc | apply pw_below_drewN | apply below_drew1) | exact HB.out)); done) | (refine Gl.drawn ?_ hG; (repeat (first | exact Drawn0.refl _ | apply Drawn0.step)); done))).mono ?_); rintro e w14 ⟨rfl, hb⟩; have n0_ := Aside0.mk (Kd.R_below (by (with_reducible repeat (first | apply Kd.R_alloc | apply Kd.R_drewN | apply Kd.R_drew)); exact HO_5.out) hb); have n1_ := Aside0.mk (Kd.R_below (by (with_reducible repeat (first | apply Kd.R_alloc | apply Kd.R_drewN | apply Kd.R_drew)); exact HO_15.out) hb); have n2_ := Aside0.mk (below_step (by repeat (first | (with_reducible first | exact HB.out | apply below_alloc | apply pw_below_drewN | apply below_drew1) | exact HB.out)) hb); clear HO_5; clear HO_15; clear HB; have HO_5 := n0_; have HO_15 := n1_; have HB := n2_; clear n0_ n1_ n2_; (try clear hb); (try clear hb2); (try clear hk); (try clear hi)) | ((with_reducible refine gate_builtin (b := .append) (xs := #[.tmp 34, .tmp 37]) rfl ?_); at_builtin; refine Kd.R_append (Kd.int .u8) (w0 := w) w.heap.size rfl (.tmp 34) (.tmp 37) 37 5 (.int .u8 0) 1 rfl Tryd.underlying37 info5 rfl (by decide) (by omega) u5 x5_1 ((t105) % 256) [.int .u8 ((t105) % 256)] (fun _ => True) (fun _ => False) rfl rfl ?aP (fun _ hk => hk.elim) ?aF ?aO ?aB ?aS ?aL ?_; (case aP => exact rfl); (case aB => exact (by repeat (first | (with_reducible first | exact HB.out | apply below_alloc | apply pw_below_drewN | apply below_drew1) | exact HB.out))); (case aF => exact (fun _ _ => trivial)); (case aO => exact (by (with_reducible repeat (first | apply Kd.R_alloc | apply Kd.R_drewN | apply Kd.R_drew)); exact HO_5.out)); (case aS => exact (below_size (by repeat (first | (with_reducible first | exact HB.out | apply below_alloc | apply pw_below_drewN | apply below_drew1) | exact HB.out)))); (case aL => have := LMc12.out; omega); intro v110 w15 ho hb hg hat; rw [← Ny109.out] at ho; have n0_ := Aside0.mk (Kd.R_over' (by (with_reducible repeat (first | apply Kd.R_alloc | apply Kd.R_drewN | apply Kd.R_drew)); exact HO_15.out) (Kd.R_typed (by (with_reducible repeat (first | apply Kd.R_alloc | apply Kd.R_drewN | apply Kd.R_drew)); exact HO_5.out)) (by decide) hg); have n1_ := Aside0.mk (hb); have n2_ := Aside0.mk (ho); clear HO_15; clear HB; clear HO_5; have HO_15 := n0_; have HB := n1_; have HO111 := n2_; clear n0_ n1_ n2_; clear ho hb hg hat))
                    go_roundg k1
                    case measure => have := HK1.out; omega
                    case rel => exact ⟨(y109), (wrap64 (x17_1 + 1)), (by first | rfl | (simp; done) | (simp [*]; done) | (simp only [isEmpty_beq, bne, Bool.not_not]; done) | (simp only [isEmpty_beq, bne, Bool.not_not]; rfl)), H', ⟨by have := HK1.out; omega⟩, ⟨by (with_reducible repeat (first | apply Kd.R_alloc | apply Kd.R_drewN | apply Kd.R_drew)); exact HO111.out⟩, ⟨by (with_reducible repeat (first | apply Kd.R_alloc | apply Kd.R_drewN | apply Kd.R_drew)); exact HO_15.out⟩, ⟨by repeat (first | (with_reducible first | exact HB.out | apply below_alloc | apply pw_below_drewN | apply below_drew1) | exact HB.out)⟩⟩
                  · rw [if_neg c12] at H
                    exact absurd H (by simp)
                · rw [if_neg c11] at H
                  have c11b0 : (t108.toList == (rdOf ByteArray.empty t101 x17_1).toList) = false := beq_eq_false_iff_ne.mpr c11
                  have c11b1 : (t108.toList != (rdOf ByteArray.empty t101 x17_1).toList) = true := bne_iff_ne.mpr c11
                  simp only [Option.some.injEq, Prod.mk.injEq] at H
                  obtain ⟨rfl, rfl⟩ := H
                  have p104 : 0 ≤ (x17_1 : Int) := of_decide_eq_true (by first | (with_reducible assumption) | assumption)
                  have q104 : x17_1 < (t101.length : Int) := of_decide_eq_true (by first | (with_reducible assumption) | assumption)
                  obtain ⟨ad104, e104, hx104_0⟩ := Kd.at_string (Kd.R_reads' HO_15.out).2.2 x17_1 p104 q104
                  cases e104
                  replace p104 := eq_true p104
                  replace q104 := eq_true q104
                  go_wp2_with (first | ((with_reducible refine gate_callee (f := 112) rfl ?_); refine goesL_ (some 23) rfl rfl Tryd.func112 (by kernel_rfl) rfl #[.string (rdOf ByteArray.empty t101 x17_1), .int .i64 10, .int .i64 8] rfl (by (try simp only [List.map_toArray, List.map_cons, List.map_nil]); first | done | rfl | (simp only [List.length_drop, List.length_take]; rfl)) ?_; (with_reducible refine (strconv_ParseUint.calls (rdOf ByteArray.empty t101 x17_1) 10 8 t105 none _ A9.out (by first | exact hG | (refine Gl.below ?_ hG; (repeat (first | (with_reducible first | exact HB.out | apply below_alloc | apply pw_below_drewN | apply below_drew1) | exact HB.out)); done) | (refine Gl.drawn ?_ hG; (repeat (first | exact Drawn0.refl _ | apply Drawn0.step)); done))).mono ?_); rintro e w16 ⟨ep, rfl, hb⟩; refine ⟨_, rfl, ?_⟩; have n0_ := Aside0.mk (Kd.R_below (by (with_reducible repeat (first | apply Kd.R_alloc | apply Kd.R_drewN | apply Kd.R_drew)); exact HO_5.out) hb); have n1_ := Aside0.mk (Kd.R_below (by (with_reducible repeat (first | apply Kd.R_alloc | apply Kd.R_drewN | apply Kd.R_drew)); exact HO_15.out) hb); have n2_ := Aside0.mk (below_step (by repeat (first | (with_reducible first | exact HB.out | apply below_alloc | apply pw_below_drewN | apply below_drew1) | exact HB.out)) hb); clear HO_5; clear HO_15; clear HB; have HO_5 := n0_; have HO_15 := n1_; have HB := n2_; clear n0_ n1_ n2_; (try clear hb); (try clear hb2); (try clear hk); (try clear hi); (try simp only [errW_none, errW_some])) | (go_at_call 86; (with_reducible refine (strconv_FormatUint.calls t105 10 t108 _ A10.out (by first | exact hG | (refine Gl.below ?_ hG; (repeat (first | (with_reducible first | exact HB.out | apply below_alloc | apply pw_below_drewN | apply below_drew1) | exact HB.out)); done) | (refine Gl.drawn ?_ hG; (repeat (first | exact Drawn0.refl _ | apply Drawn0.step)); done))).mono ?_); rintro e w17 ⟨rfl, hb⟩; have n0_ := Aside0.mk (Kd.R_below (by (with_reducible repeat (first | apply Kd.R_alloc | apply Kd.R_drewN | apply Kd.R_drew)); exact HO_5.out) hb); have n1_ := Aside0.mk (Kd.R_below (by (with_reducible repeat (first | apply Kd.R_alloc | apply Kd.R_drewN | apply Kd.R_drew)); exact HO_15.out) hb); have n2_ := Aside0.mk (below_step (by repeat (first | (with_reducible first | exact HB.out | apply below_alloc | apply pw_below_drewN | apply below_drew1) | exact HB.out)) hb); clear HO_5; clear HO_15; clear HB; have HO_5 := n0_; have HO_15 := n1_; have HB := n2_; clear n0_ n1_ n2_; (try clear hb); (try clear hb2); (try clear hk); (try clear hi)))
                  go_ret2
                  exact ⟨by first | rfl | (simp only [isEmpty_beq, bne, Bool.not_not]; done) | (simp only [isEmpty_beq, bne, Bool.not_not]; rfl) | (simp [errW_none, errW_some] <;> rfl) | (simp [*, errW_none, errW_some] <;> rfl), by repeat (first | (with_reducible first | exact HB.out | apply below_alloc | apply pw_below_drewN | apply below_drew1) | exact HB.out)⟩
              · have H1 : (some ((⟨#[]⟩ : ByteArray), false)) = some (r1, r2) := by rw [if_neg (show ¬ (some q107).isNone = true by simp)] at H; exact H
                clear H
                have H := H1
                clear H1
                try simp only [errW_none, errW_some]
                simp only [Option.some.injEq, Prod.mk.injEq] at H
                obtain ⟨rfl, rfl⟩ := H
                have p104 : 0 ≤ (x17_1 : Int) := of_decide_eq_true (by first | (with_reducible assumption) | assumption)
                have q104 : x17_1 < (t101.length : Int) := of_decide_eq_true (by first | (with_reducible assumption) | assumption)
                obtain ⟨ad104, e104, hx104_0⟩ := Kd.at_string (Kd.R_reads' HO_15.out).2.2 x17_1 p104 q104
                cases e104
                replace p104 := eq_true p104
                replace q104 := eq_true q104
                go_wp2_with (first | ((with_reducible refine gate_callee (f := 112) rfl ?_); refine goesL_ (some 23) rfl rfl Tryd.func112 (by kernel_rfl) rfl #[.string (rdOf ByteArray.empty t101 x17_1), .int .i64 10, .int .i64 8] rfl (by (try simp only [List.map_toArray, List.map_cons, List.map_nil]); first | done | rfl | (simp only [List.length_drop, List.length_take]; rfl)) ?_; (with_reducible refine (strconv_ParseUint.calls (rdOf ByteArray.empty t101 x17_1) 10 8 t105 (some q107) _ A9.out (by first | exact hG | (refine Gl.below ?_ hG; (repeat (first | (with_reducible first | exact HB.out | apply below_alloc | apply pw_below_drewN | apply below_drew1) | exact HB.out)); done) | (refine Gl.drawn ?_ hG; (repeat (first | exact Drawn0.refl _ | apply Drawn0.step)); done))).mono ?_); rintro e w18 ⟨ep, rfl, hb⟩; refine ⟨_, rfl, ?_⟩; have n0_ := Aside0.mk (Kd.R_below (by (with_reducible repeat (first | apply Kd.R_alloc | apply Kd.R_drewN | apply Kd.R_drew)); exact HO_5.out) hb); have n1_ := Aside0.mk (Kd.R_below (by (with_reducible repeat (first | apply Kd.R_alloc | apply Kd.R_drewN | apply Kd.R_drew)); exact HO_15.out) hb); have n2_ := Aside0.mk (below_step (by repeat (first | (with_reducible first | exact HB.out | apply below_alloc | apply pw_below_drewN | apply below_drew1) | exact HB.out)) hb); clear HO_5; clear HO_15; clear HB; have HO_5 := n0_; have HO_15 := n1_; have HB := n2_; clear n0_ n1_ n2_; (try clear hb); (try clear hb2); (try clear hk); (try clear hi); (try simp only [errW_none, errW_some])))
                go_ret2
                exact ⟨by first | rfl | (simp only [isEmpty_beq, bne, Bool.not_not]; done) | (simp only [isEmpty_beq, bne, Bool.not_not]; rfl) | (simp [errW_none, errW_some] <;> rfl) | (simp [*, errW_none, errW_some] <;> rfl), by repeat (first | (with_reducible first | exact HB.out | apply below_alloc | apply pw_below_drewN | apply below_drew1) | exact HB.out)⟩
            · rw [if_neg c8] at H
              exact absurd H (by simp)
          · rw [if_neg c7] at H
            exact absurd H (by simp)
        · rw [if_neg c6] at H
          have c6b0 : decide (x17_1 < (t101.length : Int)) = false := decide_eq_false c6
          clear c6
          simp only [Option.some.injEq, Prod.mk.injEq] at H
          obtain ⟨rfl, rfl⟩ := H
          have hcv19 := own_string (P := Tryd.prog) Tryd.underlying37 Tryd.underlying5 Tryd.underlying9 (Kd.own_of_R HO_5.out)
          go_wp2
          go_ret2
          exact ⟨by first | rfl | (simp only [isEmpty_beq, bne, Bool.not_not]; done) | (simp only [isEmpty_beq, bne, Bool.not_not]; rfl) | (simp [errW_none, errW_some] <;> rfl) | (simp [*, errW_none, errW_some] <;> rfl), by repeat (first | (with_reducible first | exact HB.out | apply below_alloc | apply pw_below_drewN | apply below_drew1) | exact HB.out)⟩
  · rw [if_neg c3] at H
    have c3b0 : ((t101.length : Int) == 4) = false := beq_eq_false_iff_ne.mpr c3
    have c3b1 : ((t101.length : Int) != 4) = true := bne_iff_ne.mpr c3
    simp only [Option.some.injEq, Prod.mk.injEq] at H
    obtain ⟨rfl, rfl⟩ := H
    go_enter Tryd.func79, Tryd.ntmps79
    go_wp2_with (first | ((with_reducible refine gate_callee (f := 104) rfl ?_); refine goesL_ (some 11) rfl rfl Tryd.func104 (by kernel_rfl) rfl #[.string a0, .string (⟨#[46]⟩ : ByteArray)] rfl (by (try simp only [List.map_toArray, List.map_cons, List.map_nil]); first | done | rfl | (simp only [List.length_drop, List.length_take]; rfl)) ?_; (with_reducible refine (strings_Split.calls a0 (⟨#[46]⟩ : ByteArray) t101 _ A2.out (by first | exact hG | (refine Gl.below ?_ hG; (repeat (first | (with_reducible first | exact HB.out | apply below_alloc | apply pw_below_drewN | apply below_drew1) | exact HB.out)); done) | (refine Gl.drawn ?_ hG; (repeat (first | exact Drawn0.refl _ | apply Drawn0.step)); done))).mono ?_); rintro e w20 ⟨v102, rfl, ho0, hb⟩; refine ⟨_, rfl, ?_⟩; have n0_ := Aside0.mk (Kd.R_lower ho0 (below_size (by repeat (first | (with_reducible first | exact HB.out | apply below_alloc | apply pw_below_drewN | apply below_drew1) | exact HB.out)))); have n1_ := Aside0.mk (below_step (by repeat (first | (with_reducible first | exact HB.out | apply below_alloc | apply pw_below_drewN | apply below_drew1) | exact HB.out)) hb); clear HB; have HO103 := n0_; have HB := n1_; clear n0_ n1_; (try clear hb); (try clear hb2); (try clear hk); (try clear hi); (try clear ho0); obtain ⟨Ao21, co21, eo21⟩ := Kd.R_slice HO103.out; subst eo21))
    go_ret2
    exact ⟨by first | rfl | (simp only [isEmpty_beq, bne, Bool.not_not]; done) | (simp only [isEmpty_beq, bne, Bool.not_not]; rfl) | (simp [errW_none, errW_some] <;> rfl) | (simp [*, errW_none, errW_some] <;> rfl), by repeat (first | (with_reducible first | exact HB.out | apply below_alloc | apply pw_below_drewN | apply below_drew1) | exact HB.out)⟩

/-! ### addr_groups: function 80 -/
mutual
def addr_groups.l0 : Nat → Bool → List ByteArray → List Int → List ByteArray → Int → Int → Option (ByteArray × Bool)
  | 0, _, _, _, _, _, _ => none
  | k + 1, x1, x6, x7, x18, x19, x20 => if x20 < x19 then (if 0 ≤ x20 then (if x20 < (x18.length : Int) then (if x1 = true then (if x20 = (wrap64 ((x6.length : Int) - 1)) then ((strings_Contains.f (rdOf ByteArray.empty x18 x20) (⟨#[46]⟩ : ByteArray)).bind fun t116 => (addr_groups.j1 k x1 x6 x7 (rdOf ByteArray.empty x18 x20) x18 x19 x20 t116)) else (addr_groups.j1 k x1 x6 x7 (rdOf ByteArray.empty x18 x20) x18 x19 x20 false)) else (addr_groups.j1 k x1 x6 x7 (rdOf ByteArray.empty x18 x20) x18 x19 x20 false)) else (none)) else (none)) else (some (strOfNums x7, true))
def addr_groups.j1 : Nat → Bool → List ByteArray → List Int → ByteArray → List ByteArray → Int → Int → Bool → Option (ByteArray × Bool)
  | 0, _, _, _, _, _, _, _, _ => none
  | k + 1, x1, x6, x7, x9, x18, x19, x20, x36 => if x36 = true then ((addr_four.f k x9).bind fun bt117 => (if bt117.2 = true then (if x7.length + bt117.1.size < 140737488355328 then (addr_groups.l0 k x1 x6 (x7 ++ bytesOf bt117.1) x18 x19 (wrap64 (x20 + 1))) else (none)) else (some ((⟨#[]⟩ : ByteArray), false)))) else ((strconv_ParseUint.f x9 16 16).bind fun bt122 => (if bt122.2.isNone = true then (if (x9.size : Int) > 4 then (some ((⟨#[]⟩ : ByteArray), false)) else ((strings_ContainsAny.f x9 (⟨#[43, 95]⟩ : ByteArray)).bind fun t125 => (if t125 = true then (some ((⟨#[]⟩ : ByteArray), false)) else ((some (([(bt122.1 / 256) % 256, (bt122.1) % 256] : List Int) : List Int)).bind fun y126 => (if x7.length + y126.length < 140737488355328 then (addr_groups.l0 k x1 x6 (x7 ++ y126) x18 x19 (wrap64 (x20 + 1))) else (none)))))) else (some ((⟨#[]⟩ : ByteArray), false))))
end
def addr_groups.f (k : Nat) (a0 : ByteArray) (a1 : Bool) : Option (ByteArray × Bool) := if a0.toList = ([] : List UInt8) then (some ((⟨#[]⟩ : ByteArray), true)) else ((strings_Split.f a0 (⟨#[58]⟩ : ByteArray)).bind fun t112 => (addr_groups.l0 k a1 t112 ([] : List Int) t112 (t112.length : Int) 0))
theorem addr_groups.mono_l : ∀ k, (∀ y0 y1 y2 y3 y4 y5, LeO (addr_groups.l0 k y0 y1 y2 y3 y4 y5) (addr_groups.l0 (k + 1) y0 y1 y2 y3 y4 y5)) ∧ (∀ y0 y1 y2 y3 y4 y5 y6 y7, LeO (addr_groups.j1 k y0 y1 y2 y3 y4 y5 y6 y7) (addr_groups.j1 (k + 1) y0 y1 y2 y3 y4 y5 y6 y7))
  | 0 => ⟨fun _ _ _ _ _ _ r h => by simp [addr_groups.l0] at h, fun _ _ _ _ _ _ _ _ r h => by simp [addr_groups.j1] at h⟩
  | k + 1 => by
    obtain ⟨ih0, ih1⟩ := addr_groups.mono_l k
    refine ⟨?_, ?_⟩
    · intro y0 y1 y2 y3 y4 y5
      unfold addr_groups.l0
      repeat' first
      | (with_reducible exact ih0 _ _ _ _ _ _)
      | (with_reducible exact ih1 _ _ _ _ _ _ _ _)
      | (with_reducible exact addr_four.mono _ _)
      | (with_reducible exact LeO.refl _)
      | (with_reducible exact LeO.none _)
      | (with_reducible refine LeO.ite ?_ ?_)
      | (with_reducible refine LeO.bind ?_ (fun _ => ?_))
      | exact ih0 _ _ _ _ _ _
      | exact ih1 _ _ _ _ _ _ _ _
      | exact addr_four.mono _ _
      | exact LeO.none _
      | refine LeO.ite ?_ ?_
      | refine LeO.bind ?_ (fun _ => ?_)
    · intro y0 y1 y2 y3 y4 y5 y6 y7
      unfold addr_groups.j1
      repeat' first
      | (with_reducible exact ih0 _ _ _ _ _ _)
      | (with_reducible exact ih1 _ _ _ _ _ _ _ _)
      | (with_reducible exact addr_four.mono _ _)
      | (with_reducible exact LeO.refl _)
      | (with_reducible exact LeO.none _)
      | (with_reducible refine LeO.ite ?_ ?_)
      | (with_reducible refine LeO.bind ?_ (fun _ => ?_))
      | exact ih0 _ _ _ _ _ _
      | exact ih1 _ _ _ _ _ _ _ _
      | exact addr_four.mono _ _
      | exact LeO.none _
      | refine LeO.ite ?_ ?_
      | refine LeO.bind ?_ (fun _ => ?_)
theorem addr_groups.mono : ∀ a0 a1 k, LeO (addr_groups.f k a0 a1) (addr_groups.f (k + 1) a0 a1) := by
  intro a0 a1 k
  obtain ⟨ih0, ih1⟩ := addr_groups.mono_l k
  unfold addr_groups.f
  repeat' first
      | (with_reducible exact ih0 _ _ _ _ _ _)
      | (with_reducible exact ih1 _ _ _ _ _ _ _ _)
      | (with_reducible exact addr_four.mono _ _)
      | (with_reducible exact LeO.refl _)
      | (with_reducible exact LeO.none _)
      | (with_reducible refine LeO.ite ?_ ?_)
      | (with_reducible refine LeO.bind ?_ (fun _ => ?_))
      | exact ih0 _ _ _ _ _ _
      | exact ih1 _ _ _ _ _ _ _ _
      | exact addr_four.mono _ _
      | exact LeO.none _
      | refine LeO.ite ?_ ?_
      | refine LeO.bind ?_ (fun _ => ?_)
set_option maxHeartbeats 8000000 in
set_option maxRecDepth 100000 in
theorem addr_groups.calls (k : Nat) (a0 : ByteArray) (a1 : Bool) (r1 : ByteArray) (r2 : Bool) (w : World) (h : addr_groups.f k a0 a1 = some (r1, r2)) (hG : Gl w) :
    Calls Tryd.prog 80 #[.string a0, .bool a1] w fun e w' => e = .returned (.tuple #[.string r1, .bool r2]) ∧ Below w.heap.size w w' := by
  have hne_strconv_ParseUint := ne_numErr
  have hu39 := Tryd.underlying39
  have HB := Aside0.mk (Below.refl w.heap.size w)
  have H : (if a0.toList = ([] : List UInt8) then (some ((⟨#[]⟩ : ByteArray), true)) else ((strings_Split.f a0 (⟨#[58]⟩ : ByteArray)).bind fun t112 => (addr_groups.l0 k a1 t112 ([] : List Int) t112 (t112.length : Int) 0))) = some (r1, r2) := h
  clear h
  by_cases c3 : a0.toList = ([] : List UInt8)
  · rw [if_pos c3] at H
    have c3b0 : (a0.toList == ([] : List UInt8)) = true := beq_iff_eq.mpr c3
    have c3b1 : (a0.toList != ([] : List UInt8)) = false := bne_eq_false_iff_eq.mpr c3
    have c3e0 : a0.toList.isEmpty = true := List.isEmpty_iff.mpr c3
    clear c3
    simp only [Option.some.injEq, Prod.mk.injEq] at H
    obtain ⟨rfl, rfl⟩ := H
    go_enter Tryd.func80, Tryd.ntmps80
    go_wp2
    go_ret2
    exact ⟨by first | rfl | (simp only [isEmpty_beq, bne, Bool.not_not]; done) | (simp only [isEmpty_beq, bne, Bool.not_not]; rfl) | (simp [errW_none, errW_some] <;> rfl) | (simp [*, errW_none, errW_some] <;> rfl), by repeat (first | (with_reducible first | exact HB.out | apply below_alloc | apply pw_below_drewN | apply below_drew1) | exact HB.out)⟩
  · rw [if_neg c3] at H
    have c3b0 : (a0.toList == ([] : List UInt8)) = false := beq_eq_false_iff_ne.mpr c3
    have c3b1 : (a0.toList != ([] : List UInt8)) = true := bne_iff_ne.mpr c3
    have c3e0 : a0.toList.isEmpty = false := List.isEmpty_eq_false_iff.mpr c3
    replace H := Option.bind_eq_some_iff.mp H
    obtain ⟨t112, A40, H⟩ := H
    replace H : (addr_groups.l0 k a1 t112 ([] : List Int) t112 (t112.length : Int) 0) = some (r1, r2) := H
    have A4 := Aside0.mk A40
    clear A40
    have H' := Aside0.mk H
    clear H
    go_enter Tryd.func80, Tryd.ntmps80
    go_wp2_with (first | ((with_reducible refine gate_callee (f := 104) rfl ?_); refine goesL_ (some 17) rfl rfl Tryd.func104 (by kernel_rfl) rfl #[.string a0, .string (⟨#[58]⟩ : ByteArray)] rfl (by (try simp only [List.map_toArray, List.map_cons, List.map_nil]); first | done | rfl | (simp only [List.length_drop, List.length_take]; rfl)) ?_; (with_reducible refine (strings_Split.calls a0 (⟨#[58]⟩ : ByteArray) t112 _ A4.out (by first | exact hG | (refine Gl.below ?_ hG; (repeat (first | (with_reducible first | exact HB.out | apply below_alloc | apply pw_below_drewN | apply below_drew1) | exact HB.out)); done) | (refine Gl.drawn ?_ hG; (repeat (first | exact Drawn0.refl _ | apply Drawn0.step)); done))).mono ?_); rintro e w5 ⟨v113, rfl, ho0, hb⟩; refine ⟨_, rfl, ?_⟩; have n0_ := Aside0.mk (Kd.R_lower ho0 (below_size (by repeat (first | (with_reducible first | exact HB.out | apply below_alloc | apply pw_below_drewN | apply below_drew1) | exact HB.out)))); have n1_ := Aside0.mk (below_step (by repeat (first | (with_reducible first | exact HB.out | apply below_alloc | apply pw_below_drewN | apply below_drew1) | exact HB.out)) hb); clear HB; have HO114 := n0_; have HB := n1_; clear n0_ n1_; (try clear hb); (try clear hb2); (try clear hk); (try clear hi); (try clear ho0); obtain ⟨Ao6, co6, eo6⟩ := Kd.R_slice HO114.out; subst eo6))
    go_loopg [7, 20] k (fun kq v7 v20 w' => ∃ (x7_1 : List Int) (x20_1 : Int), v20 = .int .i64 x20_1 ∧ Aside0 (addr_groups.l0 kq a1 t112 x7_1 t112 (t112.length : Int) x20_1 = some (r1, r2)) ∧ Aside0 (kq ≤ k) ∧ Aside0 (Kd.R Kd.string 9 w' w.heap.size (fun _ => True) (.slice Ao6 t112.length co6) t112) ∧ Aside0 (Kd.R (Kd.int .u8) 5 w' w.heap.size (fun _ => True) v7 x7_1) ∧ Aside0 (Kd.R Kd.string 9 w' w.heap.size (fun _ => True) (.slice Ao6 t112.length co6) t112) ∧ Aside0 (Below w.heap.size w w'))
    case atStart => exact ⟨(([] : List Int)), (0), (by first | rfl | (simp; done) | (simp [*]; done) | (simp only [isEmpty_beq, bne, Bool.not_not]; done) | (simp only [isEmpty_beq, bne, Bool.not_not]; rfl)), H', ⟨Nat.le_refl _⟩, ⟨by (with_reducible repeat (first | apply Kd.R_alloc | apply Kd.R_drewN | apply Kd.R_drew)); exact HO114.out⟩, ⟨by first | exact Kd.R_nil _ _ _ _ _ | exact Kd.N_nil _ _ _ _ _ | exact Kd.V_nil _ _ _ _ _ | exact Kd.Q_nil _ _ _ _ _ | exact Kd.S_nil _ _ _ _ _⟩, ⟨by (with_reducible repeat (first | apply Kd.R_alloc | apply Kd.R_drewN | apply Kd.R_drew)); exact HO114.out⟩, ⟨by repeat (first | (with_reducible first | exact HB.out | apply below_alloc | apply pw_below_drewN | apply below_drew1) | exact HB.out)⟩⟩
    case round =>
      clear H'
      try clear c1
      try clear p2
      try clear c3
      try clear c3b0
      try clear c3b1
      obtain ⟨x7_1, x20_1, rfl, HA, HK1, HO_6, HO_7, HO_18, HB⟩ := hrel
      cases gk with
      | zero => exact absurd HA.out (by simp [addr_groups.l0])
      | succ k1 =>
        have H := HA.out
        clear HA
        simp only [addr_groups.l0] at H
        by_cases c7 : x20_1 < (t112.length : Int)
        · rw [if_pos c7] at H
          have c7b0 : decide (x20_1 < (t112.length : Int)) = true := decide_eq_true c7
          clear c7
          by_cases c8 : 0 ≤ x20_1
          · rw [if_pos c8] at H
            have c8b0 : decide (0 ≤ x20_1) = true := decide_eq_true c8
            clear c8
            by_cases c9 : x20_1 < (t112.length : Int)
            · rw [if_pos c9] at H
              have c9b0 : decide (x20_1 < (t112.length : Int)) = true := decide_eq_true c9
              clear c9
              have HC10 := Aside0.mk H
              clear H
              have p115 : 0 ≤ (x20_1 : Int) := of_decide_eq_true (by first | (with_reducible assumption) | assumption)
              have q115 : x20_1 < (t112.length : Int) := of_decide_eq_true (by first | (with_reducible assumption) | assumption)
              obtain ⟨ad115, e115, hx115_0⟩ := Kd.at_string (Kd.R_reads' HO_18.out).2.2 x20_1 p115 q115
              cases e115
              replace p115 := eq_true p115
              replace q115 := eq_true q115
              go_upto_region 8 with (fail)
              go_cut [36] (fun v36 wc => ∃ (kq : Nat) (x36_9 : Bool), v36 = .bool x36_9 ∧ Aside0 (addr_groups.j1 kq a1 t112 x7_1 (rdOf ByteArray.empty t112 x20_1) t112 (t112.length : Int) x20_1 x36_9 = some (r1, r2)) ∧ Aside0 (kq ≤ k1) ∧ Aside0 (Kd.R Kd.string 9 wc w.heap.size (fun _ => True) (.slice (some ad115) t112.length co6) t112) ∧ Aside0 (Kd.R (Kd.int .u8) 5 wc w.heap.size (fun _ => True) u7 x7_1) ∧ Aside0 (Kd.R Kd.string 9 wc w.heap.size (fun _ => True) (.slice (some ad115) t112.length co6) t112) ∧ Aside0 (Below w.heap.size w wc))
              case first =>
                have H := HC10.out
                clear HC10
                by_cases c11 : a1 = true
                · subst c11
                  have H1 : (if x20_1 = (wrap64 ((t112.length : Int) - 1)) then ((strings_Contains.f (rdOf ByteArray.empty t112 x20_1) (⟨#[46]⟩ : ByteArray)).bind fun t116 => (addr_groups.j1 k1 true t112 x7_1 (rdOf ByteArray.empty t112 x20_1) t112 (t112.length : Int) x20_1 t116)) else (addr_groups.j1 k1 true t112 x7_1 (rdOf ByteArray.empty t112 x20_1) t112 (t112.length : Int) x20_1 false)) = some (r1, r2) := by rw [if_pos rfl] at H; exact H
                  clear H
                  have H := H1
                  clear H1
                  by_cases c12 : x20_1 = (wrap64 ((t112.length : Int) - 1))
                  · rw [if_pos c12] at H
                    have c12b0 : (x20_1 == (wrap64 ((t112.length : Int) - 1))) = true := beq_iff_eq.mpr c12
                    have c12b1 : (x20_1 != (wrap64 ((t112.length : Int) - 1))) = false := bne_eq_false_iff_eq.mpr c12
                    clear c12
                    (first | rw [c12b0] | (simp only [i64_w, i32_w]; rw [c12b0]) | skip)
                    replace H := Option.bind_eq_some_iff.mp H
                    obtain ⟨t116, A130, H⟩ := H
                    replace H : (addr_groups.j1 k1 true t112 x7_1 (rdOf ByteArray.empty t112 x20_1) t112 (t112.length : Int) x20_1 t116) = some (r1, r2) := H
                    have A13 := Aside0.mk A130
                    clear A130
                    have H' := Aside0.mk H
                    clear H
                    go_wp2_with (first | (go_at_call 81; (with_reducible refine (strings_Contains.calls (rdOf ByteArray.empty t112 x20_1) (⟨#[46]⟩ : ByteArray) t116 _ A13.out (by first | exact hG | (refine Gl.below ?_ hG; (repeat (first | (with_reducible first | exact HB.out | apply below_alloc | apply pw_below_drewN | apply below_drew1) | exact HB.out)); done) | (refine Gl.drawn ?_ hG; (repeat (first | exact Drawn0.refl _ | apply Drawn0.step)); done))).mono ?_); rintro e w' ⟨rfl, ⟨nd, rfl⟩⟩))
                    go_meet
                    case rel => exact ⟨_, (t116), (by first | rfl | (simp; done) | (simp [*]; done) | (simp only [isEmpty_beq, bne, Bool.not_not]; done) | (simp only [isEmpty_beq, bne, Bool.not_not]; rfl)), H', ⟨by have := HK1.out; first | omega | exact Nat.le_refl _⟩, ⟨by (with_reducible repeat (first | apply Kd.R_alloc | apply Kd.R_drewN | apply Kd.R_drew)); exact HO_6.out⟩, ⟨by (with_reducible repeat (first | apply Kd.R_alloc | apply Kd.R_drewN | apply Kd.R_drew)); exact HO_7.out⟩, ⟨by (with_reducible repeat (first | apply Kd.R_alloc | apply Kd.R_drewN | apply Kd.R_drew)); exact HO_18.out⟩, ⟨by repeat (first | (with_reducible first | exact HB.out | apply below_alloc | apply pw_below_drewN | apply below_drew1) | exact HB.out)⟩⟩
                  · rw [if_neg c12] at H
                    have c12b0 : (x20_1 == (wrap64 ((t112.length : Int) - 1))) = false := beq_eq_false_iff_ne.mpr c12
                    have c12b1 : (x20_1 != (wrap64 ((t112.length : Int) - 1))) = true := bne_iff_ne.mpr c12
                    (first | rw [c12b0] | (simp only [i64_w, i32_w]; rw [c12b0]) | skip)
                    have H' := Aside0.mk H
                    clear H
                    go_wp2
                    go_meet
                    case rel => exact ⟨_, (false), (by first | rfl | (simp; done) | (simp [*]; done) | (simp only [isEmpty_beq, bne, Bool.not_not]; done) | (simp only [isEmpty_beq, bne, Bool.not_not]; rfl)), H', ⟨by have := HK1.out; first | omega | exact Nat.le_refl _⟩, ⟨by (with_reducible repeat (first | apply Kd.R_alloc | apply Kd.R_drewN | apply Kd.R_drew)); exact HO_6.out⟩, ⟨by (with_reducible repeat (first | apply Kd.R_alloc | apply Kd.R_drewN | apply Kd.R_drew)); exact HO_7.out⟩, ⟨by (with_reducible repeat (first | apply Kd.R_alloc | apply Kd.R_drewN | apply Kd.R_drew)); exact HO_18.out⟩, ⟨by repeat (first | (with_reducible first | exact HB.out | apply below_alloc | apply pw_below_drewN | apply below_drew1) | exact HB.out)⟩⟩
                · replace c11 := Bool.eq_false_iff.mpr c11
                  subst c11
                  have H1 : (addr_groups.j1 k1 false t112 x7_1 (rdOf ByteArray.empty t112 x20_1) t112 (t112.length : Int) x20_1 false) = some (r1, r2) := by rw [if_neg (show ¬ (false = true) by decide)] at H; exact H
                  clear H
                  have H := H1
                  clear H1
                  have H' := Aside0.mk H
                  clear H
                  go_wp2
                  go_meet
                  case rel => exact ⟨_, (false), (by first | rfl | (simp; done) | (simp [*]; done) | (simp only [isEmpty_beq, bne, Bool.not_not]; done) | (simp only [isEmpty_beq, bne, Bool.not_not]; rfl)), H', ⟨by have := HK1.out; first | omega | exact Nat.le_refl _⟩, ⟨by (with_reducible repeat (first | apply Kd.R_alloc | apply Kd.R_drewN | apply Kd.R_drew)); exact HO_6.out⟩, ⟨by (with_reducible repeat (first | apply Kd.R_alloc | apply Kd.R_drewN | apply Kd.R_drew)); exact HO_7.out⟩, ⟨by (with_reducible repeat (first | apply Kd.R_alloc | apply Kd.R_drewN | apply Kd.R_drew)); exact HO_18.out⟩, ⟨by repeat (first | (with_reducible first | exact HB.out | apply below_alloc | apply pw_below_drewN | apply below_drew1) | exact HB.out)⟩⟩
              case rest =>
                clear HC10
                try clear c1
                try clear p1
                try clear q1
                try clear hx1
                try clear p2
                try clear c3
                try clear c3b0
                try clear c3b1
                try clear p6
                try clear c7
                try clear c7b0
                try clear c8
                try clear c8b0
                try clear c9
                try clear c9b0
                try clear c10
                try clear c11
                try clear p11
                try clear q11
                try clear hx11
                try clear c12
                try clear c12b0
                try clear c12b1
                try clear hx115_0
                try clear p115
                try clear p2
                try clear q115
                obtain ⟨kq, x36_9, rfl, HA, HJ9, HO_6, HO_7, HO_18, HB⟩ := hcut
                cases kq with
                | zero => exact absurd HA.out (by simp [addr_groups.j1])
                | succ kj9 =>
                  have H := HA.out
                  clear HA
                  simp only [addr_groups.j1] at H
                  by_cases c14 : x36_9 = true
                  · subst c14
                    have H1 : ((addr_four.f kj9 (rdOf ByteArray.empty t112 x20_1)).bind fun bt117 => (if bt117.2 = true then (if x7_1.length + bt117.1.size < 140737488355328 then (addr_groups.l0 kj9 a1 t112 (x7_1 ++ bytesOf bt117.1) t112 (t112.length : Int) (wrap64 (x20_1 + 1))) else (none)) else (some ((⟨#[]⟩ : ByteArray), false)))) = some (r1, r2) := by rw [if_pos rfl] at H; exact H
                    clear H
                    have H := H1
                    clear H1
                    replace H := Option.bind_eq_some_iff.mp H
                    obtain ⟨⟨t117, t118⟩, A150, H⟩ := H
                    replace H : (if t118 = true then (if x7_1.length + t117.size < 140737488355328 then (addr_groups.l0 kj9 a1 t112 (x7_1 ++ bytesOf t117) t112 (t112.length : Int) (wrap64 (x20_1 + 1))) else (none)) else (some ((⟨#[]⟩ : ByteArray), false))) = some (r1, r2) := H
                    have A15 := Aside0.mk A150
                    clear A150
                    by_cases c16 : t118 = true
                    · subst c16
                      have H1 : (if x7_1.length + t117.size < 140737488355328 then (addr_groups.l0 kj9 a1 t112 (x7_1 ++ bytesOf t117) t112 (t112.length : Int) (wrap64 (x20_1 + 1))) else (none)) = some (r1, r2) := by rw [if_pos rfl] at H; exact H
                      clear H
                      have H := H1
                      clear H1
                      by_cases c17 : x7_1.length + t117.size < 140737488355328
                      · rw [if_pos c17] at H
                        have LMc17 := Aside0.mk c17
                        clear c17
                        obtain ⟨y119, hy119⟩ : ∃ y_ : List Int, y_ = (x7_1 ++ bytesOf t117) := ⟨_, rfl⟩
                        replace H : (addr_groups.l0 kj9 a1 t112 y119 t112 (t112.length : Int) (wrap64 (x20_1 + 1))) = some (r1, r2) := by first | (rw [hy119]; with_reducible exact H) | (have H2_ := (Option.bind_some _ _).symm.trans H; rw [hy119]; with_reducible exact H2_) | (have H2_ := (Option.bind_some _ _).symm.trans H; with_reducible exact H2_) | with_reducible exact H | (rw [hy119]; exact H) | exact H
                        have Ny119 := Aside0.mk hy119
                        clear hy119
                        have H' := Aside0.mk H
                        clear H
                        go_wp2_with (first | ((with_reducible refine gate_callee (f := 79) rfl ?_); refine goesL_ (some 39) rfl rfl Tryd.func79 (by kernel_rfl) rfl #[.string (rdOf ByteArray.empty t112 x20_1)] rfl (by (try simp only [List.map_toArray, List.map_cons, List.map_nil]); first | done | rfl | (simp only [List.length_drop, List.length_take]; rfl)) ?_; (with_reducible refine (addr_four.calls kj9 (rdOf ByteArray.empty t112 x20_1) t117 true _ A15.out (by first | exact hG | (refine Gl.below ?_ hG; (repeat (first | (with_reducible first | exact HB.out | apply below_alloc | apply pw_below_drewN | apply below_drew1) | exact HB.out)); done) | (refine Gl.drawn ?_ hG; (repeat (first | exact Drawn0.refl _ | apply Drawn0.step)); done))).mono ?_); rintro e w18 ⟨rfl, hb⟩; refine ⟨_, rfl, ?_⟩; have n0_ := Aside0.mk (Kd.R_below (by (with_reducible repeat (first | apply Kd.R_alloc | apply Kd.R_drewN | apply Kd.R_drew)); exact HO_6.out) hb); have n1_ := Aside0.mk (Kd.R_below (by (with_reducible repeat (first | apply Kd.R_alloc | apply Kd.R_drewN | apply Kd.R_drew)); exact HO_7.out) hb); have n2_ := Aside0.mk (Kd.R_below (by (with_reducible repeat (first | apply Kd.R_alloc | apply Kd.R_drewN | apply Kd.R_drew)); exact HO_18.out) hb); have n3_ := Aside0.mk (below_step (by repeat (first | (with_reducible first | exact HB.out | apply below_alloc | apply pw_below_drewN | apply below_drew1) | exact HB.out)) hb); clear HO_6; clear HO_7; clear HO_18; clear HB; have HO_6 := n0_; have HO_7 := n1_; have HO_18 := n2_; have HB := n3_; clear n0_ n1_ n2_ n3_; (try clear hb); (try clear hb2); (try clear hk); (try clear hi)) | (at_builtin; refine print_append_str (w0 := w) w.heap.size rfl (.tmp 44) _ 37 9 5 rfl Tryd.underlying37 Tryd.underlying9 info5 u7 x7_1 t117 rfl rfl ?aO ?aB ?aS ?aL ?_; (case aB => exact (by repeat (first | (with_reducible first | exact HB.out | apply below_alloc | apply pw_below_drewN | apply below_drew1) | exact HB.out))); (case aO => exact (Kd.own_of_R (by (with_reducible repeat (first | apply Kd.R_alloc | apply Kd.R_drewN | apply Kd.R_drew)); exact HO_7.out))); (case aS => exact (below_size (by repeat (first | (with_reducible first | exact HB.out | apply below_alloc | apply pw_below_drewN | apply below_drew1) | exact HB.out)))); (case aL => have := LMc17.out; omega); intro v120 w19 ho0 hb hg; have ho := Kd.R_of_own (h1 := fun _ => rfl) (ok := fun _ => True) ho0 (fun _ _ => trivial); clear ho0; have hat := True.intro; rw [← Ny119.out] at ho; change Kd.R (Kd.int .u8) 5 w19 w.heap.size (fun _ => True) v120 y119 at ho; have n0_ := Aside0.mk (Kd.R_over' (by (with_reducible repeat (first | apply Kd.R_alloc | apply Kd.R_drewN | apply Kd.R_drew)); exact HO_6.out) (Kd.R_typed (by (with_reducible repeat (first | apply Kd.R_alloc | apply Kd.R_drewN | apply Kd.R_drew)); exact HO_7.out)) (by decide) hg); have n1_ := Aside0.mk (Kd.R_over' (by (with_reducible repeat (first | apply Kd.R_alloc | apply Kd.R_drewN | apply Kd.R_drew)); exact HO_18.out) (Kd.R_typed (by (with_reducible repeat (first | apply Kd.R_alloc | apply Kd.R_drewN | apply Kd.R_drew)); exact HO_7.out)) (by decide) hg); have n2_ := Aside0.mk (hb); have n3_ := Aside0.mk (ho); clear HO_6; clear HO_18; clear HB; clear HO_7; have HO_6 := n0_; have HO_18 := n1_; have HB := n2_; have HO121 := n3_; clear n0_ n1_ n2_ n3_; clear ho hb hg hat))
                        go_roundg kj9
                        case measure => have := HK1.out; have := HJ9.out; omega
                        case rel => exact ⟨(y119), (wrap64 (x20_1 + 1)), (by first | rfl | (simp; done) | (simp [*]; done) | (simp only [isEmpty_beq, bne, Bool.not_not]; done) | (simp only [isEmpty_beq, bne, Bool.not_not]; rfl)), H', ⟨by have := HK1.out; have := HJ9.out; omega⟩, ⟨by (with_reducible repeat (first | apply Kd.R_alloc | apply Kd.R_drewN | apply Kd.R_drew)); exact HO_6.out⟩, ⟨by (with_reducible repeat (first | apply Kd.R_alloc | apply Kd.R_drewN | apply Kd.R_drew)); exact HO121.out⟩, ⟨by (with_reducible repeat (first | apply Kd.R_alloc | apply Kd.R_drewN | apply Kd.R_drew)); exact HO_18.out⟩, ⟨by repeat (first | (with_reducible first | exact HB.out | apply below_alloc | apply pw_below_drewN | apply below_drew1) | exact HB.out)⟩⟩
                      · rw [if_neg c17] at H
                        exact absurd H (by simp)
                    · replace c16 := Bool.eq_false_iff.mpr c16
                      subst c16
                      have H1 : (some ((⟨#[]⟩ : ByteArray), false)) = some (r1, r2) := by rw [if_neg (show ¬ (false = true) by decide)] at H; exact H
                      clear H
                      have H := H1
                      clear H1
                      simp only [Option.some.injEq, Prod.mk.injEq] at H
                      obtain ⟨rfl, rfl⟩ := H
                      go_wp2_with (first | ((with_reducible refine gate_callee (f := 79) rfl ?_); refine goesL_ (some 39) rfl rfl Tryd.func79 (by kernel_rfl) rfl #[.string (rdOf ByteArray.empty t112 x20_1)] rfl (by (try simp only [List.map_toArray, List.map_cons, List.map_nil]); first | done | rfl | (simp only [List.length_drop, List.length_take]; rfl)) ?_; (with_reducible refine (addr_four.calls kj9 (rdOf ByteArray.empty t112 x20_1) t117 false _ A15.out (by first | exact hG | (refine Gl.below ?_ hG; (repeat (first | (with_reducible first | exact HB.out | apply below_alloc | apply pw_below_drewN | apply below_drew1) | exact HB.out)); done) | (refine Gl.drawn ?_ hG; (repeat (first | exact Drawn0.refl _ | apply Drawn0.step)); done))).mono ?_); rintro e w20 ⟨rfl, hb⟩; refine ⟨_, rfl, ?_⟩; have n0_ := Aside0.mk (Kd.R_below (by (with_reducible repeat (first | apply Kd.R_alloc | apply Kd.R_drewN | apply Kd.R_drew)); exact HO_6.out) hb); have n1_ := Aside0.mk (Kd.R_below (by (with_reducible repeat (first | apply Kd.R_alloc | apply Kd.R_drewN | apply Kd.R_drew)); exact HO_7.out) hb); have n2_ := Aside0.mk (Kd.R_below (by (with_reducible repeat (first | apply Kd.R_alloc | apply Kd.R_drewN | apply Kd.R_drew)); exact HO_18.out) hb); have n3_ := Aside0.mk (below_step (by repeat (first | (with_reducible first | exact HB.out | apply below_alloc | apply pw_below_drewN | apply below_drew1) | exact HB.out)) hb); clear HO_6; clear HO_7; clear HO_18; clear HB; have HO_6 := n0_; have HO_7 := n1_; have HO_18 := n2_; have HB := n3_; clear n0_ n1_ n2_ n3_; (try clear hb); (try clear hb2); (try clear hk); (try clear hi)))
                      go_ret2
                      exact ⟨by first | rfl | (simp only [isEmpty_beq, bne, Bool.not_not]; done) | (simp only [isEmpty_beq, bne, Bool.not_not]; rfl) | (simp [errW_none, errW_some] <;> rfl) | (simp [*, errW_none, errW_some] <;> rfl), by repeat (first | (with_reducible first | exact HB.out | apply below_alloc | apply pw_below_drewN | apply below_drew1) | exact HB.out)⟩
                  · replace c14 := Bool.eq_false_iff.mpr c14
                    subst c14
                    have H1 : ((strconv_ParseUint.f (rdOf ByteArray.empty t112 x20_1) 16 16).bind fun bt122 => (if bt122.2.isNone = true then (if ((rdOf ByteArray.empty t112 x20_1).size : Int) > 4 then (some ((⟨#[]⟩ : ByteArray), false)) else ((strings_ContainsAny.f (rdOf ByteArray.empty t112 x20_1) (⟨#[43, 95]⟩ : ByteArray)).bind fun t125 => (if t125 = true then (some ((⟨#[]⟩ : ByteArray), false)) else ((some (([(bt122.1 / 256) % 256, (bt122.1) % 256] : List Int) : List Int)).bind fun y126 => (if x7_1.length + y126.length < 140737488355328 then (addr_groups.l0 kj9 a1 t112 (x7_1 ++ y126) t112 (t112.length : Int) (wrap64 (x20_1 + 1))) else (none)))))) else (some ((⟨#[]⟩ : ByteArray), false)))) = some (r1, r2) := by rw [if_neg (show ¬ (false = true) by decide)] at H; exact H
                    clear H
                    have H := H1
                    clear H1
                    replace H := Option.bind_eq_some_iff.mp H
                    obtain ⟨⟨t122, t123⟩, A210, H⟩ := H
                    replace H : (if t123.isNone = true then (if ((rdOf ByteArray.empty t112 x20_1).size : Int) > 4 then (some ((⟨#[]⟩ : ByteArray), false)) else ((strings_ContainsAny.f (rdOf ByteArray.empty t112 x20_1) (⟨#[43, 95]⟩ : ByteArray)).bind fun t125 => (if t125 = true then (some ((⟨#[]⟩ : ByteArray), false)) else ((some (([(t122 / 256) % 256, (t122) % 256] : List Int) : List Int)).bind fun y126 => (if x7_1.length + y126.length < 140737488355328 then (addr_groups.l0 kj9 a1 t112 (x7_1 ++ y126) t112 (t112.length : Int) (wrap64 (x20_1 + 1))) else (none)))))) else (some ((⟨#[]⟩ : ByteArray), false))) = some (r1, r2) := H
                    have A21 := Aside0.mk A210
                    clear A210
                    rcases t123 with _ | q124
                    · have H1 : (if ((rdOf ByteArray.empty t112 x20_1).size : Int) > 4 then (some ((⟨#[]⟩ : ByteArray), false)) else ((strings_ContainsAny.f (rdOf ByteArray.empty t112 x20_1) (⟨#[43, 95]⟩ : ByteArray)).bind fun t125 => (if t125 = true then (some ((⟨#[]⟩ : ByteArray), false)) else ((some (([(t122 / 256) % 256, (t122) % 256] : List Int) : List Int)).bind fun y126 => (if x7_1.length + y126.length < 140737488355328 then (addr_groups.l0 kj9 a1 t112 (x7_1 ++ y126) t112 (t112.length : Int) (wrap64 (x20_1 + 1))) else (none)))))) = some (r1, r2) := by rw [if_pos (show (none : Option Int).isNone = true by rfl)] at H; exact H
                      clear H
                      have H := H1
                      clear H1
                      try simp only [errW_none, errW_some]
                      by_cases c22 : ((rdOf ByteArray.empty t112 x20_1).size : Int) > 4
                      · rw [if_pos c22] at H
                        have c22b0 : decide (4 < ((rdOf ByteArray.empty t112 x20_1).size : Int)) = true := decide_eq_true c22
                        have c22b1 : decide (4 < (rdOf ByteArray.empty t112 x20_1).size) = true := decide_eq_true (by omega)
                        clear c22
                        simp only [Option.some.injEq, Prod.mk.injEq] at H
                        obtain ⟨rfl, rfl⟩ := H
                        go_wp2_with (first | ((with_reducible refine gate_callee (f := 112) rfl ?_); refine goesL_ (some 49) rfl rfl Tryd.func112 (by kernel_rfl) rfl #[.string (rdOf ByteArray.empty t112 x20_1), .int .i64 16, .int .i64 16] rfl (by (try simp only [List.map_toArray, List.map_cons, List.map_nil]); first | done | rfl | (simp only [List.length_drop, List.length_take]; rfl)) ?_; (with_reducible refine (strconv_ParseUint.calls (rdOf ByteArray.empty t112 x20_1) 16 16 t122 none _ A21.out (by first | exact hG | (refine Gl.below ?_ hG; (repeat (first | (with_reducible first | exact HB.out | apply below_alloc | apply pw_below_drewN | apply below_drew1) | exact HB.out)); done) | (refine Gl.drawn ?_ hG; (repeat (first | exact Drawn0.refl _ | apply Drawn0.step)); done))).mono ?_); rintro e w23 ⟨ep, rfl, hb⟩; refine ⟨_, rfl, ?_⟩; have n0_ := Aside0.mk (Kd.R_below (by (with_reducible repeat (first | apply Kd.R_alloc | apply Kd.R_drewN | apply Kd.R_drew)); exact HO_6.out) hb); have n1_ := Aside0.mk (Kd.R_below (by (with_reducible repeat (first | apply Kd.R_alloc | apply Kd.R_drewN | apply Kd.R_drew)); exact HO_7.out) hb); have n2_ := Aside0.mk (Kd.R_below (by (with_reducible repeat (first | apply Kd.R_alloc | apply Kd.R_drewN | apply Kd.R_drew)); exact HO_18.out) hb); have n3_ := Aside0.mk (below_step (by repeat (first | (with_reducible first | exact HB.out | apply below_alloc | apply pw_below_drewN | apply below_drew1) | exact HB.out)) hb); clear HO_6; clear HO_7; clear HO_18; clear HB; have HO_6 := n0_; have HO_7 := n1_; have HO_18 := n2_; have HB := n3_; clear n0_ n1_ n2_ n3_; (try clear hb); (try clear hb2); (try clear hk); (try clear hi); (try simp only [errW_none, errW_some])))
                        go_ret2
                        exact ⟨by first | rfl | (simp only [isEmpty_beq, bne, Bool.not_not]; done) | (simp only [isEmpty_beq, bne, Bool.not_not]; rfl) | (simp [errW_none, errW_some] <;> rfl) | (simp [*, errW_none, errW_some] <;> rfl), by repeat (first | (with_reducible first | exact HB.out | apply below_alloc | apply pw_below_drewN | apply below_drew1) | exact HB.out)⟩
                      · rw [if_neg c22] at H
                        have c22b0 : decide (4 < ((rdOf ByteArray.empty t112 x20_1).size : Int)) = false := decide_eq_false c22
                        have c22b1 : decide (4 < (rdOf ByteArray.empty t112 x20_1).size) = false := decide_eq_false (by omega)
                        clear c22
                        replace H := Option.bind_eq_some_iff.mp H
                        obtain ⟨t125, A240, H⟩ := H
                        replace H : (if t125 = true then (some ((⟨#[]⟩ : ByteArray), false)) else ((some (([(t122 / 256) % 256, (t122) % 256] : List Int) : List Int)).bind fun y126 => (if x7_1.length + y126.length < 140737488355328 then (addr_groups.l0 kj9 a1 t112 (x7_1 ++ y126) t112 (t112.length : Int) (wrap64 (x20_1 + 1))) else (none)))) = some (r1, r2) := H
                        have A24 := Aside0.mk A240
                        clear A240
                        by_cases c25 : t125 = true
                        · subst c25
                          have H1 : (some ((⟨#[]⟩ : ByteArray), false)) = some (r1, r2) := by rw [if_pos rfl] at H; exact H
                          clear H
                          have H := H1
                          clear H1
                          simp only [Option.some.injEq, Prod.mk.injEq] at H
                          obtain ⟨rfl, rfl⟩ := H
                          go_wp2_with (first | ((with_reducible refine gate_callee (f := 112) rfl ?_); refine goesL_ (some 49) rfl rfl Tryd.func112 (by kernel_rfl) rfl #[.string (rdOf ByteArray.empty t112 x20_1), .int .i64 16, .int .i64 16] rfl (by (try simp only [List.map_toArray, List.map_cons, List.map_nil]); first | done | rfl | (simp only [List.length_drop, List.length_take]; rfl)) ?_; (with_reducible refine (strconv_ParseUint.calls (rdOf ByteArray.empty t112 x20_1) 16 16 t122 none _ A21.out (by first | exact hG | (refine Gl.below ?_ hG; (repeat (first | (with_reducible first | exact HB.out | apply below_alloc | apply pw_below_drewN | apply below_drew1) | exact HB.out)); done) | (refine Gl.drawn ?_ hG; (repeat (first | exact Drawn0.refl _ | apply Drawn0.step)); done))).mono ?_); rintro e w26 ⟨ep, rfl, hb⟩; refine ⟨_, rfl, ?_⟩; have n0_ := Aside0.mk (Kd.R_below (by (with_reducible repeat (first | apply Kd.R_alloc | apply Kd.R_drewN | apply Kd.R_drew)); exact HO_6.out) hb); have n1_ := Aside0.mk (Kd.R_below (by (with_reducible repeat (first | apply Kd.R_alloc | apply Kd.R_drewN | apply Kd.R_drew)); exact HO_7.out) hb); have n2_ := Aside0.mk (Kd.R_below (by (with_reducible repeat (first | apply Kd.R_alloc | apply Kd.R_drewN | apply Kd.R_drew)); exact HO_18.out) hb); have n3_ := Aside0.mk (below_step (by repeat (first | (with_reducible first | exact HB.out | apply below_alloc | apply pw_below_drewN | apply below_drew1) | exact HB.out)) hb); clear HO_6; clear HO_7; clear HO_18; clear HB; have HO_6 := n0_; have HO_7 := n1_; have HO_18 := n2_; have HB := n3_; clear n0_ n1_ n2_ n3_; (try clear hb); (try clear hb2); (try clear hk); (try clear hi); (try simp only [errW_none, errW_some])) | (go_at_call 113; (with_reducible refine (strings_ContainsAny.calls (rdOf ByteArray.empty t112 x20_1) (⟨#[43, 95]⟩ : ByteArray) true _ A24.out).mono ?_); rintro e w27 ⟨rfl, hb⟩; have n0_ := Aside0.mk (Kd.R_below (by (with_reducible repeat (first | apply Kd.R_alloc | apply Kd.R_drewN | apply Kd.R_drew)); exact HO_6.out) hb); have n1_ := Aside0.mk (Kd.R_below (by (with_reducible repeat (first | apply Kd.R_alloc | apply Kd.R_drewN | apply Kd.R_drew)); exact HO_7.out) hb); have n2_ := Aside0.mk (Kd.R_below (by (with_reducible repeat (first | apply Kd.R_alloc | apply Kd.R_drewN | apply Kd.R_drew)); exact HO_18.out) hb); have n3_ := Aside0.mk (below_step (by repeat (first | (with_reducible first | exact HB.out | apply below_alloc | apply pw_below_drewN | apply below_drew1) | exact HB.out)) hb); clear HO_6; clear HO_7; clear HO_18; clear HB; have HO_6 := n0_; have HO_7 := n1_; have HO_18 := n2_; have HB := n3_; clear n0_ n1_ n2_ n3_; (try clear hb); (try clear hb2); (try clear hk); (try clear hi)))
                          go_ret2
                          exact ⟨by first | rfl | (simp only [isEmpty_beq, bne, Bool.not_not]; done) | (simp only [isEmpty_beq, bne, Bool.not_not]; rfl) | (simp [errW_none, errW_some] <;> rfl) | (simp [*, errW_none, errW_some] <;> rfl), by repeat (first | (with_reducible first | exact HB.out | apply below_alloc | apply pw_below_drewN | apply below_drew1) | exact HB.out)⟩
                        · replace c25 := Bool.eq_false_iff.mpr c25
                          subst c25
                          have H1 : ((some (([(t122 / 256) % 256, (t122) % 256] : List Int) : List Int)).bind fun y126 => (if x7_1.length + y126.length < 140737488355328 then (addr_groups.l0 kj9 a1 t112 (x7_1 ++ y126) t112 (t112.length : Int) (wrap64 (x20_1 + 1))) else (none))) = some (r1, r2) := by rw [if_neg (show ¬ (false = true) by decide)] at H; exact H
                          clear H
                          have H := H1
                          clear H1
                          obtain ⟨y126, hy126⟩ : ∃ y_ : List Int, y_ = (([(t122 / 256) % 256, (t122) % 256] : List Int)) := ⟨_, rfl⟩
                          replace H : (if x7_1.length + y126.length < 140737488355328 then (addr_groups.l0 kj9 a1 t112 (x7_1 ++ y126) t112 (t112.length : Int) (wrap64 (x20_1 + 1))) else (none)) = some (r1, r2) := by first | (rw [hy126]; with_reducible exact H) | (have H2_ := (Option.bind_some _ _).symm.trans H; rw [hy126]; with_reducible exact H2_) | (have H2_ := (Option.bind_some _ _).symm.trans H; with_reducible exact H2_) | with_reducible exact H | (rw [hy126]; exact H) | exact H
                          have Ny126 := Aside0.mk hy126
                          clear hy126
                          by_cases c28 : x7_1.length + y126.length < 140737488355328
                          · rw [if_pos c28] at H
                            have LMc28 := Aside0.mk c28
                            clear c28
                            obtain ⟨y129, hy129⟩ : ∃ y_ : List Int, y_ = (x7_1 ++ y126) := ⟨_, rfl⟩
                            replace H : (addr_groups.l0 kj9 a1 t112 y129 t112 (t112.length : Int) (wrap64 (x20_1 + 1))) = some (r1, r2) := by first | (rw [hy129]; with_reducible exact H) | (have H2_ := (Option.bind_some _ _).symm.trans H; rw [hy129]; with_reducible exact H2_) | (have H2_ := (Option.bind_some _ _).symm.trans H; with_reducible exact H2_) | with_reducible exact H | (rw [hy129]; exact H) | exact H
                            have Ny129 := Aside0.mk hy129
                            clear hy129
                            have H' := Aside0.mk H
                            clear H
                            go_wp2_with (first | ((with_reducible refine gate_callee (f := 112) rfl ?_); refine goesL_ (some 49) rfl rfl Tryd.func112 (by kernel_rfl) rfl #[.string (rdOf ByteArray.empty t112 x20_1), .int .i64 16, .int .i64 16] rfl (by (try simp only [List.map_toArray, List.map_cons, List.map_nil]); first | done | rfl | (simp only [List.length_drop, List.length_take]; rfl)) ?_; (with_reducible refine (strconv_ParseUint.calls (rdOf ByteArray.empty t112 x20_1) 16 16 t122 none _ A21.out (by first | exact hG | (refine Gl.below ?_ hG; (repeat (first | (with_reducible first | exact HB.out | apply below_alloc | apply pw_below_drewN | apply below_drew1) | exact HB.out)); done) | (refine Gl.drawn ?_ hG; (repeat (first | exact Drawn0.refl _ | apply Drawn0.step)); done))).mono ?_); rintro e w29 ⟨ep, rfl, hb⟩; refine ⟨_, rfl, ?_⟩; have n0_ := Aside0.mk (Kd.R_below (by (with_reducible repeat (first | apply Kd.R_alloc | apply Kd.R_drewN | apply Kd.R_drew)); exact HO_6.out) hb); have n1_ := Aside0.mk (Kd.R_below (by (with_reducible repeat (first | apply Kd.R_alloc | apply Kd.R_drewN | apply Kd.R_drew)); exact HO_7.out) hb); have n2_ := Aside0.mk (Kd.R_below (by (with_reducible repeat (first | apply Kd.R_alloc | apply Kd.R_drewN | apply Kd.R_drew)); exact HO_18.out) hb); have n3_ := Aside0.mk (below_step (by repeat (first | (with_reducible first | exact HB.out | apply below_alloc | apply pw_below_drewN | apply below_drew1) | exact HB.out)) hb); clear HO_6; clear HO_7; clear HO_18; clear HB; have HO_6 := n0_; have HO_7 := n1_; have HO_18 := n2_; have HB := n3_; clear n0_ n1_ n2_ n3_; (try clear hb); (try clear hb2); (try clear hk); (try clear hi); (try simp only [errW_none, errW_some])) | (go_at_call 113; (with_reducible refine (strings_ContainsAny.calls (rdOf ByteArray.empty t112 x20_1) (⟨#[43, 95]⟩ : ByteArray) false _ A24.out).mono ?_); rintro e w30 ⟨rfl, hb⟩; have n0_ := Aside0.mk (Kd.R_below (by (with_reducible repeat (first | apply Kd.R_alloc | apply Kd.R_drewN | apply Kd.R_drew)); exact HO_6.out) hb); have n1_ := Aside0.mk (Kd.R_below (by (with_reducible repeat (first | apply Kd.R_alloc | apply Kd.R_drewN | apply Kd.R_drew)); exact HO_7.out) hb); have n2_ := Aside0.mk (Kd.R_below (by (with_reducible repeat (first | apply Kd.R_alloc | apply Kd.R_drewN | apply Kd.R_drew)); exact HO_18.out) hb); have n3_ := Aside0.mk (below_step (by repeat (first | (with_reducible first | exact HB.out | apply below_alloc | apply pw_below_drewN | apply below_drew1) | exact HB.out)) hb); clear HO_6; clear HO_7; clear HO_18; clear HB; have HO_6 := n0_; have HO_7 := n1_; have HO_18 := n2_; have HB := n3_; clear n0_ n1_ n2_ n3_; (try clear hb); (try clear hb2); (try clear hk); (try clear hi)) | ((with_reducible refine gate_dst (N := 69) rfl ?_); (try (refine gate_guard (by rfl) ?_; dsimp only)); refine Kd.R_lit (Kd.int .u8) _ 5 ?hg (N := 69) ?hd (xs := ([(t122 / 256) % 256, (t122) % 256] : List Int)) (inner := [.int .u8 ((t122 / 256) % 256), .int .u8 ((t122) % 256)]) (ok := fun _ => True) (okp := fun _ => True) ?hr ?hp (fun _ hk => hk) trivial (Below.refl _ _) (Nat.le_refl _) (by simp) ?_; (case hd => rfl); (case hg => rfl); (case hr => first | (go_simp; done) | (go_simp; rfl)); (case hp => exact (Reps.one (show Kd.M (Kd.int .u8) _ _ _ ((t122 / 256) % 256) [.int .u8 ((t122 / 256) % 256)] from rfl) (Reps.one (show Kd.M (Kd.int .u8) _ _ _ ((t122) % 256) [.int .u8 ((t122) % 256)] from rfl) (Reps.none _ _)))); intro v127 w31 ho32 hb hg_ hnew_; clear hg_ hnew_; (first | rw [← Ny126.out] at ho32 | (simp only [Int.reduceToNat] at ho32; rw [← Ny126.out] at ho32)); have n0_ := Aside0.mk (Kd.R_below (by (with_reducible repeat (first | apply Kd.R_alloc | apply Kd.R_drewN | apply Kd.R_drew)); exact HO_6.out) hb); have n1_ := Aside0.mk (Kd.R_elder' (by (with_reducible repeat (first | apply Kd.R_alloc | apply Kd.R_drewN | apply Kd.R_drew)); exact HO_7.out) (Kd.R_base ho32) hb); have n2_ := Aside0.mk (Kd.R_below (by (with_reducible repeat (first | apply Kd.R_alloc | apply Kd.R_drewN | apply Kd.R_drew)); exact HO_18.out) hb); have n3_ := Aside0.mk (Kd.R_lower (Kd.R_new' ho32 (Kd.R_lt (by (with_reducible repeat (first | apply Kd.R_alloc | apply Kd.R_drewN | apply Kd.R_drew)); exact HO_7.out))) (below_size (by repeat (first | (with_reducible first | exact HB.out | apply below_alloc | apply pw_below_drewN | apply below_drew1) | exact HB.out)))); have n4_ := Aside0.mk (below_step (by repeat (first | (with_reducible first | exact HB.out | apply below_alloc | apply pw_below_drewN | apply below_drew1) | exact HB.out)) hb); clear HO_6; clear HO_7; clear HO_18; clear HB; have HO_6 := n0_; have HO_7 := n1_; have HO_18 := n2_; have HO128 := n3_; have HB := n4_; clear n0_ n1_ n2_ n3_ n4_; clear hb ho32; obtain ⟨Ao34, co34, eo34⟩ := Kd.R_slice HO128.out; subst eo34) | ((with_reducible refine gate_builtin (b := .append) (xs := #[.tmp 63, .tmp 69]) rfl ?_); (try (refine gate_guard (by rfl) ?_; dsimp only)); at_builtin; refine Kd.R_append_rows (Kd.int .u8) (w0 := w) w.heap.size rfl (.tmp 63) (.tmp 69) 37 5 (.int .u8 0) 1 rfl Tryd.underlying37 info5 rfl (by decide) (by omega) u7 x7_1 y126 _ _ _ (fun k_ => some k_ ≠ (.slice Ao34 y126.length co34 : Value).ownBlock) (fun _ => False) rfl rfl ?aO ?aR (fun _ _ h => h) (fun _ h => h.elim) ?aF ?aB ?aS ?aL ?_; (case aR => repeat (first | exact (Kd.R_reads' HO128.out).2.2 | (with_reducible refine Kd.C_alloc ?_ _) | (with_reducible refine Kd.C_drewN ?_ _) | (with_reducible refine Kd.C_drew ?_))); (case aB => exact (by repeat (first | (with_reducible first | exact HB.out | apply below_alloc | apply pw_below_drewN | apply below_drew1) | exact HB.out))); (case aF => exact (fun k_ hk => Kd.fresh' (Kd.R_lt (by (with_reducible repeat (first | apply Kd.R_alloc | apply Kd.R_drewN | apply Kd.R_drew)); exact HO128.out)) k_ hk)); (case aO => exact (by (with_reducible repeat (first | apply Kd.R_alloc | apply Kd.R_drewN | apply Kd.R_drew)); exact Kd.R_mono HO_7.out (fun _ hk => hk.2))); (case aS => exact (below_size (by repeat (first | (with_reducible first | exact HB.out | apply below_alloc | apply pw_below_drewN | apply below_drew1) | exact HB.out)))); (case aL => have := LMc28.out; omega); intro v130 w33 ho hb hg hat; rw [← Ny129.out] at ho; have n0_ := Aside0.mk (Kd.R_over' (by (with_reducible repeat (first | apply Kd.R_alloc | apply Kd.R_drewN | apply Kd.R_drew)); exact HO_6.out) (Kd.R_typed (by (with_reducible repeat (first | apply Kd.R_alloc | apply Kd.R_drewN | apply Kd.R_drew)); exact HO_7.out)) (by decide) hg); have n1_ := Aside0.mk (Kd.R_over' (by (with_reducible repeat (first | apply Kd.R_alloc | apply Kd.R_drewN | apply Kd.R_drew)); exact HO_18.out) (Kd.R_typed (by (with_reducible repeat (first | apply Kd.R_alloc | apply Kd.R_drewN | apply Kd.R_drew)); exact HO_7.out)) (by decide) hg); have n2_ := Aside0.mk (Kd.R_after (ok := (fun _ => True)) (by (with_reducible repeat (first | apply Kd.R_alloc | apply Kd.R_drewN | apply Kd.R_drew)); exact HO128.out) hg hat); have n3_ := Aside0.mk (hb); have n4_ := Aside0.mk (ho); clear HO_6; clear HO_18; clear HO128; clear HB; clear HO_7; have HO_6 := n0_; have HO_18 := n1_; have HO128 := n2_; have HB := n3_; have HO131 := n4_; clear n0_ n1_ n2_ n3_ n4_; clear ho hb hg hat))
                            go_roundg kj9
                            case measure => have := HK1.out; have := HJ9.out; omega
                            case rel => exact ⟨(y129), (wrap64 (x20_1 + 1)), (by first | rfl | (simp; done) | (simp [*]; done) | (simp only [isEmpty_beq, bne, Bool.not_not]; done) | (simp only [isEmpty_beq, bne, Bool.not_not]; rfl)), H', ⟨by have := HK1.out; have := HJ9.out; omega⟩, ⟨by (with_reducible repeat (first | apply Kd.R_alloc | apply Kd.R_drewN | apply Kd.R_drew)); exact HO_6.out⟩, ⟨by (with_reducible repeat (first | apply Kd.R_alloc | apply Kd.R_drewN | apply Kd.R_drew)); exact Kd.R_mono HO131.out (fun _ hk => trivial)⟩, ⟨by (with_reducible repeat (first | apply Kd.R_alloc | apply Kd.R_drewN | apply Kd.R_drew)); exact HO_18.out⟩, ⟨by repeat (first | (with_reducible first | exact HB.out | apply below_alloc | apply pw_below_drewN | apply below_drew1) | exact HB.out)⟩⟩
                          · rw [if_neg c28] at H
                            exact absurd H (by simp)
                    · have H1 : (some ((⟨#[]⟩ : ByteArray), false)) = some (r1, r2) := by rw [if_neg (show ¬ (some q124).isNone = true by simp)] at H; exact H
                      clear H
                      have H := H1
                      clear H1
                      try simp only [errW_none, errW_some]
                      simp only [Option.some.injEq, Prod.mk.injEq] at H
                      obtain ⟨rfl, rfl⟩ := H
                      go_wp2_with (first | ((with_reducible refine gate_callee (f := 112) rfl ?_); refine goesL_ (some 49) rfl rfl Tryd.func112 (by kernel_rfl) rfl #[.string (rdOf ByteArray.empty t112 x20_1), .int .i64 16, .int .i64 16] rfl (by (try simp only [List.map_toArray, List.map_cons, List.map_nil]); first | done | rfl | (simp only [List.length_drop, List.length_take]; rfl)) ?_; (with_reducible refine (strconv_ParseUint.calls (rdOf ByteArray.empty t112 x20_1) 16 16 t122 (some q124) _ A21.out (by first | exact hG | (refine Gl.below ?_ hG; (repeat (first | (with_reducible first | exact HB.out | apply below_alloc | apply pw_below_drewN | apply below_drew1) | exact HB.out)); done) | (refine Gl.drawn ?_ hG; (repeat (first | exact Drawn0.refl _ | apply Drawn0.step)); done))).mono ?_); rintro e w35 ⟨ep, rfl, hb⟩; refine ⟨_, rfl, ?_⟩; have n0_ := Aside0.mk (Kd.R_below (by (with_reducible repeat (first | apply Kd.R_alloc | apply Kd.R_drewN | apply Kd.R_drew)); exact HO_6.out) hb); have n1_ := Aside0.mk (Kd.R_below (by (with_reducible repeat (first | apply Kd.R_alloc | apply Kd.R_drewN | apply Kd.R_drew)); exact HO_7.out) hb); have n2_ := Aside0.mk (Kd.R_below (by (with_reducible repeat (first | apply Kd.R_alloc | apply Kd.R_drewN | apply Kd.R_drew)); exact HO_18.out) hb); have n3_ := Aside0.mk (below_step (by repeat (first | (with_reducible first | exact HB.out | apply below_alloc | apply pw_below_drewN | apply below_drew1) | exact HB.out)) hb); clear HO_6; clear HO_7; clear HO_18; clear HB; have HO_6 := n0_; have HO_7 := n1_; have HO_18 := n2_; have HB := n3_; clear n0_ n1_ n2_ n3_; (try clear hb); (try clear hb2); (try clear hk); (try clear hi); (try simp only [errW_none, errW_some])))
                      go_ret2
                      exact ⟨by first | rfl | (simp only [isEmpty_beq, bne, Bool.not_not]; done) | (simp only [isEmpty_beq, bne, Bool.not_not]; rfl) | (simp [errW_none, errW_some] <;> rfl) | (simp [*, errW_none, errW_some] <;> rfl), by repeat (first | (with_reducible first | exact HB.out | apply below_alloc | apply pw_below_drewN | apply below_drew1) | exact HB.out)⟩
            · rw [if_neg c9] at H
              exact absurd H (by simp)
          · rw [if_neg c8] at H
            exact absurd H (by simp)
        · rw [if_neg c7] at H
          have c7b0 : decide (x20_1 < (t112.length : Int)) = false := decide_eq_false c7
          clear c7
          simp only [Option.some.injEq, Prod.mk.injEq] at H
          obtain ⟨rfl, rfl⟩ := H
          have hcv36 := own_string (P := Tryd.prog) Tryd.underlying37 Tryd.underlying5 Tryd.underlying9 (Kd.own_of_R HO_7.out)
          go_wp2
          go_ret2
          exact ⟨by first | rfl | (simp only [isEmpty_beq, bne, Bool.not_not]; done) | (simp only [isEmpty_beq, bne, Bool.not_not]; rfl) | (simp [errW_none, errW_some] <;> rfl) | (simp [*, errW_none, errW_some] <;> rfl), by repeat (first | (with_reducible first | exact HB.out | apply below_alloc | apply pw_below_drewN | apply below_drew1) | exact HB.out)⟩

/-! ### addr_Parse: function 41 -/
mutual
def addr_Parse.j0 : Nat → Bool → ByteArray → ByteArray → Bool → Option (ByteArray × Bool)
  | 0, _, _, _, _ => none
  | k + 1, x8, x9, x11, x41 => if x41 = true then (some ((⟨#[]⟩ : ByteArray), false)) else (if x8 = true then (addr_Parse.j1 k x8 x9 x11 (decide ((wrap64 ((x9.size : Int) + (x11.size : Int))) ≤ 14))) else (addr_Parse.j1 k x8 x9 x11 false))
def addr_Parse.j1 : Nat → Bool → ByteArray → ByteArray → Bool → Option (ByteArray × Bool)
  | 0, _, _, _, _ => none
  | k + 1, x8, x9, x11, x52 => if x52 = true then ((strings_Repeat.f (⟨#[0]⟩ : ByteArray) (wrap64 ((wrap64 (16 - (x9.size : Int))) - (x11.size : Int)))).bind fun t142 => (if x9.size + t142.size ≤ 9223372036854775807 then (if (x9 ++ t142).size + x11.size ≤ 9223372036854775807 then (some ((x9 ++ t142) ++ x11, true)) else (none)) else (none))) else (if x8 = true then (some ((⟨#[]⟩ : ByteArray), false)) else (if (x9.size : Int) = 16 then (some (x9, true)) else (some ((⟨#[]⟩ : ByteArray), false))))
end
def addr_Parse.f (k : Nat) (a0 : ByteArray) : Option (ByteArray × Bool) := (addr_four.f k a0).bind fun bt132 => (if bt132.2 = true then (some (bt132.1, true)) else (if (a0.size : Int) > 64 then (some ((⟨#[]⟩ : ByteArray), false)) else ((strings_Cut.f a0 (⟨#[58, 58]⟩ : ByteArray)).bind fun bt134 => ((addr_groups.f k bt134.1 (!bt134.2.2)).bind fun bt137 => ((addr_groups.f k bt134.2.1 true).bind fun bt139 => (if bt137.2 = true then (if bt139.2 = true then ((strings_Contains.f bt134.2.1 (⟨#[58, 58]⟩ : ByteArray)).bind fun t141 => (addr_Parse.j0 k bt134.2.2 bt137.1 bt139.1 t141)) else (addr_Parse.j0 k bt134.2.2 bt137.1 bt139.1 true)) else (addr_Parse.j0 k bt134.2.2 bt137.1 bt139.1 true)))))))
theorem addr_Parse.mono_l : ∀ k, (∀ y0 y1 y2 y3, LeO (addr_Parse.j0 k y0 y1 y2 y3) (addr_Parse.j0 (k + 1) y0 y1 y2 y3)) ∧ (∀ y0 y1 y2 y3, LeO (addr_Parse.j1 k y0 y1 y2 y3) (addr_Parse.j1 (k + 1) y0 y1 y2 y3))
  | 0 => ⟨fun _ _ _ _ r h => by simp [addr_Parse.j0] at h, fun _ _ _ _ r h => by simp [addr_Parse.j1] at h⟩
  | k + 1 => by
    obtain ⟨ih0, ih1⟩ := addr_Parse.mono_l k
    refine ⟨?_, ?_⟩
    · intro y0 y1 y2 y3
      unfold addr_Parse.j0
      repeat' first
      | (with_reducible exact ih0 _ _ _ _)
      | (with_reducible exact ih1 _ _ _ _)
      | (with_reducible exact addr_four.mono _ _)
      | (with_reducible exact addr_groups.mono _ _ _)
      | (with_reducible exact LeO.refl _)
      | (with_reducible exact LeO.none _)
      | (with_reducible refine LeO.ite ?_ ?_)
      | (with_reducible refine LeO.bind ?_ (fun _ => ?_))
      | exact ih0 _ _ _ _
      | exact ih1 _ _ _ _
      | exact addr_four.mono _ _
      | exact addr_groups.mono _ _ _
      | exact LeO.none _
      | refine LeO.ite ?_ ?_
      | refine LeO.bind ?_ (fun _ => ?_)
    · intro y0 y1 y2 y3
      unfold addr_Parse.j1
      repeat' first
      | (with_reducible exact ih0 _ _ _ _)
      | (with_reducible exact ih1 _ _ _ _)
      | (with_reducible exact addr_four.mono _ _)
      | (with_reducible exact addr_groups.mono _ _ _)
      | (with_reducible exact LeO.refl _)
      | (with_reducible exact LeO.none _)
      | (with_reducible refine LeO.ite ?_ ?_)
      | (with_reducible refine LeO.bind ?_ (fun _ => ?_))
      | exact ih0 _ _ _ _
      | exact ih1 _ _ _ _
      | exact addr_four.mono _ _
      | exact addr_groups.mono _ _ _
      | exact LeO.none _
      | refine LeO.ite ?_ ?_
      | refine LeO.bind ?_ (fun _ => ?_)
theorem addr_Parse.mono : ∀ a0 k, LeO (addr_Parse.f k a0) (addr_Parse.f (k + 1) a0) := by
  intro a0 k
  obtain ⟨ih0, ih1⟩ := addr_Parse.mono_l k
  unfold addr_Parse.f
  repeat' first
      | (with_reducible exact ih0 _ _ _ _)
      | (with_reducible exact ih1 _ _ _ _)
      | (with_reducible exact addr_four.mono _ _)
      | (with_reducible exact addr_groups.mono _ _ _)
      | (with_reducible exact LeO.refl _)
      | (with_reducible exact LeO.none _)
      | (with_reducible refine LeO.ite ?_ ?_)
      | (with_reducible refine LeO.bind ?_ (fun _ => ?_))
      | exact ih0 _ _ _ _
      | exact ih1 _ _ _ _
      | exact addr_four.mono _ _
      | exact addr_groups.mono _ _ _
      | exact LeO.none _
      | refine LeO.ite ?_ ?_
      | refine LeO.bind ?_ (fun _ => ?_)
set_option maxHeartbeats 8000000 in
set_option maxRecDepth 100000 in
theorem addr_Parse.calls (k : Nat) (a0 : ByteArray) (r1 : ByteArray) (r2 : Bool) (w : World) (h : addr_Parse.f k a0 = some (r1, r2)) (hG : Gl w) :
    Calls Tryd.prog 41 #[.string a0] w fun e w' => e = .returned (.tuple #[.string r1, .bool r2]) ∧ Below w.heap.size w w' := by
  have HB := Aside0.mk (Below.refl w.heap.size w)
  have H : ((addr_four.f k a0).bind fun bt132 => (if bt132.2 = true then (some (bt132.1, true)) else (if (a0.size : Int) > 64 then (some ((⟨#[]⟩ : ByteArray), false)) else ((strings_Cut.f a0 (⟨#[58, 58]⟩ : ByteArray)).bind fun bt134 => ((addr_groups.f k bt134.1 (!bt134.2.2)).bind fun bt137 => ((addr_groups.f k bt134.2.1 true).bind fun bt139 => (if bt137.2 = true then (if bt139.2 = true then ((strings_Contains.f bt134.2.1 (⟨#[58, 58]⟩ : ByteArray)).bind fun t141 => (addr_Parse.j0 k bt134.2.2 bt137.1 bt139.1 t141)) else (addr_Parse.j0 k bt134.2.2 bt137.1 bt139.1 true)) else (addr_Parse.j0 k bt134.2.2 bt137.1 bt139.1 true)))))))) = some (r1, r2) := h
  clear h
  replace H := Option.bind_eq_some_iff.mp H
  obtain ⟨⟨t132, t133⟩, A20, H⟩ := H
  replace H : (if t133 = true then (some (t132, true)) else (if (a0.size : Int) > 64 then (some ((⟨#[]⟩ : ByteArray), false)) else ((strings_Cut.f a0 (⟨#[58, 58]⟩ : ByteArray)).bind fun bt134 => ((addr_groups.f k bt134.1 (!bt134.2.2)).bind fun bt137 => ((addr_groups.f k bt134.2.1 true).bind fun bt139 => (if bt137.2 = true then (if bt139.2 = true then ((strings_Contains.f bt134.2.1 (⟨#[58, 58]⟩ : ByteArray)).bind fun t141 => (addr_Parse.j0 k bt134.2.2 bt137.1 bt139.1 t141)) else (addr_Parse.j0 k bt134.2.2 bt137.1 bt139.1 true)) else (addr_Parse.j0 k bt134.2.2 bt137.1 bt139.1 true))))))) = some (r1, r2) := H
  have A2 := Aside0.mk A20
  clear A20
  by_cases c3 : t133 = true
  · subst c3
    have H1 : (some (t132, true)) = some (r1, r2) := by rw [if_pos rfl] at H; exact H
    clear H
    have H := H1
    clear H1
    simp only [Option.some.injEq, Prod.mk.injEq] at H
    obtain ⟨rfl, rfl⟩ := H
    go_enter Tryd.func41, Tryd.ntmps41
    go_wp2_with (first | ((with_reducible refine gate_callee (f := 79) rfl ?_); refine goesL_ (some 15) rfl rfl Tryd.func79 (by kernel_rfl) rfl #[.string a0] rfl (by (try simp only [List.map_toArray, List.map_cons, List.map_nil]); first | done | rfl | (simp only [List.length_drop, List.length_take]; rfl)) ?_; (with_reducible refine (addr_four.calls k a0 t132 true _ A2.out (by first | exact hG | (refine Gl.below ?_ hG; (repeat (first | (with_reducible first | exact HB.out | apply below_alloc | apply pw_below_drewN | apply below_drew1) | exact HB.out)); done) | (refine Gl.drawn ?_ hG; (repeat (first | exact Drawn0.refl _ | apply Drawn0.step)); done))).mono ?_); rintro e w4 ⟨rfl, hb⟩; refine ⟨_, rfl, ?_⟩; have n0_ := Aside0.mk (below_step (by repeat (first | (with_reducible first | exact HB.out | apply below_alloc | apply pw_below_drewN | apply below_drew1) | exact HB.out)) hb); clear HB; have HB := n0_; clear n0_; (try clear hb); (try clear hb2); (try clear hk); (try clear hi)))
    go_ret2
    exact ⟨by first | rfl | (simp only [isEmpty_beq, bne, Bool.not_not]; done) | (simp only [isEmpty_beq, bne, Bool.not_not]; rfl) | (simp [errW_none, errW_some] <;> rfl) | (simp [*, errW_none, errW_some] <;> rfl), by repeat (first | (with_reducible first | exact HB.out | apply below_alloc | apply pw_below_drewN | apply below_drew1) | exact HB.out)⟩
  · replace c3 := Bool.eq_false_iff.mpr c3
    subst c3
    have H1 : (if (a0.size : Int) > 64 then (some ((⟨#[]⟩ : ByteArray), false)) else ((strings_Cut.f a0 (⟨#[58, 58]⟩ : ByteArray)).bind fun bt134 => ((addr_groups.f k bt134.1 (!bt134.2.2)).bind fun bt137 => ((addr_groups.f k bt134.2.1 true).bind fun bt139 => (if bt137.2 = true then (if bt139.2 = true then ((strings_Contains.f bt134.2.1 (⟨#[58, 58]⟩ : ByteArray)).bind fun t141 => (addr_Parse.j0 k bt134.2.2 bt137.1 bt139.1 t141)) else (addr_Parse.j0 k bt134.2.2 bt137.1 bt139.1 true)) else (addr_Parse.j0 k bt134.2.2 bt137.1 bt139.1 true)))))) = some (r1, r2) := by rw [if_neg (show ¬ (false = true) by decide)] at H; exact H
    clear H
    have H := H1
    clear H1
    by_cases c5 : (a0.size : Int) > 64
    · rw [if_pos c5] at H
      have c5b0 : decide (64 < (a0.size : Int)) = true := decide_eq_true c5
      have c5b1 : decide (64 < a0.size) = true := decide_eq_true (by omega)
      clear c5
      simp only [Option.some.injEq, Prod.mk.injEq] at H
      obtain ⟨rfl, rfl⟩ := H
      go_enter Tryd.func41, Tryd.ntmps41
      go_wp2_with (first | ((with_reducible refine gate_callee (f := 79) rfl ?_); refine goesL_ (some 15) rfl rfl Tryd.func79 (by kernel_rfl) rfl #[.string a0] rfl (by (try simp only [List.map_toArray, List.map_cons, List.map_nil]); first | done | rfl | (simp only [List.length_drop, List.length_take]; rfl)) ?_; (with_reducible refine (addr_four.calls k a0 t132 false _ A2.out (by first | exact hG | (refine Gl.below ?_ hG; (repeat (first | (with_reducible first | exact HB.out | apply below_alloc | apply pw_below_drewN | apply below_drew1) | exact HB.out)); done) | (refine Gl.drawn ?_ hG; (repeat (first | exact Drawn0.refl _ | apply Drawn0.step)); done))).mono ?_); rintro e w6 ⟨rfl, hb⟩; refine ⟨_, rfl, ?_⟩; have n0_ := Aside0.mk (below_step (by repeat (first | (with_reducible first | exact HB.out | apply below_alloc | apply pw_below_drewN | apply below_drew1) | exact HB.out)) hb); clear HB; have HB := n0_; clear n0_; (try clear hb); (try clear hb2); (try clear hk); (try clear hi)))
      go_ret2
      exact ⟨by first | rfl | (simp only [isEmpty_beq, bne, Bool.not_not]; done) | (simp only [isEmpty_beq, bne, Bool.not_not]; rfl) | (simp [errW_none, errW_some] <;> rfl) | (simp [*, errW_none, errW_some] <;> rfl), by repeat (first | (with_reducible first | exact HB.out | apply below_alloc | apply pw_below_drewN | apply below_drew1) | exact HB.out)⟩
    · rw [if_neg c5] at H
      have c5b0 : decide (64 < (a0.size : Int)) = false := decide_eq_false c5
      have c5b1 : decide (64 < a0.size) = false := decide_eq_false (by omega)
      clear c5
      replace H := Option.bind_eq_some_iff.mp H
      obtain ⟨⟨t134, t135, t136⟩, A70, H⟩ := H
      replace H : ((addr_groups.f k t134 (!t136)).bind fun bt137 => ((addr_groups.f k t135 true).bind fun bt139 => (if bt137.2 = true then (if bt139.2 = true then ((strings_Contains.f t135 (⟨#[58, 58]⟩ : ByteArray)).bind fun t141 => (addr_Parse.j0 k t136 bt137.1 bt139.1 t141)) else (addr_Parse.j0 k t136 bt137.1 bt139.1 true)) else (addr_Parse.j0 k t136 bt137.1 bt139.1 true)))) = some (r1, r2) := H
      have A7 := Aside0.mk A70
      clear A70
      replace H := Option.bind_eq_some_iff.mp H
      obtain ⟨⟨t137, t138⟩, A80, H⟩ := H
      replace H : ((addr_groups.f k t135 true).bind fun bt139 => (if t138 = true then (if bt139.2 = true then ((strings_Contains.f t135 (⟨#[58, 58]⟩ : ByteArray)).bind fun t141 => (addr_Parse.j0 k t136 t137 bt139.1 t141)) else (addr_Parse.j0 k t136 t137 bt139.1 true)) else (addr_Parse.j0 k t136 t137 bt139.1 true))) = some (r1, r2) := H
      have A8 := Aside0.mk A80
      clear A80
      replace H := Option.bind_eq_some_iff.mp H
      obtain ⟨⟨t139, t140⟩, A90, H⟩ := H
      replace H : (if t138 = true then (if t140 = true then ((strings_Contains.f t135 (⟨#[58, 58]⟩ : ByteArray)).bind fun t141 => (addr_Parse.j0 k t136 t137 t139 t141)) else (addr_Parse.j0 k t136 t137 t139 true)) else (addr_Parse.j0 k t136 t137 t139 true)) = some (r1, r2) := H
      have A9 := Aside0.mk A90
      clear A90
      have HC10 := Aside0.mk H
      clear H
      go_enter Tryd.func41, Tryd.ntmps41
      go_upto_region 9 with (first | ((with_reducible refine gate_callee (f := 79) rfl ?_); refine goesL_ (some 15) rfl rfl Tryd.func79 (by kernel_rfl) rfl #[.string a0] rfl (by (try simp only [List.map_toArray, List.map_cons, List.map_nil]); first | done | rfl | (simp only [List.length_drop, List.length_take]; rfl)) ?_; (with_reducible refine (addr_four.calls k a0 t132 false _ A2.out (by first | exact hG | (refine Gl.below ?_ hG; (repeat (first | (with_reducible first | exact HB.out | apply below_alloc | apply pw_below_drewN | apply below_drew1) | exact HB.out)); done) | (refine Gl.drawn ?_ hG; (repeat (first | exact Drawn0.refl _ | apply Drawn0.step)); done))).mono ?_); rintro e w11 ⟨rfl, hb⟩; refine ⟨_, rfl, ?_⟩; have n0_ := Aside0.mk (below_step (by repeat (first | (with_reducible first | exact HB.out | apply below_alloc | apply pw_below_drewN | apply below_drew1) | exact HB.out)) hb); clear HB; have HB := n0_; clear n0_; (try clear hb); (try clear hb2); (try clear hk); (try clear hi)) | ((with_reducible refine gate_callee (f := 66) rfl ?_); refine goesL_ (some 25) rfl rfl Tryd.func66 (by kernel_rfl) rfl #[.string a0, .string (⟨#[58, 58]⟩ : ByteArray)] rfl (by (try simp only [List.map_toArray, List.map_cons, List.map_nil]); first | done | rfl | (simp only [List.length_drop, List.length_take]; rfl)) ?_; (with_reducible refine (strings_Cut.calls a0 (⟨#[58, 58]⟩ : ByteArray) t134 t135 t136 _ A7.out (by first | exact hG | (refine Gl.below ?_ hG; (repeat (first | (with_reducible first | exact HB.out | apply below_alloc | apply pw_below_drewN | apply below_drew1) | exact HB.out)); done) | (refine Gl.drawn ?_ hG; (repeat (first | exact Drawn0.refl _ | apply Drawn0.step)); done))).mono ?_); rintro e w' ⟨rfl, ⟨nd, rfl⟩⟩; refine ⟨_, rfl, ?_⟩) | ((with_reducible refine gate_callee (f := 80) rfl ?_); refine goesL_ (some 33) rfl rfl Tryd.func80 (by kernel_rfl) rfl #[.string t134, .bool (!t136)] rfl (by (try simp only [List.map_toArray, List.map_cons, List.map_nil]); first | done | rfl | (simp only [List.length_drop, List.length_take]; rfl)) ?_; (with_reducible refine (addr_groups.calls k t134 (!t136) t137 t138 _ A8.out (by first | exact hG | (refine Gl.below ?_ hG; (repeat (first | (with_reducible first | exact HB.out | apply below_alloc | apply pw_below_drewN | apply below_drew1) | exact HB.out)); done) | (refine Gl.drawn ?_ hG; (repeat (first | exact Drawn0.refl _ | apply Drawn0.step)); done))).mono ?_); rintro e w12 ⟨rfl, hb⟩; refine ⟨_, rfl, ?_⟩; have n0_ := Aside0.mk (below_step (by repeat (first | (with_reducible first | exact HB.out | apply below_alloc | apply pw_below_drewN | apply below_drew1) | exact HB.out)) hb); clear HB; have HB := n0_; clear n0_; (try clear hb); (try clear hb2); (try clear hk); (try clear hi)) | ((with_reducible refine gate_callee (f := 80) rfl ?_); refine goesL_ (some 38) rfl rfl Tryd.func80 (by kernel_rfl) rfl #[.string t135, .bool true] rfl (by (try simp only [List.map_toArray, List.map_cons, List.map_nil]); first | done | rfl | (simp only [List.length_drop, List.length_take]; rfl)) ?_; (with_reducible refine (addr_groups.calls k t135 true t139 t140 _ A9.out (by first | exact hG | (refine Gl.below ?_ hG; (repeat (first | (with_reducible first | exact HB.out | apply below_alloc | apply pw_below_drewN | apply below_drew1) | exact HB.out)); done) | (refine Gl.drawn ?_ hG; (repeat (first | exact Drawn0.refl _ | apply Drawn0.step)); done))).mono ?_); rintro e w13 ⟨rfl, hb⟩; refine ⟨_, rfl, ?_⟩; have n0_ := Aside0.mk (below_step (by repeat (first | (with_reducible first | exact HB.out | apply below_alloc | apply pw_below_drewN | apply below_drew1) | exact HB.out)) hb); clear HB; have HB := n0_; clear n0_; (try clear hb); (try clear hb2); (try clear hk); (try clear hi)))
      (try simp only [Act.put, List.setIfInBounds_toArray, List.set_cons_zero, List.set_cons_succ])
      go_cut [41] (fun v41 wc => ∃ (kq : Nat) (x41_9 : Bool), v41 = .bool x41_9 ∧ Aside0 (addr_Parse.j0 kq t136 t137 t139 x41_9 = some (r1, r2)) ∧ Aside0 (kq ≤ k) ∧ Aside0 (Below w.heap.size w wc))
      case first =>
        have H := HC10.out
        clear HC10
        by_cases c14 : t138 = true
        · subst c14
          have H1 : (if t140 = true then ((strings_Contains.f t135 (⟨#[58, 58]⟩ : ByteArray)).bind fun t141 => (addr_Parse.j0 k t136 t137 t139 t141)) else (addr_Parse.j0 k t136 t137 t139 true)) = some (r1, r2) := by rw [if_pos rfl] at H; exact H
          clear H
          have H := H1
          clear H1
          by_cases c15 : t140 = true
          · subst c15
            have H1 : ((strings_Contains.f t135 (⟨#[58, 58]⟩ : ByteArray)).bind fun t141 => (addr_Parse.j0 k t136 t137 t139 t141)) = some (r1, r2) := by rw [if_pos rfl] at H; exact H
            clear H
            have H := H1
            clear H1
            replace H := Option.bind_eq_some_iff.mp H
            obtain ⟨t141, A160, H⟩ := H
            replace H : (addr_Parse.j0 k t136 t137 t139 t141) = some (r1, r2) := H
            have A16 := Aside0.mk A160
            clear A160
            have H' := Aside0.mk H
            clear H
            go_wp2_with (first | (go_at_call 81; (with_reducible refine (strings_Contains.calls t135 (⟨#[58, 58]⟩ : ByteArray) t141 _ A16.out (by first | exact hG | (refine Gl.below ?_ hG; (repeat (first | (with_reducible first | exact HB.out | apply below_alloc | apply pw_below_drewN | apply below_drew1) | exact HB.out)); done) | (refine Gl.drawn ?_ hG; (repeat (first | exact Drawn0.refl _ | apply Drawn0.step)); done))).mono ?_); rintro e w' ⟨rfl, ⟨nd, rfl⟩⟩))
            go_meet
            case rel => exact ⟨_, (t141), (by first | rfl | (simp; done) | (simp [*]; done) | (simp only [isEmpty_beq, bne, Bool.not_not]; done) | (simp only [isEmpty_beq, bne, Bool.not_not]; rfl)), H', ⟨by first | omega | exact Nat.le_refl _⟩, ⟨by repeat (first | (with_reducible first | exact HB.out | apply below_alloc | apply pw_below_drewN | apply below_drew1) | exact HB.out)⟩⟩
          · replace c15 := Bool.eq_false_iff.mpr c15
            subst c15
            have H1 : (addr_Parse.j0 k t136 t137 t139 true) = some (r1, r2) := by rw [if_neg (show ¬ (false = true) by decide)] at H; exact H
            clear H
            have H := H1
            clear H1
            have H' := Aside0.mk H
            clear H
            go_wp2
            go_meet
            case rel => exact ⟨_, (true), (by first | rfl | (simp; done) | (simp [*]; done) | (simp only [isEmpty_beq, bne, Bool.not_not]; done) | (simp only [isEmpty_beq, bne, Bool.not_not]; rfl)), H', ⟨by first | omega | exact Nat.le_refl _⟩, ⟨by repeat (first | (with_reducible first | exact HB.out | apply below_alloc | apply pw_below_drewN | apply below_drew1) | exact HB.out)⟩⟩
        · replace c14 := Bool.eq_false_iff.mpr c14
          subst c14
          have H1 : (addr_Parse.j0 k t136 t137 t139 true) = some (r1, r2) := by rw [if_neg (show ¬ (false = true) by decide)] at H; exact H
          clear H
          have H := H1
          clear H1
          have H' := Aside0.mk H
          clear H
          go_wp2
          go_meet
          case rel => exact ⟨_, (true), (by first | rfl | (simp; done) | (simp [*]; done) | (simp only [isEmpty_beq, bne, Bool.not_not]; done) | (simp only [isEmpty_beq, bne, Bool.not_not]; rfl)), H', ⟨by first | omega | exact Nat.le_refl _⟩, ⟨by repeat (first | (with_reducible first | exact HB.out | apply below_alloc | apply pw_below_drewN | apply below_drew1) | exact HB.out)⟩⟩
      case rest =>
        clear HC10
        try clear c1
        try clear p2
        try clear c3
        try clear c4
        try clear c5
        try clear c5b0
        try clear c5b1
        try clear c6
        try clear c7
        try clear c8
        try clear c14
        try clear c15
        obtain ⟨kq, x41_9, rfl, HA, HJ9, HB⟩ := hcut
        cases kq with
        | zero => exact absurd HA.out (by simp [addr_Parse.j0])
        | succ kj9 =>
          have H := HA.out
          clear HA
          simp only [addr_Parse.j0] at H
          by_cases c17 : x41_9 = true
          · subst c17
            have H1 : (some ((⟨#[]⟩ : ByteArray), false)) = some (r1, r2) := by rw [if_pos rfl] at H; exact H
            clear H
            have H := H1
            clear H1
            simp only [Option.some.injEq, Prod.mk.injEq] at H
            obtain ⟨rfl, rfl⟩ := H
            go_wp2
            go_ret2
            exact ⟨by first | rfl | (simp only [isEmpty_beq, bne, Bool.not_not]; done) | (simp only [isEmpty_beq, bne, Bool.not_not]; rfl) | (simp [errW_none, errW_some] <;> rfl) | (simp [*, errW_none, errW_some] <;> rfl), by repeat (first | (with_reducible first | exact HB.out | apply below_alloc | apply pw_below_drewN | apply below_drew1) | exact HB.out)⟩
          · replace c17 := Bool.eq_false_iff.mpr c17
            subst c17
            have H1 : (if t136 = true then (addr_Parse.j1 kj9 t136 t137 t139 (decide ((wrap64 ((t137.size : Int) + (t139.size : Int))) ≤ 14))) else (addr_Parse.j1 kj9 t136 t137 t139 false)) = some (r1, r2) := by rw [if_neg (show ¬ (false = true) by decide)] at H; exact H
            clear H
            have H := H1
            clear H1
            have HC18 := Aside0.mk H
            clear H
            go_upto_region 11 with (fail)
            go_cut [52] (fun v52 wc => ∃ (kq : Nat) (x52_17 : Bool), v52 = .bool x52_17 ∧ Aside0 (addr_Parse.j1 kq t136 t137 t139 x52_17 = some (r1, r2)) ∧ Aside0 (kq ≤ kj9) ∧ Aside0 (Below w.heap.size w wc))
            case first =>
              have H := HC18.out
              clear HC18
              by_cases c19 : t136 = true
              · subst c19
                have H1 : (addr_Parse.j1 kj9 true t137 t139 (decide ((wrap64 ((t137.size : Int) + (t139.size : Int))) ≤ 14))) = some (r1, r2) := by rw [if_pos rfl] at H; exact H
                clear H
                have H := H1
                clear H1
                have H' := Aside0.mk H
                clear H
                go_wp2
                go_meet
                case rel => exact ⟨_, (decide ((wrap64 ((t137.size : Int) + (t139.size : Int))) ≤ 14)), (by first | rfl | (simp; done) | (simp [*]; done) | (simp only [isEmpty_beq, bne, Bool.not_not]; done) | (simp only [isEmpty_beq, bne, Bool.not_not]; rfl)), H', ⟨by have := HJ9.out; first | omega | exact Nat.le_refl _⟩, ⟨by repeat (first | (with_reducible first | exact HB.out | apply below_alloc | apply pw_below_drewN | apply below_drew1) | exact HB.out)⟩⟩
              · replace c19 := Bool.eq_false_iff.mpr c19
                subst c19
                have H1 : (addr_Parse.j1 kj9 false t137 t139 false) = some (r1, r2) := by rw [if_neg (show ¬ (false = true) by decide)] at H; exact H
                clear H
                have H := H1
                clear H1
                have H' := Aside0.mk H
                clear H
                go_wp2
                go_meet
                case rel => exact ⟨_, (false), (by first | rfl | (simp; done) | (simp [*]; done) | (simp only [isEmpty_beq, bne, Bool.not_not]; done) | (simp only [isEmpty_beq, bne, Bool.not_not]; rfl)), H', ⟨by have := HJ9.out; first | omega | exact Nat.le_refl _⟩, ⟨by repeat (first | (with_reducible first | exact HB.out | apply below_alloc | apply pw_below_drewN | apply below_drew1) | exact HB.out)⟩⟩
            case rest =>
              clear HC18
              try clear c1
              try clear p2
              try clear c3
              try clear c4
              try clear c5
              try clear c5b0
              try clear c5b1
              try clear c6
              try clear p6
              try clear c7
              try clear c8
              try clear c14
              try clear c15
              try clear c17
              try clear c19
              try clear p2
              obtain ⟨kq, x52_17, rfl, HA, HJ17, HB⟩ := hcut
              cases kq with
              | zero => exact absurd HA.out (by simp [addr_Parse.j1])
              | succ kj17 =>
                have H := HA.out
                clear HA
                simp only [addr_Parse.j1] at H
                by_cases c20 : x52_17 = true
                · subst c20
                  have H1 : ((strings_Repeat.f (⟨#[0]⟩ : ByteArray) (wrap64 ((wrap64 (16 - (t137.size : Int))) - (t139.size : Int)))).bind fun t142 => (if t137.size + t142.size ≤ 9223372036854775807 then (if (t137 ++ t142).size + t139.size ≤ 9223372036854775807 then (some ((t137 ++ t142) ++ t139, true)) else (none)) else (none))) = some (r1, r2) := by rw [if_pos rfl] at H; exact H
                  clear H
                  have H := H1
                  clear H1
                  replace H := Option.bind_eq_some_iff.mp H
                  obtain ⟨t142, A210, H⟩ := H
                  replace H : (if t137.size + t142.size ≤ 9223372036854775807 then (if (t137 ++ t142).size + t139.size ≤ 9223372036854775807 then (some ((t137 ++ t142) ++ t139, true)) else (none)) else (none)) = some (r1, r2) := H
                  have A21 := Aside0.mk A210
                  clear A210
                  by_cases c22 : t137.size + t142.size ≤ 9223372036854775807
                  · rw [if_pos c22] at H
                    have A21E := Aside0.mk c22
                    have c22b0 := eq_true c22
                    have c22b1 : decide (t137.size + t142.size ≤ 9223372036854775807) = true := decide_eq_true c22
                    try have c22b2 : (9223372036854775807 < t137.size + t142.size) = False := eq_false (Nat.not_lt.2 c22)
                    by_cases c23 : (t137 ++ t142).size + t139.size ≤ 9223372036854775807
                    · rw [if_pos c23] at H
                      have c23b0 := eq_true c23
                      have c23b1 : decide ((t137 ++ t142).size + t139.size ≤ 9223372036854775807) = true := decide_eq_true c23
                      try have c23b2 : (9223372036854775807 < (t137 ++ t142).size + t139.size) = False := eq_false (Nat.not_lt.2 c23)
                      have c23n : t137.size + t142.size + t139.size ≤ 9223372036854775807 := by have := c23; simp only [ByteArray.size_append] at this; exact this
                      have c23n2 : (9223372036854775807 < t137.size + t142.size + t139.size) = False := eq_false (Nat.not_lt.2 c23n)
                      clear c23n
                      simp only [Option.some.injEq, Prod.mk.injEq] at H
                      obtain ⟨rfl, rfl⟩ := H
                      have eW : wrap64 (16 - (t137.size : Int)) = 16 - (t137.size : Int) := by have hx := A21E.out; unfold wrap64; omega
                      have A21N := Aside0.mk A21.out
                      rw [eW] at A21N
                      clear eW
                      go_wp2_with (first | ((with_reducible refine gate_callee (f := 82) rfl ?_); refine goesL_ (some 69) rfl rfl Tryd.func82 (by kernel_rfl) rfl #[.string (⟨#[0]⟩ : ByteArray), .int .i64 (wrap64 (16 - (t137.size : Int) - (t139.size : Int)))] rfl (by (try simp only [List.map_toArray, List.map_cons, List.map_nil]); first | done | rfl | (simp only [List.length_drop, List.length_take]; rfl)) ?_; (with_reducible refine (strings_Repeat.calls (⟨#[0]⟩ : ByteArray) (wrap64 (16 - (t137.size : Int) - (t139.size : Int))) t142 _ A21N.out).mono ?_); rintro e w24 ⟨rfl, hb⟩; refine ⟨_, rfl, ?_⟩; have n0_ := Aside0.mk (below_step (by repeat (first | (with_reducible first | exact HB.out | apply below_alloc | apply pw_below_drewN | apply below_drew1) | exact HB.out)) hb); clear HB; have HB := n0_; clear n0_; (try clear hb); (try clear hb2); (try clear hk); (try clear hi)))
                      go_ret2
                      exact ⟨by first | rfl | (simp only [isEmpty_beq, bne, Bool.not_not]; done) | (simp only [isEmpty_beq, bne, Bool.not_not]; rfl) | (simp [errW_none, errW_some] <;> rfl) | (simp [*, errW_none, errW_some] <;> rfl), by repeat (first | (with_reducible first | exact HB.out | apply below_alloc | apply pw_below_drewN | apply below_drew1) | exact HB.out)⟩
                    · rw [if_neg c23] at H
                      exact absurd H (by simp)
                  · rw [if_neg c22] at H
                    exact absurd H (by simp)
                · replace c20 := Bool.eq_false_iff.mpr c20
                  subst c20
                  have H1 : (if t136 = true then (some ((⟨#[]⟩ : ByteArray), false)) else (if (t137.size : Int) = 16 then (some (t137, true)) else (some ((⟨#[]⟩ : ByteArray), false)))) = some (r1, r2) := by rw [if_neg (show ¬ (false = true) by decide)] at H; exact H
                  clear H
                  have H := H1
                  clear H1
                  by_cases c25 : t136 = true
                  · subst c25
                    have H1 : (some ((⟨#[]⟩ : ByteArray), false)) = some (r1, r2) := by rw [if_pos rfl] at H; exact H
                    clear H
                    have H := H1
                    clear H1
                    simp only [Option.some.injEq, Prod.mk.injEq] at H
                    obtain ⟨rfl, rfl⟩ := H
                    go_wp2
                    go_ret2
                    exact ⟨by first | rfl | (simp only [isEmpty_beq, bne, Bool.not_not]; done) | (simp only [isEmpty_beq, bne, Bool.not_not]; rfl) | (simp [errW_none, errW_some] <;> rfl) | (simp [*, errW_none, errW_some] <;> rfl), by repeat (first | (with_reducible first | exact HB.out | apply below_alloc | apply pw_below_drewN | apply below_drew1) | exact HB.out)⟩
                  · replace c25 := Bool.eq_false_iff.mpr c25
                    subst c25
                    have H1 : (if (t137.size : Int) = 16 then (some (t137, true)) else (some ((⟨#[]⟩ : ByteArray), false))) = some (r1, r2) := by rw [if_neg (show ¬ (false = true) by decide)] at H; exact H
                    clear H
                    have H := H1
                    clear H1
                    by_cases c26 : (t137.size : Int) = 16
                    · rw [if_pos c26] at H
                      have c26b0 : ((t137.size : Int) == 16) = true := beq_iff_eq.mpr c26
                      have c26b1 : ((t137.size : Int) != 16) = false := bne_eq_false_iff_eq.mpr c26
                      clear c26
                      simp only [Option.some.injEq, Prod.mk.injEq] at H
                      obtain ⟨rfl, rfl⟩ := H
                      go_wp2
                      go_ret2
                      exact ⟨by first | rfl | (simp only [isEmpty_beq, bne, Bool.not_not]; done) | (simp only [isEmpty_beq, bne, Bool.not_not]; rfl) | (simp [errW_none, errW_some] <;> rfl) | (simp [*, errW_none, errW_some] <;> rfl), by repeat (first | (with_reducible first | exact HB.out | apply below_alloc | apply pw_below_drewN | apply below_drew1) | exact HB.out)⟩
                    · rw [if_neg c26] at H
                      have c26b0 : ((t137.size : Int) == 16) = false := beq_eq_false_iff_ne.mpr c26
                      have c26b1 : ((t137.size : Int) != 16) = true := bne_iff_ne.mpr c26
                      simp only [Option.some.injEq, Prod.mk.injEq] at H
                      obtain ⟨rfl, rfl⟩ := H
                      go_wp2
                      go_ret2
                      exact ⟨by first | rfl | (simp only [isEmpty_beq, bne, Bool.not_not]; done) | (simp only [isEmpty_beq, bne, Bool.not_not]; rfl) | (simp [errW_none, errW_some] <;> rfl) | (simp [*, errW_none, errW_some] <;> rfl), by repeat (first | (with_reducible first | exact HB.out | apply below_alloc | apply pw_below_drewN | apply below_drew1) | exact HB.out)⟩

end Go.Proofs.YtkhkemagkcjdoaaDoor.XAD
