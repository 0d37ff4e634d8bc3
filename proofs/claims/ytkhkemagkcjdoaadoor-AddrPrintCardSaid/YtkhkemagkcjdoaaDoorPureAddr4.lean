/- The reference's print of an address of the second kind: the program's. Conditions: the bounds named in each theorem. -/
import Derived.Test.YtkhkemagkcjdoaaDoorPureAddr3
namespace Go.Proofs.YtkhkemagkcjdoaaDoor.Pure
open Go.RowKit Go.Proofs.YtkhkemagkcjdoaaDoorW.PrintWords Go.Proofs.YtkhkemagkcjdoaaDoor.Gv Go.Proofs.YtkhkemagkcjdoaaDoor.XAD

theorem wmul2 (i : Nat) (h : i < 1000) : wrap64 (2 * (i : Int)) = ((2 * i : Nat) : Int) := by unfold wrap64; omega
/-- One run, counted by the reference. -/
theorem ref_count_ev (a : ByteArray) (h : a.size = 16) (t : ByteArray) (at_ : Int) (s i : Nat) (hi : i < 8) (R : ByteArray)
    (hR : Ev (fun k => conciergeref2_Print.l1 k a t (if zr ((groups (L a)).drop i) > s then (i : Int) else at_) ((if zr ((groups (L a)).drop i) > s then zr ((groups (L a)).drop i) else s : Nat) : Int) ((i + 1 : Nat) : Int)) R) :
    ∀ (d n : Nat), 8 - (i + n) = d → i + n ≤ 8 → n + zr ((groups (L a)).drop (i + n)) = zr ((groups (L a)).drop i) →
    Ev (fun k => conciergeref2_Print.l2 k a t at_ (s : Int) (i : Int) (n : Int)) R := by
  have hlen := groups_length 8 (L a) (by rw [← L_size, h])
  have hend : ∀ n : Nat, i + n ≤ 8 → n = zr ((groups (L a)).drop i) → ∀ k,
      (if (n : Int) > (s : Int) then (conciergeref2_Print.l1 k a t (i : Int) (n : Int) (wrap64 ((i : Int) + 1))) else (conciergeref2_Print.l1 k a t at_ (s : Int) (wrap64 ((i : Int) + 1)))) =
      conciergeref2_Print.l1 k a t (if zr ((groups (L a)).drop i) > s then (i : Int) else at_) ((if zr ((groups (L a)).drop i) > s then zr ((groups (L a)).drop i) else s : Nat) : Int) ((i + 1 : Nat) : Int) := by
    intro n hn e k
    rw [wrap_nat i (by omega), ← e]
    by_cases hs : n > s
    · rw [if_pos (by omega), if_pos hs, if_pos hs]
    · rw [if_neg (by omega), if_neg hs, if_neg hs]
  intro d
  induction d with
  | zero =>
    intro n hd hn hz
    have hn8 : i + n = 8 := by omega
    have hz0 : zr ((groups (L a)).drop (i + n)) = 0 := by rw [hn8, List.drop_eq_nil_of_le (by omega)]; rfl
    refine Ev.step (fun k => ?_) hR
    simp only [conciergeref2_Print.l2]
    rw [wadd i n (by omega), if_neg (by omega)]
    exact hend n hn (by omega) k
  | succ d ih =>
    intro n hd hn hz
    obtain ⟨b0, b1, h0, h1, hb0, hb1, hg⟩ := grp_at a h (i + n) (by omega)
    have w0 := wmul2 (i + n) (by omega)
    have w1 := wrap_nat (2 * (i + n)) (by omega)
    rw [hg, zr_cons] at hz
    by_cases hzero : b0 * 256 + b1 = 0
    · rw [if_pos hzero] at hz
      refine Ev.step (fun k => ?_) (ih (n + 1) (by omega) (by omega) (by rw [show i + (n + 1) = i + n + 1 by omega]; omega))
      simp only [conciergeref2_Print.l2]
      rw [wadd i n (by omega), if_pos (by omega), w0, if_pos (by omega), if_pos (by omega), hb0, if_pos (by omega), w1, if_pos (by omega), if_pos (by omega), hb1, if_pos (by omega), wrap_nat n (by omega)]
    · rw [if_neg hzero] at hz
      refine Ev.step (fun k => ?_) hR
      have he := hend n hn (by omega) k
      simp only [conciergeref2_Print.l2]
      rw [wadd i n (by omega), if_pos (by omega), w0, if_pos (by omega), if_pos (by omega), hb0, w1, hb1]
      by_cases hb : b0 = 0
      · rw [if_pos (by omega), if_pos (by omega), if_pos (by omega), if_neg (by omega)]
        exact he
      · rw [if_neg (by omega)]
        exact he

theorem ref_run_ev (a : ByteArray) (h : a.size = 16) (t : ByteArray) (R : ByteArray) : ∀ (d i : Nat) (at_ : Int) (s : Nat), 8 - i = d → i ≤ 8 →
    Ev (fun k => conciergeref2_Print.l3 k a t (best ((groups (L a)).drop i) i at_ s).1 ((best ((groups (L a)).drop i) i at_ s).2 : Int) 0) R →
    Ev (fun k => conciergeref2_Print.l1 k a t at_ (s : Int) (i : Int)) R := by
  have hlen := groups_length 8 (L a) (by rw [← L_size, h])
  intro d
  induction d with
  | zero =>
    intro i at_ s hd hi hR
    obtain rfl : i = 8 := by omega
    rw [List.drop_eq_nil_of_le (by omega)] at hR
    refine Ev.step (fun k => ?_) hR
    simp only [conciergeref2_Print.l1]
    rw [if_neg (by omega)]
    rfl
  | succ d ih =>
    intro i at_ s hd hi hR
    refine Ev.step (f := fun k => conciergeref2_Print.l2 k a t at_ (s : Int) (i : Int) ((0 : Nat) : Int)) (fun k => ?_) (ref_count_ev a h t at_ s i (by omega) R ?_ (8 - (i + 0)) 0 rfl (by omega) (by rw [Nat.add_zero]; omega))
    · simp only [conciergeref2_Print.l1]
      rw [if_pos (by omega)]
      rfl
    · obtain ⟨b0, b1, h0, h1, hb0, hb1, hg⟩ := grp_at a h i (by omega)
      refine ih (i + 1) (if zr ((groups (L a)).drop i) > s then (i : Int) else at_) (if zr ((groups (L a)).drop i) > s then zr ((groups (L a)).drop i) else s) (by omega) (by omega) ?_
      rw [hg] at hR
      unfold best at hR
      rw [← hg] at hR
      by_cases hs : zr ((groups (L a)).drop i) > s
      · simp only [if_pos hs] at hR ⊢
        exact hR
      · simp only [if_neg hs] at hR ⊢
        exact hR

theorem w16 (b0 b1 : Nat) (h0 : b0 < 256) (h1 : b1 < 256) : wrap64 (wrap64 (wrap64 (b0 : Int) * 256) + wrap64 (b1 : Int)) = ((b0 * 256 + b1 : Nat) : Int) := by
  rw [small_wrap b0 (by omega), small_wrap b1 (by omega)]
  have e1 : wrap64 ((b0 : Int) * 256) = ((b0 * 256 : Nat) : Int) := by unfold wrap64; omega
  rw [e1, wadd _ _ (by omega)]
/-- One group written by the reference. -/
theorem ref_group_ev (a : ByteArray) (h : a.size = 16) (x5 x6 : Int) (i : Nat) (hi : i < 8) (T : List UInt8) (hT : T.length < 1000) (R : ByteArray)
    (hR : Ev (fun k => conciergeref2_Print.l3 k a (mk (T ++ (hexs a)[i]'(by rw [hexs_length a h]; exact hi))) x5 x6 ((i + 1 : Nat) : Int)) R) :
    Ev (fun k => conciergeref2_Print.j5 k a (mk T) x5 x6 (i : Int)) R := by
  obtain ⟨b0, b1, h0, h1, hb0, hb1, hg⟩ := hexs_at a h i hi
  have w0 := wmul2 i (by omega)
  have w1 := wrap_nat (2 * i) (by omega)
  have w2 := w16 b0 b1 h0 h1
  rw [hg] at hR
  refine Ev.step (fun k => ?_) (hex_loop_ev a (mk T) x5 x6 (i : Int) R (by rw [size_mk]; omega) (b0 * 256 + b1) [] (by rw [List.length_nil]; omega) (.inr rfl) ?_)
  · simp only [conciergeref2_Print.j5]
    rw [w0, w1, if_pos (by omega), if_pos (by omega), if_pos (by omega), if_pos (by omega), hb0, hb1, w2]
    rfl
  · rw [List.append_nil, mk_app, wrap_nat i (by omega)]
    exact hR

/-- A row of groups written by the reference: from o on, behind the text P. -/
theorem ref_seg_ev (a : ByteArray) (h : a.size = 16) (x5 x6 : Int) (P : List UInt8) (hP : P.length < 100) (o e : Nat) (he : e ≤ 8) (R : ByteArray)
    (hno : ∀ i : Nat, o ≤ i → i < e → (i : Int) ≠ x5) (hcol : ∀ i : Nat, o ≤ i → i < e → ((i > 0 ∧ ((i : Int) ≠ wrap64 (x5 + x6) ∨ x5 < 0)) ↔ i > o))
    (hR : Ev (fun k => conciergeref2_Print.l3 k a (mk (P ++ J 58 (((hexs a).drop o).take (e - o)))) x5 x6 (e : Int)) R) :
    ∀ (d i : Nat), e - i = d → o ≤ i → i ≤ e → Ev (fun k => conciergeref2_Print.l3 k a (mk (P ++ J 58 (((hexs a).drop o).take (i - o)))) x5 x6 (i : Int)) R := by
  have hl := hexs_length a h
  intro d
  induction d with
  | zero =>
    intro i hd ho hi
    obtain rfl : i = e := by omega
    exact hR
  | succ d ih =>
    intro i hd ho hi
    have hdl : ((hexs a).drop o).length = 8 - o := by rw [List.length_drop, hl]
    have hJ := J_take 58 ((hexs a).drop o) (i - o) (by omega)
    have hel : ((hexs a).drop o)[i - o]'(by omega) = (hexs a)[i]'(by omega) := by
      rw [List.getElem_drop]
      congr 1
      omega
    rw [hel, show i - o + 1 = i + 1 - o by omega] at hJ
    have hlen := J_length 58 4 _ (take_small (drop_small (hexs_small a) o) (i - o))
    rw [List.length_take, hdl] at hlen
    have hn := ih (i + 1) (by omega) (by omega) (by omega)
    rw [hJ] at hn
    have hc := hcol i ho (by omega)
    have hi5 := hno i ho (by omega)
    by_cases h0 : i = o
    · -- the first of the row
      rw [if_pos (by omega)] at hn
      have hnil : J 58 (((hexs a).drop o).take (i - o)) = [] := by rw [show i - o = 0 by omega, List.take_zero]; rfl
      rw [hnil, List.append_nil]
      have hg := ref_group_ev a h x5 x6 i (by omega) P (by omega) R hn
      have hj4 : Ev (fun k => conciergeref2_Print.j4 k a (mk P) x5 x6 (i : Int) false) R := Ev.step (fun k => by simp only [conciergeref2_Print.j4]; rw [if_neg (by simp)]) hg
      refine Ev.step (fun k => ?_) hj4
      simp only [conciergeref2_Print.l3]
      rw [if_pos (by omega), if_neg hi5]
      by_cases hi0 : i > 0
      · have hnc : ¬ ((i : Int) ≠ wrap64 (x5 + x6) ∨ x5 < 0) := fun hx => by have := hc.1 ⟨hi0, hx⟩; omega
        have h1 : (i : Int) = wrap64 (x5 + x6) := Classical.byContradiction fun hx => hnc (.inl hx)
        rw [if_pos (by omega), if_pos h1, decide_eq_false (fun hx => hnc (.inr hx))]
      · rw [if_neg (by omega)]
    · -- a further one
      rw [if_neg (by omega)] at hn
      have hg := ref_group_ev a h x5 x6 i (by omega) (P ++ J 58 (((hexs a).drop o).take (i - o)) ++ [58]) (by rw [List.length_append, List.length_append, List.length_singleton]; omega) R (by
        rw [List.append_assoc, List.append_assoc, List.singleton_append]
        exact hn)
      have e58 : (⟨#[58]⟩ : ByteArray) = mk [58] := rfl
      have hj4 : Ev (fun k => conciergeref2_Print.j4 k a (mk (P ++ J 58 (((hexs a).drop o).take (i - o)))) x5 x6 (i : Int) true) R := by
        refine Ev.step (fun k => ?_) hg
        simp only [conciergeref2_Print.j4]
        rw [if_pos trivial, if_pos (by rw [size_mk, List.length_append]; omega), e58, mk_app]
      obtain ⟨hi0, hx⟩ := hc.2 (by omega)
      refine Ev.step (fun k => ?_) hj4
      simp only [conciergeref2_Print.l3]
      rw [if_pos (by omega), if_neg hi5, if_pos (by omega)]
      by_cases h1 : (i : Int) = wrap64 (x5 + x6)
      · rw [if_pos h1, decide_eq_true (by rcases hx with hx | hx; exact absurd h1 hx; exact hx)]
      · rw [if_neg h1]

theorem ref6_ev (a : ByteArray) (h : a.size = 16) : Ev (fun k => conciergeref2_Print.l1 k a (⟨#[]⟩ : ByteArray) (-1) 1 0) (mk (print6 (hexs a) (best (groups (L a)) 0 0 1))) := by
  have hl := hexs_length a h
  have hJall := J_length 58 4 (hexs a) (hexs_small a)
  refine ref_run_ev a h (⟨#[]⟩ : ByteArray) _ 8 0 (-1) 1 rfl (by omega) ?_
  rw [List.drop_zero]
  have e0 : (⟨#[]⟩ : ByteArray) = mk [] := rfl
  obtain ⟨hs1, hs2⟩ := best_same (groups (L a)) 0 (-1) 0 1
  have hb := best_bounds a h (-1)
  have hb0 := best_bounds a h 0
  generalize best (groups (L a)) 0 (-1) 1 = b at *
  generalize best (groups (L a)) 0 0 1 = b' at *
  rcases hb with e | ⟨j, hj, e, h2, h8⟩
  · -- no run
    have e' : b' = (0, 1) := by
      rcases hb0 with e' | ⟨j, hj, e', h2, h8⟩
      · exact e'
      · rw [e, e'] at hs1
        exfalso
        have hs1 : 1 = zr ((groups (L a)).drop j) := hs1
        omega
    rw [e, e']
    clear hs1 hs2 hb0 e e'
    unfold print6
    simp only
    rw [if_pos (by decide), e0]
    have hseg := ref_seg_ev a h (-1) ((1 : Nat) : Int) [] (by decide) 0 8 (by omega) (mk (J 58 (hexs a))) (fun i _ _ => by omega) (fun i _ _ => by
      constructor
      · rintro ⟨h, _⟩; exact h
      · intro h; exact ⟨h, .inr (by decide)⟩) (by
      rw [List.nil_append, List.drop_zero, List.take_of_length_le (by omega)]
      refine Ev.step (f := fun _ => some (mk (J 58 (hexs a)))) (fun k => ?_) (Ev.now _)
      simp only [conciergeref2_Print.l3]
      rw [if_neg (by omega)]) 8 0 (by omega) (by omega) (by omega)
    exact hseg
  · have e' : b' = ((j : Int), zr ((groups (L a)).drop j)) := by
      rcases hs2 with hs2 | ⟨hs2, _⟩
      · rw [e] at hs1 hs2
        exact Prod.ext hs2.symm hs1.symm
      · rw [e] at hs2
        exfalso
        injection hs2 with _ hs2
        omega
    rw [e, e']
    clear hs1 hs2 hb0 e e'
    generalize zr ((groups (L a)).drop j) = z at *
    unfold print6
    simp only
    have hJ1 := J_length 58 4 _ (take_small (hexs_small a) j)
    have hJ2 := J_length 58 4 _ (drop_small (hexs_small a) (j + z))
    rw [List.length_take] at hJ1
    rw [List.length_drop] at hJ2
    rw [if_neg (by omega), Int.toNat_natCast, e0]
    have w := wadd j z (by omega)
    have w3 : wrap64 ((j : Int) + wrap64 ((z : Int) - 1)) = ((j + (z - 1) : Nat) : Int) := by rw [wrap_pred z (by omega) (by omega), wadd j (z - 1) (by omega)]
    -- behind the two points
    have hsecond := ref_seg_ev a h (j : Int) (z : Int) (J 58 ((hexs a).take j) ++ [58, 58]) (by rw [List.length_append]; show _ + 2 < _; omega) (j + z) 8 (by omega) (mk (J 58 ((hexs a).take j) ++ 58 :: 58 :: J 58 ((hexs a).drop (j + z)))) (fun i h1 _ => by omega) (fun i h1 h2 => by
      rw [w]
      constructor
      · rintro ⟨_, hx⟩; rcases hx with hx | hx <;> omega
      · intro h; exact ⟨by omega, .inl (by omega)⟩) (by
      rw [List.take_of_length_le (l := (hexs a).drop (j + z)) (by rw [List.length_drop]; omega), List.append_assoc]
      refine Ev.step (f := fun _ => some (mk (J 58 ((hexs a).take j) ++ 58 :: 58 :: J 58 ((hexs a).drop (j + z))))) (fun k => ?_) (Ev.now _)
      simp only [conciergeref2_Print.l3]
      rw [if_neg (by omega)]
      rfl) (8 - (j + z)) (j + z) rfl (by omega) (by omega)
    rw [Nat.sub_self, List.take_zero] at hsecond
    have hnil : J 58 [] = [] := rfl
    rw [hnil, List.append_nil] at hsecond
    -- at the run
    have hmid : Ev (fun k => conciergeref2_Print.l3 k a (mk (J 58 ((hexs a).take j))) (j : Int) (z : Int) (j : Int)) (mk (J 58 ((hexs a).take j) ++ 58 :: 58 :: J 58 ((hexs a).drop (j + z)))) := by
      refine Ev.step (fun k => ?_) hsecond
      have e58 : (⟨#[58, 58]⟩ : ByteArray) = mk [58, 58] := rfl
      simp only [conciergeref2_Print.l3]
      rw [if_pos (by omega), if_pos trivial, if_pos (by rw [size_mk]; omega), w3, wrap_nat (j + (z - 1)) (by omega), e58, mk_app, show j + (z - 1) + 1 = j + z by omega]
    have hfirst := ref_seg_ev a h (j : Int) (z : Int) [] (by decide) 0 j (by omega) _ (fun i _ h2 => by omega) (fun i _ h2 => by
      rw [w]
      constructor
      · rintro ⟨h, _⟩; exact h
      · intro h; exact ⟨h, .inl (by omega)⟩) (by
      rw [List.nil_append, List.drop_zero, Nat.sub_zero]
      exact hmid) j 0 (by omega) (by omega) (by omega)
    exact hfirst

theorem ref_Print_ev (a : ByteArray) : Ev (fun k => conciergeref2_Print.f k a) (printV a) := by
  unfold printV conciergeref2_Print.f
  by_cases h4 : a.size = 4
  · rw [if_pos h4]
    exact Ev.congr (fun k => if_pos (by omega)) (ref4_ev a h4 4 0 (by omega) (by omega))
  · rw [if_neg h4]
    refine Ev.congr (fun k => if_neg (by omega)) ?_
    by_cases h16 : a.size = 16
    · rw [if_pos h16]
      exact Ev.congr (fun k => if_pos (by omega)) (ref6_ev a h16)
    · rw [if_neg h16]
      exact Ev.congr (fun k => if_neg (by omega)) (Ev.now _)
end Go.Proofs.YtkhkemagkcjdoaaDoor.Pure
