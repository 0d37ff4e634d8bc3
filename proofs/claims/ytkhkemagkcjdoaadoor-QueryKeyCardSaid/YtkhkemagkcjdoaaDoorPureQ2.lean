/- What the program's and the reference's names and queries come to: the same. Conditions: the sizes named in each theorem. -/
import Derived.Test.YtkhkemagkcjdoaaDoorPureQ
namespace Go.Proofs.YtkhkemagkcjdoaaDoor.Pure
open Go.RowKit Go.Proofs.YtkhkemagkcjdoaaDoorW.PrintWords Go.Proofs.YtkhkemagkcjdoaaDoor.Gv Go.Proofs.YtkhkemagkcjdoaaDoor.XQA

/-! ### the reference's pieces -/
theorem ref_split_ev (s : ByteArray) (c : UInt8) (hs : s.size < 8796093022208) : ∀ (d i from_ : Nat) (acc : List ByteArray), s.size + 1 - i = d → i ≤ s.size → from_ ≤ i → acc.length ≤ from_ → c ∉ ((L s).drop from_).take (i - from_) →
    Ev (fun k => conciergeref2_Split.l0 k s (c.toNat : Int) acc (from_ : Int) (i : Int)) (acc ++ (spl c ((L s).drop from_)).map mk) := by
  intro d
  induction d with
  | zero => intro i from_ acc hd hi; omega
  | succ d ih =>
    intro i from_ acc hd hi hf ha hno
    have hw := wrap_nat i (by omega)
    have hsz := L_size s
    have hex : s.extract ((from_ : Int)).toNat ((i : Int)).toNat = mk (((L s).drop from_).take (i - from_)) := by rw [Int.toNat_natCast, Int.toNat_natCast, extract_mk']
    have hparts : (L s).drop from_ = ((L s).drop from_).take (i - from_) ++ (L s).drop i := by
      have := (List.take_append_drop (i - from_) ((L s).drop from_)).symm
      rw [List.drop_drop, show from_ + (i - from_) = i by omega] at this
      exact this
    by_cases he : i = s.size
    · subst he
      have hdr : (L s).drop s.size = [] := List.drop_eq_nil_of_le (by omega)
      rw [hdr, List.append_nil] at hparts
      refine Ev.step (f := fun k => conciergeref2_Split.l0 k s (c.toNat : Int) (acc ++ [mk ((L s).drop from_)]) ((s.size + 1 : Nat) : Int) ((s.size + 1 : Nat) : Int)) (fun k => ?_) ?_
      · simp only [conciergeref2_Split.l0]
        rw [if_pos (by omega), if_pos trivial, if_pos (by omega), if_pos (by omega), if_pos (by omega), hw, hex, ← hparts]
      · refine Ev.step (f := fun _ => some (acc ++ [mk ((L s).drop from_)])) (fun k => ?_) ?_
        · simp only [conciergeref2_Split.l0]
          rw [if_neg (by omega)]
        · rw [← hparts] at hno
          rw [spl_no hno]
          exact Ev.now _
    · have hlt : i < s.size := by omega
      obtain ⟨x, r, e1, e2, hb⟩ := bt_get s i hlt
      by_cases hx : x = c
      · subst hx
        refine Ev.step (f := fun k => conciergeref2_Split.l0 k s (x.toNat : Int) (acc ++ [mk (((L s).drop from_).take (i - from_))]) ((i + 1 : Nat) : Int) ((i + 1 : Nat) : Int)) (fun k => ?_) ?_
        · simp only [conciergeref2_Split.l0]
          rw [if_pos (by omega), if_neg (by omega), if_pos (by omega), if_pos (by omega), if_pos hb, if_pos (by omega), if_pos (by omega), if_pos (by omega), hw, hex]
        · have := ih (i + 1) (i + 1) (acc ++ [mk (((L s).drop from_).take (i - from_))]) (by omega) (by omega) (Nat.le_refl _) (by simp; omega) (by simp)
          have e : spl x ((L s).drop from_) = ((L s).drop from_).take (i - from_) :: spl x ((L s).drop (i + 1)) := by
            have h2 := hparts
            rw [e1] at h2
            generalize ((L s).drop from_).take (i - from_) = A at *
            rw [h2, spl_at r hno, ← e2]
          rw [e, List.map_cons]
          rw [List.append_assoc] at this
          exact this
      · refine Ev.step (f := fun k => conciergeref2_Split.l0 k s (c.toNat : Int) acc (from_ : Int) ((i + 1 : Nat) : Int)) (fun k => ?_) ?_
        · simp only [conciergeref2_Split.l0]
          have : ¬ bt s (i : Int) = (c.toNat : Int) := by
            rw [hb]
            intro e
            exact hx (UInt8.toNat_inj.1 (by omega))
          rw [if_pos (by omega), if_neg (by omega), if_pos (by omega), if_pos (by omega), if_neg this, hw]
        · refine ih (i + 1) from_ acc (by omega) (by omega) (by omega) ha ?_
          have h2 : ((L s).drop from_).take (i + 1 - from_) = ((L s).drop from_).take (i - from_) ++ [x] := by
            rw [show i + 1 - from_ = (i - from_) + 1 by omega, List.take_add_one, List.getElem?_drop, show from_ + (i - from_) = i by omega]
            have : (L s)[i]? = some x := by
              have h3 := congrArg (·[0]?) e1
              simpa using h3
            rw [this]
            rfl
          rw [h2, List.mem_append, not_or]
          exact ⟨hno, by simpa using fun e => hx e.symm⟩
theorem conciergeref2_Split_ev (s : ByteArray) (c : UInt8) (hs : s.size < 8796093022208) : Ev (fun k => conciergeref2_Split.f k s (c.toNat : Int)) ((spl c (L s)).map mk) := by
  have := ref_split_ev s c hs (s.size + 1) 0 0 [] (by omega) (by omega) (by omega) (by simp) (by simp)
  simpa [conciergeref2_Split.f] using this

theorem strings_Split_f (s : ByteArray) (c : UInt8) (hs : s.size < 4294967281) : strings_Split.f s (⟨#[c]⟩ : ByteArray) = some ((spl c (L s)).map mk) := by
  unfold strings_Split.f
  rw [if_pos ⟨hs, by show 1 ≤ 1; omega⟩, splitB_spl]

/-! ### a name as it is kept -/
def cleanV (s : ByteArray) : ByteArray × Bool × Bool :=
  let n := Lib.trimSuffix (L s) [46]
  if n = [] ∨ 253 < n.length then (⟨#[]⟩, false, false)
  else if (spl 46 n).all isLabel = true then (fold (mk n), Lib.hasSuffix (L s) [46], true) else (⟨#[]⟩, false, false)

theorem trim_length (l : List UInt8) : (Lib.trimSuffix l [46]).length ≤ l.length := by
  unfold Lib.trimSuffix
  split
  · rw [List.length_take]; omega
  · exact Nat.le_refl _
theorem piece_length (c : UInt8) : ∀ (l p : List UInt8), p ∈ spl c l → p.length ≤ l.length := by
  intro l
  induction l with
  | nil => intro p h; simp [spl] at h; subst h; exact Nat.le_refl _
  | cons x r ih =>
    intro p h
    unfold spl at h
    split at h
    · rcases List.mem_cons.1 h with h | h
      · subst h; simp
      · have := ih p h; simp; omega
    · split at h
      · rename_i e
        simp at h; subst h; simp
      · rename_i q qs e
        rcases List.mem_cons.1 h with h | h
        · subst h
          have := ih q (by rw [e]; exact List.mem_cons_self)
          simp; omega
        · have := ih p (by rw [e]; exact List.mem_cons_of_mem _ h)
          simp; omega

theorem rdOf_mk (xs : List (List UInt8)) (j : Nat) (h : j < xs.length) : rdOf ByteArray.empty (xs.map mk) (j : Int) = mk (xs[j]'h) := by
  unfold rdOf
  rw [Int.toNat_natCast, List.getD_eq_getElem?_getD, List.getElem?_map, List.getElem?_eq_getElem h]
  rfl

theorem names_loop_ev (n : ByteArray) (hn : n.size ≤ 140737488355328) (rooted : Bool) (xs : List (List UInt8)) (hx : ∀ p ∈ xs, p.length < 4611686018427387904) (hl : xs.length < 4611686018427387904) : ∀ (d j : Nat), xs.length - j = d → j ≤ xs.length →
    Ev (fun k => names_Clean.l0 k n rooted (xs.map mk) (xs.length : Int) (j : Int)) (if (xs.drop j).all isLabel = true then (fold n, rooted, true) else (⟨#[]⟩, false, false)) := by
  intro d
  induction d with
  | zero =>
    intro j hd hj
    obtain rfl : j = xs.length := by omega
    refine Ev.step (f := fun _ => some (fold n, rooted, true)) (fun k => ?_) ?_
    · simp only [names_Clean.l0]
      rw [if_neg (by omega), text_Fold_f n hn]
      rfl
    · rw [List.drop_eq_nil_of_le (Nat.le_refl _)]
      exact Ev.now _
  | succ d ih =>
    intro j hd hj
    have hlt : j < xs.length := by omega
    have hw := wrap_nat j (by omega)
    refine Ev.step (f := fun k => (names_label.f k (mk (xs[j]'hlt))).bind fun t => if t = true then names_Clean.l0 k n rooted (xs.map mk) (xs.length : Int) ((j + 1 : Nat) : Int) else some ((⟨#[]⟩ : ByteArray), false, false)) (fun k => ?_) ?_
    · simp only [names_Clean.l0]
      rw [if_pos (by omega), if_pos (by omega), if_pos (by rw [List.length_map]; omega), rdOf_mk xs j hlt, hw]
    · have hp := hx (xs[j]'hlt) (List.getElem_mem _)
      refine Ev.bind (names_label_ev _ (by rw [size_mk]; exact hp)) ?_
      rw [L_mk, List.drop_eq_getElem_cons hlt, List.all_cons]
      by_cases hb : isLabel (xs[j]'hlt) = true
      · rw [hb]
        simp only [if_true, Bool.true_and]
        exact ih (j + 1) (by omega) (by omega)
      · rw [Bool.eq_false_iff.2 hb]
        exact Ev.now _

theorem spl_length (c : UInt8) : ∀ l : List UInt8, (spl c l).length ≤ l.length + 1 := by
  intro l
  induction l with
  | nil => simp [spl]
  | cons x r ih =>
    unfold spl
    split
    · simp; exact ih
    · split
      · simp
      · rename_i e
        rw [e] at ih
        simp at ih ⊢
        omega

theorem names_Clean_ev (s : ByteArray) (hs : s.size < 4294967281) : Ev (fun k => names_Clean.f k s) (cleanV s) := by
  have hsz := L_size s
  have htl := trim_length (L s)
  have hcut : strings_CutSuffix.f s (⟨#[46]⟩ : ByteArray) = some (mk (Lib.trimSuffix (L s) [46]), Lib.hasSuffix (L s) [46]) := by
    unfold strings_CutSuffix.f
    rw [if_pos (by omega)]
    rfl
  have hL : L (mk (Lib.trimSuffix (L s) [46])) = Lib.trimSuffix (L s) [46] := L_mk _
  have hms := size_mk (Lib.trimSuffix (L s) [46])
  unfold cleanV
  generalize hn : Lib.trimSuffix (L s) [46] = n at *
  generalize Lib.hasSuffix (L s) [46] = rooted at *
  simp only
  by_cases h0 : n = []
  · rw [if_pos (.inl h0)]
    refine Ev.congr (f := fun k => names_Clean.j0 k (mk n) rooted true) (fun k => ?_) ?_
    · unfold names_Clean.f
      rw [hcut]
      simp only [Option.bind_some]
      rw [if_pos (by rw [toList_L, hL]; exact h0)]
    · exact Ev.step (f := fun _ => some ((⟨#[]⟩ : ByteArray), false, false)) (fun k => by simp only [names_Clean.j0]; rfl) (Ev.now _)
  · refine Ev.congr (f := fun k => names_Clean.j0 k (mk n) rooted (decide (((mk n).size : Int) > 253))) (fun k => ?_) ?_
    · unfold names_Clean.f
      rw [hcut]
      simp only [Option.bind_some]
      rw [if_neg (by rw [toList_L, hL]; exact h0)]
    · by_cases h1 : 253 < n.length
      · rw [if_pos (.inr h1)]
        refine Ev.step (f := fun _ => some ((⟨#[]⟩ : ByteArray), false, false)) (fun k => ?_) (Ev.now _)
        simp only [names_Clean.j0]
        rw [decide_eq_true (by omega)]
        rfl
      · rw [if_neg (by rintro (h | h); exact h0 h; exact h1 h)]
        have hpl := spl_length 46 n
        have key := names_loop_ev (mk n) (by omega) rooted (spl 46 n) (fun p hp => by have := piece_length 46 n p hp; omega) (by omega) (spl 46 n).length 0 (by omega) (by omega)
        refine Ev.step (fun k => ?_) key
        simp only [names_Clean.j0]
        rw [decide_eq_false (by omega), if_neg (by simp), strings_Split_f (mk n) 46 (by omega), hL]
        simp only [Option.bind_some, List.length_map]
        rfl

/-! ### the reference's name -/
theorem okM_label (c : UInt8) : okM [45, 95] c = okL c := by
  have h1 : (c == 45) = decide ((c.toNat : Int) = 45) := by
    by_cases h : c = 45
    · subst h; rfl
    · rw [beq_eq_false_iff_ne.2 h, decide_eq_false]
      intro e
      exact h (UInt8.toNat_inj.1 (by show _ = 45; omega))
  have h2 : (c == 95) = decide ((c.toNat : Int) = 95) := by
    by_cases h : c = 95
    · subst h; rfl
    · rw [beq_eq_false_iff_ne.2 h, decide_eq_false]
      intro e
      exact h (UInt8.toNat_inj.1 (by show _ = 95; omega))
  simp only [okM, okL, List.contains_cons, List.contains_nil, Bool.or_false, h1, h2, Bool.decide_or]
theorem okM_service (c : UInt8) : okM [45, 95, 46] c = okS c := by
  have h1 : (c == 45) = decide ((c.toNat : Int) = 45) := by
    by_cases h : c = 45
    · subst h; rfl
    · rw [beq_eq_false_iff_ne.2 h, decide_eq_false]
      intro e
      exact h (UInt8.toNat_inj.1 (by show _ = 45; omega))
  have h2 : (c == 95) = decide ((c.toNat : Int) = 95) := by
    by_cases h : c = 95
    · subst h; rfl
    · rw [beq_eq_false_iff_ne.2 h, decide_eq_false]
      intro e
      exact h (UInt8.toNat_inj.1 (by show _ = 95; omega))
  have h3 : (c == 46) = decide ((c.toNat : Int) = 46) := by
    by_cases h : c = 46
    · subst h; rfl
    · rw [beq_eq_false_iff_ne.2 h, decide_eq_false]
      intro e
      exact h (UInt8.toNat_inj.1 (by show _ = 46; omega))
  simp only [okM, okS, List.contains_cons, List.contains_nil, Bool.or_false, h1, h2, h3, Bool.decide_or]

theorem ref_loop_ev (n : ByteArray) (hn : n.size ≤ 140737488355328) (rooted : Bool) (xs : List (List UInt8)) (hx : ∀ p ∈ xs, p.length < 4611686018427387904) (hl : xs.length < 4611686018427387904) : ∀ (d j : Nat), xs.length - j = d → j ≤ xs.length →
    Ev (fun k => conciergeref2_Clean.l0 k rooted n (xs.map mk) (j : Int)) (if (xs.drop j).all isLabel = true then (fold n, rooted, true) else (⟨#[]⟩, false, false)) := by
  intro d
  induction d with
  | zero =>
    intro j hd hj
    obtain rfl : j = xs.length := by omega
    refine Ev.step (f := fun _ => some (fold n, rooted, true)) (fun k => ?_) ?_
    · simp only [conciergeref2_Clean.l0]
      rw [if_neg (by rw [List.length_map]; omega), ref_Fold_f n hn]
      rfl
    · rw [List.drop_eq_nil_of_le (Nat.le_refl _)]
      exact Ev.now _
  | succ d ih =>
    intro j hd hj
    have hlt : j < xs.length := by omega
    have hw := wrap_nat j (by omega)
    have hp := hx (xs[j]'hlt) (List.getElem_mem _)
    rw [List.drop_eq_getElem_cons hlt, List.all_cons]
    generalize hq : xs[j]'hlt = q at *
    have hrd : rdOf ByteArray.empty (xs.map mk) (j : Int) = mk q := by rw [rdOf_mk xs j hlt, hq]
    by_cases h63 : q.length ≤ 63
    · refine Ev.step (f := fun k => (conciergeref2_letters.f k (mk q) (⟨#[45, 95]⟩ : ByteArray)).bind fun t => if t = true then conciergeref2_Clean.l0 k rooted n (xs.map mk) ((j + 1 : Nat) : Int) else some ((⟨#[]⟩ : ByteArray), false, false)) (fun k => ?_) ?_
      · simp only [conciergeref2_Clean.l0]
        rw [if_pos (by rw [List.length_map]; omega), if_pos (by omega), hrd, if_neg (by rw [size_mk]; omega), hw]
      · refine Ev.bind (conciergeref2_letters_ev _ _ (by rw [size_mk]; exact hp) (by show 2 < _; omega)) ?_
        have hm : L (⟨#[45, 95]⟩ : ByteArray) = [45, 95] := rfl
        have e : (q.all (okM [45, 95]) && !q.isEmpty) = isLabel q := by
          unfold isLabel
          rw [decide_eq_true h63, Bool.and_true]
          congr 1
          congr 1
          funext c
          exact okM_label c
        rw [L_mk, hm, e]
        by_cases hb : isLabel q = true
        · rw [hb]
          simp only [if_true, Bool.true_and]
          exact ih (j + 1) (by omega) (by omega)
        · rw [Bool.eq_false_iff.2 hb]
          exact Ev.now _
    · have e : isLabel q = false := by
        unfold isLabel
        rw [decide_eq_false h63, Bool.and_false, Bool.and_false]
      rw [e]
      refine Ev.step (f := fun _ => some ((⟨#[]⟩ : ByteArray), false, false)) (fun k => ?_) (Ev.now _)
      simp only [conciergeref2_Clean.l0]
      rw [if_pos (by rw [List.length_map]; omega), if_pos (by omega), hrd, if_pos (by rw [size_mk]; omega)]

theorem suffix_snoc (a : List UInt8) (x c : UInt8) : Lib.hasSuffix (a ++ [x]) [c] = (x == c) := by
  unfold Lib.hasSuffix
  simp only [List.isSuffixOf, List.reverse_append, List.reverse_cons, List.reverse_nil, List.nil_append, List.cons_append, List.isPrefixOf, Bool.and_true]
  exact Bool.eq_iff_iff.2 (by simp; exact eq_comm)

theorem ref_j1_ev (n : ByteArray) (hn : n.size < 4294967281) (rooted : Bool) :
    Ev (fun k => conciergeref2_Clean.j1 k rooted n) (if L n = [] ∨ 253 < (L n).length then (⟨#[]⟩, false, false) else if (spl 46 (L n)).all isLabel = true then (fold n, rooted, true) else (⟨#[]⟩, false, false)) := by
  have hsz := L_size n
  by_cases h0 : L n = []
  · rw [if_pos (.inl h0)]
    have hz : n.size = 0 := by rw [hsz, h0]; rfl
    refine Ev.step (f := fun k => conciergeref2_Clean.j2 k rooted n true) (fun k => by simp only [conciergeref2_Clean.j1]; rw [if_pos (by omega)]) ?_
    exact Ev.step (f := fun _ => some ((⟨#[]⟩ : ByteArray), false, false)) (fun k => by simp only [conciergeref2_Clean.j2]; rfl) (Ev.now _)
  · have hz : 0 < (L n).length := List.length_pos_iff.2 h0
    refine Ev.step (f := fun k => conciergeref2_Clean.j2 k rooted n (decide ((n.size : Int) > 253))) (fun k => by simp only [conciergeref2_Clean.j1]; rw [if_neg (by omega)]) ?_
    by_cases h1 : 253 < (L n).length
    · rw [if_pos (.inr h1)]
      refine Ev.step (f := fun _ => some ((⟨#[]⟩ : ByteArray), false, false)) (fun k => ?_) (Ev.now _)
      simp only [conciergeref2_Clean.j2]
      rw [decide_eq_true (by omega)]
      rfl
    · rw [if_neg (by rintro (h | h); exact h0 h; exact h1 h)]
      have hpl := spl_length 46 (L n)
      have key := ref_loop_ev n (by omega) rooted (spl 46 (L n)) (fun p hp => by have := piece_length 46 (L n) p hp; omega) (by omega) (spl 46 (L n)).length 0 (by omega) (by omega)
      refine Ev.step (f := fun k => (conciergeref2_Split.f k n 46).bind fun t => conciergeref2_Clean.l0 k rooted n t 0) (fun k => ?_) (Ev.bind (conciergeref2_Split_ev n 46 (by omega)) key)
      simp only [conciergeref2_Clean.j2]
      rw [decide_eq_false (by omega), if_neg (by simp)]

theorem conciergeref2_Clean_ev (s : ByteArray) (hs : s.size < 4294967281) : Ev (fun k => conciergeref2_Clean.f k s) (cleanV s) := by
  have hsz := L_size s
  rcases List.eq_nil_or_concat (L s) with h0 | ⟨a, x, hax⟩
  · have hz : s.size = 0 := by rw [hsz, h0]; rfl
    have key := ref_j1_ev s hs false
    have ec : cleanV s = (⟨#[]⟩, false, false) := by
      unfold cleanV
      rw [h0]
      rfl
    rw [if_pos (.inl h0)] at key
    rw [ec]
    refine Ev.congr (f := fun k => conciergeref2_Clean.j0 k s false) (fun k => by unfold conciergeref2_Clean.f; rw [if_neg (by omega)]) ?_
    exact Ev.step (f := fun k => conciergeref2_Clean.j1 k false s) (fun k => by simp only [conciergeref2_Clean.j0]; rw [if_neg (by simp)]) key
  · rw [List.concat_eq_append] at hax
    have hlen : s.size = a.length + 1 := by rw [hsz, hax]; simp
    have hw := wrap_pred s.size (by omega) (by omega)
    have hbt : bt s ((s.size - 1 : Nat) : Int) = (x.toNat : Int) := by
      rw [bt_nat s (s.size - 1) (by omega)]
      have : (L s)[s.size - 1]'(by omega) = x := by
        simp only [hax, hlen]
        simp
      rw [this]
    have hroot : (bt s ((s.size - 1 : Nat) : Int) == 46) = Lib.hasSuffix (L s) [46] := by
      rw [hbt, hax, suffix_snoc]
      by_cases h : x = 46
      · subst h; rfl
      · rw [beq_eq_false_iff_ne.2 h, beq_eq_false_iff_ne.2]
        intro e
        exact h (UInt8.toNat_inj.1 (by show _ = 46; omega))
    have hstart : ∀ k, conciergeref2_Clean.f k s = conciergeref2_Clean.j0 k s (Lib.hasSuffix (L s) [46]) := fun k => by
      unfold conciergeref2_Clean.f
      rw [if_pos (by omega), hw, if_pos (by omega), if_pos (by omega), hroot]
    refine Ev.congr hstart ?_
    unfold cleanV
    have htrim : Lib.trimSuffix (L s) [46] = if Lib.hasSuffix (L s) [46] = true then (L s).take ((L s).length - 1) else L s := rfl
    rw [htrim]
    cases hr : Lib.hasSuffix (L s) [46] with
    | true =>
      have hex : s.extract 0 (((s.size - 1 : Nat) : Int)).toNat = mk ((L s).take ((L s).length - 1)) := by
        rw [Int.toNat_natCast, extract_mk', List.drop_zero, Nat.sub_zero, hsz]
      have key := ref_j1_ev (mk ((L s).take ((L s).length - 1))) (by rw [size_mk, List.length_take]; omega) true
      rw [L_mk] at key
      refine Ev.step (fun k => ?_) key
      simp only [conciergeref2_Clean.j0]
      rw [if_pos trivial, hw, if_pos (by omega), if_pos (by omega), hex]
    | false =>
      have key := ref_j1_ev s hs false
      simp only [Bool.false_eq_true, if_false]
      rw [mk_L]
      refine Ev.step (fun k => ?_) key
      simp only [conciergeref2_Clean.j0]
      rw [if_neg (by simp)]

end Go.Proofs.YtkhkemagkcjdoaaDoor.Pure
