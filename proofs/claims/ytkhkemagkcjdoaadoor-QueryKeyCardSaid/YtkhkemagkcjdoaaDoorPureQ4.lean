/- A query's key and the query of a key: what they come to; a checked query's key gives it back. Conditions: the sizes named in each theorem. -/
import Derived.Test.YtkhkemagkcjdoaaDoorPureQ3
import Derived.Test.YtkhkemagkcjdoaaDoorPureNum
import Derived.Test.YtkhkemagkcjdoaaDoorGvFromKey
namespace Go.Proofs.YtkhkemagkcjdoaaDoor.Pure
open Go.RowKit Go.Proofs.YtkhkemagkcjdoaaDoorW.PrintWords Go.Proofs.YtkhkemagkcjdoaaDoor.Gv Go.Proofs.YtkhkemagkcjdoaaDoor.XQA

/-! ### folded once is folded -/
theorem fold_all (f : UInt8 → Bool) (h : (List.range 256).all (fun n => f (UInt8.ofNat n)) = true) (c : UInt8) : f c = true := by
  have := List.all_eq_true.1 h c.toNat (List.mem_range.2 c.toNat_lt)
  simpa using this
theorem foldB_twice (c : UInt8) : foldB (foldB c) = foldB c := by
  have := fold_all (fun c => foldB (foldB c) == foldB c) (by decide +kernel) c
  simpa using this
theorem foldB_point (c : UInt8) : (foldB c == 46) = (c == 46) := by
  have := fold_all (fun c => (foldB c == 46) == (c == 46)) (by decide +kernel) c
  simpa using this
theorem okL_fold (c : UInt8) : okL (foldB c) = okL c := by
  have := fold_all (fun c => okL (foldB c) == okL c) (by decide +kernel) c
  simpa using this
theorem okP_fold (c : UInt8) : okP (foldB c) = okP c := by
  have := fold_all (fun c => okP (foldB c) == okP c) (by decide +kernel) c
  simpa using this
theorem L_fold (s : ByteArray) : L (fold s) = (L s).map foldB := by unfold fold; exact L_mk _
theorem fold_fold (s : ByteArray) : fold (fold s) = fold s := by
  apply L_inj
  rw [L_fold, L_fold, List.map_map]
  congr 1
  funext c
  exact foldB_twice c
theorem all_map (f : UInt8 → Bool) (g : UInt8 → UInt8) (h : ∀ c, f (g c) = f c) (l : List UInt8) : (l.map g).all f = l.all f := by
  rw [List.all_map]
  congr 1
  funext c
  exact h c
theorem isLabel_fold (q : List UInt8) : isLabel (q.map foldB) = isLabel q := by
  unfold isLabel
  rw [all_map okL foldB okL_fold, List.length_map]
  cases q <;> rfl
theorem spl_fold : ∀ l : List UInt8, spl 46 (l.map foldB) = (spl 46 l).map (·.map foldB) := by
  intro l
  induction l with
  | nil => rfl
  | cons x r ih =>
    have hx : (foldB x = 46) = (x = 46) := by
      have := foldB_point x
      by_cases h : x = 46
      · subst h; simpa using this
      · have h2 : (foldB x == 46) = false := by rw [this]; exact beq_eq_false_iff_ne.2 h
        exact eq_iff_iff.2 ⟨fun e => absurd e (beq_eq_false_iff_ne.1 h2), fun e => absurd e h⟩
    rw [List.map_cons]
    unfold spl
    rw [ih]
    by_cases h : x = 46
    · rw [if_pos h, if_pos (hx ▸ h)]; rfl
    · rw [if_neg h, if_neg (hx ▸ h)]
      cases spl 46 r <;> rfl

theorem pv_twice (p : ByteArray) (h : (pv p).2 = true) : pv (pv p).1 = pv p := by
  rw [pv_fold p h]
  unfold pv at h ⊢
  rw [L_fold]
  by_cases e : L p = []
  · rw [if_pos e, if_pos (by rw [e]; rfl)]
  · rw [if_neg e, if_neg (by simpa using e)]
    unfold protoV
    rw [L_fold, all_map okP foldB okP_fold, fold_fold, List.length_map]
    cases hp : L p with
    | nil => exact absurd hp e
    | cons x r => rfl
theorem pv_noslash (p : ByteArray) : (47 : UInt8) ∉ L (pv p).1 := by
  unfold pv
  split
  · exact List.not_mem_nil
  · unfold protoV
    split
    · rename_i h
      rw [L_fold]
      intro hm
      obtain ⟨c, hc, e⟩ := List.mem_map.1 hm
      have h1 := List.all_eq_true.1 h c hc
      rw [← okP_fold c, e] at h1
      revert h1
      decide
    · exact List.not_mem_nil
theorem pv_size (p : ByteArray) : (pv p).1.size ≤ p.size := by
  unfold pv
  split
  · exact Nat.zero_le _
  · unfold protoV
    split
    · rw [L_size, L_fold, List.length_map, ← L_size]
      exact Nat.le_refl _
    · exact Nat.zero_le _

theorem suffix_fold (l : List UInt8) : Lib.hasSuffix (l.map foldB) [46] = Lib.hasSuffix l [46] := by
  rcases List.eq_nil_or_concat l with rfl | ⟨a, x, rfl⟩
  · rfl
  · rw [List.concat_eq_append, List.map_append, List.map_cons, List.map_nil, suffix_snoc, suffix_snoc, foldB_point]
theorem trim_snoc (l : List UInt8) : Lib.trimSuffix (l ++ [46]) [46] = l := by
  unfold Lib.trimSuffix
  rw [suffix_snoc]
  simp
theorem trim_no (l : List UInt8) (h : Lib.hasSuffix l [46] = false) : Lib.trimSuffix l [46] = l := by
  unfold Lib.trimSuffix
  rw [h]
  rfl

/-- A name as it is asked. -/
def askedName (n : ByteArray) : ByteArray := if (cleanV n).2.1 = true then (cleanV n).1 ++ (⟨#[46]⟩ : ByteArray) else (cleanV n).1
theorem askedName_size (n : ByteArray) : (askedName n).size ≤ 254 := by
  have := clean_size n
  unfold askedName
  split
  · rw [ByteArray.size_append]
    show _ + 1 ≤ 254
    omega
  · omega
theorem clean_asked (n : ByteArray) (h : (cleanV n).2.2 = true) : cleanV (askedName n) = cleanV n := by
  unfold askedName
  unfold cleanV at h ⊢
  have hsuf : Lib.hasSuffix (L n) [46] = false → Lib.trimSuffix (L n) [46] = L n := trim_no (L n)
  generalize Lib.trimSuffix (L n) [46] = m at *
  simp only at h ⊢
  by_cases h0 : m = [] ∨ 253 < m.length
  · rw [if_pos h0] at h; cases h
  · rw [if_neg h0] at h ⊢
    by_cases h1 : (spl 46 m).all isLabel = true
    · rw [if_pos h1] at h ⊢
      simp only at h ⊢
      have hm : L (fold (mk m)) = m.map foldB := by rw [L_fold, L_mk]
      have hsp : (spl 46 (m.map foldB)).all isLabel = true := by
        rw [spl_fold, List.all_map]
        rw [← h1]
        congr 1
        funext q
        exact isLabel_fold q
      have h2 : ¬ (m.map foldB = [] ∨ 253 < (m.map foldB).length) := by
        rw [List.length_map]
        simpa using h0
      have hf : fold (mk (m.map foldB)) = fold (mk m) := by
        have : mk (m.map foldB) = fold (mk m) := by apply L_inj; rw [hm, L_mk]
        rw [this, fold_fold]
      cases hr : Lib.hasSuffix (L n) [46] with
      | true =>
        simp only [if_true]
        have e : L (fold (mk m) ++ (⟨#[46]⟩ : ByteArray)) = m.map foldB ++ [46] := by rw [L_append, hm]
        rw [e, trim_snoc, if_neg h2, if_pos hsp, suffix_snoc, hf]
        rfl
      | false =>
        simp only [Bool.false_eq_true, if_false]
        have hmn := hsuf hr
        have e : Lib.hasSuffix (m.map foldB) [46] = false := by rw [suffix_fold, hmn, hr]
        rw [hm, trim_no _ e, if_neg h2, if_pos hsp, e, hf]
    · rw [if_neg h1] at h; cases h

/-! ### a checked query -/
/-- A query that is asked as it stands. -/
structure GoodQ (d : Int) (n p : ByteArray) (port : Int) : Prop where
  self : checkV d n p port = (d, n, p, port, none)
  db : 1 ≤ d ∧ d ≤ 4
  prt : d ≠ 4 → port = 0
  four : d = 4 → n = ⟨#[]⟩ ∧ 1 ≤ port ∧ port ≤ 65535
  slash : (47 : UInt8) ∉ L p

theorem check_good (d : Int) (n p : ByteArray) (port : Int) (h : (checkV d n p port).2.2.2.2 = none) :
    GoodQ (checkV d n p port).1 (checkV d n p port).2.1 (checkV d n p port).2.2.1 (checkV d n p port).2.2.2.1 ∧ (checkV d n p port).2.1.size ≤ n.size + 254 ∧ (checkV d n p port).2.2.1.size ≤ p.size := by
  unfold checkV at h ⊢
  by_cases h1 : d = 1
  · subst h1
    simp only [if_true] at h ⊢
    by_cases hc : (cleanV n).2.2 = true
    · rw [if_pos hc] at h ⊢
      simp only
      have e : (if (cleanV n).2.1 = true then (cleanV n).1 ++ (⟨#[46]⟩ : ByteArray) else (cleanV n).1) = askedName n := rfl
      have hs := askedName_size n
      rw [e]
      refine ⟨⟨?_, by decide, fun _ => rfl, fun h => absurd h (by decide), List.not_mem_nil⟩, by omega, Nat.zero_le _⟩
      unfold checkV
      rw [if_pos rfl, clean_asked n hc, if_pos hc, e]
    · rw [if_neg hc] at h; cases h
  · rw [if_neg h1] at h ⊢
    by_cases h2 : d = 2
    · subst h2
      simp only [if_true] at h ⊢
      by_cases hc : n.size = 4 ∨ n.size = 16
      · rw [if_pos hc] at h ⊢
        refine ⟨⟨?_, by show (1 : Int) ≤ 2 ∧ (2 : Int) ≤ 4; decide, fun _ => rfl, fun h => absurd h (by show ¬ (2 : Int) = 4; decide), List.not_mem_nil⟩, by show n.size ≤ _; omega, Nat.zero_le _⟩
        simp only
        unfold checkV
        rw [if_neg (by decide), if_pos rfl, if_pos hc]
      · rw [if_neg hc] at h; cases h
    · rw [if_neg h2] at h ⊢
      by_cases h3 : d = 3
      · subst h3
        simp only [if_true] at h ⊢
        by_cases hc : isService (L n) = true
        · rw [if_pos hc] at h ⊢
          by_cases hp : (pv p).2 = true
          · rw [if_pos hp] at h ⊢
            have hs := pv_size p
            refine ⟨⟨?_, by show (1 : Int) ≤ 3 ∧ (3 : Int) ≤ 4; decide, fun _ => rfl, fun h => absurd h (by show ¬ (3 : Int) = 4; decide), pv_noslash p⟩, by show n.size ≤ _; omega, hs⟩
            simp only
            unfold checkV
            rw [if_neg (by decide), if_neg (by decide), if_pos rfl, if_pos hc, pv_twice p hp, if_pos hp]
          · rw [if_neg hp] at h; cases h
        · rw [if_neg hc] at h; cases h
      · rw [if_neg h3] at h ⊢
        by_cases h4 : d = 4
        · subst h4
          simp only [if_true] at h ⊢
          by_cases hc : (1 ≤ port ∧ port ≤ 65535) ∧ (pv p).2 = true
          · rw [if_pos hc] at h ⊢
            have hs := pv_size p
            refine ⟨⟨?_, by show (1 : Int) ≤ 4 ∧ (4 : Int) ≤ 4; decide, fun h => absurd rfl h, fun _ => ⟨rfl, hc.1⟩, pv_noslash p⟩, Nat.zero_le _, hs⟩
            simp only
            unfold checkV
            rw [if_neg (by decide), if_neg (by decide), if_neg (by decide), if_pos rfl, pv_twice p hc.2, if_pos hc]
          · rw [if_neg hc] at h; cases h
        · rw [if_neg h4] at h; cases h

/-! ### keys -/
def keyOf (d : Int) (n p : ByteArray) (port : Int) : ByteArray := if d = 4 then mk (52 :: (Lib.itoa port ++ 47 :: L p)) else mk (Lib.itoa d ++ L p ++ 47 :: L n)
def keyV (d : Int) (n p : ByteArray) (port : Int) : ByteArray :=
  if (checkV d n p port).2.2.2.2 = none then keyOf (checkV d n p port).1 (checkV d n p port).2.1 (checkV d n p port).2.2.1 (checkV d n p port).2.2.2.1 else ⟨#[]⟩

theorem query_Key_ev (d : Int) (n p : ByteArray) (port : Int) (hn : n.size < 4294967281) (hp : p.size < 4294967281) : Ev (fun k => query_Key.f k d n p port) (keyV d n p port) := by
  have hg := check_good d n p port
  unfold keyV
  unfold query_Key.f
  refine Ev.bind (query_Check_ev d n p port hn hp) ?_
  generalize checkV d n p port = c at *
  obtain ⟨c1, c2, c3, c4, c5⟩ := c
  simp only at hg ⊢
  cases c5 with
  | some x => exact Ev.now _
  | none =>
    obtain ⟨g, h1, h2⟩ := hg rfl
    simp only [Option.isNone_none, if_true]
    refine Ev.congr (f := fun _ => some (keyOf c1 c2 c3 c4)) (fun k => ?_) (Ev.now _)
    unfold keyOf
    by_cases h4 : c1 = 4
    · rw [if_pos h4, if_pos h4]
      obtain ⟨_, hp1, hp2⟩ := g.four h4
      have hl := Lib.itoa_length_le c4 (by omega) (by omega)
      have hi : strconv_Itoa.f c4 = some (mk (Lib.itoa c4)) := by unfold strconv_Itoa.f; rw [if_pos (by omega)]; rfl
      have z1 : (⟨#[52]⟩ : ByteArray).size = 1 := rfl
      have z2 : (⟨#[47]⟩ : ByteArray).size = 1 := rfl
      rw [hi]
      simp only [Option.bind_some, ByteArray.size_append, size_mk, z1, z2]
      rw [if_pos (by omega), if_pos (by omega), if_pos (by omega)]
      congr 1
      apply L_inj
      simp only [L_append, L_mk, List.append_assoc]
      rfl
    · rw [if_neg h4, if_neg h4]
      have hd := g.db
      have hl := Lib.itoa_length_le c1 (by omega) (by omega)
      have hi : strconv_Itoa.f c1 = some (mk (Lib.itoa c1)) := by unfold strconv_Itoa.f; rw [if_pos (by omega)]; rfl
      have z2 : (⟨#[47]⟩ : ByteArray).size = 1 := rfl
      rw [hi]
      simp only [Option.bind_some, ByteArray.size_append, size_mk, z2]
      rw [if_pos (by omega), if_pos (by omega), if_pos (by omega)]
      congr 1
      apply L_inj
      simp only [L_append, L_mk, List.append_assoc]
      rfl

/-! ### the query of a key -/
def fkEndV (s : ByteArray) (ok : Bool) (c : Int × ByteArray × ByteArray × Int × Option Int) : Int × ByteArray × ByteArray × Int × Bool :=
  if ok = true then (if c.2.2.2.2 = none then (if keyV c.1 c.2.1 c.2.2.1 c.2.2.2.1 = s then (c.1, c.2.1, c.2.2.1, c.2.2.2.1, true) else zeroQ) else zeroQ) else zeroQ
def fkV (s : ByteArray) : Int × ByteArray × ByteArray × Int × Bool :=
  if s.size = 0 then zeroQ
  else if bt s 0 = 52 then fkEndV s ((Lib.cut ((L s).drop 1) [47]).2.2 && atoiOk (Lib.cut ((L s).drop 1) [47]).1) (checkV 4 ⟨#[]⟩ (mk (Lib.cut ((L s).drop 1) [47]).2.1) (atoiN (Lib.cut ((L s).drop 1) [47]).1))
  else fkEndV s (Lib.cut ((L s).drop 1) [47]).2.2 (checkV (bt s 0 - 48) (mk (Lib.cut ((L s).drop 1) [47]).2.1) (mk (Lib.cut ((L s).drop 1) [47]).1) 0)

theorem fkEnd_ev (s : ByteArray) (ok : Bool) (d : Int) (n p : ByteArray) (port : Int) (hn : n.size < 4000000000) (hp : p.size < 4000000000) :
    Ev (fun k => fromKeyEnd k s ok (checkV d n p port)) (fkEndV s ok (checkV d n p port)) := by
  have hg := check_good d n p port
  generalize checkV d n p port = c at *
  obtain ⟨c1, c2, c3, c4, c5⟩ := c
  unfold fkEndV fromKeyEnd
  cases ok with
  | false => exact Ev.now _
  | true =>
    cases c5 with
    | some x => exact Ev.now _
    | none =>
      obtain ⟨g, h1, h2⟩ := hg rfl
      simp only at h1 h2 ⊢
      simp only [if_true, Option.isNone_none]
      refine Ev.bind (query_Key_ev c1 c2 c3 c4 (by omega) (by omega)) ?_
      by_cases e : keyV c1 c2 c3 c4 = s
      · rw [if_pos e]
        refine Ev.congr (fun k => if_pos (by rw [e])) (Ev.now _)
      · rw [if_neg e]
        refine Ev.congr (fun k => if_neg (fun e2 => e (L_inj (by rw [toList_L, toList_L] at e2; exact e2)))) (Ev.now _)

theorem query_FromKey_ev (s : ByteArray) (hs : s.size < 4000000000) : Ev (fun k => query_FromKey.f k s) (fkV s) := by
  have hsz := L_size s
  unfold fkV
  by_cases h0 : s.size = 0
  · rw [if_pos h0]
    refine Ev.congr (f := fun _ => some zeroQ) (fun k => ?_) (Ev.now _)
    unfold query_FromKey.f
    rw [if_pos h0]
  · rw [if_neg h0]
    have hex : s.extract 1 s.size = mk ((L s).drop 1) := by
      rw [extract_mk', List.take_of_length_le (by rw [List.length_drop]; omega)]
    have hdl : ((L s).drop 1).length ≤ s.size := by rw [List.length_drop]; omega
    obtain ⟨hc1, hc2⟩ := cut_length ((L s).drop 1) [47]
    have hcut : strings_Cut.f (s.extract 1 s.size) (⟨#[47]⟩ : ByteArray) = some (mk (Lib.cut ((L s).drop 1) [47]).1, mk (Lib.cut ((L s).drop 1) [47]).2.1, (Lib.cut ((L s).drop 1) [47]).2.2) := by
      unfold strings_Cut.f
      rw [hex, if_pos (by rw [size_mk]; omega)]
      rfl
    generalize Lib.cut ((L s).drop 1) [47] = t at *
    obtain ⟨t1, t2, t3⟩ := t
    simp only at hc1 hc2 hcut ⊢
    by_cases h4 : bt s 0 = 52
    · rw [if_pos h4]
      refine Ev.congr (f := fun k => (query_Check.f k 4 (⟨#[]⟩ : ByteArray) (mk t2) (atoiN t1)).bind (fromKeyEnd k s (t3 && atoiOk t1))) (fun k => ?_) ?_
      · unfold query_FromKey.f
        rw [if_neg h0, hcut]
        simp only [Option.bind_some]
        rw [if_pos h4, if_pos (by rw [size_mk]; omega)]
        have : (mk t1).data.toList = t1 := L_mk t1
        rw [this]
      · exact Ev.bind (query_Check_ev 4 _ (mk t2) _ (by show 0 < _; omega) (by rw [size_mk]; omega)) (fkEnd_ev s _ 4 _ (mk t2) _ (by show 0 < _; omega) (by rw [size_mk]; omega))
    · rw [if_neg h4]
      refine Ev.congr (f := fun k => (query_Check.f k (bt s 0 - 48) (mk t2) (mk t1) 0).bind (fromKeyEnd k s t3)) (fun k => ?_) ?_
      · unfold query_FromKey.f
        rw [if_neg h0, hcut]
        simp only [Option.bind_some]
        rw [if_neg h4]
      · exact Ev.bind (query_Check_ev _ (mk t2) (mk t1) _ (by rw [size_mk]; omega) (by rw [size_mk]; omega)) (fkEnd_ev s _ _ (mk t2) (mk t1) _ (by rw [size_mk]; omega) (by rw [size_mk]; omega))

theorem keyV_good {d : Int} {n p : ByteArray} {port : Int} (g : GoodQ d n p port) : keyV d n p port = keyOf d n p port := by
  unfold keyV
  rw [g.self]
  rfl
theorem keyOf_ne (d : Int) (n p : ByteArray) (port : Int) : keyOf d n p port ≠ ⟨#[]⟩ := by
  intro e
  have := congrArg L e
  unfold keyOf at this
  split at this <;> rw [L_mk] at this
  · cases this
  · simp [L] at this

/-- A checked query's key gives it back. -/
theorem fk_keyOf {d : Int} {n p : ByteArray} {port : Int} (g : GoodQ d n p port) : fkV (keyOf d n p port) = (d, n, p, port, true) := by
  have hk := keyV_good g
  have hne := keyOf_ne d n p port
  have hs := g.self
  unfold fkV
  have hz : ¬ (keyOf d n p port).size = 0 := by
    intro e
    apply hne
    apply L_inj
    rw [List.eq_nil_of_length_eq_zero ((L_size _).symm.trans e)]
  rw [if_neg hz]
  by_cases h4 : d = 4
  · obtain ⟨hn, hp1, hp2⟩ := g.four h4
    have hL : L (keyOf d n p port) = 52 :: (Lib.itoa port ++ 47 :: L p) := by unfold keyOf; rw [if_pos h4, L_mk]
    have hit : Lib.itoa port = Lib.decDigits port.toNat := by unfold Lib.itoa; rw [if_neg (by omega)]
    have hcut : Lib.cut ((L (keyOf d n p port)).drop 1) [47] = (Lib.itoa port, L p, true) := by
      rw [hL, List.drop_succ_cons, List.drop_zero, hit]
      exact cut_at _ (dec_noslash _)
    have hb : bt (keyOf d n p port) 0 = 52 := by
      have := bt_nat (keyOf d n p port) 0 (by omega)
      have e : ((0 : Nat) : Int) = 0 := rfl
      rw [e] at this
      rw [this]
      simp only [hL]
      rfl
    have ha : Lib.atoiAll (Lib.itoa port) = .ok port := by
      rw [hit, atoi_dec _ (by omega)]
      congr 1
      omega
    have ha1 : atoiN (Lib.itoa port) = port := by unfold atoiN; rw [ha]
    have ha2 : atoiOk (Lib.itoa port) = true := by unfold atoiOk; rw [ha]
    rw [if_pos hb, hcut]
    simp only
    rw [ha1, ha2, mk_L]
    have hs2 : checkV 4 ⟨#[]⟩ p port = (d, n, p, port, none) := by rw [← hs, h4, hn]
    rw [hs2]
    unfold fkEndV
    simp only [Bool.and_self, if_true, hk]
  · have hd := g.db
    have hL : L (keyOf d n p port) = Lib.itoa d ++ L p ++ 47 :: L n := by unfold keyOf; rw [if_neg h4, L_mk]
    have hit : Lib.itoa d = [UInt8.ofNat (48 + d.toNat)] := by
      unfold Lib.itoa
      rw [if_neg (by omega), Lib.decDigits_one (by omega)]
    have hcut : Lib.cut ((L (keyOf d n p port)).drop 1) [47] = (L p, L n, true) := by
      rw [hL, hit, List.append_assoc, List.singleton_append, List.drop_succ_cons, List.drop_zero]
      exact cut_at _ g.slash
    have hb : bt (keyOf d n p port) 0 = d + 48 := by
      have := bt_nat (keyOf d n p port) 0 (by omega)
      have e : ((0 : Nat) : Int) = 0 := rfl
      rw [e] at this
      rw [this]
      simp only [hL, hit]
      show (((UInt8.ofNat (48 + d.toNat)).toNat : Nat) : Int) = d + 48
      rw [UInt8.toNat_ofNat']
      omega
    rw [if_neg (by omega), hcut]
    simp only
    rw [mk_L, mk_L, hb, show d + 48 - 48 = d by omega]
    have hs2 : checkV d n p 0 = (d, n, p, port, none) := by rw [← hs, g.prt h4]
    rw [hs2]
    unfold fkEndV
    simp only [if_true, hk]

/-- What a text's query is, where it has one. -/
theorem fk_ok {s : ByteArray} (h : (fkV s).2.2.2.2 = true) : s.size ≠ 0 ∧ keyV (fkV s).1 (fkV s).2.1 (fkV s).2.2.1 (fkV s).2.2.2.1 = s := by
  have key : ∀ ok c, (fkEndV s ok c).2.2.2.2 = true → keyV (fkEndV s ok c).1 (fkEndV s ok c).2.1 (fkEndV s ok c).2.2.1 (fkEndV s ok c).2.2.2.1 = s := by
    intro ok c h
    unfold fkEndV at h ⊢
    split at h
    · rename_i h1
      split at h
      · rename_i h2
        split at h
        · rename_i h3
          rw [if_pos h1, if_pos h2, if_pos h3]
          exact h3
        · cases h
      · cases h
    · cases h
  unfold fkV at h ⊢
  by_cases h0 : s.size = 0
  · rw [if_pos h0] at h; cases h
  · refine ⟨h0, ?_⟩
    rw [if_neg h0] at h ⊢
    split at h
    · rename_i h4
      rw [if_pos h4]
      exact key _ _ h
    · rename_i h4
      rw [if_neg h4]
      exact key _ _ h
end Go.Proofs.YtkhkemagkcjdoaaDoor.Pure
