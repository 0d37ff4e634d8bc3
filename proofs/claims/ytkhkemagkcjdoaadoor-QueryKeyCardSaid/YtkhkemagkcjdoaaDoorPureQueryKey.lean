/- The law of a query's key is true at every two queries and every text. Conditions: none. -/
import Derived.Test.YtkhkemagkcjdoaaDoorXQK
import Derived.Test.YtkhkemagkcjdoaaDoorPureQ4
namespace Go.Proofs.YtkhkemagkcjdoaaDoor.Pure
open Go.RowKit Go.Proofs.YtkhkemagkcjdoaaDoorW.PrintWords Go.Proofs.YtkhkemagkcjdoaaDoor.Gv Go.Proofs.YtkhkemagkcjdoaaDoor.XQA Go.Proofs.YtkhkemagkcjdoaaDoor.XQK
theorem begun14k_ev : Ev (fun k => conciergelaw14_begun.f k) true := Ev.of conciergelaw14_begun.mono (k := 60) (by decide +kernel)

theorem cutk_ev (s : ByteArray) (n : Nat) : ∃ t : ByteArray, conciergelaw2_Cut.f s (n : Int) = some t ∧ t.size ≤ n := by
  unfold conciergelaw2_Cut.f
  by_cases h : (s.size : Int) > (n : Int)
  · rw [if_pos h, if_pos (by omega), if_pos (by omega)]
    refine ⟨_, rfl, ?_⟩
    rw [ByteArray.size_extract]
    omega
  · rw [if_neg h]
    exact ⟨_, rfl, by omega⟩
theorem cutQueryk_ev (d : Int) (n p : ByteArray) (port : Int) : ∃ n' p' : ByteArray, conciergelaw8_CutQuery.f d n p port = some (d, n', p', port) ∧ n'.size ≤ 300 ∧ p'.size ≤ 20 := by
  obtain ⟨n', hn, h1⟩ := cutk_ev n 300
  obtain ⟨p', hp, h2⟩ := cutk_ev p 20
  refine ⟨n', p', ?_, h1, h2⟩
  have hn2 : conciergelaw2_Cut.f n 300 = some n' := hn
  have hp2 : conciergelaw2_Cut.f p 20 = some p' := hp
  unfold conciergelaw8_CutQuery.f
  rw [hn2, Option.bind_some, hp2]
  rfl
theorem toList_eq_iff {a b : ByteArray} : (a.toList = b.toList) = (a = b) := by
  rw [eq_iff_iff]
  constructor
  · intro h; rw [toList_L, toList_L] at h; exact L_inj h
  · intro h; rw [h]
theorem eqQueryk_f (d : Int) (n p : ByteArray) (port : Int) (d' : Int) (n' p' : ByteArray) (port' : Int) : conciergeref2_EqQuery.f d n p port d' n' p' port' = some (decide ((d, n, p, port) = (d', n', p', port'))) := by
  unfold conciergeref2_EqQuery.f
  by_cases h1 : d = d'
  · rw [if_pos h1]
    by_cases h2 : n = n'
    · rw [if_pos (by rw [h2])]
      by_cases h3 : p = p'
      · rw [if_pos (by rw [h3])]
        by_cases h4 : port = port'
        · rw [decide_eq_true (by rw [h1, h2, h3, h4]), beq_iff_eq.2 h4]
        · rw [decide_eq_false (by rintro h; injection h with _ h; injection h with _ h; injection h with _ h; exact h4 h), beq_eq_false_iff_ne.2 h4]
      · rw [if_neg (by rw [toList_eq_iff]; exact h3), decide_eq_false (by rintro h; injection h with _ h; injection h with _ h; injection h with h _; exact h3 h)]
    · rw [if_neg (by rw [toList_eq_iff]; exact h2), decide_eq_false (by rintro h; injection h with _ h; injection h with h _; exact h2 h)]
  · rw [if_neg h1, decide_eq_false (by rintro h; injection h with h _; exact h1 h)]

theorem codeOf_zero (d : Int) (n p : ByteArray) (port : Int) : (codeOf (checkV d n p port).2.2.2.2 == 0) = decide ((checkV d n p port).2.2.2.2 = none) := by
  unfold checkV
  repeat' split
  all_goals first | rfl
theorem key_found (d : Int) (n p : ByteArray) (port : Int) : ((keyV d n p port).toList != ([] : List UInt8)) = (codeOf (checkV d n p port).2.2.2.2 == 0) := by
  rw [codeOf_zero]
  unfold keyV
  by_cases h : (checkV d n p port).2.2.2.2 = none
  · rw [if_pos h, decide_eq_true h, toList_L, bne_iff_ne]
    intro e
    exact keyOf_ne _ _ _ _ (L_inj e)
  · rw [if_neg h, decide_eq_false h, toList_L]
    rfl

/-- Two keys are alike just if the queries are asked alike. -/
theorem key_same {d : Int} {n p : ByteArray} {port : Int} {d' : Int} {n' p' : ByteArray} {port' : Int} (g : GoodQ d n p port) (g' : GoodQ d' n' p' port') :
    (keyOf d n p port).toList = (keyOf d' n' p' port').toList ↔ (d, n, p, port) = (d', n', p', port') := by
  constructor
  · intro h
    have e : keyOf d n p port = keyOf d' n' p' port' := L_inj (by rw [toList_L, toList_L] at h; exact h)
    have h1 := fk_keyOf g
    rw [e, fk_keyOf g'] at h1
    injection h1 with a1 h1
    injection h1 with a2 h1
    injection h1 with a3 h1
    injection h1 with a4 h1
    rw [a1, a2, a3, a4]
  · intro h
    injection h with a1 h
    injection h with a2 h
    injection h with a3 a4
    rw [a1, a2, a3, a4]

/-- What the law asks last: a text's query has the text as its key. -/
theorem last_ev (s t : ByteArray) (hs : conciergelaw2_Cut.f s 300 = some t) (ht : t.size ≤ 300) :
    Ev (fun k => (conciergelaw2_Cut.f s 300).bind fun t157 => ((query_FromKey.f k t157).bind fun bt158 => (if true = true then (if bt158.2.2.2.2 = true then ((query_Key.f k bt158.1 bt158.2.1 bt158.2.2.1 bt158.2.2.2.1).bind fun t164 => (if t164.toList = t157.toList then (some (t157.toList != ([] : List UInt8))) else (some false))) else (some true)) else (some false)))) true := by
  rw [hs]
  simp only [Option.bind_some, if_true]
  refine Ev.bind (query_FromKey_ev t (by omega)) ?_
  have hf : ∀ s : ByteArray, s.size ≤ 300 → (fkV s).2.1.size < 4000000000 ∧ (fkV s).2.2.1.size < 4000000000 := by
    intro s hs
    have key : ∀ ok d (n p : ByteArray) port, n.size ≤ 300 → p.size ≤ 300 → (fkEndV s ok (checkV d n p port)).2.1.size < 4000000000 ∧ (fkEndV s ok (checkV d n p port)).2.2.1.size < 4000000000 := by
      intro ok d n p port hn hp
      have hg := check_good d n p port
      unfold fkEndV
      repeat' split
      all_goals first
        | exact ⟨by show 0 < _; omega, by show 0 < _; omega⟩
        | (rename_i h _
           have := hg h
           exact ⟨by show (checkV d n p port).2.1.size < _; omega, by show (checkV d n p port).2.2.1.size < _; omega⟩)
    have hsz := L_size s
    have hdl : ((L s).drop 1).length ≤ s.size := by rw [List.length_drop]; omega
    obtain ⟨hc1, hc2⟩ := cut_length ((L s).drop 1) [47]
    unfold fkV
    split
    · exact ⟨by show 0 < _; omega, by show 0 < _; omega⟩
    · split
      · exact key _ _ _ _ _ (Nat.zero_le _) (by rw [size_mk]; omega)
      · exact key _ _ _ _ _ (by rw [size_mk]; omega) (by rw [size_mk]; omega)
  have hs2 := hf t ht
  cases ho : (fkV t).2.2.2.2 with
  | false => exact Ev.now _
  | true =>
    obtain ⟨hz, hk⟩ := fk_ok ho
    simp only [if_true]
    refine Ev.bind (query_Key_ev _ _ _ _ (by omega) (by omega)) ?_
    rw [hk, if_pos rfl]
    have : (t.toList != ([] : List UInt8)) = true := by
      rw [bne_iff_ne, toList_L]
      intro e
      exact hz (by rw [L_size, e]; rfl)
    rw [this]
    exact Ev.now _

theorem QueryKey (a0 : Int) (a1 a2 : ByteArray) (a3 : Int) (b0 : Int) (b1 b2 : ByteArray) (b3 : Int) (s : ByteArray) : ∃ k, conciergelaw14_QueryKey.f k a0 a1 a2 a3 b0 b1 b2 b3 s = some true := by
  obtain ⟨n, p, hcut, hn, hp⟩ := cutQueryk_ev a0 a1 a2 a3
  obtain ⟨n', p', hcut', hn', hp'⟩ := cutQueryk_ev b0 b1 b2 b3
  obtain ⟨t, hct0, hts⟩ := cutk_ev s 300
  have hct : conciergelaw2_Cut.f s 300 = some t := hct0
  have hlast := last_ev s t hct hts
  refine Ev.rounds (g := fun k => conciergelaw14_QueryKey.f k a0 a1 a2 a3 b0 b1 b2 b3 s) ?_
  refine Ev.bind begun14k_ev ?_
  simp only [if_true, hcut, hcut', Option.bind_some]
  refine Ev.bind (conciergeref2_Check_ev a0 n p a3 (by omega) (by omega)) ?_
  refine Ev.bind (conciergeref2_Check_ev b0 n' p' b3 (by omega) (by omega)) ?_
  refine Ev.bind (query_Key_ev a0 n p a3 (by omega) (by omega)) ?_
  refine Ev.bind (query_Key_ev b0 n' p' b3 (by omega) (by omega)) ?_
  simp only [refV]
  rw [key_found, key_found]
  simp only [bne_self_eq_false, Bool.false_eq_true, if_false]
  have hg := check_good a0 n p a3
  have hg' := check_good b0 n' p' b3
  have hc := codeOf_zero a0 n p a3
  have hc' := codeOf_zero b0 n' p' b3
  have kv : keyV a0 n p a3 = if (checkV a0 n p a3).2.2.2.2 = none then keyOf (checkV a0 n p a3).1 (checkV a0 n p a3).2.1 (checkV a0 n p a3).2.2.1 (checkV a0 n p a3).2.2.2.1 else ⟨#[]⟩ := rfl
  have kv' : keyV b0 n' p' b3 = if (checkV b0 n' p' b3).2.2.2.2 = none then keyOf (checkV b0 n' p' b3).1 (checkV b0 n' p' b3).2.1 (checkV b0 n' p' b3).2.2.1 (checkV b0 n' p' b3).2.2.2.1 else ⟨#[]⟩ := rfl
  generalize keyV a0 n p a3 = key at *
  generalize keyV b0 n' p' b3 = key' at *
  generalize checkV a0 n p a3 = x at *
  generalize checkV b0 n' p' b3 = y at *
  obtain ⟨x1, x2, x3, x4, x5⟩ := x
  obtain ⟨y1, y2, y3, y4, y5⟩ := y
  simp only at hg hg' hc hc' kv kv' ⊢
  cases x5 with
  | some cx =>
    have hne : ¬ codeOf (some cx) = 0 := by
      intro e
      rw [e] at hc
      simp at hc
    refine Ev.step (f := fun k => conciergelaw14_QueryKey.j1 k s true (codeOf (some cx)) key false x1 x2 x3 x4) (fun k => ?_) ?_
    · simp only [conciergelaw14_QueryKey.j0]
      rw [if_neg (by simp), if_neg hne]
    · refine Ev.step (fun k => ?_) hlast
      simp only [conciergelaw14_QueryKey.j1]
      rw [if_neg (by simp), if_neg hne]
  | none =>
    obtain ⟨g, gs1, gs2⟩ := hg rfl
    have hz : codeOf none = 0 := rfl
    rw [if_pos rfl] at kv
    subst kv
    have h1 : Ev (fun k => conciergelaw14_QueryKey.j1 k s true 0 (keyOf x1 x2 x3 x4) false x1 x2 x3 x4) true := by
      have hks : (keyOf x1 x2 x3 x4).size < 4000000000 := by
        unfold keyOf
        have hd := g.db
        split
        · rename_i h4
          obtain ⟨_, hp1, hp2⟩ := g.four h4
          have hl := Lib.itoa_length_le x4 (by omega) (by omega)
          rw [size_mk, List.length_cons, List.length_append, List.length_cons, ← L_size]
          omega
        · have hl := Lib.itoa_length_le x1 (by omega) (by omega)
          rw [size_mk, List.length_append, List.length_append, List.length_cons, ← L_size, ← L_size]
          omega
      refine Ev.step (f := fun k => (query_FromKey.f k (keyOf x1 x2 x3 x4)).bind fun bt142 => (if bt142.2.2.2.2 = true then ((conciergeref2_EqQuery.f bt142.1 bt142.2.1 bt142.2.2.1 bt142.2.2.2.1 x1 x2 x3 x4).bind fun t148 => (conciergelaw14_QueryKey.j2 k s true (!t148))) else (conciergelaw14_QueryKey.j2 k s true true))) (fun k => ?_) (Ev.bind (query_FromKey_ev _ hks) ?_)
      · simp only [conciergelaw14_QueryKey.j1]
        rw [if_neg (by simp), if_pos trivial]
      · rw [fk_keyOf g]
        simp only [if_true, eqQueryk_f, Option.bind_some, decide_true, Bool.not_true]
        refine Ev.step (fun k => ?_) hlast
        simp only [conciergelaw14_QueryKey.j2]
        rw [if_neg (by simp)]
    cases y5 with
    | some cy =>
      have hne : ¬ codeOf (some cy) = 0 := by
        intro e
        rw [e] at hc'
        simp at hc'
      refine Ev.step (fun k => ?_) h1
      simp only [conciergelaw14_QueryKey.j0, hz]
      rw [if_neg (by simp), if_pos trivial, if_neg hne]
    | none =>
      obtain ⟨g', _, _⟩ := hg' rfl
      rw [if_pos rfl] at kv'
      subst kv'
      have hsame := key_same g g'
      refine Ev.step (fun k => ?_) h1
      simp only [conciergelaw14_QueryKey.j0, hz, eqQueryk_f, Option.bind_some]
      rw [if_neg (by simp), if_pos trivial]
      have : ((keyOf x1 x2 x3 x4).toList == (keyOf y1 y2 y3 y4).toList) = decide ((x1, x2, x3, x4) = (y1, y2, y3, y4)) := by
        rw [Bool.eq_iff_iff, beq_iff_eq, decide_eq_true_eq]
        exact hsame
      rw [this, bne_self_eq_false, if_pos trivial]
end Go.Proofs.YtkhkemagkcjdoaaDoor.Pure
