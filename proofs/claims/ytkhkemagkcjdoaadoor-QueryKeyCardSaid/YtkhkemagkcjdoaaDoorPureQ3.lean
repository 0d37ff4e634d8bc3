/- What the program's and the reference's checks of a query come to: the same. Conditions: the sizes named in each theorem. -/
import Derived.Test.YtkhkemagkcjdoaaDoorPureQ2
namespace Go.Proofs.YtkhkemagkcjdoaaDoor.Pure
open Go.RowKit Go.Proofs.YtkhkemagkcjdoaaDoorW.PrintWords Go.Proofs.YtkhkemagkcjdoaaDoor.Gv Go.Proofs.YtkhkemagkcjdoaaDoor.XQA

def pv (p : ByteArray) : ByteArray × Bool := if L p = [] then (⟨#[]⟩, true) else protoV p
abbrev badQ (c : Int) : Int × ByteArray × ByteArray × Int × Option Int := (0, ⟨#[]⟩, ⟨#[]⟩, 0, some c)
def checkV (d : Int) (n p : ByteArray) (port : Int) : Int × ByteArray × ByteArray × Int × Option Int :=
  if d = 1 then (if (cleanV n).2.2 = true then (d, if (cleanV n).2.1 = true then (cleanV n).1 ++ (⟨#[46]⟩ : ByteArray) else (cleanV n).1, ⟨#[]⟩, 0, none) else badQ 6)
  else if d = 2 then (if n.size = 4 ∨ n.size = 16 then (d, n, ⟨#[]⟩, 0, none) else badQ 7)
  else if d = 3 then (if isService (L n) = true then (if (pv p).2 = true then (d, n, (pv p).1, 0, none) else badQ 7) else badQ 6)
  else if d = 4 then (if (1 ≤ port ∧ port ≤ 65535) ∧ (pv p).2 = true then (d, ⟨#[]⟩, (pv p).1, port, none) else badQ 7)
  else badQ 7

theorem clean_size (s : ByteArray) : (cleanV s).1.size ≤ 253 := by
  unfold cleanV
  generalize Lib.trimSuffix (L s) [46] = n
  simp only
  split
  · decide
  · rename_i h
    split
    · show (fold (mk n)).size ≤ 253
      unfold fold
      rw [L_mk]
      show (mk (n.map foldB)).size ≤ 253
      rw [size_mk, List.length_map]
      have : ¬ 253 < n.length := fun e => h (.inr e)
      omega
    · decide

theorem check_j0_ev (d : Int) (n p : ByteArray) (port : Int) (hn : n.size < 4294967281) (x : ByteArray) (f : Bool) (hx : x = (pv p).1) (hf : f = (pv p).2) :
    Ev (fun k => query_Check.j0 k x f d n p port) (checkV d n p port) := by
  subst hx hf
  unfold checkV
  by_cases h1 : d = 1
  · rw [if_pos h1]
    refine Ev.step (f := fun k => (names_Clean.f k n).bind fun t => if t.2.2 = true then (if t.2.1 = true then (if t.1.size + 1 ≤ 9223372036854775807 then (some (d, t.1 ++ (⟨#[46]⟩ : ByteArray), (⟨#[]⟩ : ByteArray), (0 : Int), (none : Option Int))) else (none)) else (some (d, t.1, (⟨#[]⟩ : ByteArray), 0, none))) else (some (0, (⟨#[]⟩ : ByteArray), (⟨#[]⟩ : ByteArray), 0, some 6))) (fun k => ?_) (Ev.bind (names_Clean_ev n hn) ?_)
    · simp only [query_Check.j0]
      rw [if_pos h1]
    · have hc := clean_size n
      generalize cleanV n = c at *
      obtain ⟨c1, c2, c3⟩ := c
      simp only at hc ⊢
      have hle : c1.size + 1 ≤ 9223372036854775807 := by omega
      simp only [if_pos hle]
      cases c3 <;> cases c2 <;> exact Ev.now _
  · rw [if_neg h1]
    by_cases h2 : d = 2
    · rw [if_pos h2]
      by_cases h : n.size = 4 ∨ n.size = 16
      · rw [if_pos h]
        refine Ev.step (f := fun _ => some (d, n, ⟨#[]⟩, 0, none)) (fun k => ?_) (Ev.now _)
        simp only [query_Check.j0]
        rw [if_neg h1, if_pos h2]
        unfold addr_Is.f
        rcases h with h | h
        · rw [if_pos (by omega)]; rfl
        · rw [if_neg (by omega)]
          have : ((n.size : Int) == 16) = true := by rw [beq_iff_eq]; omega
          rw [this]; rfl
      · rw [if_neg h]
        refine Ev.step (f := fun _ => some (badQ 7)) (fun k => ?_) (Ev.now _)
        simp only [query_Check.j0]
        rw [if_neg h1, if_pos h2]
        unfold addr_Is.f
        rw [if_neg (by omega)]
        have : ((n.size : Int) == 16) = false := by rw [beq_eq_false_iff_ne]; omega
        rw [this]; rfl
    · rw [if_neg h2]
      by_cases h3 : d = 3
      · rw [if_pos h3]
        refine Ev.step (f := fun k => (svctab_Name.f k n).bind fun t => if t = true then (if (pv p).2 = true then (some (d, n, (pv p).1, (0 : Int), (none : Option Int))) else (some (0, (⟨#[]⟩ : ByteArray), (⟨#[]⟩ : ByteArray), 0, some 7))) else (some (0, (⟨#[]⟩ : ByteArray), (⟨#[]⟩ : ByteArray), 0, some 6))) (fun k => ?_) (Ev.bind (svctab_Name_ev n (by omega)) ?_)
        · simp only [query_Check.j0]
          rw [if_neg h1, if_neg h2, if_pos h3]
        · cases isService (L n) <;> cases (pv p).2 <;> exact Ev.now _
      · rw [if_neg h3]
        by_cases h4 : d = 4
        · rw [if_pos h4]
          refine Ev.step (f := fun _ => some (if (1 ≤ port ∧ port ≤ 65535) ∧ (pv p).2 = true then (d, ⟨#[]⟩, (pv p).1, port, none) else badQ 7)) (fun k => ?_) (Ev.now _)
          simp only [query_Check.j0]
          rw [if_neg h1, if_neg h2, if_neg h3, if_pos h4]
          unfold svctab_Port.f
          by_cases hp : 1 ≤ port ∧ port ≤ 65535
          · rw [if_pos (by omega), decide_eq_true hp.2]
            simp only [Option.bind_some, if_true, hp, true_and]
            cases (pv p).2 <;> rfl
          · have e : ¬ ((1 ≤ port ∧ port ≤ 65535) ∧ (pv p).2 = true) := fun h => hp h.1
            rw [if_neg e]
            by_cases hq : port ≥ 1
            · rw [if_pos hq, decide_eq_false (by omega)]; rfl
            · rw [if_neg hq]; rfl
        · rw [if_neg h4]
          refine Ev.step (f := fun _ => some (badQ 7)) (fun k => ?_) (Ev.now _)
          simp only [query_Check.j0]
          rw [if_neg h1, if_neg h2, if_neg h3, if_neg h4]

theorem query_Check_ev (d : Int) (n p : ByteArray) (port : Int) (hn : n.size < 4294967281) (hp : p.size < 4294967281) : Ev (fun k => query_Check.f k d n p port) (checkV d n p port) := by
  by_cases h : L p = []
  · refine Ev.congr (fun k => ?_) (check_j0_ev d n p port hn (⟨#[]⟩ : ByteArray) true (by unfold pv; rw [if_pos h]) (by unfold pv; rw [if_pos h]))
    unfold query_Check.f
    rw [toList_L, h]
    rfl
  · refine Ev.congr (f := fun k => (svctab_Proto.f k p).bind fun t => query_Check.j0 k t.1 t.2 d n p port) (fun k => ?_) ?_
    · unfold query_Check.f
      rw [if_neg (by rw [toList_L]; exact h)]
    · refine Ev.bind (svctab_Proto_ev p (by omega)) ?_
      exact check_j0_ev d n p port hn (protoV p).1 (protoV p).2 (by unfold pv; rw [if_neg h]) (by unfold pv; rw [if_neg h])

/-! ### the reference's -/
def codeOf : Option Int → Int
  | none => 0
  | some c => c
def refV (r : Int × ByteArray × ByteArray × Int × Option Int) : Int × ByteArray × ByteArray × Int × Int := (r.1, r.2.1, r.2.2.1, r.2.2.2.1, codeOf r.2.2.2.2)

theorem conciergeref2_Service_ev (s : ByteArray) (hs : s.size < 4611686018427387904) : Ev (fun k => conciergeref2_Service.f k s) (isService (L s)) := by
  have hsz := L_size s
  have hm : L (⟨#[45, 95, 46]⟩ : ByteArray) = [45, 95, 46] := rfl
  by_cases h32 : (L s).length ≤ 32
  · have := conciergeref2_letters_ev s (⟨#[45, 95, 46]⟩ : ByteArray) hs (by show 3 < _; omega)
    have e : ((L s).all (okM [45, 95, 46]) && !(L s).isEmpty) = isService (L s) := by
      unfold isService
      rw [decide_eq_true h32, Bool.and_true]
      congr 1
      congr 1
      funext c
      exact okM_service c
    rw [hm, e] at this
    refine Ev.congr (fun k => ?_) this
    unfold conciergeref2_Service.f
    rw [if_pos (by omega)]
    cases conciergeref2_letters.f k s (⟨#[45, 95, 46]⟩ : ByteArray) <;> rfl
  · have e : isService (L s) = false := by
      unfold isService
      rw [decide_eq_false h32, Bool.and_false, Bool.and_false]
    rw [e]
    refine Ev.congr (f := fun _ => some false) (fun k => ?_) (Ev.now _)
    unfold conciergeref2_Service.f
    rw [if_neg (by omega)]

theorem pv_fold (p : ByteArray) (h : (pv p).2 = true) : (pv p).1 = fold p := by
  unfold pv at h ⊢
  split at h
  · rename_i e
    rw [if_pos e]
    unfold fold
    rw [e]
    rfl
  · rename_i e
    rw [if_neg e]
    unfold protoV at h ⊢
    split at h
    · rename_i e2
      rw [if_pos e2]
    · cases h

theorem pv_ref (p : ByteArray) (h : L p ≠ []) : (!(L p).isEmpty && decide ((L p).length ≤ 8) && (L p).all okP) = (pv p).2 := by
  unfold pv protoV
  rw [if_neg h]
  split
  · rename_i e; rw [e, Bool.and_true]
  · rename_i e; rw [Bool.eq_false_iff.2 e, Bool.and_false]

theorem pv_empty (p : ByteArray) (h : L p = []) : (pv p).2 = true := by
  unfold pv
  rw [if_pos h]

/-- The reference's end of a check with a protocol. -/
theorem ref_end_ev (d : Int) (m p : ByteArray) (port : Int) (hp : p.size < 4294967281) :
    Ev (fun k => if p.toList = ([] : List UInt8) then ((conciergeref2_Fold.f p).bind fun t149 => (some (d, m, t149, port, (0 : Int)))) else ((conciergeref2_Proto.f k p).bind fun t150 => (if t150 = true then ((conciergeref2_Fold.f p).bind fun t151 => (some (d, m, t151, port, 0))) else (some (0, (⟨#[]⟩ : ByteArray), (⟨#[]⟩ : ByteArray), 0, 7)))))
      (refV (if (pv p).2 = true then (d, m, (pv p).1, port, none) else badQ 7)) := by
  by_cases h : L p = []
  · have hv := pv_empty p h
    have hq := pv_fold p hv
    refine Ev.congr (f := fun _ => some (d, m, fold p, port, (0 : Int))) (fun k => ?_) ?_
    · rw [if_pos (by rw [toList_L]; exact h), ref_Fold_f p (by omega)]
      rfl
    · rw [if_pos hv, hq]
      exact Ev.now _
  · refine Ev.congr (fun k => if_neg (by rw [toList_L]; exact h)) ?_
    refine Ev.bind (conciergeref2_Proto_ev p (by omega)) ?_
    rw [pv_ref p h]
    cases hv : (pv p).2 with
    | true =>
      have hq := pv_fold p hv
      refine Ev.congr (f := fun _ => some (d, m, fold p, port, (0 : Int))) (fun k => ?_) ?_
      · rw [if_pos rfl, ref_Fold_f p (by omega)]
        rfl
      · rw [if_pos rfl, hq]
        exact Ev.now _
    | false => exact Ev.now _

theorem conciergeref2_Check_ev (d : Int) (n p : ByteArray) (port : Int) (hn : n.size < 4294967281) (hp : p.size < 4294967281) : Ev (fun k => conciergeref2_Check.f k d n p port) (refV (checkV d n p port)) := by
  unfold checkV conciergeref2_Check.f
  by_cases h1 : d = 1
  · simp only [if_pos h1]
    refine Ev.bind (conciergeref2_Clean_ev n hn) ?_
    have hc := clean_size n
    generalize cleanV n = c at *
    obtain ⟨c1, c2, c3⟩ := c
    simp only at hc ⊢
    have hle : c1.size + 1 ≤ 9223372036854775807 := by omega
    simp only [if_pos hle]
    cases c3 <;> cases c2 <;> exact Ev.now _
  · simp only [if_neg h1]
    by_cases h2 : d = 2
    · simp only [if_pos h2]
      by_cases h : n.size = 4 ∨ n.size = 16
      · rw [if_pos h]
        refine Ev.congr (f := fun _ => some (d, n, ⟨#[]⟩, 0, 0)) (fun k => ?_) (Ev.now _)
        rcases h with h | h
        · rw [if_pos (by omega)]
        · rw [if_neg (by omega), if_pos (by omega)]
      · rw [if_neg h]
        refine Ev.congr (f := fun _ => some (0, ⟨#[]⟩, ⟨#[]⟩, 0, 7)) (fun k => ?_) (Ev.now _)
        rw [if_neg (by omega), if_neg (by omega)]
    · simp only [if_neg h2]
      by_cases h3 : d = 3
      · simp only [if_pos h3]
        refine Ev.bind (conciergeref2_Service_ev n (by omega)) ?_
        cases isService (L n) with
        | false => exact Ev.now _
        | true => exact ref_end_ev d n p 0 hp
      · simp only [if_neg h3]
        by_cases h4 : d = 4
        · simp only [if_pos h4]
          by_cases ha : port < 1
          · rw [if_neg (by rintro ⟨⟨h, _⟩, _⟩; omega)]
            refine Ev.congr (f := fun _ => some (0, ⟨#[]⟩, ⟨#[]⟩, 0, 7)) (fun k => ?_) (Ev.now _)
            rw [if_pos ha]
          · by_cases hb : port > 65535
            · rw [if_neg (by rintro ⟨⟨_, h⟩, _⟩; omega)]
              refine Ev.congr (f := fun _ => some (0, ⟨#[]⟩, ⟨#[]⟩, 0, 7)) (fun k => ?_) (Ev.now _)
              rw [if_neg ha, if_pos hb]
            · have e : ((1 ≤ port ∧ port ≤ 65535) ∧ (pv p).2 = true) = ((pv p).2 = true) := by
                rw [eq_iff_iff]
                exact ⟨fun h => h.2, fun h => ⟨⟨by omega, by omega⟩, h⟩⟩
              simp only [e]
              refine Ev.congr (fun k => ?_) (ref_end_ev d (⟨#[]⟩ : ByteArray) p port hp)
              rw [if_neg ha, if_neg hb]
        · simp only [if_neg h4]
          exact Ev.now _

end Go.Proofs.YtkhkemagkcjdoaaDoor.Pure
