/- What the program reads as groups, and as an address. Conditions: the bounds named in each theorem. -/
import Derived.Test.YtkhkemagkcjdoaaDoorPureAddr5
namespace Go.Proofs.YtkhkemagkcjdoaaDoor.Pure
open Go.RowKit Go.Proofs.YtkhkemagkcjdoaaDoorW.PrintWords Go.Proofs.YtkhkemagkcjdoaaDoor.Gv Go.Proofs.YtkhkemagkcjdoaaDoor.XAD

theorem octs_lt : ∀ (xs : List (List UInt8)) (ms : List Nat), octs xs = some ms → ∀ m ∈ ms, m < 256 := by
  intro xs
  induction xs with
  | nil => intro ms h m hm; injection h with h; subst h; cases hm
  | cons x r ih =>
    intro ms h m hm
    unfold octs at h
    cases ho : octV x with
    | none => rw [ho] at h; cases h
    | some n =>
      rw [ho] at h
      cases hr : octs r with
      | none => rw [hr] at h; cases h
      | some ms' =>
        rw [hr] at h
        injection h with h
        subst h
        rcases List.mem_cons.1 hm with rfl | hm
        · unfold octV at ho
          cases he : puEnd8 x with
          | error b => rw [he] at ho; cases ho
          | ok n =>
            rw [he] at ho
            simp only at ho
            split at ho
            · injection ho with ho
              subst ho
              exact puEnd8_lt he
            · cases ho
        · exact ih ms' hr m hm
theorem fourV_lt {l : List UInt8} {ms : List Nat} (h : fourV l = some ms) : ∀ m ∈ ms, m < 256 := by
  unfold fourV at h
  split at h
  · exact octs_lt _ _ h
  · cases h
theorem octs_length : ∀ (xs : List (List UInt8)) (ms : List Nat), octs xs = some ms → ms.length = xs.length := by
  intro xs
  induction xs with
  | nil => intro ms h; injection h with h; subst h; rfl
  | cons x r ih =>
    intro ms h
    unfold octs at h
    cases ho : octV x with
    | none => rw [ho] at h; cases h
    | some n =>
      rw [ho] at h
      cases hr : octs r with
      | none => rw [hr] at h; cases h
      | some ms' =>
        rw [hr] at h
        injection h with h
        subst h
        rw [List.length_cons, List.length_cons, ih ms' hr]
theorem fourV_length {l : List UInt8} {ms : List Nat} (h : fourV l = some ms) : ms.length = 4 := by
  unfold fourV at h
  split at h
  · rename_i h4
    rw [octs_length _ _ h, h4]
  · cases h
theorem bytesOf_mk (ms : List Nat) (h : ∀ m ∈ ms, m < 256) : bytesOf (mk (ms.map UInt8.ofNat)) = ms.map fun n : Nat => (n : Int) := by
  unfold bytesOf
  have e : (mk (ms.map UInt8.ofNat)).data.toList = ms.map UInt8.ofNat := L_mk _
  rw [e, List.map_map]
  apply List.map_congr_left
  intro m hm
  have := h m hm
  show ((UInt8.ofNat m).toNat : Int) = (m : Int)
  rw [UInt8.toNat_ofNat']
  omega

theorem contains_one (c : UInt8) (l : List UInt8) : Lib.contains l [c] = decide (c ∈ l) := by
  unfold Lib.contains
  by_cases h : c ∈ l
  · obtain ⟨a, b, rfl, ha⟩ := List.eq_append_cons_of_mem h
    rw [index_at b ha, decide_eq_true h, decide_eq_true (by omega)]
  · rw [index_no h, decide_eq_false h, decide_eq_false (by omega)]

/-! ### hex numerals that are read -/
theorem hexD_byte (c : UInt8) (d : Nat) (h : hexD c = some d) : c.toNat < 128 ∧ c ≠ 43 ∧ c ≠ 95 := by
  have all : ((List.range 256).all fun n => match hexD (UInt8.ofNat n) with
    | none => true
    | some _ => decide (n < 128) && (decide (n ≠ 43) && decide (n ≠ 95))) = true := by decide +kernel
  have := List.all_eq_true.1 all c.toNat (List.mem_range.2 c.toNat_lt)
  rw [UInt8.ofNat_toNat, h] at this
  simp only [Bool.and_eq_true, decide_eq_true_eq] at this
  exact ⟨this.1, fun e => this.2.1 (by rw [e]; rfl), fun e => this.2.2 (by rw [e]; rfl)⟩
theorem hexM_ok : ∀ (l : List UInt8) (acc n : Nat), acc < 65536 → hexM acc l = .ok n → n < 65536 ∧ ∀ c ∈ l, c.toNat < 128 ∧ c ≠ 43 ∧ c ≠ 95 := by
  intro l
  induction l with
  | nil => intro acc n ha h; unfold hexM at h; injection h with h; subst h; exact ⟨ha, fun c hc => by cases hc⟩
  | cons x r ih =>
    intro acc n ha h
    unfold hexM at h
    cases hd : hexD x with
    | none => rw [hd] at h; cases h
    | some d =>
      rw [hd] at h
      simp only at h
      split at h
      · cases h
      · rename_i hle
        obtain ⟨h1, h2⟩ := ih (acc * 16 + d) n (by omega) h
        refine ⟨h1, fun c hc => ?_⟩
        rcases List.mem_cons.1 hc with rfl | hc
        · exact hexD_byte c d hd
        · exact h2 c hc
theorem hexEnd_ok {l : List UInt8} {n : Nat} (h : hexEnd l = .ok n) : n < 65536 ∧ ∀ c ∈ l, c.toNat < 128 ∧ c ≠ 43 ∧ c ≠ 95 := by
  unfold hexEnd at h
  split at h
  · cases h
  · exact hexM_ok l 0 n (by omega) h
theorem indexAny_no (l chars : List UInt8) (h : ∀ c ∈ l, chars.contains c = false) : Lib.indexAny l chars = -1 := by
  induction l with
  | nil => rfl
  | cons x r ih =>
    unfold Lib.indexAny
    rw [h x List.mem_cons_self, ih (fun c hc => h c (List.mem_cons_of_mem _ hc))]
    first | done | rfl
theorem containsAny_f {x : List UInt8} {n : Nat} (h : hexEnd x = .ok n) (hx : x.length < 4294967281) : strings_ContainsAny.f (mk x) (⟨#[43, 95]⟩ : ByteArray) = some false := by
  obtain ⟨_, hc⟩ := hexEnd_ok h
  have e : (mk x).data.toList = x := L_mk x
  have e2 : (⟨#[43, 95]⟩ : ByteArray).data.toList = [43, 95] := rfl
  have hasc : ascii x = true := by
    unfold ascii
    rw [List.all_eq_true]
    intro c hm
    exact decide_eq_true (hc c hm).1
  have hno : Lib.containsAny x [43, 95] = false := by
    unfold Lib.containsAny
    rw [indexAny_no x [43, 95] (fun c hm => by
      obtain ⟨_, h1, h2⟩ := hc c hm
      simp [h1, h2])]
    rfl
  unfold strings_ContainsAny.f
  rw [e, e2, if_pos ⟨by rw [size_mk]; exact hx, by show 2 < _; omega, hasc, by decide⟩, hno]

/-! ### groups -/
def groupV (x : List UInt8) : Option (List Nat) := match hexEnd x with
  | .ok n => if x.length ≤ 4 then some [n / 256, n % 256] else none
  | .error _ => none
def pieceV (last : Bool) (x : List UInt8) (r : List (List UInt8)) : Option (List Nat) := if last = true ∧ r = [] ∧ 46 ∈ x then fourV x else groupV x
def grps (last : Bool) : List (List UInt8) → Option (List Nat)
  | [] => some []
  | x :: r => match pieceV last x r with
    | some ns => (grps last r).map (ns ++ ·)
    | none => none
def groupsV (last : Bool) (l : List UInt8) : Option (List Nat) := if l = [] then some [] else grps last (spl 58 l)

theorem pu16_f (x : List UInt8) (h : x.length ≤ 281474976710656) : strconv_ParseUint.f (mk x) 16 16 = some (puR 65535 (hexEnd x)) := by
  unfold strconv_ParseUint.f
  rw [if_pos (by rw [size_mk]; exact h), if_neg (by decide), if_pos ⟨rfl, rfl⟩]
  have : (mk x).data.toList = x := L_mk x
  rw [this]
theorem Contains_f (x : List UInt8) (c : UInt8) (h : x.length < 4294967281) : strings_Contains.f (mk x) (⟨#[c]⟩ : ByteArray) = some (decide (c ∈ x)) := by
  unfold strings_Contains.f
  have : (mk x).data.toList = x := L_mk x
  have e2 : (⟨#[c]⟩ : ByteArray).data.toList = [c] := rfl
  rw [if_pos (by rw [size_mk]; exact h), this, e2, contains_one]

/-- One piece, behind the test which reading it is given. -/
theorem piece_ev (last : Bool) (xs : List (List UInt8)) (hl : xs.length < 100000000) (x : List UInt8) (hx : x.length < 1000000) (j : Nat) (hj : j < xs.length) (ns : List Nat) (hns : ns.length ≤ 4 * j) (flag : Bool) (R : ByteArray × Bool)
    (hR : ∀ ms, (if flag = true then fourV x else groupV x) = some ms → ms.length ≤ 4 → Ev (fun k => addr_groups.l0 k last (xs.map mk) ((ns ++ ms).map fun n : Nat => (n : Int)) (xs.map mk) (xs.length : Int) ((j + 1 : Nat) : Int)) R)
    (hN : (if flag = true then fourV x else groupV x) = none → R = (⟨#[]⟩, false)) :
    Ev (fun k => addr_groups.j1 k last (xs.map mk) (ns.map fun n : Nat => (n : Int)) (mk x) (xs.map mk) (xs.length : Int) (j : Int) flag) R := by
  have hw := wrap_nat j (by omega)
  have hlen : (ns.map fun n : Nat => (n : Int)).length = ns.length := by rw [List.length_map]
  cases flag with
  | true =>
    simp only [if_true] at hR hN
    refine Ev.step (f := fun k => (addr_four.f k (mk x)).bind fun bt117 => (if bt117.2 = true then (if (ns.map fun n : Nat => (n : Int)).length + bt117.1.size < 140737488355328 then (addr_groups.l0 k last (xs.map mk) ((ns.map fun n : Nat => (n : Int)) ++ bytesOf bt117.1) (xs.map mk) (xs.length : Int) ((j + 1 : Nat) : Int)) else (none)) else (some ((⟨#[]⟩ : ByteArray), false)))) (fun k => ?_) ?_
    · simp only [addr_groups.j1]
      rw [if_pos trivial, hw]
    · refine Ev.bind (addr_four_ev (mk x) (by rw [size_mk]; exact hx)) ?_
      rw [L_mk]
      cases hf : fourV x with
      | none =>
        rw [hN hf]
        exact Ev.congr (fun k => if_neg (by simp [outV])) (Ev.now _)
      | some ms =>
        have h4 := fourV_length hf
        have h256 := fourV_lt hf
        have h := hR ms hf (by omega)
        refine Ev.congr (fun k => ?_) h
        have e1 : (outV (some ms)).2 = true := rfl
        have e2 : (outV (some ms)).1 = mk (ms.map UInt8.ofNat) := rfl
        rw [if_pos e1, e2, if_pos (by rw [hlen, size_mk, List.length_map]; omega), bytesOf_mk ms h256, List.map_append]
  | false =>
    simp only [Bool.false_eq_true, if_false] at hR hN
    have hp := pu16_f x (by omega)
    have hstep : ∀ k, addr_groups.j1 (k + 1) last (xs.map mk) (ns.map fun n : Nat => (n : Int)) (mk x) (xs.map mk) (xs.length : Int) (j : Int) false =
        (some (puR 65535 (hexEnd x))).bind fun bt122 => (if bt122.2.isNone = true then (if ((mk x).size : Int) > 4 then (some ((⟨#[]⟩ : ByteArray), false)) else ((strings_ContainsAny.f (mk x) (⟨#[43, 95]⟩ : ByteArray)).bind fun t125 => (if t125 = true then (some ((⟨#[]⟩ : ByteArray), false)) else ((some (([(bt122.1 / 256) % 256, (bt122.1) % 256] : List Int) : List Int)).bind fun y126 => (if (ns.map fun n : Nat => (n : Int)).length + y126.length < 140737488355328 then (addr_groups.l0 k last (xs.map mk) ((ns.map fun n : Nat => (n : Int)) ++ y126) (xs.map mk) (xs.length : Int) ((j + 1 : Nat) : Int)) else (none)))))) else (some ((⟨#[]⟩ : ByteArray), false))) := fun k => by
      simp only [addr_groups.j1]
      rw [if_neg (by simp), hp, hw]
    cases he : hexEnd x with
    | error b =>
      have hg : groupV x = none := by simp only [groupV, he]
      rw [hN hg]
      refine Ev.step (f := fun _ => some ((⟨#[]⟩ : ByteArray), false)) (fun k => ?_) (Ev.now _)
      have e1 : ¬ ((if b = true then (65535 : Int) else 0), some (0 : Int)).2.isNone = true := by simp
      rw [hstep k, he, puR_error, Option.bind_some, if_neg e1]
    | ok n =>
      obtain ⟨hn, _⟩ := hexEnd_ok he
      have hca := containsAny_f he (by omega)
      have e1 : ((n : Int), (none : Option Int)).2.isNone = true := rfl
      have e2 : ((n : Int), (none : Option Int)).1 = (n : Int) := rfl
      by_cases h4 : x.length ≤ 4
      · have hg : groupV x = some [n / 256, n % 256] := by simp only [groupV, he, if_pos h4]
        have h := hR _ hg (by simp)
        refine Ev.step (fun k => ?_) h
        have e3 : ((n : Int) / 256) % 256 = ((n / 256 : Nat) : Int) := by omega
        have e4 : (n : Int) % 256 = ((n % 256 : Nat) : Int) := by omega
        rw [hstep k, he, puR_ok, Option.bind_some, if_pos e1, if_neg (by rw [size_mk]; omega), hca, Option.bind_some, if_neg (by simp), Option.bind_some, e2, e3, e4, if_pos (by rw [hlen]; show _ + 2 < _; omega), List.map_append, List.map_cons, List.map_cons, List.map_nil]
      · have hg : groupV x = none := by simp only [groupV, he, if_neg h4]
        rw [hN hg]
        refine Ev.step (f := fun _ => some ((⟨#[]⟩ : ByteArray), false)) (fun k => ?_) (Ev.now _)
        rw [hstep k, he, puR_ok, Option.bind_some, if_pos e1, if_pos (by rw [size_mk]; omega)]

theorem groups_loop_ev (last : Bool) (xs : List (List UInt8)) (hx : ∀ x ∈ xs, x.length < 1000000) (hl : xs.length < 100000000) : ∀ (d j : Nat) (ns : List Nat), xs.length - j = d → j ≤ xs.length → ns.length ≤ 4 * j →
    Ev (fun k => addr_groups.l0 k last (xs.map mk) (ns.map fun n : Nat => (n : Int)) (xs.map mk) (xs.length : Int) (j : Int)) (outV ((grps last (xs.drop j)).map (ns ++ ·))) := by
  intro d
  induction d with
  | zero =>
    intro j ns hd hj hns
    obtain rfl : j = xs.length := by omega
    rw [List.drop_eq_nil_of_le (Nat.le_refl _)]
    refine Ev.step (f := fun _ => some (mk (ns.map UInt8.ofNat), true)) (fun k => ?_) ?_
    · simp only [addr_groups.l0]
      rw [if_neg (by omega), strOfNums_nat]
    · simp only [grps, Option.map_some, List.append_nil, outV]
      exact Ev.now _
  | succ d ih =>
    intro j ns hd hj hns
    have hlt : j < xs.length := by omega
    have hxl := hx (xs[j]'hlt) (List.getElem_mem _)
    rw [List.drop_eq_getElem_cons hlt]
    have hrd := rd_mk xs j hlt
    have hr : (xs.drop (j + 1) = []) ↔ j + 1 = xs.length := by
      rw [List.drop_eq_nil_iff]
      omega
    generalize xs[j]'hlt = x at *
    have hlast : wrap64 ((((xs.map mk).length : Nat) : Int) - 1) = ((xs.length - 1 : Nat) : Int) := by rw [List.length_map]; exact wrap_pred _ (by omega) (by omega)
    have key : ∀ flag : Bool, (flag = true ↔ (last = true ∧ xs.drop (j + 1) = [] ∧ 46 ∈ x)) → Ev (fun k => addr_groups.j1 k last (xs.map mk) (ns.map fun n : Nat => (n : Int)) (mk x) (xs.map mk) (xs.length : Int) (j : Int) flag) (outV ((grps last (x :: xs.drop (j + 1))).map (ns ++ ·))) := by
      intro flag hf
      have hpv : pieceV last x (xs.drop (j + 1)) = if flag = true then fourV x else groupV x := by
        unfold pieceV
        by_cases h : flag = true
        · rw [if_pos h, if_pos (hf.1 h)]
        · rw [if_neg h, if_neg (fun hh => h (hf.2 hh))]
      refine piece_ev last xs hl x hxl j hlt ns hns flag _ (fun ms hms h4 => ?_) (fun hms => ?_)
      · have hi := ih (j + 1) (ns ++ ms) (by omega) (by omega) (by rw [List.length_append]; omega)
        have e : grps last (x :: xs.drop (j + 1)) = (grps last (xs.drop (j + 1))).map (ms ++ ·) := by
          show (match pieceV last x (xs.drop (j + 1)) with | some ns => (grps last (xs.drop (j + 1))).map (ns ++ ·) | none => none) = _
          rw [hpv, hms]
        have e2 : ((ns ++ ·) ∘ (ms ++ ·)) = ((ns ++ ms) ++ · : List Nat → List Nat) := by funext l; simp
        rw [e, Option.map_map, e2]
        exact hi
      · have e : grps last (x :: xs.drop (j + 1)) = none := by
          show (match pieceV last x (xs.drop (j + 1)) with | some ns => (grps last (xs.drop (j + 1))).map (ns ++ ·) | none => none) = _
          rw [hpv, hms]
        rw [e]
        rfl
    cases last with
    | false =>
      refine Ev.step (fun k => ?_) (key false (by simp))
      simp only [addr_groups.l0]
      rw [if_pos (by omega), if_pos (by omega), if_pos (by rw [List.length_map]; omega), if_neg (by simp), hrd]
    | true =>
      by_cases hend : j + 1 = xs.length
      · refine Ev.step (fun k => ?_) (key (decide (46 ∈ x)) (by rw [decide_eq_true_eq]; exact ⟨fun h => ⟨rfl, hr.2 hend, h⟩, fun h => h.2.2⟩))
        simp only [addr_groups.l0]
        rw [if_pos (by omega), if_pos (by omega), if_pos (by rw [List.length_map]; omega), if_pos trivial, hlast, if_pos (by omega), hrd, Contains_f x 46 (by omega), Option.bind_some]
      · refine Ev.step (fun k => ?_) (key false (by simp [hr, hend]))
        simp only [addr_groups.l0]
        rw [if_pos (by omega), if_pos (by omega), if_pos (by rw [List.length_map]; omega), if_pos trivial, hlast, if_neg (by omega), hrd]

theorem addr_groups_ev (last : Bool) (s : ByteArray) (hs : s.size < 1000000) : Ev (fun k => addr_groups.f k s last) (outV (groupsV last (L s))) := by
  have hsz := L_size s
  have hl := spl_len 58 (L s)
  unfold groupsV
  by_cases h0 : L s = []
  · rw [if_pos h0]
    refine Ev.congr (f := fun _ => some (mk [], true)) (fun k => ?_) (Ev.now _)
    unfold addr_groups.f
    rw [if_pos (by rw [toList_L]; exact h0)]
    rfl
  · rw [if_neg h0]
    have := groups_loop_ev last (spl 58 (L s)) (fun x hx => by have := piece_len 58 _ x hx; omega) (by omega) (spl 58 (L s)).length 0 [] (by omega) (by omega) (by simp)
    rw [List.drop_zero] at this
    have e : ([] ++ · : List Nat → List Nat) = id := by funext l; rfl
    rw [e, Option.map_id] at this
    refine Ev.congr (fun k => ?_) this
    unfold addr_groups.f
    rw [if_neg (by rw [toList_L]; exact h0), Split_f s 58 (by omega), Option.bind_some, List.length_map]
    rfl
end Go.Proofs.YtkhkemagkcjdoaaDoor.Pure
