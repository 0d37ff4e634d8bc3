/- What the program reads as an address. Conditions: the bounds named in each theorem. -/
import Derived.Test.YtkhkemagkcjdoaaDoorPureAddr3
import Derived.Lib.ParseIntBCases
import Derived.Lib.IndexAny
namespace Go.Proofs.YtkhkemagkcjdoaaDoor.Pure
open Go.RowKit Go.Proofs.YtkhkemagkcjdoaaDoorW.PrintWords Go.Proofs.YtkhkemagkcjdoaaDoor.Gv Go.Proofs.YtkhkemagkcjdoaaDoor.XAD

/-! ### pieces, as in the texts of names -/
theorem piece_len (c : UInt8) : ∀ (l p : List UInt8), p ∈ spl c l → p.length ≤ l.length := by
  intro l
  induction l with
  | nil => intro p h; simp [spl] at h; subst h; exact Nat.le_refl _
  | cons x r ih =>
    intro p h
    unfold spl at h
    split at h
    · rcases List.mem_cons.1 h with h | h
      · subst h; simp
      · have := ih p h; simp; omega
    · split at h
      · simp at h; subst h; simp
      · rename_i q qs e
        rcases List.mem_cons.1 h with h | h
        · subst h
          have := ih q (by rw [e]; exact List.mem_cons_self)
          simp; omega
        · have := ih p (by rw [e]; exact List.mem_cons_of_mem _ h)
          simp; omega
theorem spl_len (c : UInt8) : ∀ l : List UInt8, (spl c l).length ≤ l.length + 1 := by
  intro l
  induction l with
  | nil => simp [spl]
  | cons x r ih =>
    unfold spl
    split
    · simp; exact ih
    · split
      · simp
      · rename_i e
        rw [e] at ih
        simp at ih ⊢
        omega
theorem Split_f (s : ByteArray) (c : UInt8) (hs : s.size < 4294967281) : strings_Split.f s (⟨#[c]⟩ : ByteArray) = some ((spl c (L s)).map mk) := by
  unfold strings_Split.f
  rw [if_pos ⟨hs, by show 1 ≤ 1; omega⟩, splitB_spl]
theorem rd_mk (xs : List (List UInt8)) (j : Nat) (h : j < xs.length) : rdOf ByteArray.empty (xs.map mk) (j : Int) = mk (xs[j]'h) := by
  unfold rdOf
  rw [Int.toNat_natCast, List.getD_eq_getElem?_getD, List.getElem?_map, List.getElem?_eq_getElem h]
  rfl

/-! ### the first kind -/
/-- A part of an address of the first kind. -/
def octV (x : List UInt8) : Option Nat := match puEnd8 x with
  | .ok n => if Lib.decDigits n = x then some n else none
  | .error _ => none
theorem puEnd8_lt {x : List UInt8} {n : Nat} (h : puEnd8 x = .ok n) : n < 256 := by
  unfold puEnd8 at h
  cases hp : Lib.parseUintB 8 x with
  | ok u =>
    rw [hp] at h
    injection h with h
    subst h
    have := Lib.parseUintB_le hp
    omega
  | range => rw [hp] at h; cases h
  | _ => rw [hp] at h; cases h
/-- The bytes of the parts; none, where one is not. -/
def octs : List (List UInt8) → Option (List Nat)
  | [] => some []
  | x :: r => match octV x with
    | some n => (octs r).map (n :: ·)
    | none => none
def fourV (l : List UInt8) : Option (List Nat) := if (spl 46 l).length = 4 then octs (spl 46 l) else none
/-- A text that is read, with its flag. -/
def outV : Option (List Nat) → ByteArray × Bool
  | some ns => (mk (ns.map UInt8.ofNat), true)
  | none => (⟨#[]⟩, false)
theorem strOfNums_nat (ns : List Nat) : strOfNums (ns.map fun n : Nat => (n : Int)) = mk (ns.map UInt8.ofNat) := by
  unfold strOfNums mk
  congr 2
  rw [List.map_map]
  apply List.map_congr_left
  intro n _
  simp

theorem pu8_f (x : List UInt8) (h : x.length ≤ 281474976710656) : strconv_ParseUint.f (mk x) 10 8 = some (puR 255 (puEnd8 x)) := by
  unfold strconv_ParseUint.f
  rw [if_pos (by rw [size_mk]; exact h), if_pos ⟨rfl, rfl⟩]
  have : (mk x).data.toList = x := L_mk x
  rw [this]
theorem fmt10_f (n : Nat) (h : n < 1000) : strconv_FormatUint.f (n : Int) 10 = some (mk (Lib.decDigits n)) := by
  unfold strconv_FormatUint.f
  rw [if_pos (by omega), Int.toNat_natCast]
  rfl
theorem mk_inj {a b : List UInt8} (h : mk a = mk b) : a = b := by rw [← L_mk a, h, L_mk]

theorem byte_mod (n : Nat) (h : n < 256) : ((n : Nat) : Int) % 256 = (n : Int) := by omega
theorem puR_ok (m : Int) (n : Nat) : puR m (.ok n) = ((n : Int), none) := rfl
theorem puR_error (m : Int) (b : Bool) : puR m (.error b) = ((if b = true then m else 0), some 0) := by cases b <;> rfl

theorem four_loop_ev (xs : List (List UInt8)) (hx : ∀ x ∈ xs, x.length ≤ 281474976710656) (hl : xs.length < 100000000) : ∀ (d j : Nat) (ns : List Nat), xs.length - j = d → j ≤ xs.length → ns.length ≤ j →
    Ev (fun k => addr_four.l0 k (ns.map fun n : Nat => (n : Int)) (xs.map mk) (xs.length : Int) (j : Int)) (outV ((octs (xs.drop j)).map (ns ++ ·))) := by
  intro d
  induction d with
  | zero =>
    intro j ns hd hj hns
    obtain rfl : j = xs.length := by omega
    rw [List.drop_eq_nil_of_le (Nat.le_refl _)]
    refine Ev.step (f := fun _ => some (mk (ns.map UInt8.ofNat), true)) (fun k => ?_) ?_
    · simp only [addr_four.l0]
      rw [if_neg (by omega), strOfNums_nat]
    · simp only [octs, Option.map_some, List.append_nil, outV]
      exact Ev.now _
  | succ d ih =>
    intro j ns hd hj hns
    have hlt : j < xs.length := by omega
    have hp := pu8_f (xs[j]'hlt) (hx _ (List.getElem_mem _))
    rw [List.drop_eq_getElem_cons hlt]
    have hrd := rd_mk xs j hlt
    generalize xs[j]'hlt = x at *
    have step : ∀ k, addr_four.l0 (k + 1) (ns.map fun n : Nat => (n : Int)) (xs.map mk) (xs.length : Int) (j : Int) =
        (some (puR 255 (puEnd8 x))).bind fun bt105 => (if bt105.2.isNone = true then ((strconv_FormatUint.f bt105.1 10).bind fun t108 => (if t108.toList = (mk x).toList then (if (ns.map fun n : Nat => (n : Int)).length < 140737488355328 then (addr_four.l0 k ((ns.map fun n : Nat => (n : Int)) ++ [(bt105.1) % 256]) (xs.map mk) (xs.length : Int) ((j + 1 : Nat) : Int)) else (none)) else (some ((⟨#[]⟩ : ByteArray), false)))) else (some ((⟨#[]⟩ : ByteArray), false))) := fun k => by
      simp only [addr_four.l0]
      rw [if_pos (by omega), if_pos (by omega), if_pos (by rw [List.length_map]; omega), hrd, hp, wrap_nat j (by omega)]
    have hF : ∀ n : Nat, n < 1000 → strconv_FormatUint.f (n : Int) 10 = some (mk (Lib.decDigits n)) := fmt10_f
    generalize strconv_FormatUint.f = F at step hF
    cases he : puEnd8 x with
    | error b =>
      have ho : octs (x :: xs.drop (j + 1)) = none := by simp only [octs, octV, he]
      rw [ho]
      refine Ev.step (f := fun _ => some ((⟨#[]⟩ : ByteArray), false)) (fun k => ?_) (Ev.now _)
      rw [step k, he, puR_error]
      simp only [Option.bind_some, Option.isNone_some, Bool.false_eq_true, if_false]
    | ok n =>
      have hn := puEnd8_lt he
      have e1 : ((n : Int), (none : Option Int)).2.isNone = true := rfl
      have e2 : ((n : Int), (none : Option Int)).1 = (n : Int) := rfl
      by_cases hd10 : Lib.decDigits n = x
      · have ho : octs (x :: xs.drop (j + 1)) = (octs (xs.drop (j + 1))).map (n :: ·) := by simp only [octs, octV, he, if_pos hd10]
        rw [ho, Option.map_map]
        have hi := ih (j + 1) (ns ++ [n]) (by omega) (by omega) (by rw [List.length_append, List.length_singleton]; omega)
        have e : ((ns ++ ·) ∘ (n :: ·)) = ((ns ++ [n]) ++ · : List Nat → List Nat) := by funext l; simp
        rw [e]
        refine Ev.step (fun k => ?_) hi
        rw [step k, he, puR_ok, Option.bind_some, if_pos e1, e2, hF n (by omega), Option.bind_some, if_pos (by rw [hd10]), if_pos (by rw [List.length_map]; omega), byte_mod n hn, List.map_append, List.map_cons, List.map_nil]
      · have ho : octs (x :: xs.drop (j + 1)) = none := by simp only [octs, octV, he, if_neg hd10]
        rw [ho]
        refine Ev.step (f := fun _ => some ((⟨#[]⟩ : ByteArray), false)) (fun k => ?_) (Ev.now _)
        rw [step k, he, puR_ok, Option.bind_some, if_pos e1, e2, hF n (by omega), Option.bind_some, if_neg (by rw [toList_L, toList_L, L_mk, L_mk]; exact hd10)]

theorem addr_four_ev (s : ByteArray) (hs : s.size < 1000000) : Ev (fun k => addr_four.f k s) (outV (fourV (L s))) := by
  have hsz := L_size s
  have hl := spl_len 46 (L s)
  have hs1 : ∀ k, addr_four.f k s = if ((spl 46 (L s)).length : Int) = 4 then addr_four.l0 k [] ((spl 46 (L s)).map mk) ((spl 46 (L s)).length : Int) 0 else some (⟨#[]⟩, false) := fun k => by
    unfold addr_four.f
    rw [Split_f s 46 (by omega)]
    simp only [Option.bind_some, List.length_map]
  refine Ev.congr hs1 ?_
  unfold fourV
  by_cases h4 : (spl 46 (L s)).length = 4
  · rw [if_pos h4]
    refine Ev.congr (fun k => if_pos (by omega)) ?_
    have := four_loop_ev (spl 46 (L s)) (fun x hx => by have := piece_len 46 _ x hx; omega) (by omega) (spl 46 (L s)).length 0 [] (by omega) (by omega) (by simp)
    rw [List.drop_zero] at this
    have e : ([] ++ · : List Nat → List Nat) = id := by funext l; rfl
    rw [e, Option.map_id] at this
    exact this
  · rw [if_neg h4]
    exact Ev.congr (fun k => if_neg (by omega)) (Ev.now _)
end Go.Proofs.YtkhkemagkcjdoaaDoor.Pure
