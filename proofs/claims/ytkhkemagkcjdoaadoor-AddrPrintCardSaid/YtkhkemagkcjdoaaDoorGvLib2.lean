/- More functions of Go's library in the printed form (joins, repeats, tests, ParseUint). Conditions: the premises of each theorem; 'none' where a bound is passed. -/
import Derived.Test.YtkhkemagkcjdoaaDoorGvLib
import Derived.Test.YtkhkemagkcjdoaaDoorGvUint
import Derived.Test.YtkhkemagkcjdoaaDoorGvFmt16
import Derived.Test.YtkhkemagkcjdoaaDoorGvFold
namespace Go.Proofs.YtkhkemagkcjdoaaDoor.Gv
open Go.RowKit Go.Proofs.YtkhkemagkcjdoaaDoorW.PrintWords Go.Sort
set_option linter.unusedVariables false
set_option linter.unusedSimpArgs false

def joinL (l : List ByteArray) (s : ByteArray) : List UInt8 := Lib.join (l.map (·.data.toList)) s.data.toList
def strings_Join.f (l0 : List ByteArray) (a1 : ByteArray) : Option ByteArray := if l0.length ≤ 140737488355328 ∧ (joinL l0 a1).length ≤ 140737488355328 then some ⟨(joinL l0 a1).toArray⟩ else none
theorem strings_Join.calls (A0 : Option Addr) (c0 : Nat) (l0 : List ByteArray) (a1 : ByteArray) (r : ByteArray) (w : World) (hr0 : Kd.C Kd.string w A0 l0.length l0) (hc0 : l0.length ≤ c0) (h : strings_Join.f l0 a1 = some r) :
    Calls Tryd.prog 85 #[.slice A0 l0.length c0, .string a1] w fun e w' => e = .returned (.string r) ∧ Below w.heap.size w w' := by
  unfold strings_Join.f at h
  split at h
  · rename_i hc
    obtain rfl := Option.some.inj h
    cases l0 with
    | nil =>
      refine (Tryd.strings_Join_none A0 c0 a1 w).mono ?_
      rintro e w' ⟨rfl, rfl⟩
      exact ⟨rfl, Below.refl _ _⟩
    | cons x xs =>
      have hat := fun (j : Nat) (hj : j < (x :: xs).length) => Kd.at_string hr0 (j : Int) (by omega) (by omega)
      obtain ⟨ad, rfl, h0⟩ := hat 0 (by simp)
      obtain ⟨bk, o, rfl⟩ : ∃ bk o, ad = ⟨bk, o, none⟩ := by
        obtain ⟨bk, o, sp⟩ := ad
        cases sp with
        | none => exact ⟨bk, o, rfl⟩
        | some z =>
          exfalso
          have e : (⟨bk, o, some z⟩ : Addr).add (((0 : Nat) : Int).toNat) = ⟨bk, o, some z⟩ := rfl
          rw [e] at h0
          unfold World.cell? at h0
          split at h0 <;> simp at h0
      have hcells : ∀ (j : Nat) y, (x :: xs)[j]? = some y → w.cell? ⟨bk, o + j, none⟩ = some (.string y) := by
        intro j y hy
        obtain ⟨hj, rfl⟩ := List.getElem?_eq_some_iff.1 hy
        obtain ⟨ad2, e2, h2⟩ := hat j hj
        obtain rfl := Option.some.inj e2
        rw [Int.toNat_natCast, Lib.add_plain] at h2
        rw [h2]
        congr 2
        unfold rdOf
        rw [Int.toNat_natCast, List.getD_eq_getElem?_getD, List.getElem?_eq_getElem hj]
        rfl
      have hbk : bk < w.heap.size := Lib.lt_of_cell (hcells 0 x rfl)
      exact Tryd.strings_Join bk o c0 (x :: xs) a1 w hcells hbk hc.1 hc0 hc.2
  · cases h

def strings_Repeat.f (a0 : ByteArray) (a1 : Int) : Option ByteArray := if 0 ≤ a1 ∧ a1 ≤ 9223372036854775807 ∧ a0.size * a1.toNat ≤ 140737488355328 then some ⟨(Lib.repeatL a0.data.toList a1.toNat).toArray⟩ else none
theorem strings_Repeat.calls (a0 : ByteArray) (a1 : Int) (r : ByteArray) (w : World) (h : strings_Repeat.f a0 a1 = some r) :
    Calls Tryd.prog 82 #[.string a0, .int .i64 a1] w fun e w' => e = .returned (.string r) ∧ Below w.heap.size w w' := by
  unfold strings_Repeat.f at h
  split at h
  · rename_i hc
    obtain rfl := Option.some.inj h
    obtain ⟨n, rfl⟩ : ∃ n : Nat, a1 = n := ⟨a1.toNat, by omega⟩
    rw [Int.toNat_natCast] at *
    exact Tryd.strings_Repeat a0 n w (by omega) hc.2.2
  · cases h

def strings_Contains.f (a0 a1 : ByteArray) : Option Bool := if a0.size < 4294967281 then some (Lib.contains a0.data.toList a1.data.toList) else none
theorem strings_Contains.calls (a0 a1 : ByteArray) (r : Bool) (w : World) (h : strings_Contains.f a0 a1 = some r) (hG : Gl w) :
    Calls Tryd.prog 81 #[.string a0, .string a1] w fun e w' => e = .returned (.bool r) ∧ Drawn0 w w' := by
  unfold strings_Contains.f at h
  split at h
  · rename_i hc
    obtain rfl := Option.some.inj h
    obtain ⟨m, hm⟩ := hG.maxLen
    refine (Tryd.strings_Contains a0 a1 m w hc hm).mono ?_
    rintro e w' ⟨rfl, rfl⟩
    exact ⟨rfl, Drawn0.refl _⟩
  · cases h

def ascii (l : List UInt8) : Bool := l.all fun c => decide (c.toNat < 128)
theorem ascii_at {l : List UInt8} (h : ascii l = true) (j : Nat) (b : UInt8) (hb : l[j]? = some b) : b.toNat < 128 := by
  obtain ⟨hj, rfl⟩ := List.getElem?_eq_some_iff.1 hb
  simpa using List.all_eq_true.1 h _ (List.getElem_mem hj)
def strings_ContainsAny.f (a0 a1 : ByteArray) : Option Bool := if a0.size < 4294967281 ∧ a1.size < 4294967281 ∧ ascii a0.data.toList = true ∧ ascii a1.data.toList = true then some (Lib.containsAny a0.data.toList a1.data.toList) else none
theorem strings_ContainsAny.calls (a0 a1 : ByteArray) (r : Bool) (w : World) (h : strings_ContainsAny.f a0 a1 = some r) :
    Calls Tryd.prog 113 #[.string a0, .string a1] w fun e w' => e = .returned (.bool r) ∧ Below w.heap.size w w' := by
  unfold strings_ContainsAny.f at h
  split at h
  · rename_i hc
    obtain rfl := Option.some.inj h
    exact Tryd.strings_ContainsAny_laid a0 a1 w hc.1 hc.2.1 (ascii_at hc.2.2.1) (ascii_at hc.2.2.2)
  · cases h

def bits_LeadingZeros8.f (a0 : Int) : Option Int := if 0 ≤ a0 ∧ a0 ≤ 255 then some (8 - (Lib.bitLen a0.toNat : Int)) else none
theorem bits_LeadingZeros8.calls (a0 : Int) (r : Int) (w : World) (h : bits_LeadingZeros8.f a0 = some r) :
    Calls Tryd.prog 89 #[.int .u8 a0] w fun e w' => e = .returned (.int .i64 r) ∧ Drawn0 w w' := by
  unfold bits_LeadingZeros8.f at h
  split at h
  · rename_i hc
    obtain rfl := Option.some.inj h
    refine (Tryd.bits_LeadingZeros8 a0 w hc.1 hc.2).mono ?_
    rintro e w' ⟨rfl, rfl⟩
    exact ⟨rfl, Drawn0.refl _⟩
  · cases h

/-! ### ParseUint -/
set_option maxHeartbeats 6400000 in
set_option maxRecDepth 100000 in
theorem inner_hex_any (t : ByteArray) (hmax : t.size ≤ 9223372036854775806) (w : World) :
    Calls Tryd.prog 138 #[.string t, .int .i64 16, .int .i64 16] w fun e w' => e = .returned (uintT 65535 (hexEnd t.data.toList)) ∧ Below w.heap.size w w' := by
  by_cases h0 : t.size = 0
  · have ht : t = ⟨#[]⟩ := ByteArray.ext (Array.eq_empty_of_size_eq_zero h0)
    subst ht
    go_enter Tryd.func138, Tryd.ntmps138
    go_wp2
    go_ret2
    exact ⟨rfl, Below.refl _ _⟩
  · refine (inner_hex t h0 hmax w).mono ?_
    rintro e w' ⟨rfl, rfl⟩
    refine ⟨?_, below_bytes w _ t⟩
    have hne : t.data.toList ≠ [] := fun h => h0 (by rw [Lib.size_eq, h]; rfl)
    unfold hexEnd
    rw [if_neg hne]

def puEnd8 (l : List UInt8) : Except Bool Nat := match Lib.parseUintB 8 l with
  | .ok u => .ok u
  | .range => .error true
  | _ => .error false
def puR (m : Int) : Except Bool Nat → Int × Option Int
  | .ok u => ((u : Int), none)
  | .error false => (0, some 0)
  | .error true => (m, some 0)
def strconv_ParseUint.f (a0 : ByteArray) (a1 a2 : Int) : Option (Int × Option Int) :=
  if a0.size ≤ 281474976710656 then (if a1 = 10 ∧ a2 = 8 then some (puR 255 (puEnd8 a0.data.toList)) else if a1 = 16 ∧ a2 = 16 then some (puR 65535 (hexEnd a0.data.toList)) else none) else none

theorem ne_numErr (v : Value) (W : World) : (binOp .neq 39 (.iface 199 v) .nilIface).run Tryd.prog W = .ok (.bool true) W := by kernel_rfl

set_option maxHeartbeats 6400000 in
set_option maxRecDepth 100000 in
theorem pu16_ok (s : ByteArray) (u : Nat) (w : World) (hs : s.size ≤ 281474976710656) (h : hexEnd s.data.toList = .ok u) :
    Calls Tryd.prog 112 #[.string s, .int .i64 16, .int .i64 16] w fun e w' => e = .returned (.tuple #[.int .u64 u, .nilIface]) ∧ Below w.heap.size w w' := by
  have hI := inner_hex_any s (by omega) w
  rw [h] at hI
  have hI2 : Calls Tryd.prog 138 #[.string s, .int .i64 16, .int .i64 16] w fun e w' => e = .returned (.tuple #[.int .u64 u, .nilIface]) ∧ Below w.heap.size w w' := hI
  clear h hI
  go_enter Tryd.func112, Tryd.ntmps112
  go_wp2_with (go_at_call 138; refine hI2.mono ?_; rintro e W1 ⟨rfl, hW⟩)
  go_ret2
  exact ⟨rfl, hW⟩

set_option maxHeartbeats 6400000 in
set_option maxRecDepth 100000 in
theorem pu16_bad (s : ByteArray) (b : Bool) (w : World) (hs : s.size ≤ 281474976710656) (h : hexEnd s.data.toList = .error b) (hG : Gl w) :
    Calls Tryd.prog 112 #[.string s, .int .i64 16, .int .i64 16] w fun e w' => ∃ ep, e = .returned (.tuple #[.int .u64 (puR 65535 (.error b)).1, .iface 199 ep]) ∧ Below w.heap.size w w' := by
  have hI := inner_hex_any s (by omega) w
  rw [h] at hI
  clear h
  cases b with
  | false =>
    have hI2 : Calls Tryd.prog 138 #[.string s, .int .i64 16, .int .i64 16] w fun e w' => e = .returned (.tuple #[.int .u64 0, .iface 196 (.int .i64 2)]) ∧ Below w.heap.size w w' := hI
    clear hI
    go_enter Tryd.func112, Tryd.ntmps112
    go_wp2_with (go_at_call 138; refine hI2.mono ?_)
    rintro e W1 ⟨rfl, hb1⟩
    obtain ⟨te, pe, hv1⟩ := (hG.below hb1).synt
    go_wp2_with (go_at_call 101; refine (Tryd.strconv_toError_syntax ⟨#[80, 97, 114, 115, 101, 85, 105, 110, 116]⟩ s 16 16 _ _ hs hv1 (.inr ⟨te, pe, rfl⟩)).mono ?_)
    rintro e W2 ⟨N, rfl, h1, h2, h3⟩
    go_wp2
    go_ret2
    exact ⟨_, rfl, hb1.trans (h3.mono hb1.size)⟩
  | true =>
    have hI2 : Calls Tryd.prog 138 #[.string s, .int .i64 16, .int .i64 16] w fun e w' => e = .returned (.tuple #[.int .u64 65535, .iface 196 (.int .i64 1)]) ∧ Below w.heap.size w w' := hI
    clear hI
    go_enter Tryd.func112, Tryd.ntmps112
    go_wp2_with (go_at_call 138; refine hI2.mono ?_)
    rintro e W1 ⟨rfl, hb1⟩
    obtain ⟨te, pe, hv1⟩ := (hG.below hb1).rang
    go_wp2_with (go_at_call 101; refine (Tryd.strconv_toError_range ⟨#[80, 97, 114, 115, 101, 85, 105, 110, 116]⟩ s 16 16 _ _ hs hv1 (.inr ⟨te, pe, rfl⟩)).mono ?_)
    rintro e W2 ⟨N, rfl, h1, h2, h3⟩
    go_wp2
    go_ret2
    exact ⟨_, rfl, hb1.trans (h3.mono hb1.size)⟩

theorem strconv_ParseUint.calls (a0 : ByteArray) (a1 a2 : Int) (r1 : Int) (r2 : Option Int) (w : World) (h : strconv_ParseUint.f a0 a1 a2 = some (r1, r2)) (hG : Gl w) :
    Calls Tryd.prog 112 #[.string a0, .int .i64 a1, .int .i64 a2] w fun e w' => ∃ ep, e = .returned (.tuple #[.int .u64 r1, match r2 with | none => .nilIface | some _ => .iface 199 ep]) ∧ Below w.heap.size w w' := by
  unfold strconv_ParseUint.f at h
  split at h
  · rename_i hs
    split at h
    · rename_i hc
      obtain ⟨rfl, rfl⟩ := hc
      have h := Option.some.inj h
      unfold puEnd8 at h
      cases hp : Lib.parseUintB 8 a0.data.toList with
      | ok u =>
        rw [hp] at h
        injection h with h1 h2
        subst h1 h2
        refine (Tryd.strconv_ParseUint_10_at8_ok a0 (by omega) u hp w).mono ?_
        rintro e w' ⟨rfl, hw⟩
        refine ⟨.nilIface, rfl, ?_⟩
        rcases hw with rfl | rfl
        · exact Below.refl _ _
        · exact below_bytes w _ a0
      | range =>
        rw [hp] at h
        injection h with h1 h2
        subst h1 h2
        obtain ⟨te, pe, hc⟩ := hG.rang
        refine (Tryd.strconv_ParseUint_10_at8_range a0 hs hp _ w hc (.inr ⟨te, pe, rfl⟩)).mono ?_
        rintro e w' ⟨N, rfl, _, _, hb⟩
        exact ⟨_, rfl, hb⟩
      | _ =>
        rw [hp] at h
        injection h with h1 h2
        subst h1 h2
        obtain ⟨te, pe, hc⟩ := hG.synt
        refine (Tryd.strconv_ParseUint_10_at8_syntax a0 hs hp _ w hc (.inr ⟨te, pe, rfl⟩)).mono ?_
        rintro e w' ⟨N, rfl, _, _, hb⟩
        exact ⟨_, rfl, hb⟩
    · split at h
      · rename_i hc
        obtain ⟨rfl, rfl⟩ := hc
        have h := Option.some.inj h
        cases hp : hexEnd a0.data.toList with
        | ok u =>
          rw [hp] at h
          injection h with h1 h2
          subst h1 h2
          refine (pu16_ok a0 u w hs hp).mono ?_
          rintro e w' ⟨rfl, hb⟩
          exact ⟨.nilIface, rfl, hb⟩
        | error b =>
          rw [hp] at h
          refine (pu16_bad a0 b w hs hp hG).mono ?_
          rintro e w' ⟨ep, rfl, hb⟩
          refine ⟨ep, ?_, hb⟩
          cases b <;> (injection h with h1 h2; subst h1 h2; rfl)
      · cases h
  · cases h
end Go.Proofs.YtkhkemagkcjdoaaDoor.Gv
