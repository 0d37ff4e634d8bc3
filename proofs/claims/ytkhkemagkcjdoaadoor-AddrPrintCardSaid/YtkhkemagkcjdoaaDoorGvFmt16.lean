/- Go's strconv.FormatUint at base 16, below 65,536. Conditions: what the library's table of trailing zeros holds. -/
import Derived.Test.YtkhkemagkcjdoaaDoorGvFmt10
namespace Go.Proofs.YtkhkemagkcjdoaaDoor.Gv
open Go.RowKit Go.Proofs.YtkhkemagkcjdoaaDoorW.PrintWords Go.Sort
set_option linter.unusedVariables false
set_option linter.unusedSimpArgs false

set_option maxHeartbeats 6400000 in
set_option maxRecDepth 100000 in
theorem pow2_16 (w : World) : Calls Tryd.prog 171 #[.int .i64 16] w fun e w' => e = .returned (.bool true) ∧ w' = w := by
  go_enter Tryd.func171, Tryd.ntmps171
  go_wp2
  go_ret
  exact ⟨rfl, rfl⟩

set_option maxHeartbeats 6400000 in
set_option maxRecDepth 100000 in
theorem trail64_16 (w : World) (h : w.cell? ⟨5, 15, none⟩ = some (.int .u8 4)) : Calls Tryd.prog 181 #[.int .u64 16] w fun e w' => e = .returned (.int .i64 4) ∧ w' = w := by
  have hb : bits BinOp.and IntKind.u64 16 (IntKind.u64.wrap (-16)) = 16 := by decide +kernel
  have hm : IntKind.u64.wrap (16 * 285870213051353865) = 4573923408821661840 := by decide +kernel
  go_enter Tryd.func181, Tryd.ntmps181
  go_wp2
  go_ret
  exact ⟨rfl, rfl⟩

set_option maxHeartbeats 6400000 in
set_option maxRecDepth 100000 in
theorem trail_16 (w : World) (h : w.cell? ⟨5, 15, none⟩ = some (.int .u8 4)) : Calls Tryd.prog 172 #[.int .u64 16] w fun e w' => e = .returned (.int .i64 4) ∧ w' = w := by
  go_enter Tryd.func172, Tryd.ntmps172
  go_wp2_with (go_at_call 181; refine (trail64_16 _ h).mono ?_; rintro e w' ⟨rfl, rfl⟩)
  go_ret
  exact ⟨rfl, rfl⟩

/-- A hex digit's byte. -/
def hexC (d : Nat) : UInt8 := if d < 10 then UInt8.ofNat (48 + d) else UInt8.ofNat (87 + d)
/-- The hex numeral. -/
def hexL (u : Nat) : List UInt8 := if h : u < 16 then [hexC u] else hexL (u / 16) ++ [hexC (u % 16)]
termination_by u
decreasing_by omega
def digs36 : ByteArray := ⟨#[48, 49, 50, 51, 52, 53, 54, 55, 56, 57, 97, 98, 99, 100, 101, 102, 103, 104, 105, 106, 107, 108, 109, 110, 111, 112, 113, 114, 115, 116, 117, 118, 119, 120, 121, 122]⟩
theorem digs36_at (d : Nat) (h : d < digs36.size) (hd : d < 16) : digs36[d]'h = hexC d := by
  have : d = 0 ∨ d = 1 ∨ d = 2 ∨ d = 3 ∨ d = 4 ∨ d = 5 ∨ d = 6 ∨ d = 7 ∨ d = 8 ∨ d = 9 ∨ d = 10 ∨ d = 11 ∨ d = 12 ∨ d = 13 ∨ d = 14 ∨ d = 15 := by omega
  rcases this with rfl | rfl | rfl | rfl | rfl | rfl | rfl | rfl | rfl | rfl | rfl | rfl | rfl | rfl | rfl | rfl <;> rfl

/-- The cells of the 65: from place i on the digits t. -/
def HexAt (w0 wr : World) (b i : Nat) (t : List UInt8) : Prop :=
  Below b w0 wr ∧ t.length = 65 - i ∧ (∀ j, j < 65 → wr.cell? ⟨b, j, none⟩ = some (.int .u8 (if i ≤ j then ((t.getD (j - i) 0).toNat : Int) else 0))) ∧ ∀ j, j < 65 → wr.frozen? ⟨b, j, none⟩ = false

theorem zeros65 : Tryd.zeroCells233 = Array.replicate 65 (.int .u8 0) := by kernel_rfl

theorem HexAt.start (w : World) : HexAt w (w.alloc (.cells Tryd.zeroCells233 233)) w.heap.size 65 [] := by
  rw [zeros65]
  refine ⟨below_alloc (Below.refl _ _) _, rfl, fun j hj => ?_, fun j hj => World.frozen?_alloc_new _ _ _ _⟩
  rw [World.cell?_alloc_new, Array.getElem?_replicate, if_pos hj, if_neg (by omega)]

theorem HexAt.store {w0 wr : World} {i : Nat} {t : List UInt8} (h : HexAt w0 wr w0.heap.size i t) (hi : 1 ≤ i) (hi2 : i ≤ 65) (c : UInt8) (v : Int) (hv : v = (c.toNat : Int)) :
    HexAt w0 (wr.setCell ⟨w0.heap.size, i - 1, none⟩ (.int .u8 v)) w0.heap.size (i - 1) (c :: t) := by
  obtain ⟨h1, hl, h2, h3⟩ := h
  refine ⟨h1.setCell (Nat.le_refl _) _, by rw [List.length_cons, hl]; omega, fun j hj => ?_, fun j hj => by rw [World.frozen?_setCell]; exact h3 j hj⟩
  by_cases e : j = i - 1
  · subst e
    rw [World.cell?_setCell_same _ _ _ (h2 _ hj), hv, if_pos (Nat.le_refl _), Nat.sub_self]
    rfl
  · rw [World.cell?_setCell_other _ _ _ _ (by intro he; injection he with _ h2 _; exact e h2.symm), h2 j hj]
    by_cases hl : i ≤ j
    · rw [if_pos hl, if_pos (by omega), show j - (i - 1) = (j - i) + 1 by omega, List.getD_cons_succ]
    · rw [if_neg hl, if_neg (by omega)]

set_option maxHeartbeats 6400000 in
set_option maxRecDepth 100000 in
theorem bits16 (u : Nat) (hu : u < 65536) (w : World) (h : w.cell? ⟨5, 15, none⟩ = some (.int .u8 4)) :
    Calls Tryd.prog 148 #[.slice none 0 0, .int .u64 u, .int .i64 16, .bool false, .bool false] w fun e w' => e = .returned (.tuple #[.slice none 0 0, .string ⟨(hexL u).toArray⟩]) ∧ Below w.heap.size w w' := by
  go_enter Tryd.func148, Tryd.ntmps148
  have H0 := Lib.hid (HexAt.start w)
  have hc0 : (w.alloc (.cells Tryd.zeroCells233 233)).cell? ⟨5, 15, none⟩ = some (.int .u8 4) := pw_cell_below (below_alloc (Below.refl _ _) _) h
  obtain ⟨W0, hW0⟩ : ∃ W0, W0 = w.alloc (.cells Tryd.zeroCells233 233) := ⟨_, rfl⟩
  go_wp2_with (first | (go_at_call 171; refine (pow2_16 _).mono ?_; rintro e w' ⟨rfl, rfl⟩) | (go_at_call 172; refine (trail_16 _ hc0).mono ?_; rintro e w' ⟨rfl, rfl⟩))
  go_loopw [1, 13] (fun vu vi wr => ∃ (i n : Nat) (t : List UInt8), 62 ≤ i ∧ i ≤ 65 ∧ vu = .int .u64 n ∧ vi = .int .i64 i ∧ Hid (n < 16 ^ (i - 61)) ∧ Hid (hexL u = hexL n ++ t) ∧ Hid (HexAt w wr w.heap.size i t)) (fun vu _ _ => (intOf vu).toNat)
  case atStart => exact ⟨65, u, [], by omega, by omega, rfl, rfl, Lib.hid hu, Lib.hid (by simp), H0⟩
  case round =>
    obtain ⟨i, n, t, hi1, hi2, rfl, rfl, hn, hh, H⟩ := hrel
    clear H0 hc0 hW0
    have hnu : n < 65536 := Nat.lt_of_lt_of_le hn.out (Nat.pow_le_pow_right (n := 16) (by decide) (show i - 61 ≤ 4 by omega))
    have hcell := H.out.2.2.1 (i - 1) (by omega)
    have hfree := H.out.2.2.2 (i - 1) (by omega)
    rw [if_neg (by omega)] at hcell
    by_cases hlt : 16 ≤ n
    · have hlti : 16 ≤ (n : Int) := by omega
      have hi63 : 63 ≤ i := by
        rcases Nat.lt_or_ge i 63 with h | h
        · have h1 := hn.out
          rw [show i - 61 = 1 by omega] at h1
          omega
        · exact h
      have hidx : bits .and .u64 (n : Int) 15 = ((n % 16 : Nat) : Int) := by
        have := u64_and_nat n 15 (by omega) (by decide)
        rw [show n &&& 15 = n % 16 from Nat.and_two_pow_sub_one_eq_mod n 4] at this
        exact this
      have hd16 : n % 16 < 16 := Nat.mod_lt _ (by decide)
      have HN : Hid (n / 16 < 16 ^ (i - 1 - 61)) := Lib.hid (by
        have h1 := hn.out
        rw [show i - 61 = (i - 1 - 61) + 1 by omega, Nat.pow_succ] at h1
        exact Nat.div_lt_of_lt_mul (by rw [Nat.mul_comm]; exact h1))
      have HH : Hid (hexL u = hexL (n / 16) ++ (hexC (n % 16) :: t)) := Lib.hid (by
        rw [hh.out, hexL, dif_neg (by omega), List.append_assoc, List.singleton_append])
      have HS := fun v hv => Lib.hid (HexAt.store H.out (by omega) hi2 (hexC (n % 16)) v hv)
      clear hh hn
      generalize hd : n % 16 = d at hidx hd16 HH HS
      go_wp2
      refine ⟨⟨i - 1, n / 16, _, by omega, by omega, by go_num, by go_num, HN, HH, HS _ ?_⟩, ?_⟩
      · exact congrArg (fun c : UInt8 => (c.toNat : Int)) (digs36_at d _ hd16)
      · simp [intOf]; omega
    · have hlti : ¬ 16 ≤ (n : Int) := by omega
      have hi0 : 0 ≤ (i : Int) - 1 := by omega
      have HS := HexAt.store H.out (by omega) hi2 (hexC n) ((hexC n).toNat : Int) rfl
      have HH : hexL u = hexC n :: t := by rw [hh.out, hexL, dif_pos (by omega)]; rfl
      have hn36 : (n : Int) < 36 := by omega
      have hdg : ∀ h : n < ByteArray.size ⟨#[48, 49, 50, 51, 52, 53, 54, 55, 56, 57, 97, 98, 99, 100, 101, 102, 103, 104, 105, 106, 107, 108, 109, 110, 111, 112, 113, 114, 115, 116, 117, 118, 119, 120, 121, 122]⟩, (⟨#[48, 49, 50, 51, 52, 53, 54, 55, 56, 57, 97, 98, 99, 100, 101, 102, 103, 104, 105, 106, 107, 108, 109, 110, 111, 112, 113, 114, 115, 116, 117, 118, 119, 120, 121, 122]⟩ : ByteArray)[n]'h = hexC n := fun h => digs36_at n h (by omega)
      clear hh hn
      have HH2 := Lib.hid HH
      clear HH
      have hal : Tryd.prog.arrayLen 233 = 65 := by kernel_rfl
      have hsl : ∀ W, (Instr.sliceAt 233 (.pointer (some ⟨w.heap.size, 0, none⟩)) (some (.int .i64 ((i : Int) - 1))) none none).run Tryd.prog W = .ok (.slice (some ⟨w.heap.size, i - 1, none⟩) (65 - (i - 1)) (65 - (i - 1))) W := fun W => by
        rw [run_sliceAt_array_l W 233 ⟨w.heap.size, 0, none⟩ (by kernel_rfl) .i64 ((i : Int) - 1) (by omega) (by rw [hal]; omega)]
        rw [hal, show ((i : Int) - 1).toNat = i - 1 by omega]
        go_simp
        omega
      have hcv := run_convert_bytes_back (P := Tryd.prog) (wr.setCell ⟨w.heap.size, i - 1, none⟩ (.int .u8 ((hexC n).toNat : Int))) 37 9 5 ⟨w.heap.size, i - 1, none⟩ (65 - (i - 1)) (hexC n :: t) Tryd.underlying37 Tryd.underlying5 Tryd.underlying9 (fun j hj => by
        have hl := HS.2.1
        rw [hl] at hj
        rw [Lib.add_plain, HS.2.2.1 (i - 1 + j) (by omega), if_pos (by omega), Nat.add_sub_cancel_left, List.getD_eq_getElem?_getD, List.getElem?_eq_getElem (by rw [hl]; exact hj)]
        rfl)
      rw [HS.2.1] at hcv
      have HB := HS.1
      clear HS hal
      generalize hexC n = c at *
      go_wp2
      go_ret2
      exact ⟨by rw [HH2.out]; rfl, HB⟩

set_option maxHeartbeats 6400000 in
set_option maxRecDepth 100000 in
theorem inner_fmt16 (u : Nat) (hu : u < 65536) (w : World) (h : w.cell? ⟨5, 15, none⟩ = some (.int .u8 4)) :
    Calls Tryd.prog 123 #[.int .u64 u, .int .i64 16] w fun e w' => e = .returned (.string ⟨(hexL u).toArray⟩) ∧ Below w.heap.size w w' := by
  go_enter Tryd.func123, Tryd.ntmps123
  go_wp2_with (go_at_call 148; refine (bits16 u hu _ h).mono ?_; rintro e w' ⟨rfl, hb⟩)
  go_ret
  exact ⟨rfl, hb⟩

/-- strconv.FormatUint at base 10 (every uint64) and at base 16 (below 65,536). -/
def strconv_FormatUint.f (a0 a1 : Int) : Option ByteArray :=
  if 0 ≤ a0 ∧ a0 < 18446744073709551616 ∧ a1 = 10 then some ⟨(Lib.decDigits a0.toNat).toArray⟩
  else if 0 ≤ a0 ∧ a0 < 65536 ∧ a1 = 16 then some ⟨(hexL a0.toNat).toArray⟩ else none
set_option maxHeartbeats 6400000 in
set_option maxRecDepth 100000 in
theorem strconv_FormatUint.calls (a0 a1 : Int) (r : ByteArray) (w : World) (h : strconv_FormatUint.f a0 a1 = some r) (hG : Gl w) :
    Calls Tryd.prog 86 #[.int .u64 a0, .int .i64 a1] w fun e w' => e = .returned (.string r) ∧ Below w.heap.size w w' := by
  unfold strconv_FormatUint.f at h
  split at h
  · rename_i hc
    obtain ⟨h0, h1, rfl⟩ := hc
    obtain rfl := Option.some.inj h
    obtain ⟨u, rfl⟩ : ∃ u : Nat, a0 = u := ⟨a0.toNat, by omega⟩
    have hi := inner_fmt10 u (by omega) w hG.pow10
    clear h h0 h1
    rw [Int.toNat_natCast]
    go_enter Tryd.func86, Tryd.ntmps86
    go_wp2_with (go_at_call 123; refine hi.mono ?_; rintro e w' ⟨rfl, hb⟩)
    go_ret
    exact ⟨rfl, hb⟩
  · split at h
    · rename_i hc
      obtain ⟨h0, h1, rfl⟩ := hc
      obtain rfl := Option.some.inj h
      obtain ⟨u, rfl⟩ : ∃ u : Nat, a0 = u := ⟨a0.toNat, by omega⟩
      have hi := inner_fmt16 u (by omega) w hG.db64
      clear h h0 h1
      rw [Int.toNat_natCast]
      go_enter Tryd.func86, Tryd.ntmps86
      go_wp2_with (go_at_call 123; refine hi.mono ?_; rintro e w' ⟨rfl, hb⟩)
      go_ret
      exact ⟨rfl, hb⟩
    · cases h
end Go.Proofs.YtkhkemagkcjdoaaDoor.Gv
