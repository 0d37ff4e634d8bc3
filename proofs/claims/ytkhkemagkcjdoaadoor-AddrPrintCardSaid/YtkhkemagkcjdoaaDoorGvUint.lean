/- Go's strconv.ParseUint at base 16 and 16 bits, and at base 10 and 8 bits: every text, a number or an error. Conditions: the text's size. -/
import Derived.Test.YtkhkemagkcjdoaaDoorGvLib
import Derived.Lib.ParseIntBMem
import Derived.Lib.ConvBytes
import Derived.Lib.Hide
import Derived.Laws.Strings3
import Derived.Laws.Closers25
import Derived.Laws.Closers25b
import Derived.WalkKit
import Derived.LoopTactic
import Derived.BigCall
import Derived.BigGuard
import Derived.KernelRfl
namespace Go.Proofs.YtkhkemagkcjdoaaDoor.Gv
open Go.RowKit Go.Proofs.YtkhkemagkcjdoaaDoorW.PrintWords
set_option linter.unusedVariables false
set_option linter.unusedSimpArgs false

/-- What a hex digit tells. -/
def hexD (c : UInt8) : Option Nat := if 48 ≤ c.toNat ∧ c.toNat ≤ 57 then some (c.toNat - 48) else if 97 ≤ c.toNat ||| 32 ∧ c.toNat ||| 32 ≤ 102 then some ((c.toNat ||| 32) - 87) else none
/-- ParseUint at base 16 and 16 bits, behind the test for the empty text. -/
def hexM (acc : Nat) : List UInt8 → Except Bool Nat
  | [] => .ok acc
  | c :: r => match hexD c with
    | none => .error false
    | some d => if 65535 < acc * 16 + d then .error true else hexM (acc * 16 + d) r
def hexEnd (l : List UInt8) : Except Bool Nat := if l = [] then .error false else hexM 0 l
/-- The inner call's answer: a number; no number; too great. -/
def uintT (m : Int) : Except Bool Nat → Value
  | .ok u => .tuple #[.int .u64 (u : Int), .nilIface]
  | .error false => .tuple #[.int .u64 0, .iface 196 (.int .i64 2)]
  | .error true => .tuple #[.int .u64 m, .iface 196 (.int .i64 1)]

theorem lower_calls (c v : Int) (h : Go.bits .or .u8 c 32 = v) (w : World) :
    Calls Tryd.prog 160 #[.int .u8 c] w fun e w' => e = .returned (.int .u8 v) ∧ w' = w := by
  subst h
  go_enter Tryd.func160, Tryd.ntmps160
  go_wp2
  go_ret
  exact ⟨rfl, rfl⟩

set_option maxHeartbeats 32000000 in
set_option maxRecDepth 100000 in
theorem inner_hex (t : ByteArray) (hne : t.size ≠ 0) (hmax : t.size ≤ 9223372036854775806) (w : World) :
    Calls Tryd.prog 138 #[.string t, .int .i64 16, .int .i64 16] w fun e w' => e = .returned (uintT 65535 (hexM 0 t.data.toList)) ∧ w' = Lib.bytesWorld w 5 t := by
  have hemp : t.toList.isEmpty = false := by
    rw [← decide_eq_emptyBytes]
    exact decide_eq_false (fun h => hne (by rw [h]; rfl))
  have hcv := Lib.run_convert_string_bytes (P := Tryd.prog) w 9 37 5 t (u := .string) Tryd.underlying9 Tryd.underlying37 Tryd.underlying5
  have hB : ∀ j, j < t.size → (Lib.bytesWorld w 5 t).cell? ⟨w.heap.size, j, none⟩ = some (.int .u8 (t.data.toList.getD j 0).toNat) := fun j hj => Lib.bytesWorld_cell w 5 t j hj
  obtain ⟨W1, hW1⟩ : ∃ W1, W1 = Lib.bytesWorld w 5 t := ⟨_, rfl⟩
  rw [← hW1] at hcv hB ⊢
  clear hW1
  obtain ⟨bs, hL⟩ : ∃ bs, bs = t.data.toList := ⟨_, rfl⟩
  have hLn : bs.length = t.size := by rw [hL, Lib.size_eq]
  rw [← hL] at hB ⊢
  clear hL
  have hmv : IntKind.u64.wrap (IntKind.u64.wrap 65536 - 1) = 65535 := by
    rw [IntKind.wrap_u64, IntKind.wrap_u64]
    decide
  go_enter Tryd.func138, Tryd.ntmps138
  go_wp2
  go_loop [12, 13, 101] (fun vu vn vi => ∃ (k acc : Nat) (a : Int), vu = .bool false ∧ vn = .int .u64 a ∧ vi = .int .i64 k ∧ k ≤ t.size ∧ Hid (a = (acc : Int) ∧ acc ≤ 65535 ∧ hexM 0 bs = hexM acc (bs.drop k)))
    (fun _ _ vi => t.size - (intOf vi).toNat)
  case atStart => exact ⟨0, 0, 0, rfl, rfl, rfl, by omega, rfl, by omega, rfl⟩
  case round =>
    obtain ⟨k, acc, a, rfl, rfl, rfl, hk, hh⟩ := hrel
    obtain ⟨ha, hacc, hdec⟩ := hh.out
    clear hh
    have a0 : 0 ≤ a := by omega
    have a1 : a ≤ 65535 := by omega
    by_cases hkn : k < t.size
    · have hc := hB k hkn
      have hdrop : bs.drop k = bs[k]'(by omega) :: bs.drop (k + 1) := List.drop_eq_getElem_cons (by omega)
      have hget : bs.getD k 0 = bs[k]'(by omega) := by simp [List.getD, List.getElem?_eq_getElem (show k < bs.length by omega)]
      rw [hdrop] at hdec
      rw [hget] at hc
      generalize bs[k]'(by omega) = c at hc hdec
      have hc256 : c.toNat < 256 := c.toNat_lt
      have hor := u8_or_nat c.toNat 32 hc256 (by decide)
      have e32 : ((32 : Nat) : Int) = 32 := rfl
      rw [e32] at hor
      clear e32
      have hv256 : c.toNat ||| 32 < 256 := Nat.or_lt_two_pow (n := 8) hc256 (by decide)
      have hH : hexD c = if 48 ≤ c.toNat ∧ c.toNat ≤ 57 then some (c.toNat - 48) else if 97 ≤ c.toNat ||| 32 ∧ c.toNat ||| 32 ≤ 102 then some ((c.toNat ||| 32) - 87) else none := rfl
      have hu : c.toNat = 95 → c.toNat ||| 32 = 127 := fun h => by rw [h]; rfl
      generalize c.toNat ||| 32 = v at hor hv256 hH hu
      clear hB hdrop hget
      by_cases hdig : 48 ≤ c.toNat ∧ c.toNat ≤ 57
      · obtain ⟨hd0, hd1⟩ := hdig
        rw [if_pos ⟨hd0, hd1⟩] at hH
        clear hu hor hv256
        by_cases hov : 65535 < acc * 16 + (c.toNat - 48)
        · have hF : hexM acc (c :: bs.drop (k + 1)) = .error true := by rw [hexM, hH]; exact if_pos hov
          rw [hF] at hdec
          have iov : 65535 < a * 16 + ((c.toNat : Int) - 48) := by omega
          clear hacc hF hov ha hH
          go_wp2
          go_ret2
          first | exact ⟨rfl, rfl⟩ | exact ⟨by rw [hdec]; rfl, rfl⟩
        · have hF : hexM acc (c :: bs.drop (k + 1)) = hexM (acc * 16 + (c.toNat - 48)) (bs.drop (k + 1)) := by rw [hexM, hH]; exact if_neg hov
          have HN : Hid (a * 16 + ((c.toNat : Int) - 48) = ((acc * 16 + (c.toNat - 48) : Nat) : Int) ∧ acc * 16 + (c.toNat - 48) ≤ 65535 ∧ hexM 0 bs = hexM (acc * 16 + (c.toNat - 48)) (bs.drop (k + 1))) := Lib.hid ⟨by omega, by omega, hdec.trans hF⟩
          have iov : a * 16 + ((c.toNat : Int) - 48) ≤ 65535 := by omega
          clear hacc hF hov hdec ha hH
          go_wp2
          refine ⟨⟨k + 1, acc * 16 + (c.toNat - 48), a * 16 + ((c.toNat : Int) - 48), rfl, (by first | rfl | (congr 1; omega)), (by first | rfl | (congr 1; omega)), by omega, HN⟩, by simp [intOf]; omega⟩
      · rw [if_neg hdig] at hH
        by_cases hlet : 97 ≤ v ∧ v ≤ 102
        · obtain ⟨hl0, hl1⟩ := hlet
          rw [if_pos ⟨hl0, hl1⟩] at hH
          have n95 : (c.toNat : Int) ≠ 95 := fun h => by have := hu (by omega); omega
          have n95b : ((c.toNat : Int) == 95) = false := beq_eq_false_iff_ne.2 n95
          have hb57 : 48 ≤ (c.toNat : Int) → ¬ (c.toNat : Int) ≤ 57 := fun h1 h2 => hdig ⟨by omega, by omega⟩
          clear hu n95
          obtain ⟨vi, hvi⟩ : ∃ vi : Int, vi = (v : Int) := ⟨_, rfl⟩
          have hv0 : 97 ≤ vi := by omega
          have hv1 : vi ≤ 102 := by omega
          rw [← hvi] at hor
          by_cases hov : 65535 < acc * 16 + (v - 87)
          · have hF : hexM acc (c :: bs.drop (k + 1)) = .error true := by rw [hexM, hH]; exact if_pos hov
            rw [hF] at hdec
            have iov : 65535 < a * 16 + (vi - 97 + 10) := by omega
            clear hacc hF hov ha hH hvi hl0 hl1 hv256
            by_cases h48 : 48 ≤ (c.toNat : Int)
            · have h57 := hb57 h48
              clear hb57 hdig
              go_wp2_with (go_at_call 160; refine (lower_calls _ _ hor _).mono ?_; rintro e w' ⟨rfl, rfl⟩)
              go_ret2
              first | exact ⟨rfl, rfl⟩ | exact ⟨by rw [hdec]; rfl, rfl⟩
            · clear hb57 hdig
              go_wp2_with (go_at_call 160; refine (lower_calls _ _ hor _).mono ?_; rintro e w' ⟨rfl, rfl⟩)
              go_ret2
              first | exact ⟨rfl, rfl⟩ | exact ⟨by rw [hdec]; rfl, rfl⟩
          · have hF : hexM acc (c :: bs.drop (k + 1)) = hexM (acc * 16 + (v - 87)) (bs.drop (k + 1)) := by rw [hexM, hH]; exact if_neg hov
            have HN : Hid (a * 16 + (vi - 97 + 10) = ((acc * 16 + (v - 87) : Nat) : Int) ∧ acc * 16 + (v - 87) ≤ 65535 ∧ hexM 0 bs = hexM (acc * 16 + (v - 87)) (bs.drop (k + 1))) := Lib.hid ⟨by omega, by omega, hdec.trans hF⟩
            have iov : a * 16 + (vi - 97 + 10) ≤ 65535 := by omega
            clear hacc hF hov hdec ha hH hvi hl0 hl1 hv256
            by_cases h48 : 48 ≤ (c.toNat : Int)
            · have h57 := hb57 h48
              clear hb57 hdig
              go_wp2_with (go_at_call 160; refine (lower_calls _ _ hor _).mono ?_; rintro e w' ⟨rfl, rfl⟩)
              refine ⟨⟨k + 1, acc * 16 + (v - 87), a * 16 + (vi - 97 + 10), rfl, (by first | rfl | (congr 1; omega)), (by first | rfl | (congr 1; omega)), by omega, HN⟩, by simp [intOf]; omega⟩
            · clear hb57 hdig
              go_wp2_with (go_at_call 160; refine (lower_calls _ _ hor _).mono ?_; rintro e w' ⟨rfl, rfl⟩)
              refine ⟨⟨k + 1, acc * 16 + (v - 87), a * 16 + (vi - 97 + 10), rfl, (by first | rfl | (congr 1; omega)), (by first | rfl | (congr 1; omega)), by omega, HN⟩, by simp [intOf]; omega⟩
        · rw [if_neg hlet] at hH
          have hF : hexM acc (c :: bs.drop (k + 1)) = .error false := by rw [hexM, hH]
          rw [hF] at hdec
          obtain ⟨vi, hvi⟩ : ∃ vi : Int, vi = (v : Int) := ⟨_, rfl⟩
          have hb57 : 48 ≤ (c.toNat : Int) → ¬ (c.toNat : Int) ≤ 57 := fun h1 h2 => hdig ⟨by omega, by omega⟩
          have hw102 : 97 ≤ vi → ¬ vi ≤ 102 := fun h1 h2 => hlet ⟨by omega, by omega⟩
          have hv0 : 0 ≤ vi := by omega
          have hv1 : vi < 256 := by omega
          rw [← hvi] at hor
          have hu2 : (c.toNat : Int) = 95 → vi = 127 := fun h => by have := hu (by omega); omega
          clear hacc hF ha hH hdig hlet hu hvi hv256
          by_cases h95 : (c.toNat : Int) = 95
          · have h127 := hu2 h95
            clear hu2 hb57 hw102
            rw [h127] at hor
            rw [h95] at hc hor
            go_wp2_with (go_at_call 160; refine (lower_calls _ _ hor _).mono ?_; rintro e w' ⟨rfl, rfl⟩)
            go_ret2
            first | exact ⟨rfl, rfl⟩ | exact ⟨by rw [hdec]; rfl, rfl⟩
          · have n95b : ((c.toNat : Int) == 95) = false := beq_eq_false_iff_ne.2 h95
            clear hu2 h95
            by_cases h48 : 48 ≤ (c.toNat : Int)
            · have h57 := hb57 h48
              clear hb57
              by_cases hv97 : 97 ≤ vi
              · have h102 := hw102 hv97
                clear hw102
                by_cases hv122 : vi ≤ 122
                all_goals
                  go_wp2_with (go_at_call 160; refine (lower_calls _ _ hor _).mono ?_; rintro e w' ⟨rfl, rfl⟩)
                  go_ret2
                  first | exact ⟨rfl, rfl⟩ | exact ⟨by rw [hdec]; rfl, rfl⟩
              · clear hw102
                go_wp2_with (go_at_call 160; refine (lower_calls _ _ hor _).mono ?_; rintro e w' ⟨rfl, rfl⟩)
                go_ret2
                first | exact ⟨rfl, rfl⟩ | exact ⟨by rw [hdec]; rfl, rfl⟩
            · clear hb57
              by_cases hv97 : 97 ≤ vi
              · have h102 := hw102 hv97
                clear hw102
                by_cases hv122 : vi ≤ 122
                all_goals
                  go_wp2_with (go_at_call 160; refine (lower_calls _ _ hor _).mono ?_; rintro e w' ⟨rfl, rfl⟩)
                  go_ret2
                  first | exact ⟨rfl, rfl⟩ | exact ⟨by rw [hdec]; rfl, rfl⟩
              · clear hw102
                go_wp2_with (go_at_call 160; refine (lower_calls _ _ hor _).mono ?_; rintro e w' ⟨rfl, rfl⟩)
                go_ret2
                first | exact ⟨rfl, rfl⟩ | exact ⟨by rw [hdec]; rfl, rfl⟩
    · have hkk : k = t.size := by omega
      subst hkk
      have hF : hexM acc (bs.drop t.size) = .ok acc := by rw [List.drop_eq_nil_of_le (by omega)]; rfl
      rw [hF] at hdec
      subst ha
      clear hacc hF a0 a1
      go_wp2
      go_ret2
      first | exact ⟨rfl, rfl⟩ | exact ⟨by rw [hdec]; rfl, rfl⟩
end Go.Proofs.YtkhkemagkcjdoaaDoor.Gv
