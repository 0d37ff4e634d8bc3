/- The law of an address's prefixes is true at every two texts. Conditions: none. -/
import Derived.Test.YtkhkemagkcjdoaaDoorXAP
import Derived.Test.YtkhkemagkcjdoaaDoorPureStr
import Derived.Laws.BitsAllLaws
namespace Go.Proofs.YtkhkemagkcjdoaaDoor.Pure
open Go.RowKit Go.Proofs.YtkhkemagkcjdoaaDoorW.PrintWords Go.Proofs.YtkhkemagkcjdoaaDoor.Gv Go.Proofs.YtkhkemagkcjdoaaDoor.XAD Go.Proofs.YtkhkemagkcjdoaaDoor.XAP

theorem begun3_ev : Ev (fun k => conciergelaw3_begun.f k) true := Ev.of conciergelaw3_begun.mono (k := 200) (by decide +kernel)

theorem cut3_ev (s : ByteArray) (n : Nat) : ∃ t : ByteArray, conciergelaw2_Cut.f s (n : Int) = some t ∧ t.size ≤ n := by
  unfold conciergelaw2_Cut.f
  by_cases h : (s.size : Int) > (n : Int)
  · rw [if_pos h, if_pos (by omega), if_pos (by omega)]
    refine ⟨_, rfl, ?_⟩
    rw [ByteArray.size_extract]
    omega
  · rw [if_neg h]
    exact ⟨_, rfl, by omega⟩

/-- How many bits are alike. -/
def comm : List UInt8 → List UInt8 → Nat
  | x :: xs, y :: ys => if x = y then 8 + comm xs ys else 8 - Lib.bitLen (x.toNat ^^^ y.toNat)
  | _, _ => 0
theorem bitLen_byte : ∀ v, v < 256 → v ≠ 0 → 1 ≤ Lib.bitLen v ∧ Lib.bitLen v ≤ 8 := by decide +kernel
theorem xor_zero (c d : UInt8) : (c.toNat ^^^ d.toNat = 0) ↔ c = d := by
  constructor
  · intro h
    have e : (c.toNat ^^^ d.toNat) ^^^ d.toNat = c.toNat := by rw [Nat.xor_assoc, Nat.xor_self, Nat.xor_zero]
    rw [h, Nat.zero_xor] at e
    exact UInt8.toNat_inj.1 e.symm
  · rintro rfl
    exact Nat.xor_self _
theorem xor_byte (c d : UInt8) : c.toNat ^^^ d.toNat < 256 := Nat.xor_lt_two_pow (n := 8) c.toNat_lt d.toNat_lt

theorem comm_le : ∀ (x y : List UInt8), x.length = y.length → comm x y ≤ 8 * x.length ∧ (comm x y = 8 * x.length ↔ x = y) := by
  intro x
  induction x with
  | nil => intro y h; cases y with
    | nil => simp [comm]
    | cons => simp at h
  | cons c cs ih =>
    intro y h
    cases y with
    | nil => simp at h
    | cons d ds =>
      have h2 : cs.length = ds.length := by simpa using h
      obtain ⟨i1, i2⟩ := ih ds h2
      unfold comm
      by_cases e : c = d
      · rw [if_pos e]
        subst e
        simp only [List.length_cons, List.cons.injEq, true_and]
        exact ⟨by omega, ⟨fun h => i2.1 (by omega), fun h => by have := i2.2 h; omega⟩⟩
      · rw [if_neg e]
        have hb := bitLen_byte (c.toNat ^^^ d.toNat) (xor_byte c d) (fun h => e ((xor_zero c d).1 h))
        simp only [List.length_cons, List.cons.injEq]
        exact ⟨by omega, ⟨fun h => by omega, fun h => absurd h.1 e⟩⟩

theorem lead_wrap (j bl : Nat) (hj : j < 16) (h2 : bl ≤ 8) : wrap64 (wrap64 (8 * (j : Int)) + (8 - (bl : Int))) = ((8 * j + (8 - bl) : Nat) : Int) := by
  have e1 : wrap64 (8 * (j : Int)) = 8 * (j : Int) := by unfold wrap64; omega
  rw [e1]
  unfold wrap64
  omega
theorem lead_f (v : Nat) (h : v < 256) : bits_LeadingZeros8.f (v : Int) = some (8 - (Lib.bitLen v : Int)) := by
  unfold bits_LeadingZeros8.f
  rw [if_pos (by omega), Int.toNat_natCast]

theorem common_loop_ev (a b : ByteArray) (ha : a.size ≤ 16) (hab : a.size = b.size) : ∀ (d j : Nat), a.size - j = d → j ≤ a.size →
    Ev (fun k => addr_Common.l0 k a b (a.size : Int) (j : Int)) ((8 * j + comm ((L a).drop j) ((L b).drop j) : Nat) : Int) := by
  intro d
  induction d with
  | zero =>
    intro j hd hj
    obtain rfl : j = a.size := by omega
    refine Ev.step (f := fun _ => some ((8 * a.size : Nat) : Int)) (fun k => ?_) ?_
    · simp only [addr_Common.l0]
      rw [if_neg (by omega)]
      congr 1
      unfold wrap64
      omega
    · rw [List.drop_eq_nil_of_le (by rw [← L_size]; exact Nat.le_refl _)]
      exact Ev.now _
  | succ d ih =>
    intro j hd hj
    have hlt : j < a.size := by omega
    obtain ⟨x, r, e1, e2, hb1⟩ := bt_get a j hlt
    obtain ⟨y, r', f1, f2, hb2⟩ := bt_get b j (by omega)
    have hw := wrap_nat j (by omega)
    have hx := u8_xor_nat x.toNat y.toNat x.toNat_lt y.toNat_lt
    rw [e1, f1]
    by_cases h : x = y
    · refine Ev.step (f := fun k => addr_Common.l0 k a b (a.size : Int) ((j + 1 : Nat) : Int)) (fun k => ?_) ?_
      · simp only [addr_Common.l0]
        rw [if_pos (by omega), if_pos (by omega), if_pos (by omega), if_pos (by omega), hb1, hb2, hx, if_pos (by rw [(xor_zero x y).2 h]; rfl), hw]
      · have := ih (j + 1) (by omega) (by omega)
        rw [e2, f2] at this
        unfold comm
        rw [if_pos h, show 8 * j + (8 + comm r r') = 8 * (j + 1) + comm r r' by omega]
        exact this
    · have hne : x.toNat ^^^ y.toNat ≠ 0 := fun e => h ((xor_zero x y).1 e)
      have hxb := xor_byte x y
      have hbl := bitLen_byte _ hxb hne
      have hcm : comm (x :: r) (y :: r') = 8 - Lib.bitLen (x.toNat ^^^ y.toNat) := by
        unfold comm
        exact if_neg h
      rw [hcm]
      generalize x.toNat ^^^ y.toNat = v at *
      refine Ev.step (f := fun _ => some ((8 * j + (8 - Lib.bitLen v) : Nat) : Int)) (fun k => ?_) (Ev.now _)
      simp only [addr_Common.l0]
      rw [if_pos (by omega), if_pos (by omega), if_pos (by omega), if_pos (by omega), hb1, hb2, hx, if_neg (by omega), lead_f v hxb, Option.bind_some, lead_wrap j _ (by omega) hbl.2]

theorem is_f (a : ByteArray) : addr_Is.f a = some (decide (a.size = 4 ∨ a.size = 16)) := by
  unfold addr_Is.f
  by_cases h : a.size = 4
  · rw [if_pos (by omega), decide_eq_true (.inl h)]
  · rw [if_neg (by omega)]
    by_cases h2 : a.size = 16
    · rw [decide_eq_true (.inr h2), beq_iff_eq.2 (by omega)]
    · rw [decide_eq_false (by rintro (h3 | h3); exact h h3; exact h2 h3), beq_eq_false_iff_ne.2 (by omega)]

theorem addr_Common_ev (a b : ByteArray) (h : a.size = 4 ∨ a.size = 16) (hab : a.size = b.size) : Ev (fun k => addr_Common.f k a b) ((comm (L a) (L b) : Nat) : Int) := by
  have key := common_loop_ev a b (by omega) hab a.size 0 (by omega) (by omega)
  rw [List.drop_zero, List.drop_zero, Nat.mul_zero, Nat.zero_add] at key
  refine Ev.congr (f := fun k => addr_Common.j0 k a b false) (fun k => ?_) (Ev.step (fun k => ?_) key)
  · unfold addr_Common.f
    rw [if_pos (by omega), is_f, decide_eq_true h]
    rfl
  · simp only [addr_Common.j0]
    rw [if_neg (by simp)]
    rfl

theorem addr_In_ev (a b : ByteArray) (n : Int) (h : a.size = 4 ∨ a.size = 16) (hab : a.size = b.size) : Ev (fun k => addr_In.f k a b n) (decide (0 ≤ n ∧ n ≤ 8 * (a.size : Int) ∧ n ≤ ((comm (L a) (L b) : Nat) : Int))) := by
  have hw : wrap64 (8 * (a.size : Int)) = 8 * (a.size : Int) := by unfold wrap64; omega
  have hs : ∀ k, addr_In.f k a b n = if n ≥ 0 then (if n ≤ 8 * (a.size : Int) then ((addr_Common.f k a b).bind fun t168 => some (decide (t168 ≥ n))) else some false) else some false := fun k => by
    unfold addr_In.f
    rw [if_pos (by omega), is_f, decide_eq_true h, hw]
    rfl
  refine Ev.congr hs ?_
  by_cases h0 : n ≥ 0
  · by_cases h1 : n ≤ 8 * (a.size : Int)
    · refine Ev.congr (f := fun k => (addr_Common.f k a b).bind fun t168 => some (decide (t168 ≥ n))) (fun k => by rw [if_pos h0, if_pos h1]) ?_
      refine Ev.bind (addr_Common_ev a b h hab) ?_
      have : decide (((comm (L a) (L b) : Nat) : Int) ≥ n) = decide (0 ≤ n ∧ n ≤ 8 * (a.size : Int) ∧ n ≤ ((comm (L a) (L b) : Nat) : Int)) := by
        rw [decide_eq_decide]
        omega
      rw [this]
      exact Ev.now _
    · rw [decide_eq_false (by omega)]
      exact Ev.congr (f := fun _ => some false) (fun k => by rw [if_pos h0, if_neg h1]) (Ev.now _)
  · rw [decide_eq_false (by omega)]
    exact Ev.congr (f := fun _ => some false) (fun k => by rw [if_neg h0]) (Ev.now _)

theorem comm_self (x : List UInt8) : comm x x = 8 * x.length := (comm_le x x rfl).2.2 rfl

theorem prefix_loop_ev (a b : ByteArray) (h : a.size = 4 ∨ a.size = 16) (hab : a.size = b.size) : ∀ (d j : Nat), 8 * a.size + 1 - j = d → j ≤ 8 * a.size + 1 →
    Ev (fun k => conciergelaw3_AddrPrefix.l0 k a b true ((comm (L a) (L b) : Nat) : Int) (j : Int)) true := by
  have hw : wrap64 (8 * (a.size : Int)) = 8 * (a.size : Int) := by unfold wrap64; omega
  have hcs := comm_self (L a)
  rw [← L_size] at hcs
  intro d
  induction d with
  | zero =>
    intro j hd hj
    obtain rfl : j = 8 * a.size + 1 := by omega
    have hw2 : wrap64 (8 * (a.size : Int) + 1) = 8 * (a.size : Int) + 1 := by unfold wrap64; omega
    refine Ev.step (fun k => ?_) (Ev.bind (addr_In_ev a a (8 * (a.size : Int) + 1) h rfl) (f := fun k t113 => if t113 = true then some false else ((addr_In.f k a a (-1)).bind fun t114 => (if t114 = true then (some false) else (some ((((comm (L a) (L b) : Nat) : Int) == 8 * (a.size : Int)) == (a.toList == b.toList)))))) ?_)
    · simp only [conciergelaw3_AddrPrefix.l0]
      rw [hw, hw2, if_neg (by omega), if_pos trivial]
    · rw [decide_eq_false (by omega)]
      simp only [Bool.false_eq_true, if_false]
      refine Ev.bind (addr_In_ev a a (-1) h rfl) ?_
      rw [decide_eq_false (by omega)]
      simp only [Bool.false_eq_true, if_false]
      obtain ⟨c1, c2⟩ := comm_le (L a) (L b) (by rw [← L_size, ← L_size, hab])
      rw [← L_size] at c1 c2
      have : ((((comm (L a) (L b) : Nat) : Int) == 8 * (a.size : Int)) == (a.toList == b.toList)) = true := by
        rw [toList_L, toList_L]
        by_cases e : L a = L b
        · have := c2.2 e
          rw [beq_iff_eq.2 (show ((comm (L a) (L b) : Nat) : Int) = 8 * (a.size : Int) by omega), beq_iff_eq.2 e]
          rfl
        · have : ¬ comm (L a) (L b) = 8 * a.size := fun h => e (c2.1 h)
          rw [beq_eq_false_iff_ne.2 (show ((comm (L a) (L b) : Nat) : Int) ≠ 8 * (a.size : Int) by omega), beq_eq_false_iff_ne.2 e]
          rfl
      rw [this]
      exact Ev.now _
  | succ d ih =>
    intro j hd hj
    have hw2 := wrap_nat j (by omega)
    refine Ev.step (fun k => ?_) (Ev.bind (addr_In_ev a a (j : Int) h rfl) (f := fun k t115 => if t115 = true then ((addr_In.f k a b (j : Int)).bind fun t116 => (if (t116 != (decide ((j : Int) ≤ ((comm (L a) (L b) : Nat) : Int)))) = true then (some false) else (conciergelaw3_AddrPrefix.l0 k a b true ((comm (L a) (L b) : Nat) : Int) ((j + 1 : Nat) : Int)))) else some false) ?_)
    · simp only [conciergelaw3_AddrPrefix.l0]
      rw [hw, if_pos (by omega), hw2]
    · rw [decide_eq_true (by omega)]
      simp only [if_true]
      refine Ev.bind (addr_In_ev a b (j : Int) h hab) ?_
      have : decide (0 ≤ (j : Int) ∧ (j : Int) ≤ 8 * (a.size : Int) ∧ (j : Int) ≤ ((comm (L a) (L b) : Nat) : Int)) = decide ((j : Int) ≤ ((comm (L a) (L b) : Nat) : Int)) := by
        rw [decide_eq_decide]
        omega
      rw [this, bne_self_eq_false]
      simp only [Bool.false_eq_true, if_false]
      exact ih (j + 1) (by omega) (by omega)

theorem AddrPrefix (a0 a1 : ByteArray) : ∃ k, conciergelaw3_AddrPrefix.f k a0 a1 = some true := by
  obtain ⟨a, ha0, has⟩ := cut3_ev a0 16
  obtain ⟨b, hb0, hbs⟩ := cut3_ev a1 16
  have ha : conciergelaw2_Cut.f a0 16 = some a := ha0
  have hb : conciergelaw2_Cut.f a1 16 = some b := hb0
  refine Ev.rounds (g := fun k => conciergelaw3_AddrPrefix.f k a0 a1) ?_
  refine Ev.bind begun3_ev ?_
  simp only [if_true, ha, hb, Option.bind_some]
  have hno : Ev (fun k => conciergelaw3_AddrPrefix.j0 k a b true true) true := Ev.step (f := fun _ => some true) (fun k => by simp only [conciergelaw3_AddrPrefix.j0]; rfl) (Ev.now _)
  have hyes : a.size = 4 ∨ a.size = 16 → a.size = b.size → Ev (fun k => conciergelaw3_AddrPrefix.j0 k a b true false) true := fun h hab => by
    refine Ev.step (fun k => ?_) (Ev.bind (addr_Common_ev a b h hab) (f := fun k t112 => conciergelaw3_AddrPrefix.l0 k a b true t112 0) ?_)
    · simp only [conciergelaw3_AddrPrefix.j0]
      rw [if_neg (by simp)]
    · exact prefix_loop_ev a b h hab (8 * a.size + 1) 0 (by omega) (by omega)
  by_cases hab : a.size = b.size
  · refine Ev.congr (fun k => if_pos (show (a.size : Int) = (b.size : Int) by omega)) ?_
    by_cases h4 : a.size = 4
    · exact Ev.congr (fun k => if_pos (show (a.size : Int) = 4 by omega)) (hyes (.inl h4) hab)
    · refine Ev.congr (fun k => if_neg (show ¬ (a.size : Int) = 4 by omega)) ?_
      by_cases h16 : a.size = 16
      · rw [bne_eq_false_iff_eq.2 (show (a.size : Int) = 16 by omega)]
        exact hyes (.inr h16) hab
      · rw [bne_iff_ne.2 (show (a.size : Int) ≠ 16 by omega)]
        exact hno
  · exact Ev.congr (fun k => if_neg (show ¬ (a.size : Int) = (b.size : Int) by omega)) hno
end Go.Proofs.YtkhkemagkcjdoaaDoor.Pure
