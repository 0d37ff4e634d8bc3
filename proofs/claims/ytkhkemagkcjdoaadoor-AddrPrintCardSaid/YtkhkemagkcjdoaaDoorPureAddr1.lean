/- Numerals of an address's parts: the reference's decimal and hex texts, the program's groups. Conditions: the bounds named in each theorem. -/
import Derived.Test.YtkhkemagkcjdoaaDoorXAD
import Derived.Test.YtkhkemagkcjdoaaDoorPureNum
import Derived.Laws.BitsAllLaws
import Derived.Lib.Join
namespace Go.Proofs.YtkhkemagkcjdoaaDoor.Pure
open Go.RowKit Go.Proofs.YtkhkemagkcjdoaaDoorW.PrintWords Go.Proofs.YtkhkemagkcjdoaaDoor.Gv Go.Proofs.YtkhkemagkcjdoaaDoor.XAD

theorem strOfNums_one (n : Nat) : strOfNums [(n : Int)] = mk [UInt8.ofNat n] := by
  unfold strOfNums mk
  simp
theorem mk_app (a b : List UInt8) : mk a ++ mk b = mk (a ++ b) := by
  apply L_inj
  rw [L_append, L_mk, L_mk, L_mk]
theorem mk_toList_nil (t : List UInt8) : ((mk t).toList = ([] : List UInt8)) = (t = []) := by rw [toList_L, L_mk]

/-! ### decimal -/
theorem dec_step (n : Nat) (hn : n < 1000000) (t : List UInt8) (ht : t.length < 1000000) (hc : n > 0 ∨ t = []) (k : Nat) :
    conciergeref2_Dec.l0 (k + 1) (mk t) (n : Int) = conciergeref2_Dec.l0 k (mk (UInt8.ofNat (48 + n % 10) :: t)) ((n / 10 : Nat) : Int) := by
  have e1 : Int.tmod (n : Int) 10 = ((n % 10 : Nat) : Int) := by rw [Int.tmod_eq_emod_of_nonneg (by omega)]; omega
  have e2 : (wrap64 (48 + ((n % 10 : Nat) : Int))) % 256 = ((48 + n % 10 : Nat) : Int) := by unfold wrap64; omega
  have e3 : wrap64 (Int.tdiv (n : Int) 10) = ((n / 10 : Nat) : Int) := by
    rw [Int.tdiv_eq_ediv_of_nonneg (by omega)]
    unfold wrap64
    omega
  have e4 : (mk [UInt8.ofNat (48 + n % 10)]) ++ mk t = mk (UInt8.ofNat (48 + n % 10) :: t) := mk_app _ _
  have e5 : (mk [UInt8.ofNat (48 + n % 10)]).size + (mk t).size ≤ 9223372036854775807 := by rw [size_mk, size_mk, List.length_singleton]; omega
  simp only [conciergeref2_Dec.l0]
  rw [e1, e2, e3]
  simp only [Option.bind_some]
  rw [strOfNums_one, if_pos e5, e4]
  by_cases h0 : (n : Int) > 0
  · rw [if_pos h0]
  · rw [if_neg h0, if_pos (by rw [mk_toList_nil]; rcases hc with h | h; omega; exact h)]

theorem dec_loop_ev : ∀ (n : Nat) (t : List UInt8), t.length + n < 1000000 → (n > 0 ∨ t = []) → Ev (fun k => conciergeref2_Dec.l0 k (mk t) (n : Int)) (mk (Lib.decDigits n ++ t)) := by
  intro n
  induction n using Nat.strongRecOn with
  | _ n ih =>
    intro t hn hc
    refine Ev.step (fun k => dec_step n (by omega) t (by omega) hc k) ?_
    by_cases h10 : n < 10
    · rw [Lib.decDigits, dif_pos h10, show n / 10 = 0 by omega, show n % 10 = n by omega, List.singleton_append]
      refine Ev.step (f := fun _ => some (mk (UInt8.ofNat (48 + n) :: t))) (fun k => ?_) (Ev.now _)
      simp only [conciergeref2_Dec.l0]
      rw [if_neg (by omega), if_neg (by rw [mk_toList_nil]; simp)]
    · have := ih (n / 10) (by omega) (UInt8.ofNat (48 + n % 10) :: t) (by rw [List.length_cons]; omega) (.inl (by omega))
      rw [Lib.decDigits, dif_neg h10, List.append_assoc, List.singleton_append]
      exact this
theorem Dec_ev (n : Nat) (hn : n < 1000000) : Ev (fun k => conciergeref2_Dec.f k (n : Int)) (mk (Lib.decDigits n)) := by
  have := dec_loop_ev n [] (by simpa using hn) (.inr rfl)
  rw [List.append_nil] at this
  exact this

/-! ### hex -/
theorem dig16 (d : Nat) (hd : d < 16) : (⟨#[48, 49, 50, 51, 52, 53, 54, 55, 56, 57, 97, 98, 99, 100, 101, 102]⟩ : ByteArray).extract d (d + 1) = mk [hexC d] := by
  have : d = 0 ∨ d = 1 ∨ d = 2 ∨ d = 3 ∨ d = 4 ∨ d = 5 ∨ d = 6 ∨ d = 7 ∨ d = 8 ∨ d = 9 ∨ d = 10 ∨ d = 11 ∨ d = 12 ∨ d = 13 ∨ d = 14 ∨ d = 15 := by omega
  rcases this with rfl | rfl | rfl | rfl | rfl | rfl | rfl | rfl | rfl | rfl | rfl | rfl | rfl | rfl | rfl | rfl <;> rfl

theorem hex_step (x0 s : ByteArray) (x5 x6 x9 : Int) (n : Nat) (hn : n < 1000000) (t : List UInt8) (ht : t.length < 1000000) (hc : n > 0 ∨ t = []) (k : Nat) :
    conciergeref2_Print.l4 (k + 1) x0 s x5 x6 x9 (n : Int) (mk t) = conciergeref2_Print.l4 k x0 s x5 x6 x9 ((n / 16 : Nat) : Int) (mk (hexC (n % 16) :: t)) := by
  have e1 : Int.tmod (n : Int) 16 = ((n % 16 : Nat) : Int) := by rw [Int.tmod_eq_emod_of_nonneg (by omega)]; omega
  have e2 : wrap64 (((n % 16 : Nat) : Int) + 1) = ((n % 16 + 1 : Nat) : Int) := by unfold wrap64; omega
  have e3 : wrap64 (Int.tdiv (n : Int) 16) = ((n / 16 : Nat) : Int) := by
    rw [Int.tdiv_eq_ediv_of_nonneg (by omega)]
    unfold wrap64
    omega
  have hd : n % 16 < 16 := Nat.mod_lt _ (by decide)
  have e4 : (mk [hexC (n % 16)]) ++ mk t = mk (hexC (n % 16) :: t) := mk_app _ _
  have e5 : (mk [hexC (n % 16)]).size + (mk t).size ≤ 9223372036854775807 := by rw [size_mk, size_mk, List.length_singleton]; omega
  simp only [conciergeref2_Print.l4]
  rw [e1, e2, e3, Int.toNat_natCast, Int.toNat_natCast, dig16 _ hd, if_pos e5, e4]
  by_cases h0 : (n : Int) > 0
  · rw [if_pos h0, if_pos (by omega), if_pos (by omega), if_pos (by omega)]
  · rw [if_neg h0, if_pos (by rw [mk_toList_nil]; rcases hc with h | h; omega; exact h), if_pos (by omega), if_pos (by omega), if_pos (by omega)]

theorem hex_loop_ev (x0 s : ByteArray) (x5 x6 x9 : Int) (R : ByteArray) (hs : s.size < 1000000) : ∀ (n : Nat) (t : List UInt8), t.length + n < 1000000 → (n > 0 ∨ t = []) →
    Ev (fun k => conciergeref2_Print.l3 k x0 (s ++ mk (hexL n ++ t)) x5 x6 (wrap64 (x9 + 1))) R →
    Ev (fun k => conciergeref2_Print.l4 k x0 s x5 x6 x9 (n : Int) (mk t)) R := by
  intro n
  induction n using Nat.strongRecOn with
  | _ n ih =>
    intro t hn hc h
    refine Ev.step (fun k => hex_step x0 s x5 x6 x9 n (by omega) t (by omega) hc k) ?_
    by_cases h16 : n < 16
    · rw [hexL, dif_pos h16, List.singleton_append] at h
      rw [show n / 16 = 0 by omega, show n % 16 = n by omega]
      refine Ev.step (fun k => ?_) h
      simp only [conciergeref2_Print.l4]
      rw [if_neg (by omega), if_neg (by rw [mk_toList_nil]; simp), if_pos (by rw [size_mk, List.length_cons]; omega)]
    · rw [hexL, dif_neg h16, List.append_assoc, List.singleton_append] at h
      exact ih (n / 16) (by omega) (hexC (n % 16) :: t) (by rw [List.length_cons]; omega) (.inl (by omega)) h
end Go.Proofs.YtkhkemagkcjdoaaDoor.Pure
