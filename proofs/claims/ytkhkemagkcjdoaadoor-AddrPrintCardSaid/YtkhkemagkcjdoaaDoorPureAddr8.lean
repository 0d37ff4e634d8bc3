/- What is printed is read again. Conditions: none but the size. -/
import Derived.Test.YtkhkemagkcjdoaaDoorPureAddr7
namespace Go.Proofs.YtkhkemagkcjdoaaDoor.Pure
open Go.RowKit Go.Proofs.YtkhkemagkcjdoaaDoorW.PrintWords Go.Proofs.YtkhkemagkcjdoaaDoor.Gv Go.Proofs.YtkhkemagkcjdoaaDoor.XAD

theorem J_cons2 (sep : UInt8) (x y : List UInt8) (r : List (List UInt8)) : J sep (x :: y :: r) = x ++ sep :: J sep (y :: r) := by
  show Lib.join (x :: y :: r) [sep] = x ++ sep :: Lib.join (y :: r) [sep]
  rw [Lib.join_cons, Lib.join_cons]
  simp [Lib.joinTail]
theorem J_one (sep : UInt8) (x : List UInt8) : J sep [x] = x := Lib.join_one _ _
theorem spl_J (sep : UInt8) : ∀ (xs : List (List UInt8)), xs ≠ [] → (∀ x ∈ xs, sep ∉ x) → spl sep (J sep xs) = xs := by
  intro xs
  induction xs with
  | nil => intro h; exact absurd rfl h
  | cons x r ih =>
    intro _ hx
    have h1 := hx x List.mem_cons_self
    cases r with
    | nil => rw [J_one]; exact spl_no h1
    | cons y r => rw [J_cons2, spl_at _ h1, ih (by simp) (fun z hz => hx z (List.mem_cons_of_mem _ hz))]
theorem J_mem (sep : UInt8) : ∀ (xs : List (List UInt8)) (c : UInt8), c ∈ J sep xs → c = sep ∨ ∃ x ∈ xs, c ∈ x := by
  intro xs
  induction xs with
  | nil => intro c h; exact absurd h (by simp [J, Lib.join_nil])
  | cons x r ih =>
    intro c h
    cases r with
    | nil => rw [J_one] at h; exact .inr ⟨x, List.mem_cons_self, h⟩
    | cons y r =>
      rw [J_cons2] at h
      rcases List.mem_append.1 h with h | h
      · exact .inr ⟨x, List.mem_cons_self, h⟩
      · rcases List.mem_cons.1 h with h | h
        · exact .inl h
        · rcases ih c h with h | ⟨z, hz, hc⟩
          · exact .inl h
          · exact .inr ⟨z, List.mem_cons_of_mem _ hz, hc⟩

/-! ### decimal parts -/
theorem parseM_dec : ∀ (u : Nat) (l : List UInt8), u ≤ 255 → Lib.parseUintM 255 0 (Lib.decDigits u ++ l) = Lib.parseUintM 255 u l := by
  intro u
  induction u using Nat.strongRecOn with
  | _ u ih =>
    intro l hu
    rw [Lib.decDigits]
    split
    · rename_i h
      have e : (UInt8.ofNat (48 + u)).toNat = 48 + u := by rw [UInt8.toNat_ofNat']; omega
      rw [List.singleton_append, Lib.parseUintM, if_pos (by omega), if_neg (by omega), if_neg (by omega), e]
      congr 1
      omega
    · rename_i h
      have e : (UInt8.ofNat (48 + u % 10)).toNat = 48 + u % 10 := by rw [UInt8.toNat_ofNat']; omega
      rw [List.append_assoc, ih (u / 10) (by omega) _ (by omega), List.singleton_append, Lib.parseUintM, if_pos (by omega), if_neg (by omega), if_neg (by omega), e]
      congr 1
      omega
theorem puEnd8_dec (u : Nat) (hu : u < 256) : puEnd8 (Lib.decDigits u) = .ok u := by
  have h := parseM_dec u [] (by omega)
  rw [List.append_nil] at h
  have e : Lib.parseUintB 8 (Lib.decDigits u) = .ok u := by
    unfold Lib.parseUintB
    rw [if_neg (dec_ne u)]
    exact h.trans rfl
  unfold puEnd8
  rw [e]
theorem octV_dec (u : Nat) (hu : u < 256) : octV (Lib.decDigits u) = some u := by
  unfold octV
  rw [puEnd8_dec u hu]
  exact if_pos rfl
theorem octs_dec : ∀ l : List UInt8, octs (l.map fun c => Lib.decDigits c.toNat) = some (l.map UInt8.toNat) := by
  intro l
  induction l with
  | nil => rfl
  | cons x r ih =>
    show (match octV (Lib.decDigits x.toNat) with | some n => (octs (r.map fun c : UInt8 => Lib.decDigits c.toNat)).map (n :: ·) | none => none) = _
    rw [octV_dec _ x.toNat_lt, ih]
    rfl
theorem by8_toNat (l : List UInt8) : by8 (l.map UInt8.toNat) = l := by
  unfold by8
  rw [List.map_map]
  have : (UInt8.ofNat ∘ UInt8.toNat) = id := by funext c; exact UInt8.ofNat_toNat
  rw [this, List.map_id]
theorem dec_nopoint (u : Nat) : (46 : UInt8) ∉ Lib.decDigits u := fun h => by have := dec_digit u _ h; revert this; decide

theorem parse_print4 (a : ByteArray) (h : a.size = 4) : parseV (J 46 (decs a)) = (a, true) := by
  have hl := decs_length a
  have hs : spl 46 (J 46 (decs a)) = decs a := spl_J 46 (decs a) (fun e => by rw [e] at hl; simp at hl; omega) (fun x hx => by
    obtain ⟨c, _, rfl⟩ := List.mem_map.1 hx
    exact dec_nopoint _)
  have hf : fourV (J 46 (decs a)) = some ((L a).map UInt8.toNat) := by
    unfold fourV
    rw [hs, if_pos (by omega)]
    exact octs_dec (L a)
  unfold parseV
  rw [hf]
  simp only
  rw [by8_toNat, mk_L]

/-! ### hex parts -/
theorem hexD_hexC (d : Nat) (hd : d < 16) : hexD (hexC d) = some d ∧ hexC d ≠ 58 ∧ hexC d ≠ 46 := by
  have : d = 0 ∨ d = 1 ∨ d = 2 ∨ d = 3 ∨ d = 4 ∨ d = 5 ∨ d = 6 ∨ d = 7 ∨ d = 8 ∨ d = 9 ∨ d = 10 ∨ d = 11 ∨ d = 12 ∨ d = 13 ∨ d = 14 ∨ d = 15 := by omega
  rcases this with rfl | rfl | rfl | rfl | rfl | rfl | rfl | rfl | rfl | rfl | rfl | rfl | rfl | rfl | rfl | rfl <;> decide
theorem hexM_hexL : ∀ (u : Nat) (l : List UInt8), u < 65536 → hexM 0 (hexL u ++ l) = hexM u l := by
  intro u
  induction u using Nat.strongRecOn with
  | _ u ih =>
    intro l hu
    rw [hexL]
    split
    · rename_i h
      rw [List.singleton_append, hexM, (hexD_hexC u h).1]
      simp only
      rw [if_neg (by omega)]
      congr 1
      omega
    · rename_i h
      rw [List.append_assoc, ih (u / 16) (by omega) _ (by omega), List.singleton_append, hexM, (hexD_hexC (u % 16) (Nat.mod_lt _ (by decide))).1]
      simp only
      rw [if_neg (by omega)]
      congr 1
      omega
theorem hexL_ne (u : Nat) : hexL u ≠ [] := by
  rw [hexL]
  split <;> simp
theorem hexL_mem : ∀ (u : Nat) (c : UInt8), c ∈ hexL u → c ≠ 58 ∧ c ≠ 46 := by
  intro u
  induction u using Nat.strongRecOn with
  | _ u ih =>
    intro c hc
    rw [hexL] at hc
    split at hc
    · rename_i h
      rw [List.mem_singleton] at hc
      subst hc
      exact (hexD_hexC u h).2
    · rename_i h
      rcases List.mem_append.1 hc with hc | hc
      · exact ih (u / 16) (by omega) c hc
      · rw [List.mem_singleton] at hc
        subst hc
        exact (hexD_hexC _ (Nat.mod_lt _ (by decide))).2
theorem groupV_hexL (u : Nat) (hu : u < 65536) : groupV (hexL u) = some [u / 256, u % 256] := by
  have h := hexM_hexL u [] hu
  rw [List.append_nil] at h
  have e : hexEnd (hexL u) = .ok u := by
    unfold hexEnd
    rw [if_neg (hexL_ne u), h]
    rfl
  unfold groupV
  rw [e]
  exact if_pos (hex_len u hu)
def gby (gs : List Nat) : List Nat := gs.flatMap fun g => [g / 256, g % 256]
theorem gby_length (gs : List Nat) : (gby gs).length = 2 * gs.length := by
  induction gs with
  | nil => rfl
  | cons g r ih =>
    have e : (gby (g :: r)).length = 2 + (gby r).length := by
      show ([g / 256, g % 256] ++ gby r).length = _
      rw [List.length_append]
      rfl
    rw [e, ih, List.length_cons]
    omega
theorem grps_hexL (last : Bool) : ∀ gs : List Nat, (∀ g ∈ gs, g < 65536) → grps last (gs.map hexL) = some (gby gs) := by
  intro gs
  induction gs with
  | nil => intro _; rfl
  | cons g r ih =>
    intro h
    have hp : pieceV last (hexL g) (r.map hexL) = some [g / 256, g % 256] := by
      unfold pieceV
      rw [if_neg (fun hx => (hexL_mem g 46 hx.2.2).2 rfl)]
      exact groupV_hexL g (h g List.mem_cons_self)
    show (match pieceV last (hexL g) (r.map hexL) with | some ns => (grps last (r.map hexL)).map (ns ++ ·) | none => none) = _
    rw [hp, ih (fun z hz => h z (List.mem_cons_of_mem _ hz))]
    rfl
theorem groupsV_hexL (last : Bool) (gs : List Nat) (h : ∀ g ∈ gs, g < 65536) : groupsV last (J 58 (gs.map hexL)) = some (gby gs) := by
  cases gs with
  | nil => rfl
  | cons g r =>
    have hs : spl 58 (J 58 ((g :: r).map hexL)) = (g :: r).map hexL := spl_J 58 _ (by simp) (fun x hx => by
      obtain ⟨u, _, rfl⟩ := List.mem_map.1 hx
      exact fun hc => (hexL_mem u 58 hc).1 rfl)
    have hne : J 58 ((g :: r).map hexL) ≠ [] := by
      intro e
      rw [e] at hs
      have h2 : [[]] = (g :: r).map hexL := hs
      rw [List.map_cons] at h2
      injection h2 with h2 _
      exact hexL_ne g h2.symm
    unfold groupsV
    rw [if_neg hne, hs]
    exact grps_hexL last _ h

/-! ### two points -/
def noDD : List UInt8 → Bool
  | [] => true
  | x :: r => match r with
    | [] => true
    | y :: _ => !(x == 58 && y == 58) && noDD r
theorem index_no2 : ∀ l : List UInt8, noDD l = true → Lib.index l [58, 58] = -1 := by
  intro l
  induction l with
  | nil => intro _; rfl
  | cons x r ih =>
    intro h
    cases r with
    | nil => simp [Lib.index]
    | cons y r =>
      unfold noDD at h
      simp only [Bool.and_eq_true, Bool.not_eq_true', Bool.and_eq_false_iff] at h
      have hi := ih h.2
      have hp : ¬ (([58, 58] : List UInt8).isPrefixOf (x :: y :: r) = true) := by
        simp only [List.isPrefixOf, Bool.and_true, Bool.and_eq_true, beq_iff_eq, not_and]
        intro hx hy
        subst hx hy
        simp at h
      unfold Lib.index
      rw [if_neg hp, hi]
      rfl
theorem index_at2 : ∀ (A B : List UInt8), noDD (A ++ [58]) = true → Lib.index (A ++ 58 :: 58 :: B) [58, 58] = (A.length : Int) := by
  intro A B
  induction A with
  | nil => intro _; simp [Lib.index]
  | cons x r ih =>
    intro h
    have hr : noDD (r ++ [58]) = true := by
      cases r with
      | nil => rfl
      | cons y r =>
        have h2 : noDD (x :: y :: (r ++ [58])) = true := h
        unfold noDD at h2
        simp only [Bool.and_eq_true] at h2
        exact h2.2
    have hi := ih hr
    have hp : ¬ (([58, 58] : List UInt8).isPrefixOf (x :: (r ++ 58 :: 58 :: B)) = true) := by
      cases r with
      | nil =>
        have h2 : noDD [x, 58] = true := h
        intro hx
        simp [List.isPrefixOf] at hx
        subst hx
        revert h2
        decide
      | cons y r =>
        have h2 : noDD (x :: y :: (r ++ [58])) = true := h
        unfold noDD at h2
        simp only [Bool.and_eq_true, Bool.not_eq_true', Bool.and_eq_false_iff] at h2
        simp only [List.cons_append, List.isPrefixOf, Bool.and_true, Bool.and_eq_true, beq_iff_eq, not_and]
        intro hx hy
        subst hx hy
        simp at h2
    have hn : ¬ ((Lib.index (r ++ 58 :: 58 :: B) [58, 58] == -1) = true) := by rw [hi, beq_iff_eq]; omega
    rw [List.cons_append]
    unfold Lib.index
    rw [if_neg hp, if_neg hn, hi, List.length_cons]
    omega
theorem noDD_app : ∀ (x rest : List UInt8), 58 ∉ x → (∀ y r, rest = y :: r → y ≠ 58) → noDD rest = true → noDD (x ++ 58 :: rest) = true := by
  intro x rest
  induction x with
  | nil =>
    intro _ hy hn
    cases rest with
    | nil => rfl
    | cons y r =>
      show (!((58 : UInt8) == 58 && y == 58) && noDD (y :: r)) = true
      rw [hn, beq_eq_false_iff_ne.2 (hy y r rfl)]
      rfl
  | cons c x ih =>
    intro hc hy hn
    rw [List.mem_cons, not_or] at hc
    have hi := ih hc.2 hy hn
    rw [List.cons_append]
    cases hq : x ++ 58 :: rest with
    | nil => rfl
    | cons z q =>
      rw [hq] at hi
      show (!(c == 58 && z == 58) && noDD (z :: q)) = true
      rw [hi, beq_eq_false_iff_ne.2 (fun e => hc.1 e.symm)]
      rfl
theorem noDD_left : ∀ (l : List UInt8) (c : UInt8), noDD (l ++ [c]) = true → noDD l = true := by
  intro l c
  induction l with
  | nil => intro _; rfl
  | cons x r ih =>
    intro h
    cases r with
    | nil => rfl
    | cons y r =>
      have h2 : (!(x == 58 && y == 58) && noDD (y :: (r ++ [c]))) = true := h
      rw [Bool.and_eq_true] at h2
      show (!(x == 58 && y == 58) && noDD (y :: r)) = true
      rw [h2.1, ih h2.2]
      rfl
theorem J_head (sep : UInt8) (x : List UInt8) (r : List (List UInt8)) (y : UInt8) (q : List UInt8) (hx : x ≠ []) (h : J sep (x :: r) = y :: q) : y ∈ x := by
  cases x with
  | nil => exact absurd rfl hx
  | cons c x =>
    cases r with
    | nil => rw [J_one] at h; injection h with h _; rw [← h]; exact List.mem_cons_self
    | cons z r => rw [J_cons2, List.cons_append] at h; injection h with h _; rw [← h]; exact List.mem_cons_self
theorem noDD_J : ∀ (xs : List (List UInt8)), (∀ x ∈ xs, x ≠ [] ∧ 58 ∉ x) → noDD (J 58 xs ++ [58]) = true := by
  intro xs
  induction xs with
  | nil => intro _; rfl
  | cons x r ih =>
    intro h
    obtain ⟨h1, h2⟩ := h x List.mem_cons_self
    cases r with
    | nil => rw [J_one]; exact noDD_app x [] h2 (fun y r e => by cases e) rfl
    | cons z r =>
      rw [J_cons2, List.append_assoc, List.cons_append]
      refine noDD_app x _ h2 (fun y q e => ?_) (ih (fun z hz => h z (List.mem_cons_of_mem _ hz)))
      obtain ⟨hz1, hz2⟩ := h z (List.mem_cons_of_mem _ List.mem_cons_self)
      cases hq : J 58 (z :: r) with
      | nil =>
        exfalso
        cases z with
        | nil => exact hz1 rfl
        | cons c z =>
          cases r with
          | nil => rw [J_one] at hq; cases hq
          | cons w r => rw [J_cons2] at hq; cases hq
      | cons c q2 =>
        rw [hq] at e
        injection e with e _
        subst e
        have := J_head 58 z r c q2 hz1 hq
        exact fun ec => hz2 (ec ▸ this)
end Go.Proofs.YtkhkemagkcjdoaaDoor.Pure
