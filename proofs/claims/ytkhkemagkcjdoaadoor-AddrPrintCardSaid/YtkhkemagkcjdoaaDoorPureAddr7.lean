/- What the program reads as an address: the whole. Conditions: the bounds named in each theorem. -/
import Derived.Test.YtkhkemagkcjdoaaDoorPureAddr6
namespace Go.Proofs.YtkhkemagkcjdoaaDoor.Pure
open Go.RowKit Go.Proofs.YtkhkemagkcjdoaaDoorW.PrintWords Go.Proofs.YtkhkemagkcjdoaaDoor.Gv Go.Proofs.YtkhkemagkcjdoaaDoor.XAD

theorem groupV_len {x : List UInt8} {ms : List Nat} (h : groupV x = some ms) : ms.length = 2 := by
  unfold groupV at h
  cases he : hexEnd x with
  | error b => rw [he] at h; cases h
  | ok n =>
    rw [he] at h
    simp only at h
    split at h
    · injection h with h; subst h; rfl
    · cases h
theorem pieceV_len {last : Bool} {x : List UInt8} {r : List (List UInt8)} {ms : List Nat} (h : pieceV last x r = some ms) : ms.length ≤ 4 := by
  unfold pieceV at h
  split at h
  · have := fourV_length h; omega
  · have := groupV_len h; omega
theorem grps_len (last : Bool) : ∀ (xs : List (List UInt8)) (ms : List Nat), grps last xs = some ms → ms.length ≤ 4 * xs.length := by
  intro xs
  induction xs with
  | nil => intro ms h; injection h with h; subst h; exact Nat.zero_le _
  | cons x r ih =>
    intro ms h
    unfold grps at h
    cases hp : pieceV last x r with
    | none => rw [hp] at h; cases h
    | some ns =>
      rw [hp] at h
      cases hr : grps last r with
      | none => rw [hr] at h; cases h
      | some ms' =>
        rw [hr] at h
        injection h with h
        subst h
        have h1 := pieceV_len hp
        have h2 := ih ms' hr
        rw [List.length_append, List.length_cons]
        omega
theorem groupsV_len {last : Bool} {l : List UInt8} {ms : List Nat} (h : groupsV last l = some ms) : ms.length ≤ 4 * (l.length + 1) := by
  unfold groupsV at h
  split at h
  · injection h with h; subst h; exact Nat.zero_le _
  · have h1 := grps_len last _ _ h
    have h2 := spl_len 58 l
    omega

abbrev by8 (ns : List Nat) : List UInt8 := ns.map UInt8.ofNat
abbrev badA : ByteArray × Bool := (⟨#[]⟩, false)
/-- Two halves put together. -/
def joinV (run : Bool) (t : List UInt8) (a b : List Nat) : ByteArray × Bool :=
  if Lib.contains t [58, 58] = true then badA
  else if run = true then (if a.length + b.length ≤ 14 then (mk (by8 a ++ List.replicate (16 - a.length - b.length) 0 ++ by8 b), true) else badA)
  else if a.length = 16 then (mk (by8 a), true) else badA
def parseV (l : List UInt8) : ByteArray × Bool := match fourV l with
  | some ns => (mk (by8 ns), true)
  | none => if 64 < l.length then badA else match groupsV (!(Lib.cut l [58, 58]).2.2) (Lib.cut l [58, 58]).1 with
    | none => badA
    | some a => match groupsV true (Lib.cut l [58, 58]).2.1 with
      | none => badA
      | some b => joinV (Lib.cut l [58, 58]).2.2 (Lib.cut l [58, 58]).2.1 a b

theorem repeat_f (n : Nat) (h : n ≤ 1000) : strings_Repeat.f (⟨#[0]⟩ : ByteArray) (n : Int) = some (mk (List.replicate n 0)) := by
  unfold strings_Repeat.f
  rw [if_pos ⟨by omega, by omega, by rw [Int.toNat_natCast]; show 1 * n ≤ _; omega⟩, Int.toNat_natCast]
  have e : (⟨#[0]⟩ : ByteArray).data.toList = [0] := rfl
  rw [e]
  have : ∀ n, Lib.repeatL [0] n = List.replicate n (0 : UInt8) := by
    intro n
    induction n with
    | zero => rfl
    | succ n ih => unfold Lib.repeatL; rw [ih]; rfl
  rw [this]
  rfl

theorem parse_j1_bad (run : Bool) (a b : List Nat) (h : run = true ∨ a.length ≠ 16) : Ev (fun k => addr_Parse.j1 k run (mk (by8 a)) (mk (by8 b)) false) badA := by
  refine Ev.step (f := fun _ => some badA) (fun k => ?_) (Ev.now _)
  simp only [addr_Parse.j1]
  rw [if_neg (by simp)]
  by_cases hr : run = true
  · rw [if_pos hr]
  · rw [if_neg hr, if_neg (by rw [size_mk, List.length_map]; rcases h with h | h; exact absurd h hr; omega)]
theorem parse_j0_bad (run : Bool) (a b : ByteArray) : Ev (fun k => addr_Parse.j0 k run a b true) badA := Ev.step (f := fun _ => some badA) (fun k => by simp only [addr_Parse.j0]; rfl) (Ev.now _)

theorem parse_j0_ev (run : Bool) (t : List UInt8) (a b : List Nat) (ha : a.length ≤ 1000) (hb : b.length ≤ 1000) :
    Ev (fun k => addr_Parse.j0 k run (mk (by8 a)) (mk (by8 b)) (Lib.contains t [58, 58])) (joinV run t a b) := by
  have sa : (mk (by8 a)).size = a.length := by rw [size_mk, List.length_map]
  have sb : (mk (by8 b)).size = b.length := by rw [size_mk, List.length_map]
  unfold joinV
  cases Lib.contains t [58, 58] with
  | true => rw [if_pos rfl]; exact parse_j0_bad _ _ _
  | false =>
    rw [if_neg (by simp)]
    have hw : wrap64 ((((mk (by8 a)).size : Nat) : Int) + (((mk (by8 b)).size : Nat) : Int)) = ((a.length + b.length : Nat) : Int) := by rw [sa, sb]; exact wadd _ _ (by omega)
    by_cases hr : run = true
    · rw [if_pos hr]
      by_cases h14 : a.length + b.length ≤ 14
      · rw [if_pos h14]
        refine Ev.step (f := fun k => addr_Parse.j1 k run (mk (by8 a)) (mk (by8 b)) true) (fun k => ?_) ?_
        · simp only [addr_Parse.j0]
          rw [if_neg (by simp), if_pos hr, hw, decide_eq_true (by omega)]
        · refine Ev.step (f := fun _ => some (mk (by8 a ++ List.replicate (16 - a.length - b.length) 0 ++ by8 b), true)) (fun k => ?_) (Ev.now _)
          have w1 : wrap64 (16 - (((mk (by8 a)).size : Nat) : Int)) = ((16 - a.length : Nat) : Int) := by rw [sa]; unfold wrap64; omega
          have w2 : wrap64 (((16 - a.length : Nat) : Int) - (((mk (by8 b)).size : Nat) : Int)) = ((16 - a.length - b.length : Nat) : Int) := by rw [sb]; unfold wrap64; omega
          simp only [addr_Parse.j1]
          rw [if_pos trivial, w1, w2, repeat_f _ (by omega), Option.bind_some, mk_app, if_pos (by rw [sa, size_mk, List.length_replicate]; omega), if_pos (by rw [size_mk, sb, List.length_append, List.length_map, List.length_replicate]; omega), mk_app]
      · rw [if_neg h14]
        refine Ev.step (fun k => ?_) (parse_j1_bad run a b (.inl hr))
        simp only [addr_Parse.j0]
        rw [if_neg (by simp), if_pos hr, hw, decide_eq_false (by omega)]
    · rw [if_neg hr]
      by_cases h16 : a.length = 16
      · rw [if_pos h16]
        refine Ev.step (f := fun k => addr_Parse.j1 k run (mk (by8 a)) (mk (by8 b)) false) (fun k => ?_) (Ev.step (f := fun _ => some (mk (by8 a), true)) (fun k => ?_) (Ev.now _))
        · simp only [addr_Parse.j0]
          rw [if_neg (by simp), if_neg hr]
        · simp only [addr_Parse.j1]
          rw [if_neg (by simp), if_neg hr, if_pos (by rw [sa]; omega)]
      · rw [if_neg h16]
        refine Ev.step (fun k => ?_) (parse_j1_bad run a b (.inr h16))
        simp only [addr_Parse.j0]
        rw [if_neg (by simp), if_neg hr]

theorem addr_Parse_ev (s : ByteArray) (hs : s.size < 1000000) : Ev (fun k => addr_Parse.f k s) (parseV (L s)) := by
  have hsz := L_size s
  unfold addr_Parse.f
  refine Ev.bind (addr_four_ev s hs) ?_
  unfold parseV
  cases hf : fourV (L s) with
  | some ns => exact Ev.congr (fun k => if_pos rfl) (Ev.now _)
  | none =>
    refine Ev.congr (fun k => if_neg (by simp [outV])) ?_
    simp only
    by_cases h64 : 64 < (L s).length
    · rw [if_pos h64]
      exact Ev.congr (fun k => if_pos (by omega)) (Ev.now _)
    · rw [if_neg h64]
      refine Ev.congr (fun k => if_neg (by omega)) ?_
      obtain ⟨hc1, hc2⟩ := cut_length (L s) [58, 58]
      have hcut : strings_Cut.f s (⟨#[58, 58]⟩ : ByteArray) = some (mk (Lib.cut (L s) [58, 58]).1, mk (Lib.cut (L s) [58, 58]).2.1, (Lib.cut (L s) [58, 58]).2.2) := by
        unfold strings_Cut.f
        rw [if_pos (by omega)]
        rfl
      generalize Lib.cut (L s) [58, 58] = c at *
      obtain ⟨c1, c2, run⟩ := c
      simp only at hc1 hc2 hcut ⊢
      refine Ev.congr (f := fun k => (addr_groups.f k (mk c1) (!run)).bind fun bt137 => ((addr_groups.f k (mk c2) true).bind fun bt139 => (if bt137.2 = true then (if bt139.2 = true then ((strings_Contains.f (mk c2) (⟨#[58, 58]⟩ : ByteArray)).bind fun t141 => (addr_Parse.j0 k run bt137.1 bt139.1 t141)) else (addr_Parse.j0 k run bt137.1 bt139.1 true)) else (addr_Parse.j0 k run bt137.1 bt139.1 true)))) (fun k => by rw [hcut, Option.bind_some]) ?_
      refine Ev.bind (addr_groups_ev (!run) (mk c1) (by rw [size_mk]; omega)) ?_
      refine Ev.bind (addr_groups_ev true (mk c2) (by rw [size_mk]; omega)) ?_
      rw [L_mk, L_mk]
      cases ha : groupsV (!run) c1 with
      | none => exact Ev.congr (fun k => if_neg (by simp [outV])) (parse_j0_bad _ _ _)
      | some a =>
        refine Ev.congr (fun k => if_pos rfl) ?_
        cases hb : groupsV true c2 with
        | none => exact Ev.congr (fun k => if_neg (by simp [outV])) (parse_j0_bad _ _ _)
        | some b =>
          refine Ev.congr (fun k => if_pos rfl) ?_
          have la := groupsV_len ha
          have lb := groupsV_len hb
          have hcon : strings_Contains.f (mk c2) (⟨#[58, 58]⟩ : ByteArray) = some (Lib.contains c2 [58, 58]) := by
            unfold strings_Contains.f
            have e : (mk c2).data.toList = c2 := L_mk c2
            rw [if_pos (by rw [size_mk]; omega), e]
          exact Ev.congr (fun k => by rw [hcon, Option.bind_some]; rfl) (parse_j0_ev run c2 a b (by omega) (by omega))
end Go.Proofs.YtkhkemagkcjdoaaDoor.Pure
