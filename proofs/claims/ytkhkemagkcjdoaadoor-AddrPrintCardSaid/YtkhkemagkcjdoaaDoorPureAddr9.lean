/- What is printed is read again: the second kind. Conditions: the size. -/
import Derived.Test.YtkhkemagkcjdoaaDoorPureAddr8
namespace Go.Proofs.YtkhkemagkcjdoaaDoor.Pure
open Go.RowKit Go.Proofs.YtkhkemagkcjdoaaDoorW.PrintWords Go.Proofs.YtkhkemagkcjdoaaDoor.Gv Go.Proofs.YtkhkemagkcjdoaaDoor.XAD

theorem by8_gby : ∀ (n : Nat) (l : List UInt8), l.length = 2 * n → by8 (gby (groups l)) = l := by
  intro n
  induction n with
  | zero => intro l h; have := List.eq_nil_of_length_eq_zero h; subst this; rfl
  | succ n ih =>
    intro l h
    match l with
    | [] => simp at h
    | [x] => simp at h; omega
    | x :: y :: r =>
      have hi := ih r (by simp at h; omega)
      have hx := x.toNat_lt
      have hy := y.toNat_lt
      have e : by8 (gby (groups (x :: y :: r))) = UInt8.ofNat ((x.toNat * 256 + y.toNat) / 256) :: UInt8.ofNat ((x.toNat * 256 + y.toNat) % 256) :: by8 (gby (groups r)) := rfl
      rw [e, hi, show (x.toNat * 256 + y.toNat) / 256 = x.toNat by omega, show (x.toNat * 256 + y.toNat) % 256 = y.toNat by omega, UInt8.ofNat_toNat, UInt8.ofNat_toNat]
theorem gby_append (a b : List Nat) : gby (a ++ b) = gby a ++ gby b := by unfold gby; rw [List.flatMap_append]
theorem by8_append (a b : List Nat) : by8 (a ++ b) = by8 a ++ by8 b := by unfold by8; rw [List.map_append]
theorem by8_zeros : ∀ n : Nat, by8 (gby (List.replicate n 0)) = List.replicate (2 * n) 0 := by
  intro n
  induction n with
  | zero => rfl
  | succ n ih =>
    rw [List.replicate_succ, show 2 * (n + 1) = 2 * n + 1 + 1 by omega, List.replicate_succ, List.replicate_succ, ← ih]
    rfl

theorem hexs_map (a : ByteArray) : hexs a = (groups (L a)).map hexL := rfl
theorem hex_pieces (gs : List Nat) : ∀ x ∈ gs.map hexL, x ≠ [] ∧ 58 ∉ x := by
  intro x hx
  obtain ⟨u, _, rfl⟩ := List.mem_map.1 hx
  exact ⟨hexL_ne u, fun hc => (hexL_mem u 58 hc).1 rfl⟩
theorem J_nopoint (gs : List Nat) : (46 : UInt8) ∉ J 58 (gs.map hexL) := by
  intro h
  rcases J_mem 58 _ 46 h with h | ⟨x, hx, hc⟩
  · cases h
  · obtain ⟨u, _, rfl⟩ := List.mem_map.1 hx
    exact (hexL_mem u 46 hc).2 rfl
theorem fourV_nopoint {l : List UInt8} (h : (46 : UInt8) ∉ l) : fourV l = none := by
  unfold fourV
  rw [spl_no h]
  rfl

theorem parse_print6 (a : ByteArray) (h : a.size = 16) (b : Int × Nat)
    (hb : b = (0, 1) ∨ ∃ j : Nat, j < 8 ∧ b = ((j : Int), zr ((groups (L a)).drop j)) ∧ 2 ≤ zr ((groups (L a)).drop j) ∧ j + zr ((groups (L a)).drop j) ≤ 8) : parseV (print6 (hexs a) b) = (a, true) := by
  have hsz := L_size a
  have hlen := groups_length 8 (L a) (by omega)
  have hby := by8_gby 8 (L a) (by omega)
  have hlt := grp_lt _ (L a) (Nat.le_refl _)
  have hz := fun j => zr_take ((groups (L a)).drop j)
  rw [hexs_map]
  generalize groups (L a) = gs at *
  rcases hb with rfl | ⟨j, hj, rfl, h2, h8⟩
  · -- no run
    have e : print6 (gs.map hexL) (0, 1) = J 58 (gs.map hexL) := by unfold print6; exact if_pos (by decide)
    have hJ := J_length 58 4 (gs.map hexL) (fun x hx => by obtain ⟨u, hu, rfl⟩ := List.mem_map.1 hx; exact hex_len u (hlt u hu))
    rw [List.length_map] at hJ
    have hi := index_no2 _ (noDD_left _ _ (noDD_J _ (hex_pieces gs)))
    have hcut : Lib.cut (J 58 (gs.map hexL)) [58, 58] = (J 58 (gs.map hexL), [], false) := by
      unfold Lib.cut
      rw [hi, if_neg (by omega)]
    rw [e]
    unfold parseV
    rw [fourV_nopoint (J_nopoint gs), hcut]
    simp only
    rw [if_neg (by omega), groupsV_hexL _ gs hlt]
    have hnil : groupsV true [] = some [] := rfl
    simp only [hnil]
    unfold joinV
    have hc : Lib.contains [] [58, 58] = false := rfl
    rw [hc, if_neg (by simp), if_neg (by simp), if_pos (by rw [gby_length]; omega), hby, mk_L]
  · -- a run
    have hzj := hz j
    have hdl : (gs.drop j).length = 8 - j := by rw [List.length_drop, hlen]
    generalize zr (gs.drop j) = z at *
    have hsplit : gs = gs.take j ++ (List.replicate z 0 ++ gs.drop (j + z)) := by
      rw [← hzj, ← List.drop_drop, List.take_append_drop, List.take_append_drop]
    have e : print6 (gs.map hexL) ((j : Int), z) = J 58 ((gs.take j).map hexL) ++ 58 :: 58 :: J 58 ((gs.drop (j + z)).map hexL) := by
      unfold print6
      rw [if_neg (by show ¬ z < 2; omega), List.map_take, List.map_drop]
      rfl
    have hlt1 : ∀ g ∈ gs.take j, g < 65536 := fun g hg => hlt g (List.mem_of_mem_take hg)
    have hlt2 : ∀ g ∈ gs.drop (j + z), g < 65536 := fun g hg => hlt g (List.mem_of_mem_drop hg)
    have hJ1 := J_length 58 4 ((gs.take j).map hexL) (fun x hx => by obtain ⟨u, hu, rfl⟩ := List.mem_map.1 hx; exact hex_len u (hlt1 u hu))
    have hJ2 := J_length 58 4 ((gs.drop (j + z)).map hexL) (fun x hx => by obtain ⟨u, hu, rfl⟩ := List.mem_map.1 hx; exact hex_len u (hlt2 u hu))
    rw [List.length_map, List.length_take] at hJ1
    rw [List.length_map, List.length_drop] at hJ2
    have hi := index_at2 (J 58 ((gs.take j).map hexL)) (J 58 ((gs.drop (j + z)).map hexL)) (noDD_J _ (hex_pieces _))
    have hcut : Lib.cut (J 58 ((gs.take j).map hexL) ++ 58 :: 58 :: J 58 ((gs.drop (j + z)).map hexL)) [58, 58] = (J 58 ((gs.take j).map hexL), J 58 ((gs.drop (j + z)).map hexL), true) := by
      unfold Lib.cut
      rw [hi, if_pos (by omega), Int.toNat_natCast]
      have e1 : (J 58 ((gs.take j).map hexL) ++ 58 :: 58 :: J 58 ((gs.drop (j + z)).map hexL)).take (J 58 ((gs.take j).map hexL)).length = J 58 ((gs.take j).map hexL) := List.take_left' rfl
      have e2 : (J 58 ((gs.take j).map hexL) ++ 58 :: 58 :: J 58 ((gs.drop (j + z)).map hexL)).drop ((J 58 ((gs.take j).map hexL)).length + [(58 : UInt8), 58].length) = J 58 ((gs.drop (j + z)).map hexL) := by
        rw [← List.drop_drop, List.drop_left' rfl]
        rfl
      rw [e1, e2]
    have hno : (46 : UInt8) ∉ J 58 ((gs.take j).map hexL) ++ 58 :: 58 :: J 58 ((gs.drop (j + z)).map hexL) := by
      rw [List.mem_append, List.mem_cons, List.mem_cons]
      rintro (h | h | h | h)
      · exact J_nopoint _ h
      · cases h
      · cases h
      · exact J_nopoint _ h
    have hB := index_no2 _ (noDD_left _ _ (noDD_J _ (hex_pieces (gs.drop (j + z)))))
    have hcon : Lib.contains (J 58 ((gs.drop (j + z)).map hexL)) [58, 58] = false := by
      unfold Lib.contains
      rw [hB]
      rfl
    have g1 := gby_length (gs.take j)
    have g2 := gby_length (gs.drop (j + z))
    rw [List.length_take] at g1
    rw [List.length_drop] at g2
    rw [e]
    unfold parseV
    rw [fourV_nopoint hno, hcut]
    simp only
    rw [if_neg (by rw [List.length_append, List.length_cons, List.length_cons]; omega), groupsV_hexL _ _ hlt1]
    simp only
    rw [groupsV_hexL _ _ hlt2]
    simp only
    unfold joinV
    rw [hcon, if_neg (by simp), if_pos rfl, if_pos (by omega)]
    have hall : by8 (gby (gs.take j)) ++ List.replicate (16 - (gby (gs.take j)).length - (gby (gs.drop (j + z))).length) 0 ++ by8 (gby (gs.drop (j + z))) = L a := by
      have hh := hby
      rw [hsplit, gby_append, gby_append, by8_append, by8_append, by8_zeros] at hh
      rw [show 16 - (gby (gs.take j)).length - (gby (gs.drop (j + z))).length = 2 * z by omega, List.append_assoc]
      exact hh
    rw [hall, mk_L]

theorem parse_print (a : ByteArray) (h : a.size = 4 ∨ a.size = 16) : parseV (L (printV a)) = (a, true) := by
  unfold printV
  by_cases h4 : a.size = 4
  · rw [if_pos h4, L_mk]
    exact parse_print4 a h4
  · have h16 : a.size = 16 := by rcases h with h | h; exact absurd h h4; exact h
    rw [if_neg h4, if_pos h16, L_mk]
    refine parse_print6 a h16 _ ?_
    rcases best_bounds a h16 0 with e | e
    · exact .inl e
    · exact .inr e
theorem printV_size (a : ByteArray) : (printV a).size < 1000 := by
  unfold printV
  by_cases h4 : a.size = 4
  · rw [if_pos h4, size_mk]
    have := J_length 46 3 (decs a) (decs_small a)
    rw [decs_length] at this
    omega
  · rw [if_neg h4]
    by_cases h16 : a.size = 16
    · rw [if_pos h16, size_mk]
      have hl := hexs_length a h16
      unfold print6
      split
      · have := J_length 58 4 (hexs a) (hexs_small a); omega
      · generalize (best (groups (L a)) 0 0 1).1.toNat = j
        generalize (best (groups (L a)) 0 0 1).2 = z
        have h1 := J_length 58 4 _ (take_small (hexs_small a) j)
        have h2 := J_length 58 4 _ (drop_small (hexs_small a) (j + z))
        rw [List.length_take] at h1
        rw [List.length_drop] at h2
        rw [List.length_append, List.length_cons, List.length_cons]
        omega
    · rw [if_neg h16]
      decide
end Go.Proofs.YtkhkemagkcjdoaaDoor.Pure
