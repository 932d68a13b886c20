/-
  Join of both: texts with a separator between them.
-/
import Derived.Test.YthookknmeajojaaGreatDoorShJ
import Derived.Test.YthookknmeajojaaGreatDoorStrs
import Derived.Lib.Join
namespace Go.Proofs.YthookknmeajojaaGreatDoor
open Go.RowKit Go.Shelf
set_option linter.unusedVariables false
set_option linter.unusedSimpArgs false

def joinT (xs : List Txt) (sep : Txt) : Txt := Lib.join xs sep
theorem joinTail_snoc (sep : Txt) (r : List Txt) (y : Txt) : Lib.joinTail sep (r ++ [y]) = Lib.joinTail sep r ++ (sep ++ y) := by
  unfold Lib.joinTail; simp
theorem joinT_snoc (xs : List Txt) (y sep : Txt) (h : xs ≠ []) : joinT (xs ++ [y]) sep = joinT xs sep ++ (sep ++ y) := by
  cases xs with
  | nil => exact absurd rfl h
  | cons x r =>
    unfold joinT
    rw [List.cons_append, Lib.join_cons, Lib.join_cons, joinTail_snoc, List.append_assoc]
theorem joinT_nil (sep : Txt) : joinT [] sep = [] := rfl
theorem joinT_one (x sep : Txt) : joinT [x] sep = x := Lib.join_one x sep
theorem take_snocT (xs : List Txt) (k : Nat) (h : k < xs.length) : xs.take (k + 1) = xs.take k ++ [xs.getD k []] := by
  rw [List.take_succ_eq_append_getElem h, List.getD_eq_getElem?_getD, List.getElem?_eq_getElem h]; rfl
theorem joinT_take (xs : List Txt) (sep : Txt) (k : Nat) (h : k < xs.length) : joinT (xs.take (k + 1)) sep = joinT (xs.take k) sep ++ ((if k = 0 then [] else sep) ++ xs.getD k []) := by
  rw [take_snocT xs k h]
  by_cases h0 : k = 0
  · subst h0; simp [joinT_nil, joinT_one]
  · rw [if_neg h0, joinT_snoc]
    intro e
    have : min k xs.length = 0 := by rw [← List.length_take, e]; rfl
    omega
theorem joinT_len (sep : Txt) (M : Nat) : ∀ xs : List Txt, (∀ x ∈ xs, x.length ≤ M) → (joinT xs sep).length ≤ xs.length * (M + sep.length)
  | [], _ => by simp [joinT_nil]
  | x :: r, h => by
    have hr : ∀ r : List Txt, (∀ x ∈ r, x.length ≤ M) → (Lib.joinTail sep r).length ≤ r.length * (M + sep.length) := by
      intro r
      induction r with
      | nil => intro _; simp [Lib.joinTail]
      | cons y r ih =>
        intro h
        have h1 := ih (fun x hx => h x (List.mem_cons_of_mem _ hx))
        have h2 := h y List.mem_cons_self
        have : Lib.joinTail sep (y :: r) = (sep ++ y) ++ Lib.joinTail sep r := by unfold Lib.joinTail; simp
        rw [this, List.length_append, List.length_append, List.length_cons, Nat.succ_mul]
        generalize r.length * (M + sep.length) = q at h1 ⊢
        omega
    have h1 := hr r (fun y hy => h y (List.mem_cons_of_mem _ hy))
    have h2 := h x List.mem_cons_self
    unfold joinT
    rw [Lib.join_cons, List.length_append, List.length_cons, Nat.succ_mul]
    generalize r.length * (M + sep.length) = q at h1 ⊢
    omega

set_option maxRecDepth 100000 in
theorem impl_Join_any (A : Option Addr) (c : Nat) (xs : List Txt) (sep : Txt) (M : Nat) (w : World) (hI : Strs w w.heap.size A xs) (hc : xs.length ≤ c) (hM : ∀ x ∈ xs, x.length ≤ M) (hM2 : M + sep.length ≤ 134217728) :
    Calls Tryz.prog 112 #[.slice A xs.length c, .string (mkS sep)] w fun e w' => e = .returned (.string (mkS (joinT xs sep))) ∧ Below w.heap.size w w' := by
  have hl := joinT_len sep M xs hM
  have hx := hI.1
  have hJ : Calls Tryz.prog 145 #[.slice A xs.length c, .string (mkS sep)] w fun e w' => e = .returned (.string (mkS (joinT xs sep))) ∧ Below w.heap.size w w' := by
    cases xs with
    | nil =>
      refine (Any.strings_Join_none Tryz.lays156 Tryz.bx156 A c (mkS sep) w).mono ?_
      rintro e w' ⟨rfl, rfl⟩
      exact ⟨rfl, Below.refl _ _⟩
    | cons x r =>
      obtain ⟨b, off, rfl, hb, hcell⟩ := hI.2 (by simp)
      have e1 : ((x :: r).map mkS).map (fun t => t.data.toList) = x :: r := by
        rw [List.map_map]
        conv => rhs; rw [← List.map_id (x :: r)]
        exact List.map_congr_left fun t _ => str_mk t
      have hbig : (joinT (x :: r) sep).length ≤ 140737488355328 := by
        have : (x :: r).length * (M + sep.length) ≤ 1048576 * 134217728 := Nat.mul_le_mul hx hM2
        omega
      have := Any.strings_Join Tryz.lays156 Tryz.bx156 b off c ((x :: r).map mkS) (mkS sep) w (fun j t ht => by
          rw [List.getElem?_map] at ht
          have hj : j < (x :: r).length := by
            apply Classical.byContradiction
            intro hh
            rw [List.getElem?_eq_none (by omega)] at ht
            cases ht
          rw [hcell j hj]
          rw [List.getElem?_eq_getElem hj] at ht
          injection ht with ht
          rw [← ht, List.getD_eq_getElem?_getD, List.getElem?_eq_getElem hj]
          rfl) hb (by rw [List.length_map]; omega) (by rw [List.length_map]; exact hc) (by rw [e1, show (mkS sep).data.toList = sep from str_mk sep]; exact hbig)
      rw [e1, List.length_map, show (mkS sep).data.toList = sep from str_mk sep] at this
      exact this
  have HJ := Lib.hid hJ
  generalize mkS (joinT xs sep) = X at HJ ⊢
  generalize mkS sep = SP at HJ ⊢
  clear hJ hl hx hI
  go_enter Tryz.func112, Tryz.ntmps112
  go_wp2_with fail
  refine HJ.out.mono ?_
  rintro e w1 ⟨rfl, hb⟩
  go_wp2_with fail
  go_ret
  exact ⟨rfl, hb⟩

end Go.Proofs.YthookknmeajojaaGreatDoor
