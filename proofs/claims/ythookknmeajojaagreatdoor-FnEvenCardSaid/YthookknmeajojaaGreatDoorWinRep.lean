/-
  A window cut out of the bar's text, repeated.
-/
import Derived.Test.YthookknmeajojaaGreatDoorEaB
import Derived.Lib.Repeat
namespace Go.Proofs.YthookknmeajojaaGreatDoor
set_option linter.unusedVariables false
set_option linter.unusedSimpArgs false

theorem repeatL_get (l : List UInt8) : ∀ (c j : Nat), j < c * l.length → (Lib.repeatL l c)[j]? = l[j % l.length]?
  | 0, j, h => by omega
  | c + 1, j, h => by
    rw [Nat.add_mul, Nat.one_mul] at h
    unfold Lib.repeatL
    by_cases hj : j < l.length
    · rw [List.getElem?_append_left hj, Nat.mod_eq_of_lt hj]
    · rw [List.getElem?_append_right (by omega), repeatL_get l c _ (by omega), ← Nat.mod_eq_sub_mod (by omega)]

/-- The window cut out of the bar's text, repeated. -/
theorem winL_cut (n : Nat) (bs : List Int) (p k c : Nat) (hn : 0 < n) (hc : p + k ≤ c * n) : ((Lib.repeatL (winL n bs 0 n) c).drop p).take k = winL n bs p k := by
  refine List.ext_getElem? fun j => ?_
  by_cases hj : j < k
  · have h1 : p + j < c * (winL n bs 0 n).length := by rw [winL_len]; omega
    rw [List.getElem?_take_of_lt hj, List.getElem?_drop, repeatL_get _ _ _ h1, winL_len]
    have hm : (p + j) % n < n := Nat.mod_lt _ hn
    unfold winL
    simp only [List.getElem?_map, List.getElem?_range hm, List.getElem?_range hj, Option.map_some]
    rw [Nat.zero_add, ← Int.natCast_emod, ← Int.natCast_emod, Nat.mod_mod]
  · rw [List.getElem?_eq_none (by rw [List.length_take]; omega), List.getElem?_eq_none (by rw [winL_len]; omega)]

end Go.Proofs.YthookknmeajojaaGreatDoor
