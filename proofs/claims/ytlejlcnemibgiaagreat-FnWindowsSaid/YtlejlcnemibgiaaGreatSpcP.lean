/-
  The reference's sameness of beats and its period.
-/
import Derived.Test.YtlejlcnemibgiaaGreatWzC
namespace Go.Proofs.YtlejlcnemibgiaaGreat
open Go.RowKit
set_option linter.unusedVariables false
set_option linter.unusedSimpArgs false

theorem eqB_no {xs ys : List Int} {i : Nat} (h : xs.getD i 0 ≠ ys.getD i 0) : eqB xs ys = false := by
  unfold eqB
  rw [decide_eq_false_iff_not]
  intro e
  exact h (by rw [e])
theorem eqB_yes {xs ys : List Int} (hl : xs.length = ys.length) (h : ∀ i, i < xs.length → xs.getD i 0 = ys.getD i 0) : eqB xs ys = true := by
  unfold eqB
  rw [decide_eq_true_eq]
  refine List.ext_getElem hl fun i h1 h2 => ?_
  have := h i h1
  rw [List.getD_eq_getElem?_getD, List.getD_eq_getElem?_getD, List.getElem?_eq_getElem h1, List.getElem?_eq_getElem h2] at this
  exact this

end Go.Proofs.YtlejlcnemibgiaaGreat
