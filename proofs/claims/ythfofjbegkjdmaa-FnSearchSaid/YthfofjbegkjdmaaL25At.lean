/-
  The reference's list of steps with a number; FromSteps of the reference; RhythmFor of both.
-/
import Derived.Test.YthfofjbegkjdmaaWished
namespace Go.Proofs.Ythfofjbegkjdmaa
open Go.RowKit
set_option linter.unusedVariables false
set_option linter.unusedSimpArgs false

/-- A rhythm and a bool, the rhythm's beats in memory of the call's own. -/

theorem sumL_take_le : ∀ (l : List Int) (k : Nat), (∀ x ∈ l, 1 ≤ x) → sumL (l.take k) ≤ sumL l
  | [], k, _ => by simp
  | x :: l, 0, h => by
    have h1 := sumL_nonneg (x :: l) (fun y hy => by have := h y hy; omega)
    exact h1
  | x :: l, k + 1, h => by
    have := sumL_take_le l k (fun y hy => h y (by simp [hy]))
    rw [List.take_succ_cons]
    show x + sumL (l.take k) ≤ x + sumL l
    omega
theorem take_snocI (l : List Int) (k : Nat) (h : k < l.length) : l.take (k + 1) = l.take k ++ [l.getD k 0] := by
  rw [List.take_succ_eq_append_getElem h]
  simp [List.getD_eq_getElem?_getD, h]

end Go.Proofs.Ythfofjbegkjdmaa
