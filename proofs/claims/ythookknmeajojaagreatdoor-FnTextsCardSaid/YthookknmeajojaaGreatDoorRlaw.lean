/-
  The laws' own helpers on rhythms: how many cells, a copy, equality.
-/
import Derived.Test.YthookknmeajojaaGreatDoorTab
import Derived.Deep.Light
import Derived.Deep.QuietTactic
import Derived.BigQuiet
namespace Go.Proofs.YthookknmeajojaaGreatDoor
open Go.RowKit
set_option linter.unusedVariables false
set_option linter.unusedSimpArgs false


theorem Tab.ints {w : World} {b : Nat} {xs : List Int} {B : Nat} (h : Tab w b xs.length (fun t => xs.getD t 0)) (hB : b < B) (hl : xs.length ≤ maxLen) (hf : ∀ x ∈ xs, Fits x) : Ints w B (some ⟨b, 0, none⟩) xs :=
  ⟨hl, hf, fun _ => ⟨b, 0, rfl, hB, fun i hi => by rw [Nat.zero_add]; exact (h.2 i hi).1⟩⟩

def eqB (xs ys : List Int) : Bool := decide (xs = ys)
theorem eqB_self (xs : List Int) : eqB xs xs = true := by simp [eqB]
theorem eqB_len {xs ys : List Int} (h : xs.length ≠ ys.length) : eqB xs ys = false := by
  unfold eqB; rw [decide_eq_false_iff_not]; exact fun e => h (by rw [e])
theorem eqB_at {xs ys : List Int} {k : Nat} (h : xs.getD k 0 ≠ ys.getD k 0) : eqB xs ys = false := by
  unfold eqB; rw [decide_eq_false_iff_not]; exact fun e => h (by rw [e])
theorem eqB_all {xs ys : List Int} (hl : xs.length = ys.length) (h : ∀ i, i < xs.length → xs.getD i 0 = ys.getD i 0) : eqB xs ys = true := by
  unfold eqB; rw [decide_eq_true_eq]
  refine List.ext_getElem hl fun i h1 h2 => ?_
  have := h i h1
  simpa [List.getD_eq_getElem?_getD, h1, h2] using this

end Go.Proofs.YthookknmeajojaaGreatDoor
