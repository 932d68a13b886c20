/-
  A window of a rhythm as a text, by the reference; a number in a list.
-/
import Derived.Test.YtoofkchhjkhdeaaDoorStr
import Derived.Test.YtoofkchhjkhdeaaDoorTab
namespace Go.Proofs.YtoofkchhjkhdeaaDoor
open Go.RowKit
set_option linter.unusedVariables false
set_option linter.unusedSimpArgs false

def hasB (xs : List Int) (x : Int) : Bool := decide (x ∈ xs)
theorem hasB_yes {xs : List Int} {x : Int} {i : Nat} (hi : i < xs.length) (h : xs.getD i 0 = x) : hasB xs x = true := by
  unfold hasB
  rw [decide_eq_true_eq, ← h, List.getD_eq_getElem?_getD, List.getElem?_eq_getElem hi]
  exact List.getElem_mem hi
theorem hasB_no {xs : List Int} {x : Int} (h : ∀ i, i < xs.length → xs.getD i 0 ≠ x) : hasB xs x = false := by
  unfold hasB
  rw [decide_eq_false_iff_not]
  intro hm
  obtain ⟨i, hi, he⟩ := List.getElem_of_mem hm
  refine h i hi ?_
  rw [List.getD_eq_getElem?_getD, List.getElem?_eq_getElem hi]
  exact he

theorem Calls.quiet_of_left {P : Program} {f : FuncId} {args : Array Value} {w : World} {n : Nat} {v : Value}
    (h : Calls P f args (w.drewN n) fun e w' => e = .returned v ∧ w.drewN n = w') : Calls P f args (w.drewN n) fun e w'' => e = .returned v ∧ ∃ m, w'' = w.drewN m :=
  h.mono fun _ _ ⟨he, hm⟩ => ⟨he, n, hm.symm⟩

/-- The window of k pulses that begins on p. -/
def winL (n : Int) (bs : List Int) (p k : Nat) : List UInt8 := (List.range k).map fun i => if hasB bs (((p + i : Nat) : Int) % n) then 120 else 46
theorem winL_zero (n : Int) (bs : List Int) (p : Nat) : winL n bs p 0 = [] := rfl
theorem winL_succ (n : Int) (bs : List Int) (p k : Nat) : winL n bs p (k + 1) = winL n bs p k ++ [if hasB bs (((p + k : Nat) : Int) % n) then 120 else 46] := by simp [winL, List.range_succ]
theorem winL_len (n : Int) (bs : List Int) (p k : Nat) : (winL n bs p k).length = k := by simp [winL]

end Go.Proofs.YtoofkchhjkhdeaaDoor
