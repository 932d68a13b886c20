/-
  The law FnExactFirstFull: FirstFull of both; the walk.
-/
import Derived.Test.YtlejlcnemibgiaaGreatFirst
import Derived.Test.YtlejlcnemibgiaaGreatMark
namespace Go.Proofs.YtlejlcnemibgiaaGreat
open Go.RowKit
set_option linter.unusedVariables false
set_option linter.unusedSimpArgs false

def ffN (k : Int) : Int := if k = 1 then 2 else if k = 2 then 4 else if k = 3 then 8 else if k = 4 then 16 else 0
def ffL (k : Int) : List Int := if k = 1 then bitsB 2 2 2 else if k = 2 then bitsB 4 12 4 else if k = 3 then bitsB 8 232 8 else if k = 4 then bitsB 16 63056 16 else []
def ffO (k : Int) : Bool := inB k 1 4
theorem ff_out {k : Int} (hk : inB k 1 4 = false) : ffN k = 0 ∧ ffL k = [] ∧ ffO k = false := by
  have h : ¬ (1 ≤ k ∧ k ≤ 4) := fun h => by rw [inB_true h] at hk; cases hk
  unfold ffN ffL ffO
  refine ⟨?_, ?_, hk⟩ <;> rw [if_neg (by omega), if_neg (by omega), if_neg (by omega), if_neg (by omega)]
theorem ffL_fits (k : Int) : ∀ x ∈ ffL k, Fits x := by
  have hb : ∀ n c, n ≤ 16 → ∀ x ∈ bitsB n c n, Fits x := fun n c hn x hx => by
    obtain ⟨p, hp, _, rfl⟩ := bitsB_mem.1 hx
    unfold Fits
    omega
  unfold ffL
  split
  · exact hb _ _ (by omega)
  split
  · exact hb _ _ (by omega)
  split
  · exact hb _ _ (by omega)
  split
  · exact hb _ _ (by omega)
  · intro x hx; cases hx

end Go.Proofs.YtlejlcnemibgiaaGreat
