/-
  The reference's count of lists of steps, by recursion; CountFor of the reference.
-/
import Derived.Test.YthfofjbegkjdmaaSteps
namespace Go.Proofs.Ythfofjbegkjdmaa
open Go.RowKit
set_option linter.unusedVariables false
set_option linter.unusedSimpArgs false

/-- The number of steps that may be taken. -/
def width (lo hi : Int) : Nat := (hi + 1 - lo).toNat

/-- The sum of the first i summands. -/
def stS (lo : Int) (m k : Nat) (n : Int) (i : Nat) : Int := sumR (fun i => stN lo m k (n - (lo + i))) i
theorem stS_succ (lo : Int) (m k : Nat) (n : Int) (i : Nat) : stS lo m k n (i + 1) = stS lo m k n i + stN lo m k (n - (lo + i)) := rfl
theorem stS_all (lo : Int) (m k : Nat) (n : Int) : stS lo m k n m = stN lo m (k + 1) n := rfl
theorem stS_bound (lo : Int) (m k : Nat) (n : Int) (hlo : 1 ≤ lo) (hn : n ≤ 16) : ∀ i, 0 ≤ stS lo m k n i ∧ stS lo m k n i ≤ 65536 * i
  | 0 => by simp [stS, sumR]
  | i + 1 => by
    have h := stS_bound lo m k n hlo hn i
    have h1 := stN_nonneg lo m k (n - (lo + i))
    have h2 := stN_small lo m hlo k (n - (lo + i)) (by omega)
    rw [stS_succ]
    omega


end Go.Proofs.Ythfofjbegkjdmaa
