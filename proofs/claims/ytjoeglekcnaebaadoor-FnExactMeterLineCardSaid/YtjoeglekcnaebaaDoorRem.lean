/-
  The remainder that is never below zero.
-/
import Derived.Test.YtjoeglekcnaebaaDoorIntW
namespace Go.Proofs.YtjoeglekcnaebaaDoor
open Go.RowKit
set_option linter.unusedVariables false
set_option linter.unusedSimpArgs false

theorem rem_emod (k n : Int) : (k.tmod n + n) % n = k % n := by
  rw [Int.add_emod_right]
  have e := Int.mul_tdiv_add_tmod k n
  have : k.tmod n = k - n * k.tdiv n := by omega
  rw [this, Int.sub_mul_emod_self_left]

end Go.Proofs.YtjoeglekcnaebaaDoor
