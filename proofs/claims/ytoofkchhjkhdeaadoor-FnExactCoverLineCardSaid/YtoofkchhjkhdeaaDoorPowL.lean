/-
  From a row's list of laid variables to the table of powers that FormatInt reads.
-/
import Derived.Test.YtoofkchhjkhdeaaDoorFmtI
import Derived.Lib.LaidTab
import Derived.Stop.LaidErr
import Derived.MakeChecks
namespace Go.Proofs.YtoofkchhjkhdeaaDoor
open Go.RowKit
set_option linter.unusedVariables false
set_option linter.unusedSimpArgs false

theorem pow_of_laid {W : World} : ∀ (laid : List (String × DataW Unit)) (i : Nat), laidMet Tryd.prog laid W → laid[i]? = some ("internal/strconv.uint64pow10", Lib.tabData .u64 Lib.pow10Tab) → Pow W
  | [], i, _, h => by simp at h
  | x :: r, 0, h, hi => by
    obtain rfl : x = _ := by simpa using hi
    exact Lib.tabIs_of_head (g := 2) (t := 61) (e := 50) (n := 20) (by kernel_rfl) (by kernel_rfl) Tryd.underlying61 Tryd.underlying50 (by kernel_rfl) (by kernel_rfl) h
  | x :: r, i + 1, h, hi => pow_of_laid r i h.tail (by simpa using hi)

theorem pow_row {W : World} {laid : List (String × DataW Unit)} (i : Nat) (h : laidMetH Tryd.prog laid W) (hp : (laid.all fun x => x.2.handleName?.isNone) = true) (hi : laid[i]? = some ("internal/strconv.uint64pow10", Lib.tabData .u64 Lib.pow10Tab)) : Pow W := by
  rw [MakeChecks.laidMetH_plain _ _ _ hp] at h
  exact pow_of_laid laid i h hi

end Go.Proofs.YtoofkchhjkhdeaaDoor
