/-
  From a row's list of laid variables to the table that bits.TrailingZeros reads.
-/
import Derived.Test.YtoofkchhjkhdeaaDoorCovB
import Derived.Lib.LaidTab
import Derived.Stop.LaidErr
import Derived.MakeChecks
namespace Go.Proofs.YtoofkchhjkhdeaaDoor
open Go.RowKit Go.Shelf
set_option linter.unusedVariables false
set_option linter.unusedSimpArgs false

theorem deb_is {W : World} (h : Lib.TabIs Tryd.prog W "math/bits.deBruijn64tab" .u8 (Lib.deBruijn64tab.map Int.ofNat)) : DeB W := by
  have hg : Tryd.prog.globalNamed "math/bits.deBruijn64tab" = some 1 := by kernel_rfl
  have hc : ∀ j, j < Lib.deBruijn64tab.length → W.cell? ⟨1, j, none⟩ = some (.int .u8 (Lib.deBruijn64tab.getD j 0)) := fun j hj => by
    rw [World.var?_cell hg h j, List.getElem?_toArray, List.getElem?_map, List.getElem?_map, List.getElem?_eq_getElem hj, List.getD_eq_getElem?_getD, List.getElem?_eq_getElem hj]
    rfl
  exact ⟨World.block_lt_of_cell? W _ (hc 0 (by decide)), hc⟩

theorem deb_of_laid {W : World} : ∀ (laid : List (String × DataW Unit)) (i : Nat), laidMet Tryd.prog laid W → laid[i]? = some ("math/bits.deBruijn64tab", Lib.tabData .u8 (Lib.deBruijn64tab.map Int.ofNat)) → DeB W
  | [], i, _, h => by simp at h
  | x :: r, 0, h, hi => by
    obtain rfl : x = _ := by simpa using hi
    exact deb_is (Lib.tabIs_of_head (g := 1) (t := 54) (e := 5) (n := 64) (by kernel_rfl) (by kernel_rfl) Tryd.underlying54 Tryd.underlying5 (by kernel_rfl) (by kernel_rfl) h)
  | x :: r, i + 1, h, hi => deb_of_laid r i h.tail (by simpa using hi)

theorem deb_row {W : World} {laid : List (String × DataW Unit)} (i : Nat) (h : laidMetH Tryd.prog laid W) (hp : (laid.all fun x => x.2.handleName?.isNone) = true) (hi : laid[i]? = some ("math/bits.deBruijn64tab", Lib.tabData .u8 (Lib.deBruijn64tab.map Int.ofNat))) : DeB W := by
  rw [MakeChecks.laidMetH_plain _ _ _ hp] at h
  exact deb_of_laid laid i h hi

end Go.Proofs.YtoofkchhjkhdeaaDoor
