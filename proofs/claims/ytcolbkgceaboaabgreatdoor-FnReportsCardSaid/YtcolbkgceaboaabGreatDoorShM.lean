/-
  The tables of numbers of the library functions that the shelf tells of, at this dump, in plain words. Written by a program.
-/
import Derived.Test.YtcolbkgceaboaabGreatDoorChecked
import Derived.Shelf.Bits.Mul64
namespace Go.Proofs.YtcolbkgceaboaabGreatDoor
open Go.Shelf

def Tryz.lays212_ren : Go.Shelf.Ren := ⟨fun | 212 => 62 | 263 => 81 | 264 => 82 | n => n, fun | 46 => 71 | 51 => 102 | 146 => 103 | 53 => 97 | 148 => 105 | n => n, fun | n => n⟩
theorem Tryz.lays212 : Go.Proofs.Lays.n212 Tryz.prog Tryz.lays212_ren := {
  mixed := by kernel_rfl
  f212 := Tryz.func62.trans (congrArg some (by kernel_rfl))
  f263 := Tryz.func81.trans (congrArg some (by kernel_rfl))
  f264 := Tryz.func82.trans (congrArg some (by kernel_rfl))
  t46 := Tryz.underlying71
  a46 := Tryz.isAgg71
  z46 := Tryz.sizeOf71
  v46 := Tryz.zeroValue71
  t51 := Tryz.underlying102
  a51 := Tryz.isAgg102
  z51 := Tryz.sizeOf102
  v51 := Tryz.zeroValue102
  t53 := Tryz.underlying97
  a53 := Tryz.isAgg97
  z53 := Tryz.sizeOf97
  v53 := Tryz.zeroValue97
  t146 := Tryz.underlying103
  a146 := Tryz.isAgg103
  z146 := Tryz.sizeOf103
  v146 := Tryz.zeroValue103
  t148 := Tryz.underlying105
  a148 := Tryz.isAgg105
  z148 := Tryz.sizeOf105
  v148 := Tryz.zeroValue105 }

end Go.Proofs.YtcolbkgceaboaabGreatDoor
