/-
  The tables of numbers of the library functions that the shelf tells of, at this dump, in plain words. Written by a program.
-/
import Derived.Test.YtbmnebmlnmccpaaGreatDoorChecked
import Derived.Shelf.Bits.Mul64
namespace Go.Proofs.YtbmnebmlnmccpaaGreatDoor
open Go.Shelf

def Tryz.lays212_ren : Go.Shelf.Ren := ⟨fun | 212 => 51 | 263 => 64 | 264 => 65 | n => n, fun | 46 => 60 | 51 => 72 | 146 => 73 | 53 => 75 | 148 => 76 | n => n, fun | n => n⟩
theorem Tryz.lays212 : Go.Proofs.Lays.n212 Tryz.prog Tryz.lays212_ren := {
  mixed := by kernel_rfl
  f212 := Tryz.func51.trans (congrArg some (by kernel_rfl))
  f263 := Tryz.func64.trans (congrArg some (by kernel_rfl))
  f264 := Tryz.func65.trans (congrArg some (by kernel_rfl))
  t46 := Tryz.underlying60
  a46 := Tryz.isAgg60
  z46 := Tryz.sizeOf60
  v46 := Tryz.zeroValue60
  t51 := Tryz.underlying72
  a51 := Tryz.isAgg72
  z51 := Tryz.sizeOf72
  v51 := Tryz.zeroValue72
  t53 := Tryz.underlying75
  a53 := Tryz.isAgg75
  z53 := Tryz.sizeOf75
  v53 := Tryz.zeroValue75
  t146 := Tryz.underlying73
  a146 := Tryz.isAgg73
  z146 := Tryz.sizeOf73
  v146 := Tryz.zeroValue73
  t148 := Tryz.underlying76
  a148 := Tryz.isAgg76
  z148 := Tryz.sizeOf76
  v148 := Tryz.zeroValue76 }

end Go.Proofs.YtbmnebmlnmccpaaGreatDoor
