/-
  The tables of numbers of the library functions that the shelf tells of, at this dump, in plain words. Written by a program.
-/
import Derived.Test.YtoofkchhjkhdeaaDoorChecked
import Derived.Shelf.Spec.TrailingZeros
namespace Go.Proofs.YtoofkchhjkhdeaaDoor
open Go.Shelf

def Tryd.lays27_ren : Go.Shelf.Ren := ⟨fun | 27 => 32 | 28 => 41 | 29 => 42 | n => n, fun | 25 => 44 | 3 => 3 | 27 => 48 | 22 => 50 | 4 => 4 | 53 => 53 | 0 => 0 | 5 => 5 | 54 => 54 | n => n, fun | 0 => 0 | 1 => 1 | n => n⟩
theorem Tryd.lays27 : Go.Proofs.Lays7.n27 Tryd.prog Tryd.lays27_ren := {
  mixed := by kernel_rfl
  f27 := Tryd.func32.trans (congrArg some (by kernel_rfl))
  f28 := Tryd.func41.trans (congrArg some (by kernel_rfl))
  f29 := Tryd.func42.trans (congrArg some (by kernel_rfl))
  t0 := Tryd.underlying0
  a0 := Tryd.isAgg0
  z0 := Tryd.sizeOf0
  v0 := Tryd.zeroValue0
  i0 := by kernel_rfl
  t3 := Tryd.underlying3
  a3 := Tryd.isAgg3
  z3 := Tryd.sizeOf3
  v3 := Tryd.zeroValue3
  i3 := by kernel_rfl
  t4 := Tryd.underlying4
  a4 := Tryd.isAgg4
  z4 := Tryd.sizeOf4
  v4 := Tryd.zeroValue4
  i4 := by kernel_rfl
  t5 := Tryd.underlying5
  a5 := Tryd.isAgg5
  z5 := Tryd.sizeOf5
  v5 := Tryd.zeroValue5
  i5 := by kernel_rfl
  t22 := Tryd.underlying50
  a22 := Tryd.isAgg50
  z22 := Tryd.sizeOf50
  v22 := Tryd.zeroValue50
  i22 := by kernel_rfl
  t25 := Tryd.underlying44
  a25 := Tryd.isAgg44
  z25 := Tryd.sizeOf44
  v25 := Tryd.zeroValue44
  i25 := by kernel_rfl
  t27 := Tryd.underlying48
  a27 := Tryd.isAgg48
  z27 := Tryd.sizeOf48
  v27 := Tryd.zeroValue48
  i27 := by kernel_rfl
  t53 := Tryd.underlying53
  a53 := Tryd.isAgg53
  z53 := Tryd.sizeOf53
  v53 := Tryd.zeroValue53
  i53 := by kernel_rfl
  t54 := Tryd.underlying54
  a54 := Tryd.isAgg54
  z54 := Tryd.sizeOf54
  g0 := by kernel_rfl
  g1 := by kernel_rfl }

end Go.Proofs.YtoofkchhjkhdeaaDoor
