/-
  The tables of numbers of the library functions that the shelf tells of, at this dump, in plain words. Written by a program.
-/
import Derived.Test.YthfjfhgeiggljaaChecked
import Derived.Shelf.Sort.Walk7aIn
import Derived.Shelf.Sort.So_math_bits_LenIn
namespace Go.Proofs.Ythfjfhgeiggljaa
open Go.Shelf

def Try.lays329_ren : Go.Shelf.Ren := ⟨fun | 329 => 32 | 125 => 14 | 128 => 27 | 129 => 28 | n => n, fun | 3 => 3 | 46 => 38 | 51 => 51 | 53 => 53 | 4 => 4 | 5 => 5 | 9 => 9 | n => n, fun | n => n⟩
theorem Try.lays329 : Go.Proofs.Lays.n329 Try.prog Try.lays329_ren := {
  mixed := by kernel_rfl
  f125 := Try.func14.trans (congrArg some (by kernel_rfl))
  f128 := Try.func27.trans (congrArg some (by kernel_rfl))
  f129 := Try.func28.trans (congrArg some (by kernel_rfl))
  f329 := Try.func32.trans (congrArg some (by kernel_rfl))
  t3 := Try.underlying3
  a3 := Try.isAgg3
  z3 := Try.sizeOf3
  v3 := Try.zeroValue3
  t4 := Try.underlying4
  a4 := Try.isAgg4
  z4 := Try.sizeOf4
  v4 := Try.zeroValue4
  t5 := Try.underlying5
  a5 := Try.isAgg5
  z5 := Try.sizeOf5
  v5 := Try.zeroValue5
  t9 := Try.underlying9
  a9 := Try.isAgg9
  z9 := Try.sizeOf9
  v9 := Try.zeroValue9
  t46 := Try.underlying38
  a46 := Try.isAgg38
  z46 := Try.sizeOf38
  v46 := Try.zeroValue38
  t51 := Try.underlying51
  a51 := Try.isAgg51
  z51 := Try.sizeOf51
  v51 := Try.zeroValue51
  t53 := Try.underlying53
  a53 := Try.isAgg53
  z53 := Try.sizeOf53
  v53 := Try.zeroValue53 }
def Try.lays330_ren : Go.Shelf.Ren := ⟨fun | 330 => 33 | n => n, fun | 228 => 68 | 53 => 53 | 0 => 0 | 218 => 57 | 46 => 38 | n => n, fun | n => n⟩
theorem Try.lays330 : Go.Proofs.Lays.n330 Try.prog Try.lays330_ren := {
  mixed := by kernel_rfl
  f330 := Try.func33.trans (congrArg some (by kernel_rfl))
  t0 := Try.underlying0
  a0 := Try.isAgg0
  z0 := Try.sizeOf0
  v0 := Try.zeroValue0
  t46 := Try.underlying38
  a46 := Try.isAgg38
  z46 := Try.sizeOf38
  v46 := Try.zeroValue38
  t53 := Try.underlying53
  a53 := Try.isAgg53
  z53 := Try.sizeOf53
  v53 := Try.zeroValue53
  t218 := Try.underlying57
  a218 := Try.isAgg57
  z218 := Try.sizeOf57
  v218 := Try.zeroValue57
  t228 := Try.underlying68
  a228 := Try.isAgg68
  z228 := Try.sizeOf68
  v228 := Try.zeroValue68 }
def Try.lays125_ren : Go.Shelf.Ren := ⟨fun | 125 => 14 | 128 => 27 | 129 => 28 | n => n, fun | 46 => 38 | 3 => 3 | 51 => 51 | 53 => 53 | 4 => 4 | 5 => 5 | 9 => 9 | n => n, fun | n => n⟩
theorem Try.lays125 : Go.Proofs.Lays.n125 Try.prog Try.lays125_ren := {
  mixed := by kernel_rfl
  f125 := Try.func14.trans (congrArg some (by kernel_rfl))
  f128 := Try.func27.trans (congrArg some (by kernel_rfl))
  f129 := Try.func28.trans (congrArg some (by kernel_rfl))
  t3 := Try.underlying3
  a3 := Try.isAgg3
  z3 := Try.sizeOf3
  v3 := Try.zeroValue3
  t4 := Try.underlying4
  a4 := Try.isAgg4
  z4 := Try.sizeOf4
  v4 := Try.zeroValue4
  t5 := Try.underlying5
  a5 := Try.isAgg5
  z5 := Try.sizeOf5
  v5 := Try.zeroValue5
  t9 := Try.underlying9
  a9 := Try.isAgg9
  z9 := Try.sizeOf9
  v9 := Try.zeroValue9
  t46 := Try.underlying38
  a46 := Try.isAgg38
  z46 := Try.sizeOf38
  v46 := Try.zeroValue38
  t51 := Try.underlying51
  a51 := Try.isAgg51
  z51 := Try.sizeOf51
  v51 := Try.zeroValue51
  t53 := Try.underlying53
  a53 := Try.isAgg53
  z53 := Try.sizeOf53
  v53 := Try.zeroValue53 }

end Go.Proofs.Ythfjfhgeiggljaa
