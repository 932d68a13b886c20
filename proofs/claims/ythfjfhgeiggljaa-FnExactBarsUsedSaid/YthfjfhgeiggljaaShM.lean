/-
  The tables of numbers of the library functions that the shelf tells of, at this dump, in plain words. Written by a program.
-/
import Derived.Test.YthfjfhgeiggljaaChecked
import Derived.Shelf.Bits.Mul64
namespace Go.Proofs.Ythfjfhgeiggljaa
open Go.Shelf

def Try.lays212_ren : Go.Shelf.Ren := ⟨fun | 212 => 30 | 263 => 37 | 264 => 38 | n => n, fun | 46 => 38 | 51 => 51 | 146 => 64 | 53 => 53 | 148 => 66 | n => n, fun | n => n⟩
theorem Try.lays212 : Go.Proofs.Lays.n212 Try.prog Try.lays212_ren := {
  mixed := by kernel_rfl
  f212 := Try.func30.trans (congrArg some (by kernel_rfl))
  f263 := Try.func37.trans (congrArg some (by kernel_rfl))
  f264 := Try.func38.trans (congrArg some (by kernel_rfl))
  t46 := Try.underlying38
  a46 := Try.isAgg38
  z46 := Try.sizeOf38
  v46 := Try.zeroValue38
  t51 := Try.underlying51
  a51 := Try.isAgg51
  z51 := Try.sizeOf51
  v51 := Try.zeroValue51
  t53 := Try.underlying53
  a53 := Try.isAgg53
  z53 := Try.sizeOf53
  v53 := Try.zeroValue53
  t146 := Try.underlying64
  a146 := Try.isAgg64
  z146 := Try.sizeOf64
  v146 := Try.zeroValue64
  t148 := Try.underlying66
  a148 := Try.isAgg66
  z148 := Try.sizeOf66
  v148 := Try.zeroValue66 }

end Go.Proofs.Ythfjfhgeiggljaa
