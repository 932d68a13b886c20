/-
  The tables of numbers of the library functions that the shelf tells of, at this dump, in plain words. Written by a program.
-/
import Derived.Test.YtkjghamibjampaaChecked
import Derived.Shelf.Bits.Mul64
namespace Go.Proofs.Ytkjghamibjampaa
open Go.Shelf

def Try.lays212_ren : Go.Shelf.Ren := ⟨fun | 212 => 54 | 263 => 58 | 264 => 59 | n => n, fun | 46 => 54 | 51 => 68 | 146 => 69 | 53 => 71 | 148 => 72 | n => n, fun | n => n⟩
theorem Try.lays212 : Go.Proofs.Lays.n212 Try.prog Try.lays212_ren := {
  mixed := by kernel_rfl
  f212 := Try.func54.trans (congrArg some (by kernel_rfl))
  f263 := Try.func58.trans (congrArg some (by kernel_rfl))
  f264 := Try.func59.trans (congrArg some (by kernel_rfl))
  t46 := Try.underlying54
  a46 := Try.isAgg54
  z46 := Try.sizeOf54
  v46 := Try.zeroValue54
  t51 := Try.underlying68
  a51 := Try.isAgg68
  z51 := Try.sizeOf68
  v51 := Try.zeroValue68
  t53 := Try.underlying71
  a53 := Try.isAgg71
  z53 := Try.sizeOf71
  v53 := Try.zeroValue71
  t146 := Try.underlying69
  a146 := Try.isAgg69
  z146 := Try.sizeOf69
  v146 := Try.zeroValue69
  t148 := Try.underlying72
  a148 := Try.isAgg72
  z148 := Try.sizeOf72
  v148 := Try.zeroValue72 }

end Go.Proofs.Ytkjghamibjampaa
