/-
  The tables of numbers of the library functions that the shelf tells of, at this dump, in plain words. Written by a program.
-/
import Derived.Test.YtppiopmklliolaaChecked
import Derived.Shelf.Bits.Mul64
namespace Go.Proofs.Ytppiopmklliolaa
open Go.Shelf

def Try.lays212_ren : Go.Shelf.Ren := ⟨fun | 212 => 31 | 263 => 32 | 264 => 33 | n => n, fun | 46 => 42 | 51 => 45 | 146 => 46 | 53 => 48 | 148 => 49 | n => n, fun | n => n⟩
theorem Try.lays212 : Go.Proofs.Lays.n212 Try.prog Try.lays212_ren := {
  mixed := by kernel_rfl
  f212 := Try.func31.trans (congrArg some (by kernel_rfl))
  f263 := Try.func32.trans (congrArg some (by kernel_rfl))
  f264 := Try.func33.trans (congrArg some (by kernel_rfl))
  t46 := Try.underlying42
  a46 := Try.isAgg42
  z46 := Try.sizeOf42
  v46 := Try.zeroValue42
  t51 := Try.underlying45
  a51 := Try.isAgg45
  z51 := Try.sizeOf45
  v51 := Try.zeroValue45
  t53 := Try.underlying48
  a53 := Try.isAgg48
  z53 := Try.sizeOf48
  v53 := Try.zeroValue48
  t146 := Try.underlying46
  a146 := Try.isAgg46
  z146 := Try.sizeOf46
  v146 := Try.zeroValue46
  t148 := Try.underlying49
  a148 := Try.isAgg49
  z148 := Try.sizeOf49
  v148 := Try.zeroValue49 }

end Go.Proofs.Ytppiopmklliolaa
