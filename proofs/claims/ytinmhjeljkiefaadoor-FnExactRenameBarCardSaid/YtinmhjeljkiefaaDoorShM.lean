/-
  The tables of numbers of the library functions that the shelf tells of, at this dump, in plain words. Written by a program.
-/
import Derived.Test.YtinmhjeljkiefaaDoorChecked
import Derived.Shelf.Bits.Mul64
namespace Go.Proofs.YtinmhjeljkiefaaDoor
open Go.Shelf

def Tryd.lays212_ren : Go.Shelf.Ren := ⟨fun | 212 => 100 | 263 => 113 | 264 => 114 | n => n, fun | 46 => 113 | 51 => 131 | 146 => 132 | 53 => 125 | 148 => 134 | n => n, fun | n => n⟩
theorem Tryd.lays212 : Go.Proofs.Lays.n212 Tryd.prog Tryd.lays212_ren := {
  mixed := by kernel_rfl
  f212 := Tryd.func100.trans (congrArg some (by kernel_rfl))
  f263 := Tryd.func113.trans (congrArg some (by kernel_rfl))
  f264 := Tryd.func114.trans (congrArg some (by kernel_rfl))
  t46 := Tryd.underlying113
  a46 := Tryd.isAgg113
  z46 := Tryd.sizeOf113
  v46 := Tryd.zeroValue113
  t51 := Tryd.underlying131
  a51 := Tryd.isAgg131
  z51 := Tryd.sizeOf131
  v51 := Tryd.zeroValue131
  t53 := Tryd.underlying125
  a53 := Tryd.isAgg125
  z53 := Tryd.sizeOf125
  v53 := Tryd.zeroValue125
  t146 := Tryd.underlying132
  a146 := Tryd.isAgg132
  z146 := Tryd.sizeOf132
  v146 := Tryd.zeroValue132
  t148 := Tryd.underlying134
  a148 := Tryd.isAgg134
  z148 := Tryd.sizeOf134
  v148 := Tryd.zeroValue134 }

end Go.Proofs.YtinmhjeljkiefaaDoor
