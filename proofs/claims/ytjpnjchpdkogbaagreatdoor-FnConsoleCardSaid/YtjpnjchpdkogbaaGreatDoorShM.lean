/- Parts of the proof of the card of the law FnConsole. -/
import Derived.Test.YtjpnjchpdkogbaaGreatDoorChecked
import Derived.Shelf.Bits.Mul64
namespace Go.Proofs.YtjpnjchpdkogbaaGreatDoor
open Go.Shelf
def Tryz.lays212_ren:Go.Shelf.Ren:=⟨fun | 212=>193 | 263=>239 | 264=>240 | n=>n,fun | 46=>122 | 51=>177 | 146=>178 | 53=>180 | 148=>181 | n=>n,fun | n=>n⟩
theorem Tryz.lays212:Go.Proofs.Lays.n212 Tryz.prog Tryz.lays212_ren:={
 mixed:=by kernel_rfl
 f212:=Tryz.func193.trans (congrArg some (by kernel_rfl))
 f263:=Tryz.func239.trans (congrArg some (by kernel_rfl))
 f264:=Tryz.func240.trans (congrArg some (by kernel_rfl))
 t46:=Tryz.underlying122
 a46:=Tryz.isAgg122
 z46:=Tryz.sizeOf122
 v46:=Tryz.zeroValue122
 t51:=Tryz.underlying177
 a51:=Tryz.isAgg177
 z51:=Tryz.sizeOf177
 v51:=Tryz.zeroValue177
 t53:=Tryz.underlying180
 a53:=Tryz.isAgg180
 z53:=Tryz.sizeOf180
 v53:=Tryz.zeroValue180
 t146:=Tryz.underlying178
 a146:=Tryz.isAgg178
 z146:=Tryz.sizeOf178
 v146:=Tryz.zeroValue178
 t148:=Tryz.underlying181
 a148:=Tryz.isAgg181
 z148:=Tryz.sizeOf181
 v148:=Tryz.zeroValue181 }
end Go.Proofs.YtjpnjchpdkogbaaGreatDoor
