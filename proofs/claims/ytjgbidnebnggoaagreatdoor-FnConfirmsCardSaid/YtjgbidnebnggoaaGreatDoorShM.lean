/- Parts of the proof of the card of the law FnConfirms. -/
import Derived.Test.YtjgbidnebnggoaaGreatDoorChecked
import Derived.Shelf.Bits.Mul64
namespace Go.Proofs.YtjgbidnebnggoaaGreatDoor
open Go.Shelf
def Tryz.lays212_ren:Go.Shelf.Ren:=⟨fun | 212=>193 | 263=>243 | 264=>244 | n=>n,fun | 46=>52 | 51=>171 | 146=>184 | 53=>121 | 148=>186 | n=>n,fun | n=>n⟩
theorem Tryz.lays212:Go.Proofs.Lays.n212 Tryz.prog Tryz.lays212_ren:={
 mixed:=by kernel_rfl
 f212:=Tryz.func193.trans (congrArg some (by kernel_rfl))
 f263:=Tryz.func243.trans (congrArg some (by kernel_rfl))
 f264:=Tryz.func244.trans (congrArg some (by kernel_rfl))
 t46:=Tryz.underlying52
 a46:=Tryz.isAgg52
 z46:=Tryz.sizeOf52
 v46:=Tryz.zeroValue52
 t51:=Tryz.underlying171
 a51:=Tryz.isAgg171
 z51:=Tryz.sizeOf171
 v51:=Tryz.zeroValue171
 t53:=Tryz.underlying121
 a53:=Tryz.isAgg121
 z53:=Tryz.sizeOf121
 v53:=Tryz.zeroValue121
 t146:=Tryz.underlying184
 a146:=Tryz.isAgg184
 z146:=Tryz.sizeOf184
 v146:=Tryz.zeroValue184
 t148:=Tryz.underlying186
 a148:=Tryz.isAgg186
 z148:=Tryz.sizeOf186
 v148:=Tryz.zeroValue186 }
end Go.Proofs.YtjgbidnebnggoaaGreatDoor
