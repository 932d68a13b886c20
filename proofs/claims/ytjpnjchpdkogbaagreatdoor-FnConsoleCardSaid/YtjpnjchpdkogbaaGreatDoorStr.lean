/- Parts of the proof of the card of the law FnConsole. -/
import Derived.Test.YtjpnjchpdkogbaaGreatDoorG01
import Derived.Lib.SmallJoins
import Derived.Lib.Strings
import Derived.Deep.Light
set_option linter.unusedVariables false
set_option linter.unusedSimpArgs false
namespace Go.Proofs.YtjpnjchpdkogbaaGreatDoor
open Go.RowKit
def Str (t:ByteArray)(l:List UInt8):Prop:=t.data.toList=l
def mkS (l:List UInt8):ByteArray:=⟨l.toArray⟩
theorem Str.eq {t:ByteArray}{l:List UInt8}(h:Str t l):t=mkS l:=by
 unfold Str at h;unfold mkS
 subst h
 obtain ⟨d⟩:=t
 simp
theorem za9 (l:List UInt8):Str (mkS l) l:=by simp [Str,mkS]
theorem zq0 (s:ByteArray):Str s s.data.toList:=rfl
theorem Str.app {t u:ByteArray}{l m:List UInt8}(h:Str t l)(h':Str u m):Str (t++u) (l++m):=by
 unfold Str at *
 rw [Joins.data_append,h,h']
theorem zgy (s:ByteArray)(k:Nat)(h:k<s.size):Str (s.extract k (k+1)) [s[k]]:=by
 unfold Str
 rw [Lib.extract_data,show k+1-k=1 by omega]
 have hk:k<s.data.toList.length:=by simpa using h
 rw [List.drop_eq_getElem_cons hk]
 simp
 rfl
theorem Str.size {t:ByteArray}{l:List UInt8}(h:Str t l):t.size=l.length:=by
 unfold Str at h;subst h;simp
theorem za2 (l:List UInt8):(mkS l).size=l.length:=(za9 l).size
theorem zbw {a b:ByteArray}(h:a=b):Ending.returned (.string a) = .returned (.string b):=by rw [h]
end Go.Proofs.YtjpnjchpdkogbaaGreatDoor
