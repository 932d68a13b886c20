/-
  Strings as lists of bytes, behind names that the walk does not open.
-/
import Derived.Test.YtoofkchhjkhdeaaDoorIntW
import Derived.Lib.SmallJoins
import Derived.Lib.Strings
import Derived.Deep.Light
namespace Go.Proofs.YtoofkchhjkhdeaaDoor
open Go.RowKit
set_option linter.unusedVariables false
set_option linter.unusedSimpArgs false

def Str (t : ByteArray) (l : List UInt8) : Prop := t.data.toList = l
def mkS (l : List UInt8) : ByteArray := ⟨l.toArray⟩
theorem Str.eq {t : ByteArray} {l : List UInt8} (h : Str t l) : t = mkS l := by
  unfold Str at h; unfold mkS
  subst h
  obtain ⟨d⟩ := t
  simp
theorem str_mk (l : List UInt8) : Str (mkS l) l := by simp [Str, mkS]
theorem str_self (s : ByteArray) : Str s s.data.toList := rfl
theorem Str.app {t u : ByteArray} {l m : List UInt8} (h : Str t l) (h' : Str u m) : Str (t ++ u) (l ++ m) := by
  unfold Str at *
  rw [Joins.data_append, h, h']
theorem str_one (c : UInt8) : Str ⟨#[c]⟩ [c] := rfl
theorem str_nil : Str ⟨#[]⟩ [] := rfl
theorem str_at (s : ByteArray) (k : Nat) (h : k < s.size) : Str (s.extract k (k + 1)) [s[k]] := by
  unfold Str
  rw [Lib.extract_data, show k + 1 - k = 1 by omega]
  have hk : k < s.data.toList.length := by simpa using h
  rw [List.drop_eq_getElem_cons hk]
  simp
  rfl
theorem Str.size {t : ByteArray} {l : List UInt8} (h : Str t l) : t.size = l.length := by
  unfold Str at h; subst h; simp
theorem mkS_size (l : List UInt8) : (mkS l).size = l.length := (str_mk l).size
theorem mkS_inj {l m : List UInt8} (h : mkS l = mkS m) : l = m := by
  have := congrArg (fun t => t.data.toList) h
  simpa [mkS] using this
theorem take_snoc (s : ByteArray) (k : Nat) (h : k < s.size) : s.data.toList.take (k + 1) = s.data.toList.take k ++ [s[k]] := by
  rw [List.take_succ_eq_append_getElem (by simpa using h)]; rfl
theorem take_all (s : ByteArray) (k : Nat) (h : s.size ≤ k) : s.data.toList.take k = s.data.toList := List.take_of_length_le (by simp; omega)
theorem ret_str {a b : ByteArray} (h : a = b) : Ending.returned (.string a) = .returned (.string b) := by rw [h]

end Go.Proofs.YtoofkchhjkhdeaaDoor
