/-
  The law FnExactRenameBar: the walk.
-/
import Derived.Test.YtinmhjeljkiefaaDoorRen
namespace Go.Proofs.YtinmhjeljkiefaaDoor
open Go.RowKit
set_option linter.unusedVariables false
set_option linter.unusedSimpArgs false

set_option maxHeartbeats 400000 in
theorem law_FnExactRenameBar {w : World} (s : ByteArray) (hs : s.size ≤ maxLen) (a : ByteArray) (ha : a.size ≤ maxLen) (b : ByteArray) (hb : b.size ≤ maxLen) (hM : MaxL w) :
    Calls Tryd.prog 3 #[.string s, .string a, .string b] w fun e w' => e = .returned (.bool true) ∧ Below w.heap.size w w' := by
  unfold maxLen at hs ha hb
  by_cases h1 : 1048576 < s.size
  · go_enter Tryd.func3, Tryd.ntmps3
    go_wp2
    go_ret
    exact ⟨rfl, Below.refl _ _⟩
  by_cases h2 : 1048576 < a.size
  · go_enter Tryd.func3, Tryd.ntmps3
    go_wp2
    go_ret
    exact ⟨rfl, Below.refl _ _⟩
  by_cases h3 : 1048576 < b.size
  · go_enter Tryd.func3, Tryd.ntmps3
    go_wp2
    go_ret
    exact ⟨rfl, Below.refl _ _⟩
  have HS := Lib.hid (fun V => spec_RenameBar_any s a b V (by omega) (by omega) (by omega))
  have HI := Lib.hid (fun V => impl_RenameBar_any s a b V (by omega) (by omega) (by omega))
  have HM := Lib.hid hM
  generalize mkS (renV s a b) = x at HS HI
  generalize renOk s a b = ok at HS HI
  clear hM
  go_enter Tryd.func3, Tryd.ntmps3
  go_wp2_with (first
    | (go_at_call 8; refine (HS.out _).mono ?_; rintro e w1 ⟨rfl, hb⟩)
    | (go_at_call 9; refine (HI.out _ (HM.out.below hb)).mono ?_; rintro e w2 ⟨rfl, hb2⟩))
  go_ret
  exact ⟨rfl, hb.trans (hb2.mono hb.size)⟩

end Go.Proofs.YtinmhjeljkiefaaDoor
