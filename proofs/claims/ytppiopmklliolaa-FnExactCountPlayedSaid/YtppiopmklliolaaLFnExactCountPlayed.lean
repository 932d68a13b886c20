/-
  The law FnExactCountPlayed: the walk.
-/
import Derived.Test.YtppiopmklliolaaScoVals
namespace Go.Proofs.Ytppiopmklliolaa
open Go.RowKit
set_option linter.unusedVariables false
set_option linter.unusedSimpArgs false

set_option maxHeartbeats 400000 in
theorem law_FnExactCountPlayed (s : ByteArray) (hs : s.size ≤ maxLen) (w : World) :
    Calls Try.prog 4 #[.string s] w fun e w' => e = .returned (.bool true) ∧ Below w.heap.size w w' := by
  have HS := Lib.hid (fun V => spec_CountPlayed_any s V hs)
  have HI := Lib.hid (fun V => impl_CountPlayed_any s V hs)
  unfold maxLen at hs
  generalize cntP s = b at HS HI
  by_cases hbig : 1048576 < s.size
  · go_enter Try.func4, Try.ntmps4
    go_wp2
    go_ret
    exact ⟨rfl, Below.refl _ _⟩
  · have hs' : s.size ≤ 1048576 := by omega
    go_enter Try.func4, Try.ntmps4
    go_wp2_with (first
      | (go_at_call 11; refine (HS.out _).mono ?_; rintro e w1 ⟨rfl, hb⟩)
      | (go_at_call 12; refine (HI.out _).mono ?_; rintro e w2 ⟨rfl, hb2⟩))
    go_ret
    exact ⟨rfl, hb.trans (hb2.mono hb.size)⟩

end Go.Proofs.Ytppiopmklliolaa
