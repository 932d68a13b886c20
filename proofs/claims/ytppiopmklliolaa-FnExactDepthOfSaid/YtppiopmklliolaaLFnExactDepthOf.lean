/-
  The law FnExactDepthOf: the walk.
-/
import Derived.Test.YtppiopmklliolaaScoW
namespace Go.Proofs.Ytppiopmklliolaa
open Go.RowKit
set_option linter.unusedVariables false
set_option linter.unusedSimpArgs false

set_option maxHeartbeats 400000 in
theorem law_FnExactDepthOf (s : ByteArray) (hs : s.size ≤ maxLen) (w : World) :
    Calls Try.prog 7 #[.string s] w fun e w' => e = .returned (.bool true) ∧ Below w.heap.size w w' := by
  have HS := Lib.hid (fun V => spec_DepthOf_any s V hs)
  have HI := Lib.hid (fun V => impl_DepthOf_any s V hs)
  unfold maxLen at hs
  generalize depV s = b at HS HI
  by_cases hbig : 1048576 < s.size
  · go_enter Try.func7, Try.ntmps7
    go_wp2
    go_ret
    exact ⟨rfl, Below.refl _ _⟩
  · have hs' : s.size ≤ 1048576 := by omega
    go_enter Try.func7, Try.ntmps7
    go_wp2_with (first
      | (go_at_call 17; refine (HS.out _).mono ?_; rintro e w1 ⟨rfl, hb⟩)
      | (go_at_call 18; refine (HI.out _).mono ?_; rintro e w2 ⟨rfl, hb2⟩))
    go_ret
    exact ⟨rfl, hb.trans (hb2.mono hb.size)⟩

end Go.Proofs.Ytppiopmklliolaa
