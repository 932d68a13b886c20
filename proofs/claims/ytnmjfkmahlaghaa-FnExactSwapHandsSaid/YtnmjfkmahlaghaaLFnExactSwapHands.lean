/-
  The law FnExactSwapHands: the walk.
-/
import Derived.Test.YtnmjfkmahlaghaaSwap
namespace Go.Proofs.Ytnmjfkmahlaghaa
open Go.RowKit

set_option maxHeartbeats 400000 in
theorem law_FnExactSwapHands (s : ByteArray) (hs : s.size ≤ maxLen) (w : World) :
    Calls Try.prog 4 #[.string s] w fun e w' => e = .returned (.bool true) ∧ Below w.heap.size w w' := by
  unfold maxLen at hs
  by_cases hbig : 1048576 < s.size
  · go_enter Try.func4, Try.ntmps4
    go_wp2
    go_ret
    exact ⟨rfl, Below.refl _ _⟩
  · have hs' : s.size ≤ 1048576 := by omega
    go_enter Try.func4, Try.ntmps4
    go_wp2_with (first
      | (go_at_call 12; refine (spec_SwapHands_any _ _ hs').mono ?_; rintro e w' ⟨rfl, rfl⟩)
      | (go_at_call 13; refine (impl_SwapHands_any _ _ hs').mono ?_; rintro e w1 ⟨rfl, hb⟩))
    go_ret
    exact ⟨rfl, hb⟩

end Go.Proofs.Ytnmjfkmahlaghaa
