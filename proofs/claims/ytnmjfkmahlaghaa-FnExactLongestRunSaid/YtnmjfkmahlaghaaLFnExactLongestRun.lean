/-
  The law FnExactLongestRun: the walk.
-/
import Derived.Test.YtnmjfkmahlaghaaLongest
namespace Go.Proofs.Ytnmjfkmahlaghaa
open Go.RowKit

set_option maxHeartbeats 400000 in
theorem law_FnExactLongestRun (s : ByteArray) (hs : s.size ≤ maxLen) (w : World) :
    Calls Try.prog 5 #[.string s] w fun e w' => e = .returned (.bool true) ∧ Below w.heap.size w w' := by
  go_enter Try.func5, Try.ntmps5
  go_wp2_with (first
    | (go_at_call 14; refine (spec_LongestRun_any _ _ hs).mono ?_; rintro e w' ⟨rfl, rfl⟩)
    | (go_at_call 15; refine (impl_LongestRun_any _ _ hs).mono ?_; rintro e w' ⟨rfl, rfl⟩))
  all_goals
    go_ret
    exact ⟨rfl, Below.refl _ _⟩

end Go.Proofs.Ytnmjfkmahlaghaa
