/-
  The law FnExactWishOk: the walk.
-/
import Derived.Test.YtnmjfkmahlaghaaWish
namespace Go.Proofs.Ytnmjfkmahlaghaa
open Go.RowKit

set_option maxHeartbeats 400000 in
theorem law_FnExactWishOk (n : Int) (_ : Fits n) (k : Int) (_ : Fits k) (lo : Int) (_ : Fits lo) (hi : Int) (_ : Fits hi) (w : World) :
    Calls Try.prog 3 #[.int .i64 n, .int .i64 k, .int .i64 lo, .int .i64 hi] w fun e w' => e = .returned (.bool true) ∧ Below w.heap.size w w' := by
  cases h1 : wishB n k lo hi
  all_goals
    go_enter Try.func3, Try.ntmps3
    go_wp2_with (first
      | (go_at_call 10; refine (spec_WishOk_any _ _ _ _ _).mono ?_; rintro e w' ⟨rfl, rfl⟩)
      | (go_at_call 11; refine (impl_WishOk_any _ _ _ _ _).mono ?_; rintro e w' ⟨rfl, rfl⟩))
    go_ret
    exact ⟨rfl, Below.refl _ _⟩

end Go.Proofs.Ytnmjfkmahlaghaa
