/-
  The law FnExactCountFor: the walk.
-/
import Derived.Test.YtnmjfkmahlaghaaImplCnt
namespace Go.Proofs.Ytnmjfkmahlaghaa
open Go.RowKit

set_option maxHeartbeats 400000 in
theorem law_FnExactCountFor (n : Int) (_ : Fits n) (k : Int) (_ : Fits k) (lo : Int) (_ : Fits lo) (hi : Int) (_ : Fits hi) (w : World) :
    Calls Try.prog 7 #[.int .i64 n, .int .i64 k, .int .i64 lo, .int .i64 hi] w fun e w' => e = .returned (.bool true) ∧ Below w.heap.size w w' := by
  have hs := fun w => spec_CountFor_any n k lo hi w
  have hi' := fun w => impl_CountFor_any n k lo hi w
  generalize (if wishB n k lo hi = true then stN lo (width lo hi) k.toNat n else -1) = c at hs hi'
  have HS := Lib.hid hs
  have HI := Lib.hid hi'
  clear hs hi'
  go_enter Try.func7, Try.ntmps7
  go_wp2_with (first
    | (go_at_call 18; refine (HS.out _).mono ?_; rintro e w' ⟨rfl, rfl⟩)
    | (go_at_call 19; refine (HI.out _).mono ?_; rintro e w' ⟨rfl, hb⟩))
  go_ret
  exact ⟨rfl, hb⟩

end Go.Proofs.Ytnmjfkmahlaghaa
