/-
  WishOk of the program and of the reference.
-/
import Derived.Test.YthfofjbegkjdmaaBase
namespace Go.Proofs.Ythfofjbegkjdmaa
open Go.RowKit
set_option linter.unusedVariables false
set_option linter.unusedSimpArgs false

def wishB (n k lo hi : Int) : Bool := inB n 1 16 && inB k 1 n && inB lo 1 16 && inB hi lo 16

theorem wishB_iff {n k lo hi : Int} : wishB n k lo hi = true ↔ (1 ≤ n ∧ n ≤ 16) ∧ (1 ≤ k ∧ k ≤ n) ∧ (1 ≤ lo ∧ lo ≤ 16) ∧ lo ≤ hi ∧ hi ≤ 16 := by
  unfold wishB; simp only [Bool.and_eq_true, inB_iff]; constructor
  · rintro ⟨⟨⟨a, b⟩, c⟩, d⟩; exact ⟨a, b, c, d⟩
  · rintro ⟨a, b, c, d⟩; exact ⟨⟨⟨a, b⟩, c⟩, d⟩

set_option maxHeartbeats 400000 in
theorem impl_WishOk_any (n k lo hi : Int) (w : World) :
    Calls Try.prog 11 #[.int .i64 n, .int .i64 k, .int .i64 lo, .int .i64 hi] w fun e w' => e = .returned (.bool (wishB n k lo hi)) ∧ w = w' := by
  cases h1 : inB n 1 16 <;> cases h2 : inB k 1 n <;> cases h3 : inB lo 1 16
  all_goals
    go_enter Try.func11, Try.ntmps11
    go_wp2_with (go_at_call 36; refine (within_any _ _ _ _).mono ?_; rintro e w' ⟨rfl, rfl⟩)
    go_ret
    exact ⟨by unfold wishB; simp [h1, h2, h3], rfl⟩

end Go.Proofs.Ythfofjbegkjdmaa
