/-
  The law FnExactCountFull: the walk.
-/
import Derived.Test.YtnmjfkmahlaghaaCountF
namespace Go.Proofs.Ytnmjfkmahlaghaa
open Go.RowKit

theorem law_CountFull_of (k c : Int) (w : World) (hs : ∀ w, Calls Try.prog 16 #[.int .i64 k] w fun e w' => e = .returned (.int .i64 c) ∧ w = w')
    (hi : ∀ w, Calls Try.prog 17 #[.int .i64 k] w fun e w' => e = .returned (.int .i64 c) ∧ w = w') :
    Calls Try.prog 6 #[.int .i64 k] w fun e w' => e = .returned (.bool true) ∧ Below w.heap.size w w' := by
  have HS := Lib.hid hs
  have HI := Lib.hid hi
  clear hs hi
  go_enter Try.func6, Try.ntmps6
  go_wp2_with (first
    | (go_at_call 16; refine (HS.out _).mono ?_; rintro e w' ⟨rfl, rfl⟩)
    | (go_at_call 17; refine (HI.out _).mono ?_; rintro e w' ⟨rfl, rfl⟩))
  go_ret
  exact ⟨rfl, Below.refl _ _⟩

theorem law_FnExactCountFull (k : Int) (_ : Fits k) (w : World) :
    Calls Try.prog 6 #[.int .i64 k] w fun e w' => e = .returned (.bool true) ∧ Below w.heap.size w w' := by
  by_cases h : 1 ≤ k ∧ k ≤ 4
  · have h4 : k = 1 ∨ k = 2 ∨ k = 3 ∨ k = 4 := by omega
    rcases h4 with rfl | rfl | rfl | rfl
    · exact law_CountFull_of 1 2 w spec_CountFull_1 impl_CountFull_1
    · exact law_CountFull_of 2 4 w spec_CountFull_2 impl_CountFull_2
    · exact law_CountFull_of 3 16 w spec_CountFull_3 impl_CountFull_3
    · exact law_CountFull_of 4 256 w spec_CountFull_4 impl_CountFull_4
  · exact law_CountFull_of k (-1) w (spec_CountFull_no k h) (impl_CountFull_no k h)

end Go.Proofs.Ytnmjfkmahlaghaa
