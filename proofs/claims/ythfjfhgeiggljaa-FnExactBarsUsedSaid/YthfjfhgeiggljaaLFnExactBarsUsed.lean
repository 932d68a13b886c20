/-
  The law FnExactBarsUsed: the walk.
-/
import Derived.Test.YthfjfhgeiggljaaBarI
import Derived.Test.YthfjfhgeiggljaaBarS
namespace Go.Proofs.Ythfjfhgeiggljaa
open Go.RowKit
set_option linter.unusedVariables false
set_option linter.unusedSimpArgs false

set_option maxHeartbeats 400000 in
theorem law_FnExactBarsUsed (s : ByteArray) (hs : s.size ≤ maxLen) (w : World) :
    Calls Try.prog 3 #[.string s] w fun e w' => e = .returned (.bool true) ∧ Below w.heap.size w w' := by
  by_cases hbig : 1048576 < s.size
  · go_enter Try.func3, Try.ntmps3
    go_wp2
    go_ret
    exact ⟨rfl, Below.refl _ _⟩
  · have hs' : s.size ≤ 1048576 := by omega
    have HS := Lib.hid (fun V => spec_BarsUsed_any s V hs')
    have HI := Lib.hid (fun V => impl_BarsUsed_any s V hs)
    generalize mkS (barV s) = b at HS HI
    go_enter Try.func3, Try.ntmps3
    go_wp2_with (first
      | (go_at_call 4; refine (HS.out _).mono ?_; rintro e w1 ⟨rfl, hb⟩)
      | (go_at_call 5; refine (HI.out _).mono ?_; rintro e w2 ⟨rfl, hb2⟩))
    go_ret
    exact ⟨rfl, hb.trans (hb2.mono hb.size)⟩

end Go.Proofs.Ythfjfhgeiggljaa
