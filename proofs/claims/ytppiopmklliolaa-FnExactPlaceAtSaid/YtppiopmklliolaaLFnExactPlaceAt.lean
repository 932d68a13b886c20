/-
  The law FnExactPlaceAt: the walk.
-/
import Derived.Test.YtppiopmklliolaaScoVals
namespace Go.Proofs.Ytppiopmklliolaa
open Go.RowKit
set_option linter.unusedVariables false
set_option linter.unusedSimpArgs false

set_option maxHeartbeats 400000 in
theorem law_FnExactPlaceAt (s : ByteArray) (hs : s.size ≤ maxLen) (i : Int) (_ : Fits i) (w : World) :
    Calls Try.prog 5 #[.string s, .int .i64 i] w fun e w' => e = .returned (.bool true) ∧ Below w.heap.size w w' := by
  have HS := Lib.hid (fun V => spec_PlaceAt_any s i V hs)
  have HI := Lib.hid (fun V => impl_PlaceAt_any s i V hs)
  unfold maxLen at hs
  generalize plcV s i = b at HS HI
  by_cases hbig : 1048576 < s.size
  · go_enter Try.func5, Try.ntmps5
    go_wp2
    go_ret
    exact ⟨rfl, Below.refl _ _⟩
  · have hs' : s.size ≤ 1048576 := by omega
    go_enter Try.func5, Try.ntmps5
    go_wp2_with (first
      | (go_at_call 13; refine (HS.out _).mono ?_; rintro e w1 ⟨rfl, hb⟩)
      | (go_at_call 14; refine (HI.out _).mono ?_; rintro e w2 ⟨rfl, hb2⟩))
    go_ret
    exact ⟨rfl, hb.trans (hb2.mono hb.size)⟩

end Go.Proofs.Ytppiopmklliolaa
