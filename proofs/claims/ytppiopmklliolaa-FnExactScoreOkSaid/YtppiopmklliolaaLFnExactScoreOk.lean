/-
  The law FnExactScoreOk: the walk.
-/
import Derived.Test.YtppiopmklliolaaScore
namespace Go.Proofs.Ytppiopmklliolaa
open Go.RowKit
set_option linter.unusedVariables false
set_option linter.unusedSimpArgs false

set_option maxHeartbeats 400000 in
theorem impl_ScoreOk_any (s : ByteArray) (w : World) (hs : s.size ≤ maxLen) :
    Calls Try.prog 10 #[.string s] w fun e w' => e = .returned (.bool (scoreR s).isSome) ∧ Below w.heap.size w w' := by
  have HRS := Lib.hid (fun V => impl_readScore_any s V hs)
  generalize scoreR s = R at HRS ⊢
  go_enter Try.func10, Try.ntmps10
  go_wp2_with fail
  refine (HRS.out _).mono ?_
  rintro e w1 ⟨A, c, p, dd, ok, rfl, hI, hb, hok, hno⟩
  have hf : R.isSome = ok := by
    cases ok
    · rw [(hno rfl).1]; rfl
    · rw [hok rfl]; rfl
  have HF := Lib.hid hf
  clear hok hno hI hf
  go_wp2_with fail
  go_ret
  exact ⟨ret_bool HF.out.symm, hb.alloc hb.size _⟩

set_option maxHeartbeats 400000 in
theorem law_FnExactScoreOk (s : ByteArray) (hs : s.size ≤ maxLen) (w : World) :
    Calls Try.prog 3 #[.string s] w fun e w' => e = .returned (.bool true) ∧ Below w.heap.size w w' := by
  have HS := Lib.hid (fun V => spec_ScoreOk_any s V hs)
  have HI := Lib.hid (fun V => impl_ScoreOk_any s V hs)
  unfold maxLen at hs
  generalize (scoreR s).isSome = b at HS HI
  by_cases hbig : 1048576 < s.size
  · go_enter Try.func3, Try.ntmps3
    go_wp2
    go_ret
    exact ⟨rfl, Below.refl _ _⟩
  · have hs' : s.size ≤ 1048576 := by omega
    go_enter Try.func3, Try.ntmps3
    go_wp2_with (first
      | (go_at_call 9; refine (HS.out _).mono ?_; rintro e w1 ⟨rfl, hb⟩)
      | (go_at_call 10; refine (HI.out _).mono ?_; rintro e w2 ⟨rfl, hb2⟩))
    go_ret
    exact ⟨rfl, hb.trans (hb2.mono hb.size)⟩

end Go.Proofs.Ytppiopmklliolaa
