/-
  What the program says of a pattern on a line.
-/
import Derived.Test.YtcolbkgceaboaaaDoorBlkB
import Derived.Test.YtcolbkgceaboaaaDoorStepsL
namespace Go.Proofs.YtcolbkgceaboaaaDoor
open Go.RowKit
set_option linter.unusedVariables false
set_option linter.unusedSimpArgs false

theorem lperV_blk (xs : List Int) : lperV xs = if lcanV xs then blkT xs else 0 := by
  unfold lperV blkT
  cases hc : lcanV xs
  · rfl
  · have : patB xs = true := by unfold lcanV at hc; rw [Bool.and_eq_true] at hc; exact hc.1
    rw [this]; rfl
theorem lfailV_blk (xs : List Int) : lfailV xs = if lcanV xs then -1 else if patB xs then (blkT xs : Int) else -1 := by
  unfold lfailV blkT
  cases hc : lcanV xs <;> cases hp : patB xs <;> rfl

set_option maxHeartbeats 400000 in
theorem impl_CanGoOn_any (A : Option Addr) (cap : Nat) (xs : List Int) (w : World) (hA : Ints w w.heap.size A xs) :
    Calls Tryd.prog 16 #[.slice A xs.length cap] w fun e w' => e = .returned (.bool (lcanV xs)) ∧ Below w.heap.size w w' := by
  have HB := Lib.hid (impl_block_any A cap xs w hA)
  generalize lcanV xs = b at HB ⊢
  clear hA
  go_enter Tryd.func16, Tryd.ntmps16
  go_wp2_with fail
  refine HB.out.mono ?_
  rintro e w1 ⟨A1, c1, rfl, hi1, hb1⟩
  go_wp2_with fail
  go_ret
  exact ⟨rfl, hb1⟩

set_option maxHeartbeats 400000 in
theorem impl_LinePeriod_any (A : Option Addr) (cap : Nat) (xs : List Int) (w : World) (hA : Ints w w.heap.size A xs) :
    Calls Tryd.prog 18 #[.slice A xs.length cap] w fun e w' => e = .returned (.int .i64 (lperV xs)) ∧ Below w.heap.size w w' := by
  have HB := Lib.hid (impl_block_any A cap xs w hA)
  rw [lperV_blk]
  cases hc : lcanV xs <;> rw [hc] at HB <;> clear hA hc
  · go_enter Tryd.func18, Tryd.ntmps18
    go_wp2_with fail
    refine HB.out.mono ?_
    rintro e w1 ⟨A1, c1, rfl, hi1, hb1⟩
    go_wp2_with fail
    go_ret
    exact ⟨rfl, hb1⟩
  · go_enter Tryd.func18, Tryd.ntmps18
    go_wp2_with fail
    refine HB.out.mono ?_
    rintro e w1 ⟨A1, c1, rfl, hi1, hb1⟩
    go_wp2_with fail
    go_ret
    exact ⟨rfl, hb1⟩

set_option maxHeartbeats 400000 in
theorem impl_PeriodEntries_any (A : Option Addr) (cap : Nat) (xs : List Int) (w : World) (hA : Ints w w.heap.size A xs) :
    Calls Tryd.prog 20 #[.slice A xs.length cap] w (RetInts w (lentV xs)) := by
  have HB := Lib.hid (impl_block_any A cap xs w hA)
  cases hc : lcanV xs
  · have he : lentV xs = [] := by unfold lentV; rw [hc]; rfl
    rw [hc] at HB
    rw [he]
    clear hA hc he
    go_enter Tryd.func20, Tryd.ntmps20
    go_wp2_with fail
    refine HB.out.mono ?_
    rintro e w1 ⟨A1, c1, rfl, hi1, hb1⟩
    go_wp2_with fail
    go_ret
    exact ⟨none, 0, rfl, ints_none _ _, hb1⟩
  · rw [hc] at HB
    generalize lentV xs = L at HB ⊢
    clear hA hc
    go_enter Tryd.func20, Tryd.ntmps20
    go_wp2_with fail
    refine HB.out.mono ?_
    rintro e w1 ⟨A1, c1, rfl, hi1, hb1⟩
    have HI := Lib.hid hi1
    clear hi1
    go_wp2_with fail
    go_ret
    exact ⟨A1, c1, rfl, HI.out, hb1⟩

set_option maxHeartbeats 400000 in
theorem impl_FailTime_any (A : Option Addr) (cap : Nat) (xs : List Int) (w : World) (hA : Ints w w.heap.size A xs) :
    Calls Tryd.prog 21 #[.slice A xs.length cap] w fun e w' => e = .returned (.int .i64 (lfailV xs)) ∧ Below w.heap.size w w' := by
  have HB := Lib.hid (impl_block_any A cap xs w hA)
  have HP := Lib.hid (fun V h => impl_PatternOk_any A cap xs V h)
  have HA := Lib.hid hA
  rw [lfailV_blk]
  cases hc : lcanV xs
  · cases hp : patB xs <;> rw [hc] at HB <;> rw [hp] at HP <;> clear hA hc hp
    · go_enter Tryd.func21, Tryd.ntmps21
      go_wp2_with fail
      refine HB.out.mono ?_
      rintro e w1 ⟨A1, c1, rfl, hi1, hb1⟩
      go_wp2_with fail
      refine (HP.out _ (HA.out.lift hb1)).mono ?_
      rintro e w2 ⟨rfl, rfl⟩
      go_wp2_with fail
      go_ret
      exact ⟨rfl, hb1⟩
    · go_enter Tryd.func21, Tryd.ntmps21
      go_wp2_with fail
      refine HB.out.mono ?_
      rintro e w1 ⟨A1, c1, rfl, hi1, hb1⟩
      go_wp2_with fail
      refine (HP.out _ (HA.out.lift hb1)).mono ?_
      rintro e w2 ⟨rfl, rfl⟩
      go_wp2_with fail
      go_ret
      exact ⟨rfl, hb1⟩
  · rw [hc] at HB
    clear hA hc
    go_enter Tryd.func21, Tryd.ntmps21
    go_wp2_with fail
    refine HB.out.mono ?_
    rintro e w1 ⟨A1, c1, rfl, hi1, hb1⟩
    go_wp2_with fail
    go_ret
    exact ⟨rfl, hb1⟩

end Go.Proofs.YtcolbkgceaboaaaDoor
