/-
  The law FnExactFirstFull: FirstFull of both; the walk.
-/
import Derived.Test.YtkjghamibjampaaFirst
import Derived.Test.YtkjghamibjampaaMark
namespace Go.Proofs.Ytkjghamibjampaa
open Go.RowKit
set_option linter.unusedVariables false
set_option linter.unusedSimpArgs false

def ffN (k : Int) : Int := if k = 1 then 2 else if k = 2 then 4 else if k = 3 then 8 else if k = 4 then 16 else 0
def ffL (k : Int) : List Int := if k = 1 then bitsB 2 2 2 else if k = 2 then bitsB 4 12 4 else if k = 3 then bitsB 8 232 8 else if k = 4 then bitsB 16 63056 16 else []
def ffO (k : Int) : Bool := inB k 1 4
theorem ff_out {k : Int} (hk : inB k 1 4 = false) : ffN k = 0 ∧ ffL k = [] ∧ ffO k = false := by
  have h : ¬ (1 ≤ k ∧ k ≤ 4) := fun h => by rw [inB_true h] at hk; cases hk
  unfold ffN ffL ffO
  refine ⟨?_, ?_, hk⟩ <;> rw [if_neg (by omega), if_neg (by omega), if_neg (by omega), if_neg (by omega)]
theorem ffL_fits (k : Int) : ∀ x ∈ ffL k, Fits x := by
  have hb : ∀ n c, n ≤ 16 → ∀ x ∈ bitsB n c n, Fits x := fun n c hn x hx => by
    obtain ⟨p, hp, _, rfl⟩ := bitsB_mem.1 hx
    unfold Fits
    omega
  unfold ffL
  split
  · exact hb _ _ (by omega)
  split
  · exact hb _ _ (by omega)
  split
  · exact hb _ _ (by omega)
  split
  · exact hb _ _ (by omega)
  · intro x hx; cases hx

set_option maxHeartbeats 400000 in
theorem spec_FirstFull_out (k : Int) (w : World) (hk : inB k 1 4 = false) : Calls Try.prog 14 #[.int .i64 k] w (RetRh2 w 0 [] false) := by
  go_enter Try.func14, Try.ntmps14
  go_wp2_with (go_at_call 30; refine (l01In_any _ _ _ _).mono ?_; rintro e w' ⟨rfl, rfl⟩)
  refine bodyPost_ret (v := .tuple #[.agg #[.int .i64 0, .slice none 0 0], .bool false]) (by simp [results, Try.results14, go_sem]) rfl ⟨none, 0, rfl, ⟨Nat.zero_le _, fun h => absurd h (by simp)⟩, ?_⟩
  exact (by repeat (first | exact Below.refl _ _ | assumption | (refine Below.alloc ?_ (by first | exact Nat.le_refl _ | (simp; done) | (simp; omega) | omega) _) | (refine Below.drew ?_) | (refine Below.setCell ?_ (by first | exact Nat.le_refl _ | (simp; done) | (simp; omega) | omega) _)))
set_option maxHeartbeats 400000 in
theorem impl_FirstFull_out (k : Int) (w : World) (hk : inB k 1 4 = false) : Calls Try.prog 15 #[.int .i64 k] w (RetRh2 w 0 [] false) := by
  go_enter Try.func15, Try.ntmps15
  go_wp2_with (go_at_call 34; refine (within_any _ _ _ _).mono ?_; rintro e w' ⟨rfl, rfl⟩)
  refine bodyPost_ret (v := .tuple #[.agg #[.int .i64 0, .slice none 0 0], .bool false]) (by simp [results, Try.results15, go_sem]) rfl ⟨none, 0, rfl, ⟨Nat.zero_le _, fun h => absurd h (by simp)⟩, ?_⟩
  exact (by repeat (first | exact Below.refl _ _ | assumption | (refine Below.alloc ?_ (by first | exact Nat.le_refl _ | (simp; done) | (simp; omega) | omega) _) | (refine Below.drew ?_) | (refine Below.setCell ?_ (by first | exact Nat.le_refl _ | (simp; done) | (simp; omega) | omega) _)))

theorem spec_FirstFull_any (k : Int) (w : World) : Calls Try.prog 14 #[.int .i64 k] w (RetRh2 w (ffN k) (ffL k) (ffO k)) := by
  cases hk : inB k 1 4
  · obtain ⟨h1, h2, h3⟩ := ff_out hk
    rw [h1, h2, h3]
    exact spec_FirstFull_out k w hk
  · obtain ⟨h1, h2⟩ := inB_iff.1 hk
    obtain rfl | rfl | rfl | rfl : k = 1 ∨ k = 2 ∨ k = 3 ∨ k = 4 := by omega
    · exact spec_FirstFull_1 w
    · exact spec_FirstFull_2 w
    · exact spec_FirstFull_3 w
    · exact spec_FirstFull_4 w
theorem impl_FirstFull_any (k : Int) (w : World) : Calls Try.prog 15 #[.int .i64 k] w (RetRh2 w (ffN k) (ffL k) (ffO k)) := by
  cases hk : inB k 1 4
  · obtain ⟨h1, h2, h3⟩ := ff_out hk
    rw [h1, h2, h3]
    exact impl_FirstFull_out k w hk
  · obtain ⟨h1, h2⟩ := inB_iff.1 hk
    obtain rfl | rfl | rfl | rfl : k = 1 ∨ k = 2 ∨ k = 3 ∨ k = 4 := by omega
    · exact impl_FirstFull_1 w
    · exact impl_FirstFull_2 w
    · exact impl_FirstFull_3 w
    · exact impl_FirstFull_4 w

set_option maxRecDepth 100000 in
set_option maxHeartbeats 1000000 in
theorem law_FnExactFirstFull_of (k : Int) (N : Int) (L : List Int) (ok : Bool) (w : World) (hf : ∀ x ∈ L, Fits x)
    (hS : ∀ (w : World), Calls Try.prog 14 #[.int .i64 k] w (RetRh2 w N L ok))
    (hI : ∀ (w : World), Calls Try.prog 15 #[.int .i64 k] w (RetRh2 w N L ok)) :
    Calls Try.prog 4 #[.int .i64 k] w fun e w' => e = .returned (.bool true) ∧ Below w.heap.size w w' := by
  have HS := Lib.hid hS
  have HI := Lib.hid hI
  have HF := Lib.hid hf
  clear hS hI hf
  go_enter Try.func4, Try.ntmps4
  go_wp2_with fail
  refine (HS.out _).mono ?_
  rintro e w1 ⟨A1, c1, rfl, hr1, hb1⟩
  go_wp2_with fail
  refine (HI.out _).mono ?_
  rintro e w2 ⟨A2, c2, rfl, hr2, hb2⟩
  have hz1 := hb1.size
  have hz2 := hb2.size
  simp only [World.size_alloc] at hz2
  have hL := hr1.1
  have HB := Lib.hid ((hb2.mono (B' := w1.heap.size + 1) (by simp)).alloc (by simpa using hz2) (.cells #[.int .i64 N, .slice A2 L.length c2] 27))
  have HW := Lib.hid (((hb1.alloc hz1 (.cells #[.int .i64 N, .slice A1 L.length c1] 27)).trans (hb2.mono (by simp; omega))).alloc (by omega) (.cells #[.int .i64 N, .slice A2 L.length c2] 27))
  have HR := Lib.hid (hr1.below ((Below.refl _ _).alloc (Nat.le_refl _) (.cells #[.int .i64 N, .slice A1 L.length c1] 27)))
  have HI1 := Lib.hid (HR.out.ints HF.out)
  have HR2 := Lib.hid (hr2.below ((Below.refl _ _).alloc (Nat.le_refl _) (.cells #[.int .i64 N, .slice A2 L.length c2] 27)))
  have HI2 := Lib.hid (HR2.out.ints HF.out)
  have hh : Held (w2.alloc (.cells #[.int .i64 N, .slice A2 L.length c2] 27)) (w1.heap.size + 1) w2.heap.size A2 L.length (fun t => L.getD t 0) := fun hn => by
    obtain ⟨b, e, h1, h2⟩ := hr2.2 hn
    exact ⟨b, e, by simpa using h1, h2.1, h2.alloc _⟩
  have HH := Lib.hid hh
  obtain ⟨hc0, hc1⟩ := box2 HB.out
  obtain ⟨hd0, hd1⟩ := box2 ((Below.refl (w2.heap.size + 1) (w2.alloc (.cells #[.int .i64 N, .slice A2 L.length c2] 27))))
  have hz3 : (w2.alloc (.cells #[.int .i64 N, .slice A2 L.length c2] 27)).heap.size = w2.heap.size + 1 := by simp
  clear hr1 hr2 hb1 hb2 hh
  go_wp2_with fail
  generalize w2.alloc (.cells #[.int .i64 N, .slice A2 L.length c2] 27) = W3 at *
  have he := eqB_self L
  refine (eqRhythm_any N N _ _ _ _ L L _ HI2.out ((HI1.out.below (by simpa using HB.out)).mono (by simp; omega))).mono ?_
  rintro e w4 ⟨rfl, hb4⟩
  have HB4 := Lib.hid (HB.out.trans (hb4.mono (by omega)))
  have HW4 := Lib.hid (HW.out.trans (hb4.mono (by omega)))
  have hz4 := hb4.size
  rw [← hb4.cell (p := ⟨w2.heap.size, 0, none⟩) (by simp; omega)] at hd0
  rw [← hb4.cell (p := ⟨w2.heap.size, 1, none⟩) (by simp; omega)] at hd1
  rw [← hb4.cell (p := ⟨w1.heap.size, 0, none⟩) (by simp; omega)] at hc0
  rw [← hb4.cell (p := ⟨w1.heap.size, 1, none⟩) (by simp; omega)] at hc1
  have HH4 := Lib.hid (HH.out.below hb4 (by omega))
  clear hb4
  go_wp2_with fail
  refine (markRhythm_any N A2 c2 L.length _ 1 (w1.heap.size + 1) w2.heap.size _ hL HH4.out (by omega) (by omega) (by omega) (by omega)).mono ?_
  rintro e w5 ⟨rfl, hh5, hb5, hz5, hs5⟩
  have HB5 := Lib.hid (HB4.out.trans hb5)
  have HW5 := Lib.hid (HW4.out.trans (hb5.mono (by omega)))
  rw [← hs5 _ _ (by omega) (by omega)] at hd0 hd1
  rw [← hb5.cell (p := ⟨w1.heap.size, 0, none⟩) (by simp)] at hc0
  rw [← hb5.cell (p := ⟨w1.heap.size, 1, none⟩) (by simp)] at hc1
  have HH5 := Lib.hid hh5
  clear hb5 hs5 hh5
  go_wp2_with fail
  refine (heldRhythm_any N A2 c2 L.length 1 (w1.heap.size + 1) w2.heap.size _ hL HH5.out (by omega) (by omega) (by omega)).mono ?_
  rintro e w6 ⟨rfl, hb6⟩
  have HB6 := Lib.hid (HB5.out.trans (hb6.mono (by omega)))
  have HW6 := Lib.hid (HW5.out.trans (hb6.mono (by omega)))
  have hz6 := hb6.size
  rw [← hb6.cell (p := ⟨w2.heap.size, 0, none⟩) (by simp; omega)] at hd0
  rw [← hb6.cell (p := ⟨w2.heap.size, 1, none⟩) (by simp; omega)] at hd1
  rw [← hb6.cell (p := ⟨w1.heap.size, 0, none⟩) (by simp; omega)] at hc0
  rw [← hb6.cell (p := ⟨w1.heap.size, 1, none⟩) (by simp; omega)] at hc1
  have HH6 := Lib.hid (HH5.out.below hb6 (by omega))
  clear hb6
  go_wp2_with fail
  refine (HI.out _).mono ?_
  rintro e w7 ⟨A7, c7, rfl, hr7, hb7⟩
  have HB7 := Lib.hid ((HB6.out.trans (hb7.mono (by omega))).alloc (by have := hb7.size; simp; omega) (.cells #[.int .i64 N, .slice A7 L.length c7] 27))
  have HW7 := Lib.hid ((HW6.out.trans (hb7.mono (by omega))).alloc (by have := hb7.size; omega) (.cells #[.int .i64 N, .slice A7 L.length c7] 27))
  have hz7 := hb7.size
  have hb7' := hb7.alloc hz7 (.cells #[.int .i64 N, .slice A7 L.length c7] 27)
  rw [← hb7'.cell (p := ⟨w2.heap.size, 0, none⟩) (by simp; omega)] at hd0
  rw [← hb7'.cell (p := ⟨w2.heap.size, 1, none⟩) (by simp; omega)] at hd1
  rw [← hb7'.cell (p := ⟨w1.heap.size, 0, none⟩) (by simp; omega)] at hc0
  rw [← hb7'.cell (p := ⟨w1.heap.size, 1, none⟩) (by simp; omega)] at hc1
  have HH7 := Lib.hid (HH6.out.below hb7' (by omega))
  have HI7 := Lib.hid ((hr7.below ((Below.refl _ _).alloc (Nat.le_refl _) (.cells #[.int .i64 N, .slice A7 L.length c7] 27))).ints HF.out)
  obtain ⟨hg0, hg1⟩ := box2 ((Below.refl (w7.heap.size + 1) (w7.alloc (.cells #[.int .i64 N, .slice A7 L.length c7] 27))))
  have hz8 : (w7.alloc (.cells #[.int .i64 N, .slice A7 L.length c7] 27)).heap.size = w7.heap.size + 1 := by simp
  clear hr7 hb7 hb7'
  go_wp2_with fail
  generalize w7.alloc (.cells #[.int .i64 N, .slice A7 L.length c7] 27) = W7 at *
  refine (eqRhythm_any N N _ _ _ _ L L _ HI7.out ((HI1.out.below (by simpa using HB7.out)).mono (by simp; omega))).mono ?_
  rintro e w8 ⟨rfl, hb8⟩
  have HW8 := Lib.hid (HW7.out.trans (hb8.mono (by omega)))
  have hz9 := hb8.size
  rw [← hb8.cell (p := ⟨w2.heap.size, 0, none⟩) (by simp; omega)] at hd0
  rw [← hb8.cell (p := ⟨w2.heap.size, 1, none⟩) (by simp; omega)] at hd1
  have HH8 := Lib.hid (HH7.out.below hb8 (by omega))
  clear hb8 hc0 hc1 hg0 hg1
  go_wp2_with fail
  refine (heldRhythm_any N A2 c2 L.length 1 (w1.heap.size + 1) w2.heap.size _ hL HH8.out (by omega) (by omega) (by omega)).mono ?_
  rintro e w9 ⟨rfl, hb9⟩
  have HW9 := Lib.hid (HW8.out.trans (hb9.mono (by omega)))
  clear hb9
  go_wp2_with fail
  go_ret
  exact ⟨rfl, HW9.out⟩

theorem law_FnExactFirstFull {w : World} (k : Int) (_ : Fits k) :
    Calls Try.prog 4 #[.int .i64 k] w fun e w' => e = .returned (.bool true) ∧ Below w.heap.size w w' :=
  law_FnExactFirstFull_of k _ _ _ w (ffL_fits k) (fun w => spec_FirstFull_any k w) (fun w => impl_FirstFull_any k w)

end Go.Proofs.Ytkjghamibjampaa
