/-
  StepsOf of both; sums of steps that follow each other.
-/
import Derived.Test.YtjoeglekcnaebaaDoorRok
import Derived.Test.YtjoeglekcnaebaaDoorStepsL
import Derived.Test.YtjoeglekcnaebaaDoorSrok
namespace Go.Proofs.YtjoeglekcnaebaaDoor
open Go.RowKit
set_option linter.unusedVariables false
set_option linter.unusedSimpArgs false

noncomputable def stepsOf (n : Int) (bs : List Int) : List Int := if rhB n bs = true then stepsL n bs else []
theorem stepsOf_ok {n : Int} {bs : List Int} (h : rhB n bs = true) : stepsOf n bs = stepsL n bs := if_pos h
theorem stepsOf_no {n : Int} {bs : List Int} (h : rhB n bs = false) : stepsOf n bs = [] := if_neg (by rw [h]; decide)
theorem stepsOf_fit (n : Int) (bs : List Int) : (stepsOf n bs).length ≤ 24 ∧ ∀ x ∈ stepsOf n bs, 1 ≤ x ∧ x ≤ 24 := by
  cases h : rhB n bs
  · rw [stepsOf_no h]; exact ⟨Nat.zero_le _, fun x hx => by cases hx⟩
  · rw [stepsOf_ok h]
    have hok := rhB_iff.1 h
    refine ⟨?_, stepsK_fit hok _ (Nat.le_refl _)⟩
    have := hok.len
    have := hok.2.1
    rw [stepsL_len]; omega
theorem Ints.nil_ (w : World) (B : Nat) (A : Option Addr) : Ints w B A [] := ⟨Nat.zero_le _, ⟨fun x hx => (List.not_mem_nil hx).elim, fun h => absurd h (Nat.lt_irrefl 0)⟩⟩

set_option maxHeartbeats 400000 in
theorem impl_StepsOf_any (n : Int) (A : Option Addr) (cap : Nat) (bs : List Int) (w : World) (hn : Fits n) (hA : Ints w w.heap.size A bs) :
    Calls Tryd.prog 35 #[.agg #[.int .i64 n, .slice A bs.length cap]] w (RetInts w (stepsOf n bs)) := by
  have HA := Lib.hid hA
  have HN := Lib.hid hn
  clear hA hn
  cases hr : rhB n bs
  · have HS := Lib.hid (stepsOf_no hr)
    go_enter Tryd.func35, Tryd.ntmps35
    go_wp2_with (go_at_call 27; refine (impl_RhythmOk_any n A cap bs _ HN.out (HA.out.lift (by repeat (first | exact Below.refl _ _ | assumption | (refine Below.alloc ?_ (by first | exact Nat.le_refl _ | (simp; done) | (simp; omega) | omega) _) | (refine Below.drew ?_) | (refine Below.setCell ?_ (by first | exact Nat.le_refl _ | (simp; done) | (simp; omega) | omega) _))))).mono ?_; rintro e w1 ⟨rfl, hb⟩)
    go_ret
    have hb' := ((Below.refl w.heap.size w).alloc (by first | exact Nat.le_refl _ | (simp; done) | (simp; omega) | omega) _).trans (hb.mono (by first | exact Nat.le_refl _ | (simp; done) | (simp; omega) | omega))
    rw [HS.out]
    exact ⟨none, 0, rfl, Ints.nil_ _ _ _, hb'⟩
  · have HS := Lib.hid (stepsOf_ok hr)
    have HR := Lib.hid (rhB_iff.1 hr)
    go_enter Tryd.func35, Tryd.ntmps35
    go_wp2_with (first
      | (go_at_call 27; refine (impl_RhythmOk_any n A cap bs _ HN.out (HA.out.lift (by repeat (first | exact Below.refl _ _ | assumption | (refine Below.alloc ?_ (by first | exact Nat.le_refl _ | (simp; done) | (simp; omega) | omega) _) | (refine Below.drew ?_) | (refine Below.setCell ?_ (by first | exact Nat.le_refl _ | (simp; done) | (simp; omega) | omega) _))))).mono ?_; rintro e w1 ⟨rfl, hb⟩; have hb' := ((Below.refl w.heap.size w).alloc (by first | exact Nat.le_refl _ | (simp; done) | (simp; omega) | omega) _).trans (hb.mono (by first | exact Nat.le_refl _ | (simp; done) | (simp; omega) | omega)); obtain ⟨hc, hf⟩ := bcell hb)
      | (go_at_call 49; refine (impl_steps_any n A cap bs _ (HA.out.lift hb') HR.out).mono ?_; rintro e w2 ⟨A2, c2, rfl, hi2, hb2⟩))
    go_ret
    rw [HS.out]
    exact ⟨A2, c2, rfl, hi2, hb'.trans (hb2.mono hb'.size)⟩

set_option maxHeartbeats 400000 in
theorem spec_StepsOf_any (n : Int) (A : Option Addr) (cap : Nat) (bs : List Int) (w : World) (hA : Ints w w.heap.size A bs) :
    Calls Tryd.prog 26 #[.agg #[.int .i64 n, .slice A bs.length cap]] w (RetInts w (stepsOf n bs)) := by
  have HA := Lib.hid hA
  clear hA
  cases hr : rhB n bs
  · have HS := Lib.hid (stepsOf_no hr)
    go_enter Tryd.func26, Tryd.ntmps26
    go_wp2_with (go_at_call 20; refine (spec_RhythmOk_any n A cap bs _ (HA.out.lift (by repeat (first | exact Below.refl _ _ | assumption | (refine Below.alloc ?_ (by first | exact Nat.le_refl _ | (simp; done) | (simp; omega) | omega) _) | (refine Below.drew ?_) | (refine Below.setCell ?_ (by first | exact Nat.le_refl _ | (simp; done) | (simp; omega) | omega) _))))).mono ?_; rintro e w1 ⟨rfl, hb⟩)
    go_ret
    have hb' := ((Below.refl w.heap.size w).alloc (by first | exact Nat.le_refl _ | (simp; done) | (simp; omega) | omega) _).trans (hb.mono (by first | exact Nat.le_refl _ | (simp; done) | (simp; omega) | omega))
    rw [HS.out]
    exact ⟨none, 0, rfl, Ints.nil_ _ _ _, hb'⟩
  · have HS := Lib.hid (stepsOf_ok hr)
    have HR := Lib.hid (rhB_iff.1 hr)
    by_cases h0 : bs.length = 0
    · have hz : ((bs.length : Int) == 0) = true := beq_iff_eq.2 (by omega)
      have HE : stepsOf n bs = [] := by rw [HS.out]; exact List.eq_nil_of_length_eq_zero (by rw [stepsL_len]; exact h0)
      have HE' := Lib.hid HE
      clear h0 HE
      go_enter Tryd.func26, Tryd.ntmps26
      go_wp2_with (go_at_call 20; refine (spec_RhythmOk_any n A cap bs _ (HA.out.lift (by repeat (first | exact Below.refl _ _ | assumption | (refine Below.alloc ?_ (by first | exact Nat.le_refl _ | (simp; done) | (simp; omega) | omega) _) | (refine Below.drew ?_) | (refine Below.setCell ?_ (by first | exact Nat.le_refl _ | (simp; done) | (simp; omega) | omega) _))))).mono ?_; rintro e w1 ⟨rfl, hb⟩; have hb' := ((Below.refl w.heap.size w).alloc (by first | exact Nat.le_refl _ | (simp; done) | (simp; omega) | omega) _).trans (hb.mono (by first | exact Nat.le_refl _ | (simp; done) | (simp; omega) | omega)); obtain ⟨hc, hf⟩ := bcell hb)
      go_ret
      rw [HE'.out]
      exact ⟨none, 0, rfl, Ints.nil_ _ _ _, hb'⟩
    · have hz : ((bs.length : Int) == 0) = false := beq_eq_false_iff_ne.2 (by omega)
      clear h0
      go_enter Tryd.func26, Tryd.ntmps26
      go_wp2_with (first
        | (go_at_call 20; refine (spec_RhythmOk_any n A cap bs _ (HA.out.lift (by repeat (first | exact Below.refl _ _ | assumption | (refine Below.alloc ?_ (by first | exact Nat.le_refl _ | (simp; done) | (simp; omega) | omega) _) | (refine Below.drew ?_) | (refine Below.setCell ?_ (by first | exact Nat.le_refl _ | (simp; done) | (simp; omega) | omega) _))))).mono ?_; rintro e w1 ⟨rfl, hb⟩; have hb' := ((Below.refl w.heap.size w).alloc (by first | exact Nat.le_refl _ | (simp; done) | (simp; omega) | omega) _).trans (hb.mono (by first | exact Nat.le_refl _ | (simp; done) | (simp; omega) | omega)); obtain ⟨hc, hf⟩ := bcell hb)
        | (go_at_call 40; refine (spec_l03Steps_any n A cap bs _ (HA.out.lift hb') HR.out).mono ?_; rintro e w2 ⟨A2, c2, rfl, hi2, hb2⟩))
      go_ret
      rw [HS.out]
      exact ⟨A2, c2, rfl, hi2, hb'.trans (hb2.mono hb'.size)⟩

end Go.Proofs.YtjoeglekcnaebaaDoor
