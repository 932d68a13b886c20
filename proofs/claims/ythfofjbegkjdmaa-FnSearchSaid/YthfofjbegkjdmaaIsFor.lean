/-
  IsFor of both.
-/
import Derived.Test.YthfofjbegkjdmaaRok
import Derived.Test.YthfofjbegkjdmaaHas
import Derived.Test.YthfofjbegkjdmaaWish
import Derived.Test.YthfofjbegkjdmaaStepsOf
import Derived.Test.YthfofjbegkjdmaaRlaw
namespace Go.Proofs.Ythfofjbegkjdmaa
open Go.RowKit
set_option linter.unusedVariables false
set_option linter.unusedSimpArgs false

noncomputable def isForB (n : Int) (bs : List Int) (N k lo hi : Int) : Bool :=
  wishB N k lo hi && (rhB n bs && (decide (n = N) && (decide ((bs.length : Int) = k) && (hasB bs 0 && allB (stepsL n bs) lo hi))))

set_option maxRecDepth 100000 in
set_option maxHeartbeats 1000000 in
theorem impl_IsFor_any (n : Int) (A : Option Addr) (cap : Nat) (bs : List Int) (N k lo hi : Int) (w : World) (hn : Fits n) (hA : Ints w w.heap.size A bs) :
    Calls Try.prog 13 #[.agg #[.int .i64 n, .slice A bs.length cap], .int .i64 N, .int .i64 k, .int .i64 lo, .int .i64 hi] w fun e w' => e = .returned (.bool (isForB n bs N k lo hi)) ∧ Below w.heap.size w w' := by
  have hlen := hA.1
  unfold maxLen at hlen
  have HA := Lib.hid hA
  have HN := Lib.hid hn
  obtain ⟨r, hr⟩ : ∃ r, isForB n bs N k lo hi = r := ⟨_, rfl⟩
  rw [hr]
  have HE := Lib.hid hr
  clear hA hn hr
  cases h1 : wishB N k lo hi
  · have HR := Lib.hid (show r = false by rw [← HE.out]; unfold isForB; rw [h1]; rfl)
    clear HE
    go_enter Try.func13, Try.ntmps13
    go_wp2_with (go_at_call 11; refine (impl_WishOk_any _ _ _ _ _).mono ?_; rintro e w' ⟨rfl, rfl⟩)
    go_ret
    exact ⟨ret_bool HR.out.symm, (by repeat (first | exact Below.refl _ _ | assumption | (refine Below.alloc ?_ (by first | exact Nat.le_refl _ | (simp; done) | (simp; omega) | omega) _) | (refine Below.drew ?_) | (refine Below.setCell ?_ (by first | exact Nat.le_refl _ | (simp; done) | (simp; omega) | omega) _)))⟩
  cases h2 : rhB n bs
  · have HR := Lib.hid (show r = false by rw [← HE.out]; unfold isForB; rw [h1, h2]; rfl)
    clear HE
    go_enter Try.func13, Try.ntmps13
    go_wp2_with (first
      | (go_at_call 11; refine (impl_WishOk_any _ _ _ _ _).mono ?_; rintro e w' ⟨rfl, rfl⟩)
      | (go_at_call 37; refine (impl_RhythmOk_any n A cap bs _ HN.out (HA.out.lift (by repeat (first | exact Below.refl _ _ | assumption | (refine Below.alloc ?_ (by first | exact Nat.le_refl _ | (simp; done) | (simp; omega) | omega) _) | (refine Below.drew ?_) | (refine Below.setCell ?_ (by first | exact Nat.le_refl _ | (simp; done) | (simp; omega) | omega) _))))).mono ?_; rintro e w1 ⟨rfl, hb⟩; have hb' := ((Below.refl w.heap.size w).alloc (by first | exact Nat.le_refl _ | (simp; done) | (simp; omega) | omega) _).trans (hb.mono (by first | exact Nat.le_refl _ | (simp; done) | (simp; omega) | omega)); obtain ⟨hc, hf⟩ := bcell hb))
    go_ret
    exact ⟨ret_bool HR.out.symm, hb'⟩
  by_cases h3 : n = N
  rotate_left
  · have HR := Lib.hid (show r = false by rw [← HE.out]; unfold isForB; rw [h1, h2, decide_eq_false h3]; rfl)
    have h3' : (n == N) = false := beq_eq_false_iff_ne.2 h3
    clear HE h3
    go_enter Try.func13, Try.ntmps13
    go_wp2_with (first
      | (go_at_call 11; refine (impl_WishOk_any _ _ _ _ _).mono ?_; rintro e w' ⟨rfl, rfl⟩)
      | (go_at_call 37; refine (impl_RhythmOk_any n A cap bs _ HN.out (HA.out.lift (by repeat (first | exact Below.refl _ _ | assumption | (refine Below.alloc ?_ (by first | exact Nat.le_refl _ | (simp; done) | (simp; omega) | omega) _) | (refine Below.drew ?_) | (refine Below.setCell ?_ (by first | exact Nat.le_refl _ | (simp; done) | (simp; omega) | omega) _))))).mono ?_; rintro e w1 ⟨rfl, hb⟩; have hb' := ((Below.refl w.heap.size w).alloc (by first | exact Nat.le_refl _ | (simp; done) | (simp; omega) | omega) _).trans (hb.mono (by first | exact Nat.le_refl _ | (simp; done) | (simp; omega) | omega)); obtain ⟨hc, hf⟩ := bcell hb))
    go_ret
    exact ⟨ret_bool HR.out.symm, hb'⟩
  subst h3
  by_cases h4 : (bs.length : Int) = k
  rotate_left
  · have HR := Lib.hid (show r = false by rw [← HE.out]; unfold isForB; rw [h1, h2, decide_eq_false h4]; simp)
    have h4' : ((bs.length : Int) == k) = false := beq_eq_false_iff_ne.2 h4
    clear HE h4
    go_enter Try.func13, Try.ntmps13
    go_wp2_with (first
      | (go_at_call 11; refine (impl_WishOk_any _ _ _ _ _).mono ?_; rintro e w' ⟨rfl, rfl⟩)
      | (go_at_call 37; refine (impl_RhythmOk_any n A cap bs _ HN.out (HA.out.lift (by repeat (first | exact Below.refl _ _ | assumption | (refine Below.alloc ?_ (by first | exact Nat.le_refl _ | (simp; done) | (simp; omega) | omega) _) | (refine Below.drew ?_) | (refine Below.setCell ?_ (by first | exact Nat.le_refl _ | (simp; done) | (simp; omega) | omega) _))))).mono ?_; rintro e w1 ⟨rfl, hb⟩; have hb' := ((Below.refl w.heap.size w).alloc (by first | exact Nat.le_refl _ | (simp; done) | (simp; omega) | omega) _).trans (hb.mono (by first | exact Nat.le_refl _ | (simp; done) | (simp; omega) | omega)); obtain ⟨hc, hf⟩ := bcell hb))
    go_ret
    exact ⟨ret_bool HR.out.symm, hb'⟩
  subst h4
  have hok := rhB_iff.1 h2
  have hn1 := hok.1
  have hn2 := hok.2.1
  have HOK := Lib.hid hok
  clear hok
  cases h5 : hasB bs 0
  · have HR := Lib.hid (show r = false by rw [← HE.out]; unfold isForB; rw [h1, h2, h5]; simp)
    have HH := Lib.hid (fun (V : World) (hV : Ints V V.heap.size A bs) => by have := impl_has_any n 0 A cap bs V hV (by omega) (by omega); rw [Int.zero_emod, h5] at this; exact this)
    clear HE
    go_enter Try.func13, Try.ntmps13
    go_wp2_with (first
      | (go_at_call 11; refine (impl_WishOk_any _ _ _ _ _).mono ?_; rintro e w' ⟨rfl, rfl⟩)
      | (go_at_call 37; refine (impl_RhythmOk_any n A cap bs _ HN.out (HA.out.lift (by repeat (first | exact Below.refl _ _ | assumption | (refine Below.alloc ?_ (by first | exact Nat.le_refl _ | (simp; done) | (simp; omega) | omega) _) | (refine Below.drew ?_) | (refine Below.setCell ?_ (by first | exact Nat.le_refl _ | (simp; done) | (simp; omega) | omega) _))))).mono ?_; rintro e w1 ⟨rfl, hb⟩; have hb' := ((Below.refl w.heap.size w).alloc (by first | exact Nat.le_refl _ | (simp; done) | (simp; omega) | omega) _).trans (hb.mono (by first | exact Nat.le_refl _ | (simp; done) | (simp; omega) | omega)); obtain ⟨hc, hf⟩ := bcell hb)
      | (go_at_call 38; refine (HH.out _ (HA.out.lift hb')).mono ?_; rintro e w2 ⟨rfl, hb2⟩))
    go_ret
    exact ⟨ret_bool HR.out.symm, hb'.trans (hb2.mono hb'.size)⟩
  · have HR := Lib.hid (show r = allB (stepsL n bs) lo hi by rw [← HE.out]; unfold isForB; rw [h1, h2, h5]; simp)
    have HH := Lib.hid (fun (V : World) (hV : Ints V V.heap.size A bs) => by have := impl_has_any n 0 A cap bs V hV (by omega) (by omega); rw [Int.zero_emod, h5] at this; exact this)
    clear HE
    go_enter Try.func13, Try.ntmps13
    go_wp2_with (first
      | (go_at_call 11; refine (impl_WishOk_any _ _ _ _ _).mono ?_; rintro e w' ⟨rfl, rfl⟩)
      | (go_at_call 37; refine (impl_RhythmOk_any n A cap bs _ HN.out (HA.out.lift (by repeat (first | exact Below.refl _ _ | assumption | (refine Below.alloc ?_ (by first | exact Nat.le_refl _ | (simp; done) | (simp; omega) | omega) _) | (refine Below.drew ?_) | (refine Below.setCell ?_ (by first | exact Nat.le_refl _ | (simp; done) | (simp; omega) | omega) _))))).mono ?_; rintro e w1 ⟨rfl, hb⟩; have hb' := ((Below.refl w.heap.size w).alloc (by first | exact Nat.le_refl _ | (simp; done) | (simp; omega) | omega) _).trans (hb.mono (by first | exact Nat.le_refl _ | (simp; done) | (simp; omega) | omega)); obtain ⟨hc, hf⟩ := bcell hb)
      | (go_at_call 38; refine (HH.out _ (HA.out.lift hb')).mono ?_; rintro e w2 ⟨rfl, hb2⟩; obtain ⟨hc2, hf2⟩ := bcell (hb.trans (hb2.mono hb.size)); have hb2' := hb'.trans (hb2.mono hb'.size))
      | (go_at_call 40; refine (impl_steps_any n A cap bs _ (HA.out.lift hb2') HOK.out).mono ?_; rintro e w3 ⟨A3, c3, rfl, hi3, hb3⟩; have hb3' := hb2'.trans (hb3.mono hb2'.size))
      | (go_at_call 39; refine (impl_allWithin_any A3 c3 _ lo hi _ hi3).mono ?_; rintro e w4 ⟨rfl, hb4⟩))
    go_ret
    exact ⟨ret_bool HR.out.symm, hb3'.trans (hb4.mono hb3'.size)⟩

theorem has0_yes {n : Int} {bs : List Int} (hl : 0 < bs.length) (h : bs.getD 0 0 = 0) : hasB bs 0 = true := hasB_yes hl h
theorem has0_no {n : Int} {bs : List Int} (hok : RhOk n bs) (hl : 0 < bs.length) (h : bs.getD 0 0 ≠ 0) : hasB bs 0 = false := by
  refine hasB_no fun i hi => ?_
  have h0 := (hok.beat hl).1
  by_cases e : i = 0
  · subst e; exact h
  · have := hok.mono i 0 (by omega) hi
    omega

end Go.Proofs.Ythfofjbegkjdmaa
