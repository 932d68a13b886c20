/-
  IsFor of both.
-/
import Derived.Test.YtfbnepfdeofflaaHas
import Derived.Test.YtfbnepfdeofflaaWish
import Derived.Test.YtfbnepfdeofflaaStepsOf
import Derived.Test.YtfbnepfdeofflaaRlaw
namespace Go.Proofs.Ytfbnepfdeofflaa
open Go.RowKit
set_option linter.unusedVariables false
set_option linter.unusedSimpArgs false

noncomputable def isForB (n : Int) (bs : List Int) (N k lo hi : Int) : Bool :=
  wishB N k lo hi && (rhB n bs && (decide (n = N) && (decide ((bs.length : Int) = k) && (hasB bs 0 && allB (stepsL n bs) lo hi))))

set_option maxRecDepth 100000 in
set_option maxHeartbeats 1000000 in
theorem impl_IsFor_any (n : Int) (A : Option Addr) (cap : Nat) (bs : List Int) (N k lo hi : Int) (w : World) (hn : Fits n) (hA : Ints w w.heap.size A bs) :
    Calls Try.prog 27 #[.agg #[.int .i64 n, .slice A bs.length cap], .int .i64 N, .int .i64 k, .int .i64 lo, .int .i64 hi] w fun e w' => e = .returned (.bool (isForB n bs N k lo hi)) ∧ Below w.heap.size w w' := by
  have hlen := hA.1
  unfold maxLen at hlen
  have HA := Lib.hid hA
  have HN := Lib.hid hn
  obtain ⟨r, hr⟩ : ∃ r, isForB n bs N k lo hi = r := ⟨_, rfl⟩
  rw [hr]
  have HE := Lib.hid hr
  clear hA hn hr
  cases h1 : wishB N k lo hi
  · have HR := Lib.hid (show r = false by rw [← HE.out]; unfold isForB; rw [h1]; rfl)
    clear HE
    go_enter Try.func27, Try.ntmps27
    go_wp2_with (go_at_call 80; refine (impl_WishOk_any _ _ _ _ _).mono ?_; rintro e w' ⟨rfl, rfl⟩)
    go_ret
    exact ⟨ret_bool HR.out.symm, (by repeat (first | exact Below.refl _ _ | assumption | (refine Below.alloc ?_ (by first | exact Nat.le_refl _ | (simp; done) | (simp; omega) | omega) _) | (refine Below.drew ?_) | (refine Below.setCell ?_ (by first | exact Nat.le_refl _ | (simp; done) | (simp; omega) | omega) _)))⟩
  cases h2 : rhB n bs
  · have HR := Lib.hid (show r = false by rw [← HE.out]; unfold isForB; rw [h1, h2]; rfl)
    clear HE
    go_enter Try.func27, Try.ntmps27
    go_wp2_with (first
      | (go_at_call 80; refine (impl_WishOk_any _ _ _ _ _).mono ?_; rintro e w' ⟨rfl, rfl⟩)
      | (go_at_call 81; refine (impl_RhythmOk_any n A cap bs _ HN.out (HA.out.lift (by repeat (first | exact Below.refl _ _ | assumption | (refine Below.alloc ?_ (by first | exact Nat.le_refl _ | (simp; done) | (simp; omega) | omega) _) | (refine Below.drew ?_) | (refine Below.setCell ?_ (by first | exact Nat.le_refl _ | (simp; done) | (simp; omega) | omega) _))))).mono ?_; rintro e w1 ⟨rfl, hb⟩; have hb' := ((Below.refl w.heap.size w).alloc (by first | exact Nat.le_refl _ | (simp; done) | (simp; omega) | omega) _).trans (hb.mono (by first | exact Nat.le_refl _ | (simp; done) | (simp; omega) | omega)); obtain ⟨hc, hf⟩ := bcell hb))
    go_ret
    exact ⟨ret_bool HR.out.symm, hb'⟩
  by_cases h3 : n = N
  rotate_left
  · have HR := Lib.hid (show r = false by rw [← HE.out]; unfold isForB; rw [h1, h2, decide_eq_false h3]; rfl)
    have h3' : (n == N) = false := beq_eq_false_iff_ne.2 h3
    clear HE h3
    go_enter Try.func27, Try.ntmps27
    go_wp2_with (first
      | (go_at_call 80; refine (impl_WishOk_any _ _ _ _ _).mono ?_; rintro e w' ⟨rfl, rfl⟩)
      | (go_at_call 81; refine (impl_RhythmOk_any n A cap bs _ HN.out (HA.out.lift (by repeat (first | exact Below.refl _ _ | assumption | (refine Below.alloc ?_ (by first | exact Nat.le_refl _ | (simp; done) | (simp; omega) | omega) _) | (refine Below.drew ?_) | (refine Below.setCell ?_ (by first | exact Nat.le_refl _ | (simp; done) | (simp; omega) | omega) _))))).mono ?_; rintro e w1 ⟨rfl, hb⟩; have hb' := ((Below.refl w.heap.size w).alloc (by first | exact Nat.le_refl _ | (simp; done) | (simp; omega) | omega) _).trans (hb.mono (by first | exact Nat.le_refl _ | (simp; done) | (simp; omega) | omega)); obtain ⟨hc, hf⟩ := bcell hb))
    go_ret
    exact ⟨ret_bool HR.out.symm, hb'⟩
  subst h3
  by_cases h4 : (bs.length : Int) = k
  rotate_left
  · have HR := Lib.hid (show r = false by rw [← HE.out]; unfold isForB; rw [h1, h2, decide_eq_false h4]; simp)
    have h4' : ((bs.length : Int) == k) = false := beq_eq_false_iff_ne.2 h4
    clear HE h4
    go_enter Try.func27, Try.ntmps27
    go_wp2_with (first
      | (go_at_call 80; refine (impl_WishOk_any _ _ _ _ _).mono ?_; rintro e w' ⟨rfl, rfl⟩)
      | (go_at_call 81; refine (impl_RhythmOk_any n A cap bs _ HN.out (HA.out.lift (by repeat (first | exact Below.refl _ _ | assumption | (refine Below.alloc ?_ (by first | exact Nat.le_refl _ | (simp; done) | (simp; omega) | omega) _) | (refine Below.drew ?_) | (refine Below.setCell ?_ (by first | exact Nat.le_refl _ | (simp; done) | (simp; omega) | omega) _))))).mono ?_; rintro e w1 ⟨rfl, hb⟩; have hb' := ((Below.refl w.heap.size w).alloc (by first | exact Nat.le_refl _ | (simp; done) | (simp; omega) | omega) _).trans (hb.mono (by first | exact Nat.le_refl _ | (simp; done) | (simp; omega) | omega)); obtain ⟨hc, hf⟩ := bcell hb))
    go_ret
    exact ⟨ret_bool HR.out.symm, hb'⟩
  subst h4
  have hok := rhB_iff.1 h2
  have hn1 := hok.1
  have hn2 := hok.2.1
  have HOK := Lib.hid hok
  clear hok
  cases h5 : hasB bs 0
  · have HR := Lib.hid (show r = false by rw [← HE.out]; unfold isForB; rw [h1, h2, h5]; simp)
    have HH := Lib.hid (fun (V : World) (hV : Ints V V.heap.size A bs) => by have := impl_has_any n 0 A cap bs V hV (by omega) (by omega); rw [Int.zero_emod, h5] at this; exact this)
    clear HE
    go_enter Try.func27, Try.ntmps27
    go_wp2_with (first
      | (go_at_call 80; refine (impl_WishOk_any _ _ _ _ _).mono ?_; rintro e w' ⟨rfl, rfl⟩)
      | (go_at_call 81; refine (impl_RhythmOk_any n A cap bs _ HN.out (HA.out.lift (by repeat (first | exact Below.refl _ _ | assumption | (refine Below.alloc ?_ (by first | exact Nat.le_refl _ | (simp; done) | (simp; omega) | omega) _) | (refine Below.drew ?_) | (refine Below.setCell ?_ (by first | exact Nat.le_refl _ | (simp; done) | (simp; omega) | omega) _))))).mono ?_; rintro e w1 ⟨rfl, hb⟩; have hb' := ((Below.refl w.heap.size w).alloc (by first | exact Nat.le_refl _ | (simp; done) | (simp; omega) | omega) _).trans (hb.mono (by first | exact Nat.le_refl _ | (simp; done) | (simp; omega) | omega)); obtain ⟨hc, hf⟩ := bcell hb)
      | (go_at_call 82; refine (HH.out _ (HA.out.lift hb')).mono ?_; rintro e w2 ⟨rfl, hb2⟩))
    go_ret
    exact ⟨ret_bool HR.out.symm, hb'.trans (hb2.mono hb'.size)⟩
  · have HR := Lib.hid (show r = allB (stepsL n bs) lo hi by rw [← HE.out]; unfold isForB; rw [h1, h2, h5]; simp)
    have HH := Lib.hid (fun (V : World) (hV : Ints V V.heap.size A bs) => by have := impl_has_any n 0 A cap bs V hV (by omega) (by omega); rw [Int.zero_emod, h5] at this; exact this)
    clear HE
    go_enter Try.func27, Try.ntmps27
    go_wp2_with (first
      | (go_at_call 80; refine (impl_WishOk_any _ _ _ _ _).mono ?_; rintro e w' ⟨rfl, rfl⟩)
      | (go_at_call 81; refine (impl_RhythmOk_any n A cap bs _ HN.out (HA.out.lift (by repeat (first | exact Below.refl _ _ | assumption | (refine Below.alloc ?_ (by first | exact Nat.le_refl _ | (simp; done) | (simp; omega) | omega) _) | (refine Below.drew ?_) | (refine Below.setCell ?_ (by first | exact Nat.le_refl _ | (simp; done) | (simp; omega) | omega) _))))).mono ?_; rintro e w1 ⟨rfl, hb⟩; have hb' := ((Below.refl w.heap.size w).alloc (by first | exact Nat.le_refl _ | (simp; done) | (simp; omega) | omega) _).trans (hb.mono (by first | exact Nat.le_refl _ | (simp; done) | (simp; omega) | omega)); obtain ⟨hc, hf⟩ := bcell hb)
      | (go_at_call 82; refine (HH.out _ (HA.out.lift hb')).mono ?_; rintro e w2 ⟨rfl, hb2⟩; obtain ⟨hc2, hf2⟩ := bcell (hb.trans (hb2.mono hb.size)); have hb2' := hb'.trans (hb2.mono hb'.size))
      | (go_at_call 84; refine (impl_steps_any n A cap bs _ (HA.out.lift hb2') HOK.out).mono ?_; rintro e w3 ⟨A3, c3, rfl, hi3, hb3⟩; have hb3' := hb2'.trans (hb3.mono hb2'.size))
      | (go_at_call 83; refine (impl_allWithin_any A3 c3 _ lo hi _ hi3).mono ?_; rintro e w4 ⟨rfl, hb4⟩))
    go_ret
    exact ⟨ret_bool HR.out.symm, hb3'.trans (hb4.mono hb3'.size)⟩

theorem has0_yes {n : Int} {bs : List Int} (hl : 0 < bs.length) (h : bs.getD 0 0 = 0) : hasB bs 0 = true := hasB_yes hl h
theorem has0_no {n : Int} {bs : List Int} (hok : RhOk n bs) (hl : 0 < bs.length) (h : bs.getD 0 0 ≠ 0) : hasB bs 0 = false := by
  refine hasB_no fun i hi => ?_
  have h0 := (hok.beat hl).1
  by_cases e : i = 0
  · subst e; exact h
  · have := hok.mono i 0 (by omega) hi
    omega

set_option maxRecDepth 100000 in
set_option maxHeartbeats 1000000 in
theorem spec_IsFor_any (n : Int) (A : Option Addr) (cap : Nat) (bs : List Int) (N k lo hi : Int) (w : World) (hA : Ints w w.heap.size A bs) :
    Calls Try.prog 25 #[.agg #[.int .i64 n, .slice A bs.length cap], .int .i64 N, .int .i64 k, .int .i64 lo, .int .i64 hi] w fun e w' => e = .returned (.bool (isForB n bs N k lo hi)) ∧ Below w.heap.size w w' := by
  have hlen := hA.1
  unfold maxLen at hlen
  have HA := Lib.hid hA
  obtain ⟨r, hr⟩ : ∃ r, isForB n bs N k lo hi = r := ⟨_, rfl⟩
  rw [hr]
  have HE := Lib.hid hr
  clear hA hr
  cases h1 : wishB N k lo hi
  · have HR := Lib.hid (show r = false by rw [← HE.out]; unfold isForB; rw [h1]; rfl)
    clear HE
    go_enter Try.func25, Try.ntmps25
    go_wp2_with (go_at_call 75; refine (spec_WishOk_any _ _ _ _ _).mono ?_; rintro e w' ⟨rfl, rfl⟩)
    go_ret
    exact ⟨ret_bool HR.out.symm, (by repeat (first | exact Below.refl _ _ | assumption | (refine Below.alloc ?_ (by first | exact Nat.le_refl _ | (simp; done) | (simp; omega) | omega) _) | (refine Below.drew ?_) | (refine Below.setCell ?_ (by first | exact Nat.le_refl _ | (simp; done) | (simp; omega) | omega) _)))⟩
  cases h2 : rhB n bs
  · have HR := Lib.hid (show r = false by rw [← HE.out]; unfold isForB; rw [h1, h2]; rfl)
    clear HE
    go_enter Try.func25, Try.ntmps25
    go_wp2_with (first
      | (go_at_call 75; refine (spec_WishOk_any _ _ _ _ _).mono ?_; rintro e w' ⟨rfl, rfl⟩)
      | (go_at_call 76; refine (spec_RhythmOk_any n A cap bs _ (HA.out.lift (by repeat (first | exact Below.refl _ _ | assumption | (refine Below.alloc ?_ (by first | exact Nat.le_refl _ | (simp; done) | (simp; omega) | omega) _) | (refine Below.drew ?_) | (refine Below.setCell ?_ (by first | exact Nat.le_refl _ | (simp; done) | (simp; omega) | omega) _))))).mono ?_; rintro e w1 ⟨rfl, hb⟩; have hb' := ((Below.refl w.heap.size w).alloc (by first | exact Nat.le_refl _ | (simp; done) | (simp; omega) | omega) _).trans (hb.mono (by first | exact Nat.le_refl _ | (simp; done) | (simp; omega) | omega)); obtain ⟨hc, hf⟩ := bcell hb))
    go_ret
    exact ⟨ret_bool HR.out.symm, hb'⟩
  by_cases h3 : n = N
  rotate_left
  · have HR := Lib.hid (show r = false by rw [← HE.out]; unfold isForB; rw [h1, h2, decide_eq_false h3]; rfl)
    have h3' : (n != N) = true := by simpa using h3
    clear HE h3
    go_enter Try.func25, Try.ntmps25
    go_wp2_with (first
      | (go_at_call 75; refine (spec_WishOk_any _ _ _ _ _).mono ?_; rintro e w' ⟨rfl, rfl⟩)
      | (go_at_call 76; refine (spec_RhythmOk_any n A cap bs _ (HA.out.lift (by repeat (first | exact Below.refl _ _ | assumption | (refine Below.alloc ?_ (by first | exact Nat.le_refl _ | (simp; done) | (simp; omega) | omega) _) | (refine Below.drew ?_) | (refine Below.setCell ?_ (by first | exact Nat.le_refl _ | (simp; done) | (simp; omega) | omega) _))))).mono ?_; rintro e w1 ⟨rfl, hb⟩; have hb' := ((Below.refl w.heap.size w).alloc (by first | exact Nat.le_refl _ | (simp; done) | (simp; omega) | omega) _).trans (hb.mono (by first | exact Nat.le_refl _ | (simp; done) | (simp; omega) | omega)); obtain ⟨hc, hf⟩ := bcell hb))
    go_ret
    exact ⟨ret_bool HR.out.symm, hb'⟩
  subst h3
  by_cases h4 : (bs.length : Int) = k
  rotate_left
  · have HR := Lib.hid (show r = false by rw [← HE.out]; unfold isForB; rw [h1, h2, decide_eq_false h4]; simp)
    have h4' : ((bs.length : Int) != k) = true := by simpa using h4
    clear HE h4
    go_enter Try.func25, Try.ntmps25
    go_wp2_with (first
      | (go_at_call 75; refine (spec_WishOk_any _ _ _ _ _).mono ?_; rintro e w' ⟨rfl, rfl⟩)
      | (go_at_call 76; refine (spec_RhythmOk_any n A cap bs _ (HA.out.lift (by repeat (first | exact Below.refl _ _ | assumption | (refine Below.alloc ?_ (by first | exact Nat.le_refl _ | (simp; done) | (simp; omega) | omega) _) | (refine Below.drew ?_) | (refine Below.setCell ?_ (by first | exact Nat.le_refl _ | (simp; done) | (simp; omega) | omega) _))))).mono ?_; rintro e w1 ⟨rfl, hb⟩; have hb' := ((Below.refl w.heap.size w).alloc (by first | exact Nat.le_refl _ | (simp; done) | (simp; omega) | omega) _).trans (hb.mono (by first | exact Nat.le_refl _ | (simp; done) | (simp; omega) | omega)); obtain ⟨hc, hf⟩ := bcell hb))
    go_ret
    exact ⟨ret_bool HR.out.symm, hb'⟩
  subst h4
  have hok := rhB_iff.1 h2
  have hl0 : 0 < bs.length := by have := (wishB_iff.1 h1).2.1.1; omega
  have h24 : bs.length ≤ 24 := by have := hok.len; have := hok.2.1; omega
  have HOK := Lib.hid hok
  clear hok
  obtain ⟨b, off, rfl, hB, hcs⟩ := HA.out.2.2 hl0
  have hcell := hcs 0 hl0
  clear hcs
  rw [Nat.add_zero] at hcell
  obtain ⟨z, hz⟩ : ∃ z, bs.getD 0 0 = z := ⟨_, rfl⟩
  rw [hz] at hcell
  by_cases h5 : z = 0
  rotate_left
  · have h6 := has0_no HOK.out hl0 (by rw [hz]; exact h5)
    have HR := Lib.hid (show r = false by rw [← HE.out]; unfold isForB; rw [h1, h2, h6]; simp)
    have h5' : (z != 0) = true := by simpa using h5
    clear HE hz h6 h5
    go_enter Try.func25, Try.ntmps25
    go_wp2_with (first
      | (go_at_call 75; refine (spec_WishOk_any _ _ _ _ _).mono ?_; rintro e w' ⟨rfl, rfl⟩)
      | (go_at_call 76; refine (spec_RhythmOk_any n (some ⟨b, off, none⟩) cap bs _ (HA.out.lift (by repeat (first | exact Below.refl _ _ | assumption | (refine Below.alloc ?_ (by first | exact Nat.le_refl _ | (simp; done) | (simp; omega) | omega) _) | (refine Below.drew ?_) | (refine Below.setCell ?_ (by first | exact Nat.le_refl _ | (simp; done) | (simp; omega) | omega) _))))).mono ?_; rintro e w1 ⟨rfl, hb⟩; have hb' := ((Below.refl w.heap.size w).alloc (by first | exact Nat.le_refl _ | (simp; done) | (simp; omega) | omega) _).trans (hb.mono (by first | exact Nat.le_refl _ | (simp; done) | (simp; omega) | omega)); obtain ⟨hc, hf⟩ := bcell hb))
    go_ret
    exact ⟨ret_bool HR.out.symm, hb'⟩
  · subst h5
    have h6 := has0_yes (n := n) hl0 hz
    have HR := Lib.hid (show r = allB (stepsL n bs) lo hi by rw [← HE.out]; unfold isForB; rw [h1, h2, h6]; simp)
    clear HE hz h6
    go_enter Try.func25, Try.ntmps25
    go_wp2_with (first
      | (go_at_call 75; refine (spec_WishOk_any _ _ _ _ _).mono ?_; rintro e w' ⟨rfl, rfl⟩)
      | (go_at_call 76; refine (spec_RhythmOk_any n (some ⟨b, off, none⟩) cap bs _ (HA.out.lift (by repeat (first | exact Below.refl _ _ | assumption | (refine Below.alloc ?_ (by first | exact Nat.le_refl _ | (simp; done) | (simp; omega) | omega) _) | (refine Below.drew ?_) | (refine Below.setCell ?_ (by first | exact Nat.le_refl _ | (simp; done) | (simp; omega) | omega) _))))).mono ?_; rintro e w1 ⟨rfl, hb⟩; have hb' := ((Below.refl w.heap.size w).alloc (by first | exact Nat.le_refl _ | (simp; done) | (simp; omega) | omega) _).trans (hb.mono (by first | exact Nat.le_refl _ | (simp; done) | (simp; omega) | omega)); obtain ⟨hc, hf⟩ := bcell hb)
      | (go_at_call 77; refine (spec_l03Steps_any n (some ⟨b, off, none⟩) cap bs _ (HA.out.lift hb') HOK.out).mono ?_; rintro e w3 ⟨A3, c3, rfl, hi3, hb3⟩))
    have hl3 : (stepsL n bs).length = bs.length := stepsL_len n bs
    have HB3 := Lib.hid (hb'.trans (hb3.mono hb'.size))
    have HI3 := Lib.hid hi3
    clear hc hf hb hb' hb3 hi3 hcell
    rw [hl3]
    go_loopw [12, 47] (fun _ i wr => ∃ q : Nat, q ≤ bs.length ∧ i = .int .i64 q ∧ w3 = wr ∧ ∀ j, j < q → inB ((stepsL n bs).getD j 0) lo hi = true) (fun _ i _ => bs.length - (intOf i).toNat)
    case atStart => exact ⟨0, Nat.zero_le _, rfl, rfl, fun j h => by omega⟩
    case round =>
      obtain ⟨q, hq, rfl, rfl, hno⟩ := hrel
      have HNO := Lib.hid hno
      clear hno
      by_cases hlt : q < bs.length
      · obtain ⟨b3, off3, rfl, hB3, hc3⟩ := HI3.out.2.2 (by omega)
        have hcell := hc3 q (by omega)
        clear hc3
        obtain ⟨y, hy⟩ : ∃ y, (stepsL n bs).getD q 0 = y := ⟨_, rfl⟩
        rw [hy] at hcell
        have HY := Lib.hid hy
        clear hy
        cases hxy : inB y lo hi
        · have HF := Lib.hid (allB_no (i := q) (by rw [hl3]; exact hlt) (by rw [HY.out]; exact hxy))
          have HX := Lib.hid hxy
          go_wp2_with (go_at_call 78; refine (l01In_any _ _ _ _).mono ?_; rintro e w' ⟨rfl, rfl⟩)
          go_ret
          exact ⟨ret_bool (HR.out.trans HF.out).symm, HB3.out⟩
        · have HX := Lib.hid hxy
          go_wp2_with (go_at_call 78; refine (l01In_any _ _ _ _).mono ?_; rintro e w' ⟨rfl, rfl⟩)
          go_roundw
          case rel =>
            refine ⟨q + 1, by omega, by go_num, by first | rfl | trivial, fun j hj => ?_⟩
            by_cases e : j = q
            · subst e; rw [HY.out]; exact HX.out
            · exact HNO.out j (by omega)
          case measure => simp [intOf]; omega
      · have HF := Lib.hid (allB_yes (xs := stepsL n bs) (lo := lo) (hi := hi) (fun i hi => HNO.out i (by omega)))
        go_wp2
        go_ret
        exact ⟨ret_bool (HR.out.trans HF.out).symm, HB3.out⟩

end Go.Proofs.Ytfbnepfdeofflaa
