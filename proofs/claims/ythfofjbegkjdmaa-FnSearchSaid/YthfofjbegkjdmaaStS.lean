/-
  HasBeat, ShortestStep, LongestStep of the program, at a rhythm that is one.
-/
import Derived.Test.YthfofjbegkjdmaaStepsOf
import Derived.Test.YthfofjbegkjdmaaHas
import Derived.Test.YthfofjbegkjdmaaColl
namespace Go.Proofs.Ythfofjbegkjdmaa
open Go.RowKit
set_option linter.unusedVariables false
set_option linter.unusedSimpArgs false

set_option maxHeartbeats 400000 in
theorem impl_HasBeat_any (N p : Nat) (A : Option Addr) (cap : Nat) (bs : List Int) (w : World) (hA : Ints w w.heap.size A bs) (hok : RhOk N bs) (hp : p < N) :
    Calls Try.prog 20 #[.agg #[.int .i64 N, .slice A bs.length cap], .int .i64 p] w fun e w' => e = .returned (.bool (hasB bs p)) ∧ Below w.heap.size w w' := by
  have hn1 : (1 : Int) ≤ N := hok.1
  have hn2 : (N : Int) ≤ 24 := hok.2.1
  have HR := Lib.hid (fun V h => impl_RhythmOk_any N A cap bs V (by unfold Fits; omega) h)
  rw [rhB_iff.2 hok] at HR
  have HH := Lib.hid (fun V h => impl_has_any N p A cap bs V h hn1 (by omega))
  have hm : (p : Int) % (N : Int) = p := Int.emod_eq_of_lt (by omega) (by omega)
  rw [hm] at HH
  have HA := Lib.hid hA
  generalize hasB bs p = b at HH ⊢
  clear hA hok hm
  obtain ⟨c0, c1⟩ := box2 (Below.refl (w.heap.size + 1) (w.alloc (.cells #[.int .i64 N, .slice A bs.length cap] 29)))
  go_enter Try.func20, Try.ntmps20
  go_wp2_with fail
  refine (HR.out _ (HA.out.lift (by repeat (first | exact Below.refl _ _ | assumption | (refine Below.alloc ?_ (by first | exact Nat.le_refl _ | (simp; done) | (simp; omega) | omega) _) | (refine Below.drew ?_) | (refine Below.setCell ?_ (by first | exact Nat.le_refl _ | (simp; done) | (simp; omega) | omega) _))))).mono ?_
  rintro e w1 ⟨rfl, hb1⟩
  have HB1 := Lib.hid (((Below.refl w.heap.size w).alloc (Nat.le_refl _) (.cells #[.int .i64 N, .slice A bs.length cap] 29)).trans (hb1.mono (by simp)))
  rw [← hb1.cell (p := ⟨w.heap.size, 0, none⟩) (by simp)] at c0
  rw [← hb1.cell (p := ⟨w.heap.size, 1, none⟩) (by simp)] at c1
  clear hb1
  go_wp2_with fail
  refine (HH.out _ (HA.out.lift HB1.out)).mono ?_
  rintro e w2 ⟨rfl, hb2⟩
  have HB2 := Lib.hid (HB1.out.trans (hb2.mono HB1.out.size))
  clear hb2 c0 c1
  go_wp2_with fail
  go_ret
  exact ⟨rfl, HB2.out⟩

set_option maxHeartbeats 400000 in
theorem impl_StepSizes_any (n : Int) (A : Option Addr) (cap : Nat) (bs : List Int) (w : World) (hn : Fits n) (hA : Ints w w.heap.size A bs) :
    Calls Try.prog 41 #[.agg #[.int .i64 n, .slice A bs.length cap]] w (RetInts w (collL (stepsOf n bs))) := by
  have HS := Lib.hid (fun V h => impl_StepsOf_any n A cap bs V hn h)
  have hsf := stepsOf_fit n bs
  have HF := Lib.hid hsf.2
  have HL := Lib.hid hsf.1
  have HA := Lib.hid hA
  generalize stepsOf n bs = S at HS HF HL ⊢
  clear hA hsf
  go_enter Try.func41, Try.ntmps41
  go_wp2_with fail
  refine (HS.out _ (HA.out.lift (by repeat (first | exact Below.refl _ _ | assumption | (refine Below.alloc ?_ (by first | exact Nat.le_refl _ | (simp; done) | (simp; omega) | omega) _) | (refine Below.drew ?_) | (refine Below.setCell ?_ (by first | exact Nat.le_refl _ | (simp; done) | (simp; omega) | omega) _))))).mono ?_
  rintro e w1 ⟨A1, c1, rfl, hI1, hb1⟩
  have HB1 := Lib.hid (((Below.refl w.heap.size w).alloc (Nat.le_refl _) (.cells #[.int .i64 n, .slice A bs.length cap] 29)).trans (hb1.mono (by simp)))
  have HI1 := Lib.hid hI1
  clear hI1 hb1
  go_wp2_with fail
  refine (impl_collected_any A1 c1 S _ HI1.out (by have := HL.out; omega)).mono ?_
  rintro e w2 ⟨v, rfl, ho, hb2⟩
  obtain ⟨A2, c2, rfl⟩ := ho.form
  have HI2 := Lib.hid (ho.ints (fun x hx => by have := HF.out x (((collL_asc S).2 x).1 hx); unfold Fits; omega))
  have HB2 := Lib.hid (HB1.out.trans (hb2.mono HB1.out.size))
  clear ho hb2
  go_wp2_with fail
  go_ret
  exact ⟨A2, c2, rfl, HI2.out, HB2.out⟩

set_option maxHeartbeats 400000 in
theorem impl_ShortestStep_any (n : Int) (A : Option Addr) (cap : Nat) (bs : List Int) (w : World) (hn : Fits n) (hA : Ints w w.heap.size A bs) :
    Calls Try.prog 15 #[.agg #[.int .i64 n, .slice A bs.length cap]] w fun e w' => e = .returned (.int .i64 ((collL (stepsOf n bs)).getD 0 0)) ∧ Below w.heap.size w w' := by
  have HS := Lib.hid (fun V h => impl_StepSizes_any n A cap bs V hn h)
  have HA := Lib.hid hA
  generalize collL (stepsOf n bs) = L at HS ⊢
  clear hA
  go_enter Try.func15, Try.ntmps15
  go_wp2_with fail
  refine (HS.out _ (HA.out.lift (by repeat (first | exact Below.refl _ _ | assumption | (refine Below.alloc ?_ (by first | exact Nat.le_refl _ | (simp; done) | (simp; omega) | omega) _) | (refine Below.drew ?_) | (refine Below.setCell ?_ (by first | exact Nat.le_refl _ | (simp; done) | (simp; omega) | omega) _))))).mono ?_
  rintro e w1 ⟨A1, c1, rfl, hI1, hb1⟩
  have HB1 := Lib.hid (((Below.refl w.heap.size w).alloc (Nat.le_refl _) (.cells #[.int .i64 n, .slice A bs.length cap] 29)).trans (hb1.mono (by simp)))
  have hml := hI1.1
  unfold maxLen at hml
  have HC := Lib.hid hI1.2.2
  clear hI1 hb1
  by_cases h0 : 0 < L.length
  · obtain ⟨b, off, rfl, hB, hc⟩ := HC.out h0
    have hcell := hc (0) (by omega)
    try simp only [Nat.add_zero] at hcell
    have h0i : (0 : Int) < (L.length : Int) := by omega
    have h1i : L.length - 1 < L.length := by omega
    have hb0 : ((L.length : Int) == 0) = false := beq_eq_false_iff_ne.2 (by omega)
    have hn0 : ¬ L.length = 0 := by omega
    obtain ⟨x, hx⟩ : ∃ x, L.getD (0) 0 = x := ⟨_, rfl⟩
    rw [hx] at hcell
    have HX := Lib.hid hx
    
    clear hc hx
    go_wp2_with fail
    go_ret
    exact ⟨ret_int HX.out.symm, HB1.out⟩
  · have hl : L.length = 0 := by omega
    have hL : L = [] := List.eq_nil_of_length_eq_zero hl
    subst hL
    go_wp2_with fail
    go_ret
    exact ⟨rfl, HB1.out⟩

set_option maxHeartbeats 400000 in
theorem impl_LongestStep_any (n : Int) (A : Option Addr) (cap : Nat) (bs : List Int) (w : World) (hn : Fits n) (hA : Ints w w.heap.size A bs) :
    Calls Try.prog 16 #[.agg #[.int .i64 n, .slice A bs.length cap]] w fun e w' => e = .returned (.int .i64 ((collL (stepsOf n bs)).getD ((collL (stepsOf n bs)).length - 1) 0)) ∧ Below w.heap.size w w' := by
  have HS := Lib.hid (fun V h => impl_StepSizes_any n A cap bs V hn h)
  have HA := Lib.hid hA
  generalize collL (stepsOf n bs) = L at HS ⊢
  clear hA
  go_enter Try.func16, Try.ntmps16
  go_wp2_with fail
  refine (HS.out _ (HA.out.lift (by repeat (first | exact Below.refl _ _ | assumption | (refine Below.alloc ?_ (by first | exact Nat.le_refl _ | (simp; done) | (simp; omega) | omega) _) | (refine Below.drew ?_) | (refine Below.setCell ?_ (by first | exact Nat.le_refl _ | (simp; done) | (simp; omega) | omega) _))))).mono ?_
  rintro e w1 ⟨A1, c1, rfl, hI1, hb1⟩
  have HB1 := Lib.hid (((Below.refl w.heap.size w).alloc (Nat.le_refl _) (.cells #[.int .i64 n, .slice A bs.length cap] 29)).trans (hb1.mono (by simp)))
  have hml := hI1.1
  unfold maxLen at hml
  have HC := Lib.hid hI1.2.2
  clear hI1 hb1
  by_cases h0 : 0 < L.length
  · obtain ⟨b, off, rfl, hB, hc⟩ := HC.out h0
    have hcell := hc (L.length - 1) (by omega)
    try simp only [Nat.add_zero] at hcell
    have h0i : (0 : Int) < (L.length : Int) := by omega
    have h1i : L.length - 1 < L.length := by omega
    have hb0 : ((L.length : Int) == 0) = false := beq_eq_false_iff_ne.2 (by omega)
    have hn0 : ¬ L.length = 0 := by omega
    obtain ⟨x, hx⟩ : ∃ x, L.getD (L.length - 1) 0 = x := ⟨_, rfl⟩
    rw [hx] at hcell
    have HX := Lib.hid hx
    have hw1 : IntKind.i64.wrap ((L.length : Int) - 1) = ((L.length - 1 : Nat) : Int) := by rw [Int.natCast_sub (by omega)]; exact i64w (by omega)
    clear hc hx
    go_wp2_with fail
    go_ret
    exact ⟨ret_int HX.out.symm, HB1.out⟩
  · have hl : L.length = 0 := by omega
    have hL : L = [] := List.eq_nil_of_length_eq_zero hl
    subst hL
    go_wp2_with fail
    go_ret
    exact ⟨rfl, HB1.out⟩

end Go.Proofs.Ythfofjbegkjdmaa
