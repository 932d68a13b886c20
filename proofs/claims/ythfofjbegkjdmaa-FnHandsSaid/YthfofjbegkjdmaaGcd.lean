/-
  The greatest common divisor, of the program and of the reference; HandBars of both.
-/
import Derived.Test.YthfofjbegkjdmaaHands
namespace Go.Proofs.Ythfofjbegkjdmaa
open Go.RowKit
set_option linter.unusedVariables false
set_option linter.unusedSimpArgs false

theorem gcd_step (a b : Nat) : Nat.gcd b (a % b) = Nat.gcd a b := by
  rw [Nat.gcd_comm b (a % b), ← Nat.gcd_rec, Nat.gcd_comm]

set_option maxHeartbeats 400000 in
theorem impl_gcd_any (a b : Nat) (w : World) (ha : a ≤ 1000000) (hb : b ≤ 1000000) :
    Calls Try.prog 46 #[.int .i64 a, .int .i64 b] w fun e w' => e = .returned (.int .i64 (Nat.gcd a b : Nat)) ∧ Below w.heap.size w w' := by
  go_enter Try.func46, Try.ntmps46
  go_wp2
  go_loopw [0, 1] (fun x y wr => ∃ c d : Nat, c ≤ 1000000 ∧ d ≤ 1000000 ∧ x = .int .i64 c ∧ y = .int .i64 d ∧ Nat.gcd c d = Nat.gcd a b ∧ Below w.heap.size w wr) (fun _ y _ => (intOf y).toNat)
  case atStart => exact ⟨a, b, ha, hb, rfl, rfl, rfl, Below.refl _ _⟩
  case round =>
    obtain ⟨c, d, hc, hd, rfl, rfl, hg, hbel⟩ := hrel
    have HG := Lib.hid hg
    clear hg
    by_cases h0 : 0 < d
    · have hm : c % d < d := Nat.mod_lt _ h0
      have HS := Lib.hid (gcd_step c d)
      have hm0 : (0 : Int) ≤ (c : Int) % (d : Int) := Int.emod_nonneg _ (by omega)
      have hne : ((d : Int) != 0) = true := by rw [bne_iff_ne]; omega
      go_wp2
      go_quiet (fail)
      go_wp2
      go_roundw
      case rel => exact ⟨d, c % d, by omega, by omega, rfl, by rw [Int.natCast_emod], HS.out.trans HG.out, Below.drewN_ hbel _⟩
      case measure =>
        have hm1 : (c : Int) % (d : Int) < (d : Int) := Int.emod_lt_of_pos _ (by omega)
        simp [intOf]; omega
    · have hd0 : d = 0 := by omega
      subst hd0
      have HE := Lib.hid (show Nat.gcd a b = c by rw [← HG.out]; exact Nat.gcd_zero_right c)
      go_wp2
      go_ret
      exact ⟨ret_int (by rw [HE.out]), hbel⟩

noncomputable def handBars (n : Int) (bs : List Int) (h : Int) : Int := if leastSpan n bs h = 0 then 0 else h / (Nat.gcd h.toNat bs.length : Nat)
theorem leastSpan_ok {n : Int} {bs : List Int} {h : Int} (hne : leastSpan n bs h ≠ 0) : RhOk n bs ∧ 0 < bs.length := by
  cases hr : rhB n bs
  · exfalso
    apply hne
    unfold leastSpan
    rw [stepsOf_no hr]
    rfl
  · refine ⟨rhB_iff.1 hr, ?_⟩
    apply Classical.byContradiction
    intro h0
    apply hne
    unfold leastSpan
    rw [stepsOf_ok hr, stepsL_len, if_pos (.inl (by omega))]

set_option maxHeartbeats 400000 in
theorem impl_HandBars_any (n : Int) (A : Option Addr) (cap : Nat) (bs : List Int) (h : Int) (w : World) (hn : Fits n) (hA : Ints w w.heap.size A bs) :
    Calls Try.prog 28 #[.agg #[.int .i64 n, .slice A bs.length cap], .int .i64 h] w fun e w' => e = .returned (.int .i64 (handBars n bs h)) ∧ Below w.heap.size w w' := by
  have HA := Lib.hid hA
  have HN := Lib.hid hn
  clear hA hn
  by_cases h0 : leastSpan n bs h = 0
  · have HE := Lib.hid (show handBars n bs h = 0 by unfold handBars; rw [if_pos h0])
    have hz : (leastSpan n bs h == 0) = true := beq_iff_eq.2 h0
    clear h0
    go_enter Try.func28, Try.ntmps28
    go_wp2_with (go_at_call 27; refine (impl_LeastSpan_any n A cap bs h _ HN.out (HA.out.lift (by repeat (first | exact Below.refl _ _ | assumption | (refine Below.alloc ?_ (by first | exact Nat.le_refl _ | (simp; done) | (simp; omega) | omega) _) | (refine Below.drew ?_) | (refine Below.setCell ?_ (by first | exact Nat.le_refl _ | (simp; done) | (simp; omega) | omega) _))))).mono ?_; rintro e w1 ⟨rfl, hb⟩; have hb' := ((Below.refl w.heap.size w).alloc (by first | exact Nat.le_refl _ | (simp; done) | (simp; omega) | omega) _).trans (hb.mono (by first | exact Nat.le_refl _ | (simp; done) | (simp; omega) | omega)))
    go_ret
    exact ⟨ret_int HE.out.symm, hb'⟩
  · have hz : (leastSpan n bs h == 0) = false := beq_eq_false_iff_ne.2 h0
    obtain ⟨h1, h24⟩ := leastSpan_h h0
    obtain ⟨hok, hpos⟩ := leastSpan_ok h0
    have hlen := hok.len
    have hn24 := hok.2.1
    have HE := Lib.hid (show handBars n bs h = h / (Nat.gcd h.toNat bs.length : Nat) by unfold handBars; rw [if_neg h0])
    have hg : 0 < Nat.gcd h.toNat bs.length := Nat.gcd_pos_of_pos_right _ hpos
    have hgl : Nat.gcd h.toNat bs.length ≤ bs.length := Nat.gcd_le_right _ hpos
    clear h0 hok
    go_enter Try.func28, Try.ntmps28
    go_wp2_with fail
    refine (impl_LeastSpan_any n A cap bs h _ HN.out (HA.out.lift (by repeat (first | exact Below.refl _ _ | assumption | (refine Below.alloc ?_ (by first | exact Nat.le_refl _ | (simp; done) | (simp; omega) | omega) _) | (refine Below.drew ?_) | (refine Below.setCell ?_ (by first | exact Nat.le_refl _ | (simp; done) | (simp; omega) | omega) _))))).mono ?_
    rintro e w1 ⟨rfl, hb⟩
    have hb' := ((Below.refl w.heap.size w).alloc (by first | exact Nat.le_refl _ | (simp; done) | (simp; omega) | omega) _).trans (hb.mono (by first | exact Nat.le_refl _ | (simp; done) | (simp; omega) | omega))
    obtain ⟨hc0, hc1⟩ := box2 (hb.mono (by first | exact Nat.le_refl _ | (simp; done) | (simp; omega) | omega))
    go_wp2_with fail
    have hcall := impl_gcd_any h.toNat bs.length w1 (by omega) (by omega)
    rw [Int.toNat_of_nonneg (by omega)] at hcall
    refine hcall.mono ?_
    rintro e w2 ⟨rfl, hb2⟩
    clear hcall
    generalize Nat.gcd h.toNat bs.length = g at hg hgl HE
    go_wp2_with fail
    go_ret
    exact ⟨ret_int HE.out.symm, hb'.trans (hb2.mono hb'.size)⟩

end Go.Proofs.Ythfofjbegkjdmaa
