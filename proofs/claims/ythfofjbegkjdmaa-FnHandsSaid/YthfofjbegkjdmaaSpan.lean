/-
  Sums of steps that follow each other; the least of them; LeastSpan of both.
-/
import Derived.Test.YthfofjbegkjdmaaStepsOf
namespace Go.Proofs.Ythfofjbegkjdmaa
open Go.RowKit
set_option linter.unusedVariables false
set_option linter.unusedSimpArgs false

def spanN (xs : List Int) (i : Nat) : Nat → Int
  | 0 => 0
  | k + 1 => spanN xs i k + xs.getD ((i + k) % xs.length) 0
theorem spanN_bound (xs : List Int) (i : Nat) (h0 : 0 < xs.length) (h : ∀ x ∈ xs, 1 ≤ x ∧ x ≤ 24) : ∀ k : Nat, (k : Int) ≤ spanN xs i k ∧ spanN xs i k ≤ 24 * k
  | 0 => by simp [spanN]
  | k + 1 => by
    have ih := spanN_bound xs i h0 h k
    have hlt : (i + k) % xs.length < xs.length := Nat.mod_lt _ h0
    have hx := h (xs.getD ((i + k) % xs.length) 0) (by rw [List.getD_eq_getElem?_getD, List.getElem?_eq_getElem hlt]; exact List.getElem_mem hlt)
    unfold spanN
    omega

set_option maxHeartbeats 400000 in
theorem impl_spanOf_anyH (A : Option Addr) (cap : Nat) (xs : List Int) (i : Nat) (k : Int) (w : World) (hA : Ints w w.heap.size A xs) (hf : ∀ x ∈ xs, 1 ≤ x ∧ x ≤ 24) (hl : xs.length ≤ 24) (hi : i < xs.length) (hk0 : 0 ≤ k) (hk : k ≤ 24) :
    Calls Try.prog 45 #[.slice A xs.length cap, .int .i64 i, .int .i64 k] w fun e w' => e = .returned (.int .i64 (spanN xs i k.toNat)) ∧ w = w' := by
  obtain ⟨m, rfl⟩ := Int.eq_ofNat_of_zero_le hk0
  rw [Int.toNat_natCast]
  have hsb := spanN_bound xs i (by omega) hf
  have HSB := Lib.hid hsb
  obtain ⟨b, off, rfl, hB, hc⟩ := hA.2.2 (by omega)
  have HC := Lib.hid hc
  clear hA hf hc hsb
  go_enter Try.func45, Try.ntmps45
  go_wp2
  go_loop [7, 10] (fun t j => ∃ q : Nat, q ≤ m ∧ j = .int .i64 q ∧ t = .int .i64 (spanN xs i q)) (fun _ j => m - (intOf j).toNat)
  case atStart => exact ⟨0, Nat.zero_le _, rfl, rfl⟩
  case round =>
    obtain ⟨q, hq, rfl, rfl⟩ := hrel
    have hb := HSB.out q
    by_cases hlt : q < m
    · have hmod : (i + q) % xs.length < xs.length := Nat.mod_lt _ (by omega)
      have hcell := HC.out _ hmod
      obtain ⟨x, hx⟩ : ∃ x, xs.getD ((i + q) % xs.length) 0 = x := ⟨_, rfl⟩
      rw [hx] at hcell
      have hsucc : spanN xs i (q + 1) = spanN xs i q + x := by rw [← hx]; rfl
      have hb1 := HSB.out (q + 1)
      rw [hsucc] at hb1
      have HS := Lib.hid hsucc
      clear hsucc hx
      obtain ⟨y, hy⟩ : ∃ y, spanN xs i q = y := ⟨_, rfl⟩
      rw [hy] at hb hb1
      have HY := Lib.hid hy
      have hm0 : (0 : Int) ≤ ((i : Int) + q) % (xs.length : Int) := Int.emod_nonneg _ (by omega)
      have hm1 : ((i : Int) + q) % (xs.length : Int) < (xs.length : Int) := Int.emod_lt_of_pos _ (by omega)
      rw [hy]
      clear hy
      go_wp2
      go_round
      case rel => exact ⟨q + 1, by omega, by go_num, by rw [HS.out, HY.out]⟩
      case measure => simp [intOf]; omega
    · have hqe : q = m := by omega
      subst hqe
      go_wp2
      go_ret
      exact ⟨rfl, rfl⟩

/-- The least of the first k sums, -1 where k is 0. -/
def lm (xs : List Int) (h : Nat) : Nat → Int
  | 0 => -1
  | k + 1 => if lm xs h k < 0 ∨ spanN xs k h < lm xs h k then spanN xs k h else lm xs h k
theorem lm_bound (xs : List Int) (h : Nat) (h1 : 1 ≤ h) (h24 : h ≤ 24) (h0 : 0 < xs.length) (hf : ∀ x ∈ xs, 1 ≤ x ∧ x ≤ 24) : ∀ k : Nat, -1 ≤ lm xs h k ∧ lm xs h k ≤ 576 ∧ (0 < k → 1 ≤ lm xs h k)
  | 0 => by unfold lm; exact ⟨by omega, by omega, fun h => by omega⟩
  | k + 1 => by
    have ih := lm_bound xs h h1 h24 h0 hf k
    have hs := spanN_bound xs k h0 hf h
    unfold lm
    split
    · exact ⟨by omega, by omega, fun _ => by omega⟩
    · rename_i hc
      have hk : k ≠ 0 := by
        rintro rfl
        exact hc (.inl (by show (-1 : Int) < 0; omega))
      have := ih.2.2 (by omega)
      exact ⟨by omega, by omega, fun _ => by omega⟩
theorem lm_new {xs : List Int} {h k : Nat} (hc : lm xs h k < 0 ∨ spanN xs k h < lm xs h k) : lm xs h (k + 1) = spanN xs k h := by
  show (if _ then _ else _) = _; rw [if_pos hc]
theorem lm_old {xs : List Int} {h k : Nat} (hc : ¬ (lm xs h k < 0 ∨ spanN xs k h < lm xs h k)) : lm xs h (k + 1) = lm xs h k := by
  show (if _ then _ else _) = _; rw [if_neg hc]

/-- LeastSpan, as both compute it. -/
noncomputable def leastSpan (n : Int) (bs : List Int) (h : Int) : Int :=
  if (stepsOf n bs).length = 0 ∨ ¬ (1 ≤ h ∧ h ≤ 24) then 0 else lm (stepsOf n bs) h.toNat (stepsOf n bs).length
theorem leastSpan_bound (n : Int) (bs : List Int) (h : Int) : 0 ≤ leastSpan n bs h ∧ leastSpan n bs h ≤ 576 := by
  unfold leastSpan
  split
  · omega
  · rename_i hc
    have := lm_bound (stepsOf n bs) h.toNat (by omega) (by omega) (by omega) (stepsOf_fit n bs).2 (stepsOf n bs).length
    omega

theorem lm_one (xs : List Int) (h : Nat) : lm xs h 1 = spanN xs 0 h := lm_new (.inl (by show (-1 : Int) < 0; omega))

set_option maxHeartbeats 400000 in
theorem impl_LeastSpan_any (n : Int) (A : Option Addr) (cap : Nat) (bs : List Int) (h : Int) (w : World) (hn : Fits n) (hA : Ints w w.heap.size A bs) :
    Calls Try.prog 27 #[.agg #[.int .i64 n, .slice A bs.length cap], .int .i64 h] w fun e w' => e = .returned (.int .i64 (leastSpan n bs h)) ∧ Below w.heap.size w w' := by
  obtain ⟨hl, hf⟩ := stepsOf_fit n bs
  have HF := Lib.hid hf
  have HA := Lib.hid hA
  have HN := Lib.hid hn
  clear hA hf hn
  by_cases h0 : (stepsOf n bs).length = 0
  · have hz : (((stepsOf n bs).length : Int) == 0) = true := beq_iff_eq.2 (by omega)
    have HE := Lib.hid (show leastSpan n bs h = 0 by unfold leastSpan; rw [if_pos (.inl h0)])
    clear h0
    go_enter Try.func27, Try.ntmps27
    go_wp2_with (first
      | (go_at_call 18; refine (impl_StepsOf_any n A cap bs _ HN.out (HA.out.lift (by repeat (first | exact Below.refl _ _ | assumption | (refine Below.alloc ?_ (by first | exact Nat.le_refl _ | (simp; done) | (simp; omega) | omega) _) | (refine Below.drew ?_) | (refine Below.setCell ?_ (by first | exact Nat.le_refl _ | (simp; done) | (simp; omega) | omega) _))))).mono ?_; rintro e w1 ⟨A1, c1, rfl, hi1, hb⟩; have hb' := ((Below.refl w.heap.size w).alloc (by first | exact Nat.le_refl _ | (simp; done) | (simp; omega) | omega) _).trans (hb.mono (by first | exact Nat.le_refl _ | (simp; done) | (simp; omega) | omega)))
      | (go_at_call 36; refine (within_any _ _ _ _).mono ?_; rintro e w' ⟨rfl, rfl⟩))
    go_ret
    exact ⟨ret_int HE.out.symm, hb'⟩
  · have hz : (((stepsOf n bs).length : Int) == 0) = false := beq_eq_false_iff_ne.2 (by omega)
    have h0' : 0 < (stepsOf n bs).length := by omega
    by_cases hh : 1 ≤ h ∧ h ≤ 24
    · have hin := inB_true hh
      obtain ⟨h1, h24⟩ := hh
      have hlm := lm_bound (stepsOf n bs) h.toNat (by omega) (by omega) h0' HF.out
      have HLM := Lib.hid hlm
      have hsp := fun k : Nat => spanN_bound (stepsOf n bs) k h0' HF.out h.toNat
      have HSP := Lib.hid hsp
      have HE := Lib.hid (show leastSpan n bs h = lm (stepsOf n bs) h.toNat (stepsOf n bs).length by unfold leastSpan; rw [if_neg (by omega)])
      have HO := Lib.hid (lm_one (stepsOf n bs) h.toNat)
      clear h0 hlm hsp
      go_enter Try.func27, Try.ntmps27
      go_wp2_with (first
        | (go_at_call 18; refine (impl_StepsOf_any n A cap bs _ HN.out (HA.out.lift (by repeat (first | exact Below.refl _ _ | assumption | (refine Below.alloc ?_ (by first | exact Nat.le_refl _ | (simp; done) | (simp; omega) | omega) _) | (refine Below.drew ?_) | (refine Below.setCell ?_ (by first | exact Nat.le_refl _ | (simp; done) | (simp; omega) | omega) _))))).mono ?_; rintro e w1 ⟨A1, c1, rfl, hi1, hb⟩; have hb' := ((Below.refl w.heap.size w).alloc (by first | exact Nat.le_refl _ | (simp; done) | (simp; omega) | omega) _).trans (hb.mono (by first | exact Nat.le_refl _ | (simp; done) | (simp; omega) | omega)))
        | (go_at_call 36; refine (within_any _ _ _ _).mono ?_; rintro e w' ⟨rfl, rfl⟩)
        | (go_at_call 45; refine (impl_spanOf_anyH A1 c1 (stepsOf n bs) 0 h _ hi1 HF.out hl h0' (by omega) h24).mono ?_; rintro e w' ⟨rfl, rfl⟩))
      have HI := Lib.hid hi1
      clear hi1
      go_loop [6, 23] (fun t j => ∃ q : Nat, q ≤ (stepsOf n bs).length ∧ j = .int .i64 q ∧ t = .int .i64 (lm (stepsOf n bs) h.toNat (max q 1))) (fun _ j => (stepsOf n bs).length - (intOf j).toNat)
      case atStart => exact ⟨0, Nat.zero_le _, rfl, by rw [show max 0 1 = 1 by rfl, HO.out]⟩
      case round =>
        obtain ⟨q, hq, rfl, rfl⟩ := hrel
        by_cases hlt : q < (stepsOf n bs).length
        · have hb1 := HLM.out (max q 1)
          have hb2 := HSP.out q
          have hstep : lm (stepsOf n bs) h.toNat (max (q + 1) 1) = if spanN (stepsOf n bs) q h.toNat < lm (stepsOf n bs) h.toNat (max q 1) then spanN (stepsOf n bs) q h.toNat else lm (stepsOf n bs) h.toNat (max q 1) := by
            by_cases e : q = 0
            · subst e
              rw [show max 0 1 = 1 by rfl, show max (0 + 1) 1 = 1 by rfl, HO.out]
              split <;> rfl
            · rw [show max q 1 = q by omega, show max (q + 1) 1 = q + 1 by omega]
              have := HLM.out q
              by_cases hs : spanN (stepsOf n bs) q h.toNat < lm (stepsOf n bs) h.toNat q
              · rw [if_pos hs, lm_new (.inr hs)]
              · rw [if_neg hs, lm_old (by omega)]
          obtain ⟨x, hx⟩ : ∃ x, lm (stepsOf n bs) h.toNat (max q 1) = x := ⟨_, rfl⟩
          obtain ⟨y, hy⟩ : ∃ y, lm (stepsOf n bs) h.toNat (max (q + 1) 1) = y := ⟨_, rfl⟩
          rw [hx] at hb1 hstep
          rw [hy] at hstep
          have HY := Lib.hid hy
          rw [hx]
          clear hx hy
          by_cases hs : spanN (stepsOf n bs) q h.toNat < x
          · rw [if_pos hs] at hstep
            have HST := Lib.hid hstep
            clear hstep
            go_wp2_with (go_at_call 45; refine (impl_spanOf_anyH A1 c1 (stepsOf n bs) q h _ HI.out HF.out hl hlt (by omega) h24).mono ?_; rintro e w' ⟨rfl, rfl⟩)
            go_round
            case rel => exact ⟨q + 1, by omega, by go_num, by rw [HY.out, HST.out]; first | done | (congr 1; omega)⟩
            case measure => simp [intOf]; omega
          · rw [if_neg hs] at hstep
            have HST := Lib.hid hstep
            clear hstep
            go_wp2_with (go_at_call 45; refine (impl_spanOf_anyH A1 c1 (stepsOf n bs) q h _ HI.out HF.out hl hlt (by omega) h24).mono ?_; rintro e w' ⟨rfl, rfl⟩)
            go_round
            case rel => exact ⟨q + 1, by omega, by go_num, by rw [HY.out, HST.out]; first | done | (congr 1; omega)⟩
            case measure => simp [intOf]; omega
        · have hqe : max q 1 = (stepsOf n bs).length := by omega
          rw [hqe]
          go_wp2
          go_ret
          exact ⟨ret_int HE.out.symm, hb'⟩
    · have hin := inB_false hh
      have HE := Lib.hid (show leastSpan n bs h = 0 by unfold leastSpan; rw [if_pos (.inr hh)])
      clear h0 hh
      go_enter Try.func27, Try.ntmps27
      go_wp2_with (first
        | (go_at_call 18; refine (impl_StepsOf_any n A cap bs _ HN.out (HA.out.lift (by repeat (first | exact Below.refl _ _ | assumption | (refine Below.alloc ?_ (by first | exact Nat.le_refl _ | (simp; done) | (simp; omega) | omega) _) | (refine Below.drew ?_) | (refine Below.setCell ?_ (by first | exact Nat.le_refl _ | (simp; done) | (simp; omega) | omega) _))))).mono ?_; rintro e w1 ⟨A1, c1, rfl, hi1, hb⟩; have hb' := ((Below.refl w.heap.size w).alloc (by first | exact Nat.le_refl _ | (simp; done) | (simp; omega) | omega) _).trans (hb.mono (by first | exact Nat.le_refl _ | (simp; done) | (simp; omega) | omega)))
        | (go_at_call 36; refine (within_any _ _ _ _).mono ?_; rintro e w' ⟨rfl, rfl⟩))
      go_ret
      exact ⟨ret_int HE.out.symm, hb'⟩

end Go.Proofs.Ythfofjbegkjdmaa
