/-
  The beats of RhythmFor fit.
-/
import Derived.Test.YtfbnepfdeofflaaRfor
namespace Go.Proofs.Ytfbnepfdeofflaa
open Go.RowKit
set_option linter.unusedVariables false
set_option linter.unusedSimpArgs false

theorem psum_bound : ∀ (l : List Int) (a : Int), (∀ x ∈ l, 0 ≤ x) → ∀ y ∈ psum a l, a ≤ y ∧ y ≤ a + sumL l
  | [], a, _ => by intro y hy; simp [psum] at hy
  | s :: l, a, h => by
    have hs := h s (by simp)
    have hn := sumL_nonneg l (fun y hy => h y (by simp [hy]))
    have ih := psum_bound l (a + s) (fun y hy => h y (by simp [hy]))
    have e : sumL (s :: l) = s + sumL l := rfl
    intro y hy
    unfold psum at hy
    rcases List.mem_cons.1 hy with rfl | hy
    · omega
    · have := ih y hy
      omega

theorem forL_fits (n k lo hi x : Int) : ∀ y ∈ forL n k lo hi x, Fits y := by
  unfold forL
  by_cases h : forOk n k lo hi x = true
  · rw [if_pos h]
    unfold forOk at h
    rw [Bool.and_eq_true] at h
    obtain ⟨⟨hn1, hn16⟩, ⟨hk1, hkn⟩, ⟨hl1, hl16⟩, hlh, hh16⟩ := wishB_iff.1 h.1
    obtain ⟨hx0, hx1⟩ := inB_iff.1 h.2
    have hfit := wishL_fit lo (width lo hi) k.toNat n x hx0 (by omega)
    have hsum := wishL_sum lo (width lo hi) k.toNat n x hx0 (by omega)
    intro y hy
    have := psum_bound _ 0 (fun z hz => by have := hfit z hz; omega) y hy
    unfold Fits
    omega
  · rw [if_neg h]
    intro y hy
    cases hy

end Go.Proofs.Ytfbnepfdeofflaa
