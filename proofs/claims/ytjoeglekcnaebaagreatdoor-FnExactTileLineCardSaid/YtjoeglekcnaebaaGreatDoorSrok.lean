/-
  RhythmOk of the reference; StepsOf of both.
-/
import Derived.Test.YtjoeglekcnaebaaGreatDoorRok
namespace Go.Proofs.YtjoeglekcnaebaaGreatDoor
open Go.RowKit
set_option linter.unusedVariables false
set_option linter.unusedSimpArgs false

set_option maxHeartbeats 400000 in
theorem spec_RhythmOk_any (n : Int) (A : Option Addr) (cap : Nat) (bs : List Int) (w : World) (hA : Ints w w.heap.size A bs) :
    Calls Tryz.prog 13 #[.agg #[.int .i64 n, .slice A bs.length cap]] w fun e w' => e = .returned (.bool (rhB n bs)) ∧ Below w.heap.size w w' := by
  obtain ⟨hlen, hfit, hcells⟩ := hA
  unfold maxLen at hlen
  have HF := Lib.hid hfit
  have HC := Lib.hid hcells
  clear hfit hcells
  by_cases hsz : 1 ≤ n ∧ n ≤ 24
  · obtain ⟨h1, h24⟩ := hsz
    have hin := inB_true ⟨h1, h24⟩
    go_enter Tryz.func13, Tryz.ntmps13
    go_wp2_with (go_at_call 34; refine (l01In_any _ _ _ _).mono ?_; rintro e w' ⟨rfl, rfl⟩)
    clear hin
    go_loop [12] (fun i => ∃ k : Nat, RhPre n bs k ∧ i = .int .i64 k) (fun i => bs.length - (intOf i).toNat)
    case atStart => exact ⟨0, RhPre.zero _ _, rfl⟩
    case round =>
      obtain ⟨k, hpre, rfl⟩ := hrel
      have hk := hpre.1
      have HP := Lib.hid hpre
      clear hpre
      by_cases hlt : k < bs.length
      · obtain ⟨b, off, rfl, hB, hc⟩ := HC.out (by omega)
        have hcell := hc k hlt
        have hcell1 := hc (k - 1) (by omega)
        obtain ⟨x, hx⟩ : ∃ x, bs.getD k 0 = x := ⟨_, rfl⟩
        obtain ⟨y, hy⟩ : ∃ y, bs.getD (k - 1) 0 = y := ⟨_, rfl⟩
        rw [hx] at hcell
        rw [hy] at hcell1
        have HX := Lib.hid hx
        have HY := Lib.hid hy
        clear hx hy hc
        go_wp2_with (go_at_call 34; refine (l01In_any _ _ _ _).mono ?_; rintro e w' ⟨rfl, rfl⟩)
        all_goals first
          | (go_ret; exact ⟨ret_bool (rh_fail1 hlt HX.out ‹_›).symm, (by repeat (first | exact Below.refl _ _ | assumption | (refine Below.alloc ?_ (by first | exact Nat.le_refl _ | (simp; done) | (simp; omega) | omega) _) | (refine Below.drew ?_) | (refine Below.setCell ?_ (by first | exact Nat.le_refl _ | (simp; done) | (simp; omega) | omega) _)))⟩)
          | (go_ret; exact ⟨ret_bool (rh_fail2 hlt HX.out HY.out ‹_› ‹_›).symm, (by repeat (first | exact Below.refl _ _ | assumption | (refine Below.alloc ?_ (by first | exact Nat.le_refl _ | (simp; done) | (simp; omega) | omega) _) | (refine Below.drew ?_) | (refine Below.setCell ?_ (by first | exact Nat.le_refl _ | (simp; done) | (simp; omega) | omega) _)))⟩)
          | (go_round
             case rel => exact ⟨k + 1, HP.out.step hlt HX.out HY.out ‹_› (fun _ => by first | assumption | omega), by go_num⟩
             case measure => simp [intOf]; omega)
      · have hke : k = bs.length := by omega
        subst hke
        have HR := Lib.hid (HP.out.done h1 h24)
        go_wp2
        go_ret
        exact ⟨ret_bool HR.out.symm, (by repeat (first | exact Below.refl _ _ | assumption | (refine Below.alloc ?_ (by first | exact Nat.le_refl _ | (simp; done) | (simp; omega) | omega) _) | (refine Below.drew ?_) | (refine Below.setCell ?_ (by first | exact Nat.le_refl _ | (simp; done) | (simp; omega) | omega) _)))⟩
  · have hin := inB_false hsz
    have HR := Lib.hid (rhB_bad (bs := bs) hsz)
    clear hsz
    go_enter Tryz.func13, Tryz.ntmps13
    go_wp2_with (go_at_call 34; refine (l01In_any _ _ _ _).mono ?_; rintro e w' ⟨rfl, rfl⟩)
    go_ret
    exact ⟨ret_bool HR.out.symm, (by repeat (first | exact Below.refl _ _ | assumption | (refine Below.alloc ?_ (by first | exact Nat.le_refl _ | (simp; done) | (simp; omega) | omega) _) | (refine Below.drew ?_) | (refine Below.setCell ?_ (by first | exact Nat.le_refl _ | (simp; done) | (simp; omega) | omega) _)))⟩

end Go.Proofs.YtjoeglekcnaebaaGreatDoor
