/-
  Sorting bytes: siftDownOrdered, heapSortOrdered, reverseRangeOrdered.
-/
import Derived.Test.YthfjfhgeiggljaaDoorSrB
namespace Go.Proofs.YthfjfhgeiggljaaDoor
open Go.RowKit
set_option linter.unusedVariables false
set_option linter.unusedSimpArgs false

theorem sd_size (hi F root : Nat) (d : Array Int) : (Go.Sort.siftDown ltZ hi F root d).size = d.size := Go.Sort.size_siftDown ltZ hi F (hi - root) root d (Nat.le_refl _)

set_option maxRecDepth 100000 in
set_option maxHeartbeats 8000000 in
theorem siftDown_byte (g off cap lo hi first n : Nat) (d : Array Int) (w : World) (hH : AD w g off d) (hlo : lo ≤ hi) (hb : first + hi ≤ n) (hn : d.size = n) (hsz : n < 4611686018427387904) :
    Calls Tryd.prog 110 #[.slice (some ⟨g, off, none⟩) n cap, .int .i64 lo, .int .i64 hi, .int .i64 first] w fun e w' =>
      e = .returned (.tuple #[]) ∧ AD w' g off (Go.Sort.siftDown ltZ hi first lo d) ∧ Frm (OneB g) w w' := by
  have HH := Lib.hid hH
  have HN := Lib.hid hn
  have HW := Lib.hid (Frm.refl (OneB g) w)
  clear hH hn
  go_enter Tryd.func110, Tryd.ntmps110
  go_wp2
  go_loopg [8] (hi - lo) (fun k s8 wr => ∃ (root : Nat) (dk : Array Int), s8 = .int .i64 root ∧ root ≤ hi ∧ hi - root ≤ k ∧ dk.size = n ∧ AD wr g off dk ∧ Frm (OneB g) w wr ∧ Go.Sort.siftDown ltZ hi first root dk = Go.Sort.siftDown ltZ hi first lo d)
  case atStart => exact ⟨lo, d, rfl, hlo, Nat.le_refl _, HN.out, HH.out, HW.out, rfl⟩
  case round =>
    obtain ⟨root, dk, rfl, hr, hk, hsk, hA, hF, hQ⟩ := hrel
    obtain ⟨G, hG, hcw, hfw⟩ := hA.fam hsk
    have HG := Lib.hid hG
    have HQ := Lib.hid hQ
    have HA := Lib.hid hA
    have HF := Lib.hid hF
    have HSK := Lib.hid hsk
    have HE := Lib.hid (fun h => Go.Sort.sd_end ltZ (F := first) (hi := hi) (root := root) dk h)
    have HRS := Lib.hid (fun h1 h2 h3 => Go.Sort.sd_right_stop ltZ (F := first) (hi := hi) (root := root) dk h1 h2 h3)
    have HRG := Lib.hid (fun h1 h2 h3 => Go.Sort.sd_right_go ltZ (F := first) (hi := hi) (root := root) dk h1 h2 h3)
    have HLS := Lib.hid (fun h1 h2 h3 => Go.Sort.sd_left_stop ltZ (F := first) (hi := hi) (root := root) dk h1 h2 h3)
    have HLG := Lib.hid (fun h1 h2 h3 => Go.Sort.sd_left_go ltZ (F := first) (hi := hi) (root := root) dk h1 h2 h3)
    clear hG hQ hA hF hsk
    by_cases h0 : hi ≤ 2 * root + 1
    · have h0z : (hi : Int) ≤ 2 * (root : Int) + 1 := by omega
      go_wp2
      go_end0
      rw [← HQ.out, HE.out h0]
      exact ⟨rfl, HA.out, HF.out⟩
    · have h0z : ¬ ((hi : Int) ≤ 2 * (root : Int) + 1) := by omega
      by_cases h1 : 2 * root + 2 < hi
      · have h1z : 2 * (root : Int) + 1 + 1 < (hi : Int) := by omega
        go_wp2_with fail
        go_big_quiet (first | (go_at_call 86; refine Calls.quiet_of_same (less_byte _ _ _)))
        go_wp2_with fail
        · have hL : ltZ (G (first + 2 * root + 1)) (G (first + 2 * root + 2)) = true := by assumption
          revert nq; intro nq1
          have hcw2 : ∀ t, t < n → (wr.drewN nq1).cell? ⟨g, off + t, none⟩ = some (.int .u8 (G t)) := hcw
          have hfw2 : ∀ t, t < n → (wr.drewN nq1).frozen? ⟨g, off + t, none⟩ = false := hfw
          have HA := Lib.hid (HA.out.drewN nq1)
          have HF := Lib.hid (HF.out.drewN nq1)
          clear hcw hfw
          have hcw := hcw2
          have hfw := hfw2
          clear hcw2 hfw2
          generalize wr.drewN nq1 = wr2 at *
          go_big_quiet (first | (go_at_call 86; refine Calls.quiet_of_same (less_byte _ _ _)))
          go_wp2_with fail
          · have hS : (!ltZ (G (first + root)) (G (first + 2 * root + 2))) = true := by assumption
            have hS2 : ltZ (G (first + root)) (G (first + 2 * root + 2)) = false := by simpa using hS
            (try simp only [Exit.inBlock, Exit.then]); refine bodyPost_ret (results_none rfl _ _ _) rfl ?_
            rw [← HQ.out, HRS.out h1 (by rw [← HG.out, ← HG.out]; exact hL) (by rw [← HG.out, ← HG.out]; exact hS2)]
            exact ⟨rfl, HA.out.drewN _, HF.out.drewN _⟩
          · have hS : (!ltZ (G (first + root)) (G (first + 2 * root + 2))) = false := by assumption
            have hS2 : ltZ (G (first + root)) (G (first + 2 * root + 2)) = true := by simpa using hS
            revert nq; intro nq1
            have hcw2 : ∀ t, t < n → (wr2.drewN nq1).cell? ⟨g, off + t, none⟩ = some (.int .u8 (G t)) := hcw
            have hfw2 : ∀ t, t < n → (wr2.drewN nq1).frozen? ⟨g, off + t, none⟩ = false := hfw
            have HA := Lib.hid (HA.out.drewN nq1)
            have HF := Lib.hid (HF.out.drewN nq1)
            clear hcw hfw
            have hcw := hcw2
            have hfw := hfw2
            clear hcw2 hfw2
            generalize wr2.drewN nq1 = wr3 at *
            go_region
            go_wp2
            go_roundg (hi - (2 * root + 2))
            case measure => omega
            case rel =>
              refine ⟨2 * root + 2, Go.Sort.swp dk (first + root) (first + (2 * root + 2)), by simp <;> omega, by omega, Nat.le_refl _, by rw [swp_size]; exact HSK.out, HA.out.swapG (by rw [HSK.out]; omega) (by rw [HSK.out]; omega) (HG.out _) (HG.out _), HF.out.drew.swap _ _ _ _, ?_⟩
              rw [← HQ.out, HRG.out h1 (by rw [← HG.out, ← HG.out]; exact hL) (by rw [← HG.out, ← HG.out]; exact hS2)]
        · have hL : ltZ (G (first + 2 * root + 1)) (G (first + 2 * root + 2)) = false := by assumption
          revert nq; intro nq1
          have hcw2 : ∀ t, t < n → (wr.drewN nq1).cell? ⟨g, off + t, none⟩ = some (.int .u8 (G t)) := hcw
          have hfw2 : ∀ t, t < n → (wr.drewN nq1).frozen? ⟨g, off + t, none⟩ = false := hfw
          have HA := Lib.hid (HA.out.drewN nq1)
          have HF := Lib.hid (HF.out.drewN nq1)
          clear hcw hfw
          have hcw := hcw2
          have hfw := hfw2
          clear hcw2 hfw2
          generalize wr.drewN nq1 = wr2 at *
          go_big_quiet (first | (go_at_call 86; refine Calls.quiet_of_same (less_byte _ _ _)))
          go_wp2_with fail
          · have hS : (!ltZ (G (first + root)) (G (first + 2 * root + 1))) = true := by assumption
            have hS2 : ltZ (G (first + root)) (G (first + 2 * root + 1)) = false := by simpa using hS
            (try simp only [Exit.inBlock, Exit.then]); refine bodyPost_ret (results_none rfl _ _ _) rfl ?_
            rw [← HQ.out, HLS.out (by omega) (fun _ => by rw [← HG.out, ← HG.out]; exact hL) (by rw [← HG.out, ← HG.out]; exact hS2)]
            exact ⟨rfl, HA.out.drewN _, HF.out.drewN _⟩
          · have hS : (!ltZ (G (first + root)) (G (first + 2 * root + 1))) = false := by assumption
            have hS2 : ltZ (G (first + root)) (G (first + 2 * root + 1)) = true := by simpa using hS
            revert nq; intro nq1
            have hcw2 : ∀ t, t < n → (wr2.drewN nq1).cell? ⟨g, off + t, none⟩ = some (.int .u8 (G t)) := hcw
            have hfw2 : ∀ t, t < n → (wr2.drewN nq1).frozen? ⟨g, off + t, none⟩ = false := hfw
            have HA := Lib.hid (HA.out.drewN nq1)
            have HF := Lib.hid (HF.out.drewN nq1)
            clear hcw hfw
            have hcw := hcw2
            have hfw := hfw2
            clear hcw2 hfw2
            generalize wr2.drewN nq1 = wr3 at *
            go_region
            go_wp2
            go_roundg (hi - (2 * root + 1))
            case measure => omega
            case rel =>
              refine ⟨2 * root + 1, Go.Sort.swp dk (first + root) (first + (2 * root + 1)), by simp <;> omega, by omega, Nat.le_refl _, by rw [swp_size]; exact HSK.out, HA.out.swapG (by rw [HSK.out]; omega) (by rw [HSK.out]; omega) (HG.out _) (HG.out _), HF.out.drew.swap _ _ _ _, ?_⟩
              rw [← HQ.out, HLG.out (by omega) (fun _ => by rw [← HG.out, ← HG.out]; exact hL) (by rw [← HG.out, ← HG.out]; exact hS2)]
      · have h1z : ¬ (2 * (root : Int) + 1 + 1 < (hi : Int)) := by omega
        have h1d : decide (2 * (root : Int) + 1 + 1 < (hi : Int)) = false := decide_eq_false h1z
        go_wp2_with fail
        go_big_quiet (first | (go_at_call 86; refine Calls.quiet_of_same (less_byte _ _ _)))
        go_wp2_with fail
        revert nq; intro nq1
        have hcw2 : ∀ t, t < n → (wr.drewN nq1).cell? ⟨g, off + t, none⟩ = some (.int .u8 (G t)) := hcw
        have hfw2 : ∀ t, t < n → (wr.drewN nq1).frozen? ⟨g, off + t, none⟩ = false := hfw
        have HA := Lib.hid (HA.out.drewN nq1)
        have HF := Lib.hid (HF.out.drewN nq1)
        clear hcw hfw
        have hcw := hcw2
        have hfw := hfw2
        clear hcw2 hfw2
        generalize wr.drewN nq1 = wr2 at *
        go_big_quiet (first | (go_at_call 86; refine Calls.quiet_of_same (less_byte _ _ _)))
        go_wp2_with fail
        · have hS : (!ltZ (G (first + root)) (G (first + 2 * root + 1))) = true := by assumption
          have hS2 : ltZ (G (first + root)) (G (first + 2 * root + 1)) = false := by simpa using hS
          (try simp only [Exit.inBlock, Exit.then]); refine bodyPost_ret (results_none rfl _ _ _) rfl ?_
          rw [← HQ.out, HLS.out (by omega) (fun h => absurd h h1) (by rw [← HG.out, ← HG.out]; exact hS2)]
          exact ⟨rfl, HA.out.drewN _, HF.out.drewN _⟩
        · have hS : (!ltZ (G (first + root)) (G (first + 2 * root + 1))) = false := by assumption
          have hS2 : ltZ (G (first + root)) (G (first + 2 * root + 1)) = true := by simpa using hS
          revert nq; intro nq1
          have hcw2 : ∀ t, t < n → (wr2.drewN nq1).cell? ⟨g, off + t, none⟩ = some (.int .u8 (G t)) := hcw
          have hfw2 : ∀ t, t < n → (wr2.drewN nq1).frozen? ⟨g, off + t, none⟩ = false := hfw
          have HA := Lib.hid (HA.out.drewN nq1)
          have HF := Lib.hid (HF.out.drewN nq1)
          clear hcw hfw
          have hcw := hcw2
          have hfw := hfw2
          clear hcw2 hfw2
          generalize wr2.drewN nq1 = wr3 at *
          go_region
          go_wp2
          go_roundg (hi - (2 * root + 1))
          case measure => omega
          case rel =>
            refine ⟨2 * root + 1, Go.Sort.swp dk (first + root) (first + (2 * root + 1)), by simp <;> omega, by omega, Nat.le_refl _, by rw [swp_size]; exact HSK.out, HA.out.swapG (by rw [HSK.out]; omega) (by rw [HSK.out]; omega) (HG.out _) (HG.out _), HF.out.drew.swap _ _ _ _, ?_⟩
            rw [← HQ.out, HLG.out (by omega) (fun h => absurd h h1) (by rw [← HG.out, ← HG.out]; exact hS2)]

end Go.Proofs.YthfjfhgeiggljaaDoor
