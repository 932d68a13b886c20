/-
  Sorting bytes: partitionEqualOrdered.
-/
import Derived.Test.YthfjfhgeiggljaaDoorSrD
namespace Go.Proofs.YthfjfhgeiggljaaDoor
open Go.RowKit
set_option linter.unusedVariables false
set_option linter.unusedSimpArgs false

set_option maxRecDepth 100000 in
set_option maxHeartbeats 16000000 in
theorem partitionEqual_byte (g off cap a b pivot n : Nat) (d : Array Int) (w : World) (hH : AD w g off d) (hap : a ≤ pivot) (hpb : pivot < b) (hb : b ≤ n) (hn : d.size = n) (hsz : n < 4611686018427387904) :
    Calls Tryd.prog 87 #[.slice (some ⟨g, off, none⟩) n cap, .int .i64 a, .int .i64 b, .int .i64 pivot] w fun e w' =>
      e = .returned (.int .i64 (Go.Sort.partitionEqual ltZ d a b pivot).1) ∧ AD w' g off (Go.Sort.partitionEqual ltZ d a b pivot).2 ∧ (Go.Sort.partitionEqual ltZ d a b pivot).2.size = n ∧ Frm (OneB g) w w' := by
  have HE := Lib.hid (show Go.Sort.partitionEqual ltZ d a b pivot = Go.Sort.partEqLoop ltZ a (a + 1) (b - 1) (Go.Sort.swp d a pivot) from rfl)
  obtain ⟨G, hG, hcw, hfw⟩ := hH.fam hn
  have ca := hcw a (by omega)
  have fa := hfw a (by omega)
  have cp := hcw pivot (by omega)
  have fp := hfw pivot (by omega)
  obtain ⟨v', hy'⟩ := cell?_setCell_some (w := w) (p := ⟨g, off + a, none⟩) (x := .int .u8 (G pivot)) (q := ⟨g, off + pivot, none⟩) cp
  have HG := Lib.hid hG
  have HH := Lib.hid hH
  have HN := Lib.hid hn
  have HW := Lib.hid (Frm.refl (OneB g) w)
  clear hH hn hG
  go_enter Tryd.func87, Tryd.ntmps87
  go_wp2
  go_region
  go_wp2
  go_loopw [9, 10] (fun vi vj wr => ∃ (i j : Nat) (dk : Array Int), vi = .int .i64 i ∧ vj = .int .i64 j ∧ a < i ∧ i ≤ j + 1 ∧ j < b ∧ dk.size = n ∧ AD wr g off dk ∧ Frm (OneB g) w wr ∧
      Go.Sort.partEqLoop ltZ a i j dk = Go.Sort.partEqLoop ltZ a (a + 1) (b - 1) (Go.Sort.swp d a pivot)) (fun vi vj _ => (intOf vj).toNat + 1 - (intOf vi).toNat)
  case atStart => exact ⟨a + 1, b - 1, Go.Sort.swp d a pivot, by go_num, by go_num, by omega, by omega, by omega, by rw [swp_size]; exact HN.out, HH.out.drew.swapG (by rw [HN.out]; omega) (by rw [HN.out]; omega) (HG.out _) (HG.out _), HW.out.drew.swap _ _ _ _, rfl⟩
  case round =>
    obtain ⟨i, j, dk, rfl, rfl, hai, hij, hjb, hsk, hA, hF, hQ⟩ := hrel
    clear ca fa cp fp hy' HG hcw hfw
    obtain ⟨G, hG, hcw, hfw⟩ := hA.fam hsk
    have HG := Lib.hid hG
    have HQ := Lib.hid hQ
    have HA := Lib.hid hA
    have HF := Lib.hid hF
    have HSK := Lib.hid hsk
    have HC := Lib.hid (fun V (h : AD V g off dk) => show ∀ t, t < n → V.cell? ⟨g, off + t, none⟩ = some (.int .u8 (G t)) from fun t ht => by rw [hG]; exact h.get (by omega))
    have HFZ := Lib.hid (fun V (h : AD V g off dk) => show ∀ t, t < n → V.frozen? ⟨g, off + t, none⟩ = false from fun t ht => h.frz (by omega))
    have HUG := Lib.hid (fun i' h1 h2 => Go.Proofs.scanUp_go (fun x => !ltZ dk[a]! x) dk j i' h1 h2)
    have HUE := Lib.hid (fun i' h => Go.Proofs.scanUp_end (fun x => !ltZ dk[a]! x) dk j i' h)
    have HDG := Lib.hid (fun i' j' h1 h2 h3 => Go.Proofs.scanDown_go (fun x => ltZ dk[a]! x) dk i' j' h1 h2 h3)
    have HDE := Lib.hid (fun i' j' h => Go.Proofs.scanDown_end (fun x => ltZ dk[a]! x) dk i' j' h)
    have HLT := Lib.hid (fun i2 j2 h1 h2 h3 => Go.Proofs.scans_lt ltZ a i j dk (by omega) (i2 := i2) (j2 := j2) h1 h2 h3)
    have HGO := Lib.hid (fun i2 j2 h1 h2 h3 => Go.Proofs.partEq_go ltZ a i j dk (i2 := i2) (j2 := j2) h1 h2 h3)
    have HBR := Lib.hid (fun i2 j2 h1 h2 h3 => Go.Proofs.partEq_break ltZ a i j dk (i2 := i2) (j2 := j2) h1 h2 h3)
    clear hG hQ hA hF hsk hcw hfw
    go_wp2
    go_loopw [9] (fun vi w1 => ∃ i' : Nat, vi = .int .i64 i' ∧ i ≤ i' ∧ i' ≤ j + 1 ∧ AD w1 g off dk ∧ Frm (OneB g) w w1 ∧ Hid (Go.Sort.scanUp (fun x => !ltZ dk[a]! x) dk j i' = Go.Sort.scanUp (fun x => !ltZ dk[a]! x) dk j i)) (fun vi _ => j + 1 - (intOf vi).toNat)
    case atStart => exact ⟨i, rfl, Nat.le_refl _, hij, HA.out, HF.out, Lib.hid rfl⟩
    case round =>
      obtain ⟨i', rfl, hii, hij', hA1, hF1, hsc⟩ := hrel
      have HA1 := Lib.hid hA1
      have HF1 := Lib.hid hF1
      have hcw := HC.out _ hA1
      clear hA1 hF1
      by_cases hle : i' ≤ j
      · go_wp2_with fail
        go_big_quiet (first | (go_at_call 86; refine Calls.quiet_of_same (less_byte _ _ _)))
        go_wp2
        · have ht : (!ltZ (G a) (G i')) = true := by assumption
          go_roundw
          case rel => exact ⟨i' + 1, by go_num, by omega, by omega, HA1.out.drewN _, HF1.out.drewN _, Lib.hid ((HUG.out i' hle (by rw [← HG.out a, ← HG.out i']; exact ht)).symm.trans hsc.out)⟩
          case measure => simp [intOf]; omega
        · have ht : (!ltZ (G a) (G i')) = false := by assumption
          have hi2 := Lib.hid ((HUE.out i' (Or.inr (by rw [← HG.out a, ← HG.out i']; exact ht))).symm.trans hsc.out)
          clear ht
          have HA2 := Lib.hid (HA1.out.drewN nq)
          have HF2 := Lib.hid (HF1.out.drewN nq)
          clear hcw hsc
          generalize wr.drewN nq = wd at *
          go_loopw [10] (fun vj w2 => ∃ j' : Nat, vj = .int .i64 j' ∧ j' ≤ j ∧ i' ≤ j' + 1 ∧ AD w2 g off dk ∧ Frm (OneB g) w w2 ∧ Hid (Go.Sort.scanDown (fun x => ltZ dk[a]! x) dk i' j' = Go.Sort.scanDown (fun x => ltZ dk[a]! x) dk i' j)) (fun vj _ => (intOf vj).toNat)
          case atStart => exact ⟨j, rfl, Nat.le_refl _, hij', HA2.out, HF2.out, Lib.hid rfl⟩
          case round =>
            obtain ⟨j', rfl, hjj, hij2, hA3, hF3, hsd⟩ := hrel
            have HA3 := Lib.hid hA3
            have HF3 := Lib.hid hF3
            have hcw := HC.out _ hA3
            clear hA3 hF3
            by_cases hle2 : i' ≤ j'
            · go_wp2_with fail
              go_big_quiet (first | (go_at_call 86; refine Calls.quiet_of_same (less_byte _ _ _)))
              go_wp2
              · have ht : ltZ (G a) (G j') = true := by assumption
                go_roundw
                case rel => exact ⟨j' - 1, by go_num, by omega, by omega, HA3.out.drewN _, HF3.out.drewN _, Lib.hid ((HDG.out i' j' hle2 (by omega) (by rw [← HG.out a, ← HG.out j']; exact ht)).symm.trans hsd.out)⟩
                case measure => simp [intOf]; omega
              · have ht : ltZ (G a) (G j') = false := by assumption
                have hj2 := Lib.hid ((HDE.out i' j' (Or.inr (by rw [← HG.out a, ← HG.out j']; exact ht))).symm.trans hsd.out)
                have HA4 := Lib.hid (HA3.out.drewN nq)
                have HF4 := Lib.hid (HF3.out.drewN nq)
                clear hcw hsd ht
                generalize wr.drewN nq = wd2 at *
                have hcw := HC.out _ HA4.out
                have hfw := HFZ.out _ HA4.out
                obtain ⟨v3, hy3⟩ := cell?_setCell_some (w := wd2) (p := ⟨g, off + i', none⟩) (x := .int .u8 (G j')) (q := ⟨g, off + j', none⟩) (hcw j' (by omega))
                have hlt3 := HLT.out i' j' hi2.out hj2.out hle2
                go_wp2
                go_region
                all_goals go_wp2
                all_goals go_roundw
                case rel =>
                  exact ⟨i' + 1, j' - 1, Go.Sort.swp dk i' j', by go_num, by go_num, by omega, by omega, by omega, by rw [swp_size]; exact HSK.out, HA4.out.drew.swapG (by rw [HSK.out]; omega) (by rw [HSK.out]; omega) (HG.out _) (HG.out _), HF4.out.drew.swap _ _ _ _, by rw [← HQ.out]; exact (HGO.out i' j' hi2.out hj2.out (by omega)).symm⟩
                case measure => simp [intOf]; omega
            · go_wp2_with fail
              go_big_quiet (first | (go_at_call 86; refine Calls.quiet_of_same (less_byte _ _ _)))
              have hj2 := Lib.hid ((HDE.out i' j' (Or.inl hle2)).symm.trans hsd.out)
              have HV := Lib.hid (HE.out.trans (HQ.out.symm.trans (HBR.out i' j' hi2.out hj2.out (by omega))))
              have HA4 := Lib.hid (HA3.out.drewN nq)
              have HF4 := Lib.hid (HF3.out.drewN nq)
              clear hcw hsd
              generalize wr.drewN nq = wd2 at *
              go_wp2
              go_ret
              rw [HV.out]
              exact ⟨rfl, HA4.out, HSK.out, HF4.out⟩
      · go_wp2_with fail
        go_big_quiet (first | (go_at_call 86; refine Calls.quiet_of_same (less_byte _ _ _)))
        go_wp2
        have hi2 := Lib.hid ((HUE.out i' (Or.inl hle)).symm.trans hsc.out)
        have HA2 := Lib.hid (HA1.out.drewN nq)
        have HF2 := Lib.hid (HF1.out.drewN nq)
        clear hcw hsc
        generalize wr.drewN nq = wd at *
        go_loopw [10] (fun vj w2 => ∃ j' : Nat, vj = .int .i64 j' ∧ j' ≤ j ∧ i' ≤ j' + 1 ∧ AD w2 g off dk ∧ Frm (OneB g) w w2 ∧ Hid (Go.Sort.scanDown (fun x => ltZ dk[a]! x) dk i' j' = Go.Sort.scanDown (fun x => ltZ dk[a]! x) dk i' j)) (fun vj _ => (intOf vj).toNat)
        case atStart => exact ⟨j, rfl, Nat.le_refl _, hij', HA2.out, HF2.out, Lib.hid rfl⟩
        case round =>
          obtain ⟨j', rfl, hjj, hij2, hA3, hF3, hsd⟩ := hrel
          have HA3 := Lib.hid hA3
          have HF3 := Lib.hid hF3
          have hcw := HC.out _ hA3
          clear hA3 hF3
          by_cases hle2 : i' ≤ j'
          · exfalso; omega
          · go_wp2_with fail
            go_big_quiet (first | (go_at_call 86; refine Calls.quiet_of_same (less_byte _ _ _)))
            have hj2 := Lib.hid ((HDE.out i' j' (Or.inl hle2)).symm.trans hsd.out)
            have HV := Lib.hid (HE.out.trans (HQ.out.symm.trans (HBR.out i' j' hi2.out hj2.out (by omega))))
            have HA4 := Lib.hid (HA3.out.drewN nq)
            have HF4 := Lib.hid (HF3.out.drewN nq)
            clear hcw hsd
            generalize wr.drewN nq = wd2 at *
            go_wp2
            go_ret
            rw [HV.out]
            exact ⟨rfl, HA4.out, HSK.out, HF4.out⟩

end Go.Proofs.YthfjfhgeiggljaaDoor
