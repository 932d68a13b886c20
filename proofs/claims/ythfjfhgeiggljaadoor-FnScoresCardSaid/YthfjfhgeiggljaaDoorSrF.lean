/-
  Sorting bytes: partitionOrdered.
-/
import Derived.Test.YthfjfhgeiggljaaDoorSrE
namespace Go.Proofs.YthfjfhgeiggljaaDoor
open Go.RowKit
set_option linter.unusedVariables false
set_option linter.unusedSimpArgs false

theorem part_brk (d : Array Int) (a b pivot i2 j2 : Nat) (hi2 : i2 = Go.Sort.scanUp (fun x => ltZ x (Go.Sort.swp d a pivot)[a]!) (Go.Sort.swp d a pivot) (b - 1) (a + 1)) (hj2 : j2 = Go.Sort.scanDown (fun x => !ltZ x (Go.Sort.swp d a pivot)[a]!) (Go.Sort.swp d a pivot) i2 (b - 1)) (h : i2 > j2) :
    Go.Sort.partition ltZ d a b pivot = (j2, true, Go.Sort.swp (Go.Sort.swp d a pivot) j2 a) := by
  unfold Go.Sort.partition
  simp only [← hi2, ← hj2, if_pos h]
theorem part_cont (d : Array Int) (a b pivot i2 j2 : Nat) (hi2 : i2 = Go.Sort.scanUp (fun x => ltZ x (Go.Sort.swp d a pivot)[a]!) (Go.Sort.swp d a pivot) (b - 1) (a + 1)) (hj2 : j2 = Go.Sort.scanDown (fun x => !ltZ x (Go.Sort.swp d a pivot)[a]!) (Go.Sort.swp d a pivot) i2 (b - 1)) (h : ¬ i2 > j2) :
    Go.Sort.partition ltZ d a b pivot = ((Go.Sort.partLoop ltZ a (i2 + 1) (j2 - 1) (Go.Sort.swp (Go.Sort.swp d a pivot) i2 j2)).1, false, Go.Sort.swp (Go.Sort.partLoop ltZ a (i2 + 1) (j2 - 1) (Go.Sort.swp (Go.Sort.swp d a pivot) i2 j2)).2 (Go.Sort.partLoop ltZ a (i2 + 1) (j2 - 1) (Go.Sort.swp (Go.Sort.swp d a pivot) i2 j2)).1 a) := by
  unfold Go.Sort.partition
  simp only [← hi2, ← hj2, if_neg h]

set_option maxRecDepth 100000 in
set_option maxHeartbeats 16000000 in
theorem partition_byte (g off cap a b pivot n : Nat) (d : Array Int) (w : World) (hH : AD w g off d) (hap : a ≤ pivot) (hpb : pivot < b) (hb : b ≤ n) (hn : d.size = n) (hsz : n < 4611686018427387904) :
    Calls Tryd.prog 88 #[.slice (some ⟨g, off, none⟩) n cap, .int .i64 a, .int .i64 b, .int .i64 pivot] w fun e w' =>
      e = .returned (.tuple #[.int .i64 (Go.Sort.partition ltZ d a b pivot).1, .bool (Go.Sort.partition ltZ d a b pivot).2.1]) ∧ AD w' g off (Go.Sort.partition ltZ d a b pivot).2.2 ∧ (Go.Sort.partition ltZ d a b pivot).2.2.size = n ∧ Frm (OneB g) w w' := by
  have HPB := Lib.hid (part_brk d a b pivot)
  have HPC := Lib.hid (part_cont d a b pivot)
  obtain ⟨G0, hG, hcw, hfw⟩ := hH.fam hn
  have ca := hcw a (by omega)
  have fa := hfw a (by omega)
  have cp := hcw pivot (by omega)
  have fp := hfw pivot (by omega)
  obtain ⟨v', hy'⟩ := cell?_setCell_some (w := w) (p := ⟨g, off + a, none⟩) (x := .int .u8 (G0 pivot)) (q := ⟨g, off + pivot, none⟩) cp
  have HA := Lib.hid ((hH.swapG (i := a) (j := pivot) (by omega) (by omega) (hG _) (hG _)).drew)
  have HF := Lib.hid ((Frm.refl (OneB g) w).swap (off + a) (off + pivot) (.int .u8 (G0 pivot)) (.int .u8 (G0 a))).drew
  have HSK := Lib.hid (show (Go.Sort.swp d a pivot).size = n by rw [swp_size]; exact hn)
  clear hH hn hG
  go_enter Tryd.func88, Tryd.ntmps88
  go_wp2
  go_region
  go_wp2
  clear ca fa cp fp hy' hcw hfw
  generalize ((w.setCell ⟨g, off + a, none⟩ (.int .u8 (G0 pivot))).setCell ⟨g, off + pivot, none⟩ (.int .u8 (G0 a))).drew = W1 at *
  obtain ⟨dk, hdk⟩ : ∃ dk, Go.Sort.swp d a pivot = dk := ⟨_, rfl⟩
  rw [hdk] at HPB HPC HA HSK
  have e1 : ((a : Int) + 1) = ((a + 1 : Nat) : Int) := by omega
  have e2 : ((b : Int) - 1) = ((b - 1 : Nat) : Int) := by omega
  rw [e1, e2]
  clear e1 e2 hdk
  obtain ⟨i, hi⟩ : ∃ i, a + 1 = i := ⟨_, rfl⟩
  obtain ⟨j, hj⟩ : ∃ j, b - 1 = j := ⟨_, rfl⟩
  rw [hi, hj] at HPB HPC ⊢
  have hai : a < i := by omega
  have hij : i ≤ j + 1 := by omega
  have hjb : j < b := by omega
  clear hi hj
  obtain ⟨G, hG, _, _⟩ := HA.out.fam HSK.out
  have HG := Lib.hid hG
  have HC := Lib.hid (fun V (h : AD V g off dk) => show ∀ t, t < n → V.cell? ⟨g, off + t, none⟩ = some (.int .u8 (G t)) from fun t ht => by rw [hG]; exact h.get (by rw [HSK.out]; exact ht))
  have HFZ := Lib.hid (fun V (h : AD V g off dk) => show ∀ t, t < n → V.frozen? ⟨g, off + t, none⟩ = false from fun t ht => h.frz (by rw [HSK.out]; exact ht))
  have HUG := Lib.hid (fun i' h1 h2 => Go.Proofs.scanUp_go (fun x => ltZ x dk[a]!) dk j i' h1 h2)
  have HUE := Lib.hid (fun i' h => Go.Proofs.scanUp_end (fun x => ltZ x dk[a]!) dk j i' h)
  have HDG := Lib.hid (fun i' j' h1 h2 h3 => Go.Proofs.scanDown_go (fun x => !ltZ x dk[a]!) dk i' j' h1 h2 h3)
  have HDE := Lib.hid (fun i' j' h => Go.Proofs.scanDown_end (fun x => !ltZ x dk[a]!) dk i' j' h)
  have HLT := Lib.hid (fun i2 j2 h1 h2 h3 => Go.Proofs.part_scans_lt ltZ a i j dk (by omega) (i2 := i2) (j2 := j2) h1 h2 h3)
  have HGO := Lib.hid (fun i2 j2 h1 h2 h3 => Go.Proofs.part_go ltZ a i j dk (i2 := i2) (j2 := j2) h1 h2 h3)
  have HBR := Lib.hid (fun i2 j2 h1 h2 h3 => Go.Proofs.part_break ltZ a i j dk (i2 := i2) (j2 := j2) h1 h2 h3)
  clear hG
  go_loopw [10] (fun vi w1 => ∃ i' : Nat, vi = .int .i64 i' ∧ i ≤ i' ∧ i' ≤ j + 1 ∧ AD w1 g off dk ∧ Frm (OneB g) w w1 ∧ Hid (Go.Sort.scanUp (fun x => ltZ x dk[a]!) dk j i' = Go.Sort.scanUp (fun x => ltZ x dk[a]!) dk j i)) (fun vi _ => j + 1 - (intOf vi).toNat)
  case atStart => exact ⟨i, rfl, Nat.le_refl _, hij, HA.out, HF.out, Lib.hid rfl⟩
  case round =>
    obtain ⟨i', rfl, hii, hij', hA1, hF1, hsc⟩ := hrel
    have HA1 := Lib.hid hA1
    have HF1 := Lib.hid hF1
    have hcw := HC.out _ hA1
    clear hA1 hF1
    by_cases hle : i' ≤ j
    · go_wp2_with fail
      go_big_quiet (first | (go_at_call 86; refine Calls.quiet_of_same (less_byte _ _ _)))
      go_wp2
      · have ht : ltZ (G i') (G a) = true := by assumption
        go_roundw
        case rel => exact ⟨i' + 1, by go_num, by omega, by omega, HA1.out.drewN _, HF1.out.drewN _, Lib.hid ((HUG.out i' hle (by rw [← HG.out a, ← HG.out i']; exact ht)).symm.trans hsc.out)⟩
        case measure => simp [intOf]; omega
      · have ht : ltZ (G i') (G a) = false := by assumption
        have hi2 := Lib.hid ((HUE.out i' (Or.inr (by rw [← HG.out a, ← HG.out i']; exact ht))).symm.trans hsc.out)
        clear ht
        have HA2 := Lib.hid (HA1.out.drewN nq)
        have HF2 := Lib.hid (HF1.out.drewN nq)
        clear hcw hsc
        generalize wr.drewN nq = wd at *
        go_loopw [11] (fun vj w2 => ∃ j' : Nat, vj = .int .i64 j' ∧ j' ≤ j ∧ i' ≤ j' + 1 ∧ AD w2 g off dk ∧ Frm (OneB g) w w2 ∧ Hid (Go.Sort.scanDown (fun x => !ltZ x dk[a]!) dk i' j' = Go.Sort.scanDown (fun x => !ltZ x dk[a]!) dk i' j)) (fun vj _ => (intOf vj).toNat)
        case atStart => exact ⟨j, rfl, Nat.le_refl _, hij', HA2.out, HF2.out, Lib.hid rfl⟩
        case round =>
          obtain ⟨j', rfl, hjj, hij2, hA3, hF3, hsd⟩ := hrel
          have HA3 := Lib.hid hA3
          have HF3 := Lib.hid hF3
          have hcw := HC.out _ hA3
          clear hA3 hF3
          by_cases hle2 : i' ≤ j'
          · go_wp2_with fail
            go_big_quiet (first | (go_at_call 86; refine Calls.quiet_of_same (less_byte _ _ _)))
            go_wp2
            · have ht : (!ltZ (G j') (G a)) = true := by assumption
              go_roundw
              case rel => exact ⟨j' - 1, by go_num, by omega, by omega, HA3.out.drewN _, HF3.out.drewN _, Lib.hid ((HDG.out i' j' hle2 (by omega) (by rw [← HG.out a, ← HG.out j']; exact ht)).symm.trans hsd.out)⟩
              case measure => simp [intOf]; omega
            · have ht : (!ltZ (G j') (G a)) = false := by assumption
              have hj2 := Lib.hid ((HDE.out i' j' (Or.inr (by rw [← HG.out a, ← HG.out j']; exact ht))).symm.trans hsd.out)
              have HA4 := Lib.hid (HA3.out.drewN nq)
              have HF4 := Lib.hid (HF3.out.drewN nq)
              clear hcw hsd ht
              generalize wr.drewN nq = wd2 at *
              have hcw := HC.out _ HA4.out
              have hfw := HFZ.out _ HA4.out
              obtain ⟨v3, hy3⟩ := cell?_setCell_some (w := wd2) (p := ⟨g, off + i', none⟩) (x := .int .u8 (G j')) (q := ⟨g, off + j', none⟩) (hcw j' (by omega))
              have hlt3 := HLT.out i' j' hi2.out hj2.out hle2
              go_wp2
              go_region
              all_goals go_wp2
              have HV := Lib.hid (HPC.out i' j' hi2.out hj2.out (by omega))
              have HA5 := Lib.hid ((HA4.out.swapG (i := i') (j := j') (by rw [HSK.out]; omega) (by rw [HSK.out]; omega) (HG.out _) (HG.out _)).drew)
              have HF5 := Lib.hid ((HF4.out.swap (off + i') (off + j') (.int .u8 (G j')) (.int .u8 (G i'))).drew)
              have HS5 := Lib.hid (show (Go.Sort.swp dk i' j').size = n by rw [swp_size]; exact HSK.out)
              clear hcw hfw hy3
              generalize ((wd2.setCell ⟨g, off + i', none⟩ (.int .u8 (G j'))).setCell ⟨g, off + j', none⟩ (.int .u8 (G i'))).drew = W2 at *
              obtain ⟨d0, hd0⟩ : ∃ d0, Go.Sort.swp dk i' j' = d0 := ⟨_, rfl⟩
              rw [hd0] at HV HA5 HS5
              clear hd0
              go_loopw [10, 11] (fun vi vj wr => ∃ (i j : Nat) (dk : Array Int), vi = .int .i64 i ∧ vj = .int .i64 j ∧ a < i ∧ i ≤ j + 1 ∧ j < b ∧ a ≤ j ∧ dk.size = n ∧ AD wr g off dk ∧ Frm (OneB g) w wr ∧
                  Go.Sort.partLoop ltZ a i j dk = Go.Sort.partLoop ltZ a (i' + 1) (j' - 1) d0) (fun vi vj _ => (intOf vj).toNat + 1 - (intOf vi).toNat)
              case atStart => exact ⟨i' + 1, j' - 1, d0, by go_num, by go_num, by omega, by omega, by omega, by omega, HS5.out, HA5.out, HF5.out, rfl⟩
              case round =>
                clear HG HC HFZ HUG HUE HDG HDE HLT HGO HBR HSK HA4 HF4 HA3 HF3 HA HF HA1 HF1 HA2 HF2
                rename_i I0 J0 D0
                obtain ⟨i, j, dk, rfl, rfl, hai, hij, hjb, haj, hsk, hA, hF, hQ⟩ := hrel
                obtain ⟨G, hG, _, _⟩ := hA.fam hsk
                have HQ := Lib.hid hQ
                have HA := Lib.hid hA
                have HF := Lib.hid hF
                have HSK := Lib.hid hsk
                clear hQ hA hF hsk
                have HG := Lib.hid hG
                have HC := Lib.hid (fun V (h : AD V g off dk) => show ∀ t, t < n → V.cell? ⟨g, off + t, none⟩ = some (.int .u8 (G t)) from fun t ht => by rw [hG]; exact h.get (by rw [HSK.out]; exact ht))
                have HFZ := Lib.hid (fun V (h : AD V g off dk) => show ∀ t, t < n → V.frozen? ⟨g, off + t, none⟩ = false from fun t ht => h.frz (by rw [HSK.out]; exact ht))
                have HUG := Lib.hid (fun i' h1 h2 => Go.Proofs.scanUp_go (fun x => ltZ x dk[a]!) dk j i' h1 h2)
                have HUE := Lib.hid (fun i' h => Go.Proofs.scanUp_end (fun x => ltZ x dk[a]!) dk j i' h)
                have HDG := Lib.hid (fun i' j' h1 h2 h3 => Go.Proofs.scanDown_go (fun x => !ltZ x dk[a]!) dk i' j' h1 h2 h3)
                have HDE := Lib.hid (fun i' j' h => Go.Proofs.scanDown_end (fun x => !ltZ x dk[a]!) dk i' j' h)
                have HLT := Lib.hid (fun i2 j2 h1 h2 h3 => Go.Proofs.part_scans_lt ltZ a i j dk (by omega) (i2 := i2) (j2 := j2) h1 h2 h3)
                have HGO := Lib.hid (fun i2 j2 h1 h2 h3 => Go.Proofs.part_go ltZ a i j dk (i2 := i2) (j2 := j2) h1 h2 h3)
                have HBR := Lib.hid (fun i2 j2 h1 h2 h3 => Go.Proofs.part_break ltZ a i j dk (i2 := i2) (j2 := j2) h1 h2 h3)
                clear hG
                go_wp2
                go_loopw [10] (fun vi w1 => ∃ i' : Nat, vi = .int .i64 i' ∧ i ≤ i' ∧ i' ≤ j + 1 ∧ AD w1 g off dk ∧ Frm (OneB g) w w1 ∧ Hid (Go.Sort.scanUp (fun x => ltZ x dk[a]!) dk j i' = Go.Sort.scanUp (fun x => ltZ x dk[a]!) dk j i)) (fun vi _ => j + 1 - (intOf vi).toNat)
                case atStart => exact ⟨i, rfl, Nat.le_refl _, hij, HA.out, HF.out, Lib.hid rfl⟩
                case round =>
                  obtain ⟨i', rfl, hii, hij', hA1, hF1, hsc⟩ := hrel
                  have HA1 := Lib.hid hA1
                  have HF1 := Lib.hid hF1
                  have hcw := HC.out _ hA1
                  clear hA1 hF1
                  by_cases hle : i' ≤ j
                  · go_wp2_with fail
                    go_big_quiet (first | (go_at_call 86; refine Calls.quiet_of_same (less_byte _ _ _)))
                    go_wp2
                    · have ht : ltZ (G i') (G a) = true := by assumption
                      go_roundw
                      case rel => exact ⟨i' + 1, by go_num, by omega, by omega, HA1.out.drewN _, HF1.out.drewN _, Lib.hid ((HUG.out i' hle (by rw [← HG.out a, ← HG.out i']; exact ht)).symm.trans hsc.out)⟩
                      case measure => simp [intOf]; omega
                    · have ht : ltZ (G i') (G a) = false := by assumption
                      have hi2 := Lib.hid ((HUE.out i' (Or.inr (by rw [← HG.out a, ← HG.out i']; exact ht))).symm.trans hsc.out)
                      clear ht
                      have HA2 := Lib.hid (HA1.out.drewN nq)
                      have HF2 := Lib.hid (HF1.out.drewN nq)
                      clear hcw hsc
                      generalize wr.drewN nq = wd at *
                      go_loopw [11] (fun vj w2 => ∃ j' : Nat, vj = .int .i64 j' ∧ j' ≤ j ∧ i' ≤ j' + 1 ∧ AD w2 g off dk ∧ Frm (OneB g) w w2 ∧ Hid (Go.Sort.scanDown (fun x => !ltZ x dk[a]!) dk i' j' = Go.Sort.scanDown (fun x => !ltZ x dk[a]!) dk i' j)) (fun vj _ => (intOf vj).toNat)
                      case atStart => exact ⟨j, rfl, Nat.le_refl _, hij', HA2.out, HF2.out, Lib.hid rfl⟩
                      case round =>
                        obtain ⟨j', rfl, hjj, hij2, hA3, hF3, hsd⟩ := hrel
                        have HA3 := Lib.hid hA3
                        have HF3 := Lib.hid hF3
                        have hcw := HC.out _ hA3
                        clear hA3 hF3
                        by_cases hle2 : i' ≤ j'
                        · go_wp2_with fail
                          go_big_quiet (first | (go_at_call 86; refine Calls.quiet_of_same (less_byte _ _ _)))
                          go_wp2
                          · have ht : (!ltZ (G j') (G a)) = true := by assumption
                            go_roundw
                            case rel => exact ⟨j' - 1, by go_num, by omega, by omega, HA3.out.drewN _, HF3.out.drewN _, Lib.hid ((HDG.out i' j' hle2 (by omega) (by rw [← HG.out a, ← HG.out j']; exact ht)).symm.trans hsd.out)⟩
                            case measure => simp [intOf]; omega
                          · have ht : (!ltZ (G j') (G a)) = false := by assumption
                            have hj2 := Lib.hid ((HDE.out i' j' (Or.inr (by rw [← HG.out a, ← HG.out j']; exact ht))).symm.trans hsd.out)
                            have HA4 := Lib.hid (HA3.out.drewN nq)
                            have HF4 := Lib.hid (HF3.out.drewN nq)
                            clear hcw hsd ht
                            generalize wr.drewN nq = wd2 at *
                            have hcw := HC.out _ HA4.out
                            have hfw := HFZ.out _ HA4.out
                            obtain ⟨v3, hy3⟩ := cell?_setCell_some (w := wd2) (p := ⟨g, off + i', none⟩) (x := .int .u8 (G j')) (q := ⟨g, off + j', none⟩) (hcw j' (by omega))
                            have hlt3 := HLT.out i' j' hi2.out hj2.out hle2
                            go_wp2
                            go_region
                            all_goals go_wp2
                            all_goals go_roundw
                            case rel =>
                              exact ⟨i' + 1, j' - 1, Go.Sort.swp dk i' j', by go_num, by go_num, by omega, by omega, by omega, by omega, by rw [swp_size]; exact HSK.out, HA4.out.drew.swapG (by rw [HSK.out]; omega) (by rw [HSK.out]; omega) (HG.out _) (HG.out _), HF4.out.drew.swap _ _ _ _, by rw [← HQ.out]; exact (HGO.out i' j' hi2.out hj2.out (by omega)).symm⟩
                            case measure => simp [intOf]; omega
                        · go_wp2_with fail
                          go_big_quiet (first | (go_at_call 86; refine Calls.quiet_of_same (less_byte _ _ _)))
                          have hj2 := Lib.hid ((HDE.out i' j' (Or.inl hle2)).symm.trans hsd.out)
                          have HA4 := Lib.hid (HA3.out.drewN nq)
                          have HF4 := Lib.hid (HF3.out.drewN nq)
                          clear hcw hsd
                          generalize wr.drewN nq = wd2 at *
                          have hcw := HC.out _ HA4.out
                          have hfw := HFZ.out _ HA4.out
                          obtain ⟨v3, hy3⟩ := cell?_setCell_some (w := wd2) (p := ⟨g, off + j', none⟩) (x := .int .u8 (G a)) (q := ⟨g, off + a, none⟩) (hcw a (by omega))
                          go_wp2
                          go_region
                          all_goals go_wp2
                          have HV2 := Lib.hid (HQ.out.symm.trans (HBR.out i' j' hi2.out hj2.out (by omega)))
                          refine bodyPost_ret (v := .tuple #[.int .i64 j', .bool false]) (by simp [results, Tryd.results88, go_sem]) rfl ?_
                          rw [HV.out, HV2.out]
                          exact ⟨rfl, HA4.out.drew.swapG (by rw [HSK.out]; omega) (by rw [HSK.out]; omega) (HG.out _) (HG.out _), by rw [swp_size]; exact HSK.out, HF4.out.drew.swap _ _ _ _⟩
                  · go_wp2_with fail
                    go_big_quiet (first | (go_at_call 86; refine Calls.quiet_of_same (less_byte _ _ _)))
                    go_wp2
                    have hi2 := Lib.hid ((HUE.out i' (Or.inl hle)).symm.trans hsc.out)
                    have HA2 := Lib.hid (HA1.out.drewN nq)
                    have HF2 := Lib.hid (HF1.out.drewN nq)
                    clear hcw hsc
                    generalize wr.drewN nq = wd at *
                    go_loopw [11] (fun vj w2 => ∃ j' : Nat, vj = .int .i64 j' ∧ j' ≤ j ∧ i' ≤ j' + 1 ∧ AD w2 g off dk ∧ Frm (OneB g) w w2 ∧ Hid (Go.Sort.scanDown (fun x => !ltZ x dk[a]!) dk i' j' = Go.Sort.scanDown (fun x => !ltZ x dk[a]!) dk i' j)) (fun vj _ => (intOf vj).toNat)
                    case atStart => exact ⟨j, rfl, Nat.le_refl _, hij', HA2.out, HF2.out, Lib.hid rfl⟩
                    case round =>
                      obtain ⟨j', rfl, hjj, hij2, hA3, hF3, hsd⟩ := hrel
                      have HA3 := Lib.hid hA3
                      have HF3 := Lib.hid hF3
                      have hcw := HC.out _ hA3
                      clear hA3 hF3
                      by_cases hle2 : i' ≤ j'
                      · exfalso; omega
                      · go_wp2_with fail
                        go_big_quiet (first | (go_at_call 86; refine Calls.quiet_of_same (less_byte _ _ _)))
                        have hj2 := Lib.hid ((HDE.out i' j' (Or.inl hle2)).symm.trans hsd.out)
                        have HA4 := Lib.hid (HA3.out.drewN nq)
                        have HF4 := Lib.hid (HF3.out.drewN nq)
                        clear hcw hsd
                        generalize wr.drewN nq = wd2 at *
                        have hcw := HC.out _ HA4.out
                        have hfw := HFZ.out _ HA4.out
                        obtain ⟨v3, hy3⟩ := cell?_setCell_some (w := wd2) (p := ⟨g, off + j', none⟩) (x := .int .u8 (G a)) (q := ⟨g, off + a, none⟩) (hcw a (by omega))
                        go_wp2
                        go_region
                        all_goals go_wp2
                        have HV2 := Lib.hid (HQ.out.symm.trans (HBR.out i' j' hi2.out hj2.out (by omega)))
                        refine bodyPost_ret (v := .tuple #[.int .i64 j', .bool false]) (by simp [results, Tryd.results88, go_sem]) rfl ?_
                        rw [HV.out, HV2.out]
                        exact ⟨rfl, HA4.out.drew.swapG (by rw [HSK.out]; omega) (by rw [HSK.out]; omega) (HG.out _) (HG.out _), by rw [swp_size]; exact HSK.out, HF4.out.drew.swap _ _ _ _⟩
          · go_wp2_with fail
            go_big_quiet (first | (go_at_call 86; refine Calls.quiet_of_same (less_byte _ _ _)))
            have hj2 := Lib.hid ((HDE.out i' j' (Or.inl hle2)).symm.trans hsd.out)
            have HA4 := Lib.hid (HA3.out.drewN nq)
            have HF4 := Lib.hid (HF3.out.drewN nq)
            clear hcw hsd
            generalize wr.drewN nq = wd2 at *
            have hcw := HC.out _ HA4.out
            have hfw := HFZ.out _ HA4.out
            obtain ⟨v3, hy3⟩ := cell?_setCell_some (w := wd2) (p := ⟨g, off + j', none⟩) (x := .int .u8 (G a)) (q := ⟨g, off + a, none⟩) (hcw a (by omega))
            go_wp2
            go_region
            all_goals go_wp2
            have HV := Lib.hid (HPB.out i' j' hi2.out hj2.out (by omega))
            refine bodyPost_ret (v := .tuple #[.int .i64 j', .bool true]) (by simp [results, Tryd.results88, go_sem]) rfl ?_
            rw [HV.out]
            exact ⟨rfl, HA4.out.drew.swapG (by rw [HSK.out]; omega) (by rw [HSK.out]; omega) (HG.out _) (HG.out _), by rw [swp_size]; exact HSK.out, HF4.out.drew.swap _ _ _ _⟩
    · go_wp2_with fail
      go_big_quiet (first | (go_at_call 86; refine Calls.quiet_of_same (less_byte _ _ _)))
      go_wp2
      have hi2 := Lib.hid ((HUE.out i' (Or.inl hle)).symm.trans hsc.out)
      have HA2 := Lib.hid (HA1.out.drewN nq)
      have HF2 := Lib.hid (HF1.out.drewN nq)
      clear hcw hsc
      generalize wr.drewN nq = wd at *
      go_loopw [11] (fun vj w2 => ∃ j' : Nat, vj = .int .i64 j' ∧ j' ≤ j ∧ i' ≤ j' + 1 ∧ AD w2 g off dk ∧ Frm (OneB g) w w2 ∧ Hid (Go.Sort.scanDown (fun x => !ltZ x dk[a]!) dk i' j' = Go.Sort.scanDown (fun x => !ltZ x dk[a]!) dk i' j)) (fun vj _ => (intOf vj).toNat)
      case atStart => exact ⟨j, rfl, Nat.le_refl _, hij', HA2.out, HF2.out, Lib.hid rfl⟩
      case round =>
        obtain ⟨j', rfl, hjj, hij2, hA3, hF3, hsd⟩ := hrel
        have HA3 := Lib.hid hA3
        have HF3 := Lib.hid hF3
        have hcw := HC.out _ hA3
        clear hA3 hF3
        by_cases hle2 : i' ≤ j'
        · exfalso; omega
        · go_wp2_with fail
          go_big_quiet (first | (go_at_call 86; refine Calls.quiet_of_same (less_byte _ _ _)))
          have hj2 := Lib.hid ((HDE.out i' j' (Or.inl hle2)).symm.trans hsd.out)
          have HA4 := Lib.hid (HA3.out.drewN nq)
          have HF4 := Lib.hid (HF3.out.drewN nq)
          clear hcw hsd
          generalize wr.drewN nq = wd2 at *
          have hcw := HC.out _ HA4.out
          have hfw := HFZ.out _ HA4.out
          obtain ⟨v3, hy3⟩ := cell?_setCell_some (w := wd2) (p := ⟨g, off + j', none⟩) (x := .int .u8 (G a)) (q := ⟨g, off + a, none⟩) (hcw a (by omega))
          go_wp2
          go_region
          all_goals go_wp2
          have HV := Lib.hid (HPB.out i' j' hi2.out hj2.out (by omega))
          refine bodyPost_ret (v := .tuple #[.int .i64 j', .bool true]) (by simp [results, Tryd.results88, go_sem]) rfl ?_
          rw [HV.out]
          exact ⟨rfl, HA4.out.drew.swapG (by rw [HSK.out]; omega) (by rw [HSK.out]; omega) (HG.out _) (HG.out _), by rw [swp_size]; exact HSK.out, HF4.out.drew.swap _ _ _ _⟩

end Go.Proofs.YthfjfhgeiggljaaDoor
