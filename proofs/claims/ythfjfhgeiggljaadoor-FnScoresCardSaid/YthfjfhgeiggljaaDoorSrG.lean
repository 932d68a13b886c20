/-
  Sorting bytes: partialInsertionSortOrdered.
-/
import Derived.Test.YthfjfhgeiggljaaDoorSrF
import Derived.Deep.CutRange
namespace Go.Proofs.YthfjfhgeiggljaaDoor
open Go.RowKit
set_option linter.unusedVariables false
set_option linter.unusedSimpArgs false

set_option maxRecDepth 100000 in
set_option maxHeartbeats 16000000 in
theorem partialInsertionSort_byte (g off cap a b n : Nat) (d : Array Int) (w : World) (hH : AD w g off d) (hab : a < b) (hb : b ≤ n) (hn : d.size = n) (hsz : n < 4611686018427387904) :
    Calls Tryd.prog 85 #[.slice (some ⟨g, off, none⟩) n cap, .int .i64 a, .int .i64 b] w fun e w' =>
      e = .returned (.bool (Go.Sort.partialInsertionSort ltZ d a b).2) ∧ AD w' g off (Go.Sort.partialInsertionSort ltZ d a b).1 ∧ (Go.Sort.partialInsertionSort ltZ d a b).1.size = n ∧ Frm (OneB g) w w' := by
  have HE := Lib.hid (show Go.Sort.partialInsertionSort ltZ d a b = Go.Sort.partialIns ltZ a b 5 (a + 1) d from rfl)
  have HH := Lib.hid hH
  have HN := Lib.hid hn
  have HW := Lib.hid (Frm.refl (OneB g) w)
  clear hH hn
  go_enter Tryd.func85, Tryd.ntmps85
  go_wp2
  go_loopw [7, 8] (fun v7 v8 wr => ∃ (i s : Nat) (dk : Array Int), v7 = .int .i64 i ∧ v8 = .int .i64 s ∧ s ≤ 5 ∧ a < i ∧ i ≤ b ∧ dk.size = n ∧ AD wr g off dk ∧ Frm (OneB g) w wr ∧
      Go.Sort.partialIns ltZ a b (5 - s) i dk = Go.Sort.partialIns ltZ a b 5 (a + 1) d) (fun _ v8 _ => 5 - (intOf v8).toNat)
  case atStart => exact ⟨a + 1, 0, d, by go_num, rfl, by omega, by omega, by omega, HN.out, HH.out, HW.out, rfl⟩
  case round =>
    obtain ⟨i, s, dk, rfl, rfl, hs5, hai, hib, hsk, hA, hF, hQ⟩ := hrel
    obtain ⟨G, hG, _, _⟩ := hA.fam hsk
    have HG := Lib.hid hG
    have HQ := Lib.hid (HE.out.trans hQ.symm)
    have HQ0 := Lib.hid hQ
    have HA := Lib.hid hA
    have HF := Lib.hid hF
    have HSK := Lib.hid hsk
    have HC := Lib.hid (fun V (h : AD V g off dk) => show ∀ t, t < n → V.cell? ⟨g, off + t, none⟩ = some (.int .u8 (G t)) from fun t ht => by rw [hG]; exact h.get (by omega))
    have HFZ := Lib.hid (fun V (h : AD V g off dk) => show ∀ t, t < n → V.frozen? ⟨g, off + t, none⟩ = false from fun t ht => h.frz (by omega))
    have HSG := Lib.hid (fun k h1 h2 => Go.Proofs.scanSorted_go ltZ dk b k h1 h2)
    have HST := Lib.hid (fun k h => Go.Proofs.scanSorted_stop ltZ dk b k h)
    have HPT := Lib.hid (fun h1 h2 => Go.Proofs.pi_true ltZ a b s i dk h1 h2)
    have HPS := Lib.hid (fun h1 h2 h3 => Go.Proofs.pi_short ltZ a b s i dk h1 h2 h3)
    have HPG := Lib.hid (fun k h1 h2 h3 h4 => Go.Proofs.pi_go ltZ a b s i k dk h1 h2 h3 h4)
    clear hG hQ hA hF hsk
    by_cases hs : s < 5
    rotate_left
    · have hse : s = 5 := by omega
      subst hse
      have HV := Lib.hid (show Go.Sort.partialInsertionSort ltZ d a b = (dk, false) from HQ.out)
      go_wp2
      go_ret
      rw [HV.out]
      exact ⟨rfl, HA.out, HSK.out, HF.out⟩
    go_wp2
    go_loopw [7] (fun v7 w1 => ∃ k : Nat, v7 = .int .i64 k ∧ i ≤ k ∧ k ≤ b ∧ AD w1 g off dk ∧ Frm (OneB g) w w1 ∧ Hid (Go.Sort.scanSorted ltZ dk b k = Go.Sort.scanSorted ltZ dk b i)) (fun v7 _ => b - (intOf v7).toNat)
    case atStart => exact ⟨i, rfl, Nat.le_refl _, hib, HA.out, HF.out, Lib.hid rfl⟩
    case round =>
      obtain ⟨k, rfl, hik, hkb, hA1, hF1, hsc⟩ := hrel
      have HA1 := Lib.hid hA1
      have HF1 := Lib.hid hF1
      have hcw := HC.out _ hA1
      clear hA1 hF1
      by_cases hlt : k < b
      rotate_left
      · have hke : k = b := by omega
        subst hke
        have hK := Lib.hid (hsc.out.symm.trans (HST.out k (Or.inl hlt)))
        have HV := Lib.hid (HQ.out.trans (HPT.out hs hK.out))
        clear hsc
        go_wp2_with fail
        go_big_quiet (first | (go_at_call 86; refine Calls.quiet_of_same (less_byte _ _ _)))
        go_wp2
        go_ret
        rw [HV.out]
        exact ⟨rfl, HA1.out.drewN _, HSK.out, HF1.out.drewN _⟩
      have hj0 : (0 : Int) ≤ (k : Int) := Int.natCast_nonneg _
      have hjn2 : k < n := by omega
      have hj1n2 : k - 1 < n := by omega
      have hw1 : IntKind.i64.wrap ((k : Int) - 1) = ((k - 1 : Nat) : Int) := by rw [i64w (by omega)]; omega
      have hj1 : (0 : Int) ≤ ((k - 1 : Nat) : Int) := Int.natCast_nonneg _
      go_wp2_with fail
      go_big_quiet (first | (go_at_call 86; refine Calls.quiet_of_same (less_byte _ _ _)))
      go_wp2
      · have ht : (!ltZ (G k) (G (k - 1))) = true := by assumption
        have ht2 : ltZ (G k) (G (k - 1)) = false := by simpa using ht
        go_roundw
        case rel => exact ⟨k + 1, by go_num, by omega, by omega, HA1.out.drewN _, HF1.out.drewN _, Lib.hid ((HSG.out k hlt (by rw [← HG.out, ← HG.out]; exact ht2)).symm.trans hsc.out)⟩
        case measure => simp [intOf]; omega
      · have ht : (!ltZ (G k) (G (k - 1))) = false := by assumption
        have ht2 : ltZ (G k) (G (k - 1)) = true := by simpa using ht
        have h50 : (b : Int) - (a : Int) < 50 := by assumption
        have hK := Lib.hid (hsc.out.symm.trans (HST.out k (Or.inr (by rw [← HG.out, ← HG.out]; exact ht2))))
        have HV := Lib.hid (HQ.out.trans (HPS.out hs (by rw [hK.out]; omega) (by omega)))
        go_ret
        rw [HV.out]
        exact ⟨rfl, HA1.out.drewN _, HSK.out, HF1.out.drewN _⟩
      · have ht : (!ltZ (G k) (G (k - 1))) = false := by assumption
        have ht2 : ltZ (G k) (G (k - 1)) = true := by simpa using ht
        have h50 : 50 ≤ (b : Int) - (a : Int) := by omega
        have hK := Lib.hid (hsc.out.symm.trans (HST.out k (Or.inr (by rw [← HG.out, ← HG.out]; exact ht2))))
        have HV := Lib.hid (HQ0.out.symm.trans (HPG.out k hs hK.out (by omega) (by omega)))
        have HA2 := Lib.hid (HA1.out.drewN nq)
        have HF2 := Lib.hid (HF1.out.drewN nq)
        clear hcw hsc ht ht2 HSG HST HPT HPS HPG HQ HQ0
        generalize wr.drewN nq = wd at *
        have hcw := HC.out _ HA2.out
        have hfw := HFZ.out _ HA2.out
        go_region
        have HA3 := Lib.hid ((HA2.out.swapG (i := k) (j := k - 1) (by rw [HSK.out]; omega) (by rw [HSK.out]; omega) (HG.out _) (HG.out _)).drew)
        have HF3 := Lib.hid ((HF2.out.swap (off + k) (off + (k - 1)) (.int .u8 (G (k - 1))) (.int .u8 (G k))).drew)
        have HS3 := Lib.hid (show (Go.Sort.swp dk k (k - 1)).size = n by rw [swp_size]; exact HSK.out)
        clear hcw hfw
        generalize ((wd.setCell ⟨g, off + k, none⟩ (.int .u8 (G (k - 1)))).setCell ⟨g, off + (k - 1), none⟩ (.int .u8 (G k))).drew = W3 at *
        obtain ⟨d1, hd1⟩ : ∃ d1, Go.Sort.swp dk k (k - 1) = d1 := ⟨_, rfl⟩
        rw [hd1] at HV HA3 HS3
        clear hd1 HC HFZ HG HA1 HF1 HA2 HF2 HA HF
        go_upto_if 61 with fail
        go_cut [9] from 13 to 94 (fun _ wx => ∃ d2 : Array Int, Hid (Go.Sort.fixDown ltZ a k d1 = d2) ∧ AD wx g off d2 ∧ d2.size = n ∧ Frm (OneB g) w wx)
        case first =>
          have HFD := Lib.hid (show Go.Sort.fixDown ltZ a k d1 = if k - a ≥ 2 then Go.Sort.shiftDown ltZ (k - 1) d1 else d1 from rfl)
          by_cases hka : 2 ≤ k - a
          · have hkai : (2 : Int) ≤ (k : Int) - (a : Int) := by omega
            have hkab : decide ((2 : Int) ≤ (k : Int) - (a : Int)) = true := decide_eq_true hkai
            go_wp2
            go_loopw [9] (fun vj w1 => ∃ (j : Nat) (dj : Array Int), vj = .int .i64 j ∧ j ≤ k - 1 ∧ dj.size = n ∧ AD w1 g off dj ∧ Frm (OneB g) w w1 ∧ Go.Sort.shiftDown ltZ j dj = Go.Sort.shiftDown ltZ (k - 1) d1) (fun vj _ => (intOf vj).toNat)
            case atStart => exact ⟨k - 1, d1, by go_num, Nat.le_refl _, HS3.out, HA3.out, HF3.out, rfl⟩
            case round =>
              obtain ⟨j, dj, rfl, hjk, hsj, hA, hF, hQ⟩ := hrel
              obtain ⟨G2, hG, hcw, hfw⟩ := hA.fam hsj
              have HG := Lib.hid hG
              have HQ := Lib.hid hQ
              have HA := Lib.hid hA
              have HF := Lib.hid hF
              have HSJ := Lib.hid hsj
              have HSG := Lib.hid (fun h1 h2 => Go.Proofs.shiftDown_go ltZ j dj h1 h2)
              have HST := Lib.hid (fun h => Go.Proofs.shiftDown_stop ltZ j dj h)
              clear hG hQ hA hF hsj hw1 hj0 hjn2 hj1n2 hj1
              by_cases hj1 : 1 ≤ j
              · have hj1i : (1 : Int) ≤ (j : Int) := by omega
                have hj0 : (0 : Int) ≤ (j : Int) := Int.natCast_nonneg _
                have hjn2 : j < n := by omega
                have hj1n2 : j - 1 < n := by omega
                have hw1 : IntKind.i64.wrap ((j : Int) - 1) = ((j - 1 : Nat) : Int) := by rw [i64w (by omega)]; omega
                have hj1z : (0 : Int) ≤ ((j - 1 : Nat) : Int) := Int.natCast_nonneg _
                go_wp2_with fail
                go_big_quiet (first | (go_at_call 86; refine Calls.quiet_of_same (less_byte _ _ _)))
                go_wp2_with fail
                · have ht : (!ltZ (G2 j) (G2 (j - 1))) = true := by assumption
                  have ht2 : ltZ (G2 j) (G2 (j - 1)) = false := by simpa using ht
                  have HV1 := Lib.hid (show Go.Sort.fixDown ltZ a k d1 = dj by rw [HFD.out, if_pos hka, ← HQ.out]; exact HST.out (Or.inr (by rw [← HG.out, ← HG.out]; exact ht2)))
                  go_meet
                  exact ⟨dj, HV1, HA.out.drewN _, HSJ.out, HF.out.drewN _⟩
                · have ht : (!ltZ (G2 j) (G2 (j - 1))) = false := by assumption
                  have ht2 : ltZ (G2 j) (G2 (j - 1)) = true := by simpa using ht
                  have HA2 := Lib.hid (HA.out.drewN nq)
                  have HF2 := Lib.hid (HF.out.drewN nq)
                  have hcw2 : ∀ t, t < n → (wr.drewN nq).cell? ⟨g, off + t, none⟩ = some (.int .u8 (G2 t)) := hcw
                  have hfw2 : ∀ t, t < n → (wr.drewN nq).frozen? ⟨g, off + t, none⟩ = false := hfw
                  clear hcw hfw ht
                  generalize wr.drewN nq = wd3 at *
                  go_region
                  all_goals go_wp2
                  go_roundw
                  case rel => exact ⟨j - 1, Go.Sort.swp dj j (j - 1), by go_num, by omega, by rw [swp_size]; exact HSJ.out, HA2.out.drew.swapG (by rw [HSJ.out]; omega) (by rw [HSJ.out]; omega) (HG.out _) (HG.out _), HF2.out.drew.swap _ _ _ _, by rw [← HQ.out]; exact (HSG.out hj1 (by rw [← HG.out, ← HG.out]; exact ht2)).symm⟩
                  case measure => simp [intOf]; omega
              · have hje : j = 0 := by omega
                subst hje
                have HV1 := Lib.hid (show Go.Sort.fixDown ltZ a k d1 = dj by rw [HFD.out, if_pos hka, ← HQ.out]; exact HST.out (Or.inl rfl))
                go_wp2
                go_meet
                exact ⟨dj, HV1, HA.out, HSJ.out, HF.out⟩
          · have hkab : decide ((2 : Int) ≤ (k : Int) - (a : Int)) = false := decide_eq_false (by omega)
            have HV1 := Lib.hid (show Go.Sort.fixDown ltZ a k d1 = d1 by rw [HFD.out, if_neg (by omega)])
            go_wp2
            go_meet
            exact ⟨d1, HV1, HA3.out, HS3.out, HF3.out⟩
        case rest =>
          obtain ⟨d2, hV1, hA4, hS4, hF4⟩ := hcut
          have HV1 := Lib.hid (HV.out.trans (by rw [hV1.out]))
          have HA4 := Lib.hid hA4
          have HS4 := Lib.hid hS4
          have HF4 := Lib.hid hF4
          clear hV1 hA4 hS4 hF4 HA3 HS3 HF3
          go_upto_if 98 with fail
          have HFD := Lib.hid (show Go.Sort.fixUp ltZ b k d2 = if b - k ≥ 2 then Go.Sort.shiftUp ltZ b (k + 1) d2 else d2 from rfl)
          by_cases hka : 2 ≤ b - k
          · have hkai : (2 : Int) ≤ (b : Int) - (k : Int) := by omega
            have hkab : decide ((2 : Int) ≤ (b : Int) - (k : Int)) = true := decide_eq_true hkai
            go_wp2
            go_loopw [10] (fun vj w1 => ∃ (j : Nat) (dj : Array Int), vj = .int .i64 j ∧ k + 1 ≤ j ∧ j ≤ b ∧ dj.size = n ∧ AD w1 g off dj ∧ Frm (OneB g) w w1 ∧ Go.Sort.shiftUp ltZ b j dj = Go.Sort.shiftUp ltZ b (k + 1) d2) (fun vj _ => b - (intOf vj).toNat)
            case atStart => exact ⟨k + 1, d2, by go_num, Nat.le_refl _, by omega, HS4.out, HA4.out, HF4.out, rfl⟩
            case round =>
              obtain ⟨j, dj, rfl, hkj, hjb, hsj, hA, hF, hQ⟩ := hrel
              obtain ⟨G2, hG, hcw, hfw⟩ := hA.fam hsj
              have HG := Lib.hid hG
              have HQ := Lib.hid hQ
              have HA := Lib.hid hA
              have HF := Lib.hid hF
              have HSJ := Lib.hid hsj
              have HSG := Lib.hid (fun h1 h2 => Go.Proofs.shiftUp_go ltZ b j dj h1 h2)
              have HST := Lib.hid (fun h => Go.Proofs.shiftUp_stop ltZ b j dj h)
              clear hG hQ hA hF hsj hw1 hj0 hjn2 hj1n2 hj1
              by_cases hj1 : j < b
              · have hj1i : (j : Int) < (b : Int) := by omega
                have hj0 : (0 : Int) ≤ (j : Int) := Int.natCast_nonneg _
                have hjn2 : j < n := by omega
                have hj1n2 : j - 1 < n := by omega
                have hw1 : IntKind.i64.wrap ((j : Int) - 1) = ((j - 1 : Nat) : Int) := by rw [i64w (by omega)]; omega
                have hj1z : (0 : Int) ≤ ((j - 1 : Nat) : Int) := Int.natCast_nonneg _
                go_wp2_with fail
                go_big_quiet (first | (go_at_call 86; refine Calls.quiet_of_same (less_byte _ _ _)))
                go_wp2_with fail
                · have ht : (!ltZ (G2 j) (G2 (j - 1))) = true := by assumption
                  have ht2 : ltZ (G2 j) (G2 (j - 1)) = false := by simpa using ht
                  have HV2 := Lib.hid (show Go.Sort.fixUp ltZ b k d2 = dj by rw [HFD.out, if_pos hka, ← HQ.out]; exact HST.out (Or.inr (by rw [← HG.out, ← HG.out]; exact ht2)))
                  have HV3 := Lib.hid (HV1.out.trans (by rw [HV2.out]))
                  go_roundw
                  case rel => exact ⟨k, s + 1, dj, rfl, by go_num, by omega, by omega, by omega, HSJ.out, HA.out.drewN _, HF.out.drewN _, HV3.out.symm⟩
                  case measure => simp [intOf]; omega
                · have ht : (!ltZ (G2 j) (G2 (j - 1))) = false := by assumption
                  have ht2 : ltZ (G2 j) (G2 (j - 1)) = true := by simpa using ht
                  have HA2 := Lib.hid (HA.out.drewN nq)
                  have HF2 := Lib.hid (HF.out.drewN nq)
                  have hcw2 : ∀ t, t < n → (wr.drewN nq).cell? ⟨g, off + t, none⟩ = some (.int .u8 (G2 t)) := hcw
                  have hfw2 : ∀ t, t < n → (wr.drewN nq).frozen? ⟨g, off + t, none⟩ = false := hfw
                  clear hcw hfw ht
                  generalize wr.drewN nq = wd3 at *
                  go_region
                  all_goals go_wp2
                  go_roundw
                  case rel => exact ⟨j + 1, Go.Sort.swp dj j (j - 1), by go_num, by omega, by omega, by rw [swp_size]; exact HSJ.out, HA2.out.drew.swapG (by rw [HSJ.out]; omega) (by rw [HSJ.out]; omega) (HG.out _) (HG.out _), HF2.out.drew.swap _ _ _ _, by rw [← HQ.out]; exact (HSG.out hj1 (by rw [← HG.out, ← HG.out]; exact ht2)).symm⟩
                  case measure => simp [intOf]; omega
              · have HV2 := Lib.hid (show Go.Sort.fixUp ltZ b k d2 = dj by rw [HFD.out, if_pos hka, ← HQ.out]; exact HST.out (Or.inl hj1))
                have hj1i : ¬ (j : Int) < (b : Int) := by omega
                go_wp2
                have HV3 := Lib.hid (HV1.out.trans (by rw [HV2.out]))
                go_roundw
                case rel => exact ⟨k, s + 1, dj, rfl, by go_num, by omega, by omega, by omega, HSJ.out, HA.out, HF.out, HV3.out.symm⟩
                case measure => simp [intOf]; omega
          · have hkab : decide ((2 : Int) ≤ (b : Int) - (k : Int)) = false := decide_eq_false (by omega)
            have HV2 := Lib.hid (show Go.Sort.fixUp ltZ b k d2 = d2 by rw [HFD.out, if_neg (by omega)])
            go_wp2
            have HV3 := Lib.hid (HV1.out.trans (by rw [HV2.out]))
            go_roundw
            case rel => exact ⟨k, s + 1, d2, rfl, by go_num, by omega, by omega, by omega, HS4.out, HA4.out, HF4.out, HV3.out.symm⟩
            case measure => simp [intOf]; omega

end Go.Proofs.YthfjfhgeiggljaaDoor
