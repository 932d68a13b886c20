/-
  Sorting bytes: pdqsortOrdered.
-/
import Derived.Test.YthfjfhgeiggljaaDoorSrJ
namespace Go.Proofs.YthfjfhgeiggljaaDoor
open Go.RowKit
set_option linter.unusedVariables false
set_option linter.unusedSimpArgs false

def PdqR (g off n a b : Nat) (d : Array Int) (w : World) (e : Ending) (w' : World) : Prop :=
  e = .returned (.tuple #[]) ∧ ∃ d' : Array Int, AD w' g off d' ∧ d'.size = n ∧ Go.Sort.PermIn a b d d' ∧ Go.Sort.SortedIn ltZ a b d' ∧ Frm (OneB g) w w'

set_option maxRecDepth 100000 in
set_option maxHeartbeats 32000000 in
theorem pdq_byte (g off cap n : Nat) (hsz : n < 1000000) : ∀ (N a b limit : Nat) (d : Array Int) (w : World), b - a ≤ N → AD w g off d → a ≤ b → b ≤ n → d.size = n → limit ≤ 1000 → Go.Sort.Below ltZ a b d →
    Calls Tryd.prog 58 #[.slice (some ⟨g, off, none⟩) n cap, .int .i64 a, .int .i64 b, .int .i64 limit] w (PdqR g off n a b d w) := by
  intro N
  induction N using Nat.strongRecOn with
  | ind N ih =>
    intro a b limit d w hN hH hab hb hn hlim hB
    have HIH := Lib.hid ih
    have HH := Lib.hid hH
    have HN := Lib.hid hn
    have HB := Lib.hid hB
    have HW := Lib.hid (Frm.refl (OneB g) w)
    have HT := Lib.hid (todo_start a b d)
    clear ih hH hn hB
    go_enter Tryd.func58, Tryd.ntmps58
    go_wp2
    go_loopw [1, 2, 3, 8, 9] (fun va vb vl v8 v9 wr => ∃ (a' b' lim : Nat) (wb wp : Bool) (dk : Array Int), va = .int .i64 a' ∧ vb = .int .i64 b' ∧ vl = .int .i64 lim ∧ v8 = .bool wb ∧ v9 = .bool wp ∧ a ≤ a' ∧ a' ≤ b' ∧ b' ≤ b ∧ lim ≤ 1000 ∧ dk.size = n ∧ AD wr g off dk ∧ Frm (OneB g) w wr ∧ Go.Sort.Below ltZ a' b' dk ∧ Todo a b d a' b' dk) (fun va vb _ _ _ _ => (intOf vb - intOf va).toNat)
    case atStart => exact ⟨a, b, limit, true, true, d, rfl, rfl, rfl, rfl, rfl, Nat.le_refl _, hab, Nat.le_refl _, hlim, HN.out, HH.out, HW.out, HB.out, HT.out⟩
    case round =>
      obtain ⟨a', b', lim, wb, wp, dk, rfl, rfl, rfl, rfl, rfl, haa, hab', hbb, hlm, hsk, hA, hF, hB, hT⟩ := hrel
      have HSK := Lib.hid hsk
      have HA := Lib.hid hA
      have HF := Lib.hid hF
      have HB := Lib.hid hB
      have HT := Lib.hid hT
      clear hsk hA hF hB hT
      by_cases h12 : b' - a' ≤ 12
      · have h12i : (b' : Int) - (a' : Int) ≤ 12 := by omega
        have hI := Go.Sort.insertionSort_holds (lt := ltZ) swoZ dk a' b' hab' (by rw [HSK.out]; omega)
        have HV := Lib.hid (todo_perm HT.out haa hbb (by rw [HSK.out]; omega) hI.1)
        have HV2 := Lib.hid hI.2
        clear hI
        go_wp2_with fail
        refine (insertionSort_byte g off cap a' b' n dk wr HA.out hab' (by omega) HSK.out (by omega)).mono ?_
        rintro e w1 ⟨rfl, hA1, hs1, hF1⟩
        have HA1 := Lib.hid hA1
        have HF1 := Lib.hid (HF.out.trans hF1)
        have HS1 := Lib.hid hs1
        have HE := Lib.hid (todo_end HV.out HV2.out)
        clear hA1 hs1 hF1
        go_wp2_with fail
        (try simp only [Exit.inBlock, Exit.then]); refine bodyPost_ret (results_none rfl _ _ _) rfl ?_
        exact ⟨rfl, _, HA1.out, HS1.out, HE.out.1, HE.out.2, HF1.out⟩
      have h12i : ¬ (b' : Int) - (a' : Int) ≤ 12 := by omega
      by_cases hl0 : lim = 0
      · subst hl0
        have hI := Go.Sort.heapSort_holds (lt := ltZ) swoZ dk a' b' hab' (by rw [HSK.out]; omega)
        have HV := Lib.hid (todo_perm HT.out haa hbb (by rw [HSK.out]; omega) hI.1)
        have HV2 := Lib.hid hI.2
        clear hI
        go_wp2_with fail
        refine (heapSort_byte g off cap a' b' n dk wr HA.out hab' (by omega) HSK.out (by omega)).mono ?_
        rintro e w1 ⟨rfl, hA1, hs1, hF1⟩
        have HA1 := Lib.hid hA1
        have HF1 := Lib.hid (HF.out.trans hF1)
        have HS1 := Lib.hid hs1
        have HE := Lib.hid (todo_end HV.out HV2.out)
        clear hA1 hs1 hF1
        go_wp2_with fail
        (try simp only [Exit.inBlock, Exit.then]); refine bodyPost_ret (results_none rfl _ _ _) rfl ?_
        exact ⟨rfl, _, HA1.out, HS1.out, HE.out.1, HE.out.2, HF1.out⟩
      have hl0i : ((lim : Int) == 0) = false := beq_eq_false_iff_ne.2 (by omega)
      have hl0j : (lim = 0) = False := eq_false hl0
      have hwl : IntKind.i64.wrap ((lim : Int) - 1) = ((lim - 1 : Nat) : Int) := by rw [i64w (by omega)]; omega
      go_upto_if 35 with fail
      go_cut [3] from 34 to 41 (fun s3 wx => ∃ (lim1 : Nat) (d1 : Array Int), s3 = .int .i64 lim1 ∧ lim1 ≤ 1000 ∧ AD wx g off d1 ∧ d1.size = n ∧ Frm (OneB g) w wx ∧ Go.Sort.PermIn a' b' dk d1)
      case first =>
        cases wb
        · go_wp2_with fail
          refine (breakPatterns_byte g off cap a' b' n dk wr HA.out hab' (by omega) HSK.out hsz).mono ?_
          rintro e w1 ⟨rfl, d1, hA1, hs1, hp1, hF1⟩
          have HA1 := Lib.hid hA1
          have HF1 := Lib.hid (HF.out.trans hF1)
          have HS1 := Lib.hid hs1
          have HP1 := Lib.hid hp1
          clear hA1 hs1 hp1 hF1
          go_wp2_with fail
          go_meet
          exact ⟨lim - 1, d1, rfl, by omega, HA1.out, HS1.out, HF1.out, HP1.out⟩
        · go_wp2_with fail
          go_meet
          exact ⟨lim, dk, rfl, hlm, HA.out, HSK.out, HF.out, Go.Sort.permIn_refl _ _ _⟩
      case rest =>
        obtain ⟨lim1, d1, rfl, hlm1, hA1, hs1, hF1, hp1⟩ := hcut
        have HA1 := Lib.hid hA1
        have HF1 := Lib.hid hF1
        have HS1 := Lib.hid hs1
        have HP1 := Lib.hid hp1
        clear hA1 hs1 hp1 hF1 HA HF
        go_wp2_with fail
        refine (choosePivot_byte g off cap a' b' n d1 wc HA1.out (by omega) (by omega) HS1.out (by omega)).mono ?_
        rintro e w1 ⟨p, h, rfl, hp1, hp2, hh, hb⟩
        have HA2 := Lib.hid (HA1.out.frm (Frm.pure hb (fun _ => False)) id)
        have HF2 := Lib.hid (HF1.out.trans (Frm.pure hb (OneB g)))
        clear hb HA1 HF1
        go_upto_if 50 with fail
        go_cut [11, 12] from 49 to 60 (fun s11 s12 wx => ∃ (p2 h2 : Nat) (d2 : Array Int), s11 = .int .i64 p2 ∧ s12 = .int .i64 h2 ∧ a' ≤ p2 ∧ p2 < b' ∧ h2 ≤ 1 ∧ AD wx g off d2 ∧ d2.size = n ∧ Frm (OneB g) w wx ∧ Go.Sort.PermIn a' b' dk d2)
        case first =>
          by_cases hh2 : h = 2
          · subst hh2
            have hR := Go.Sort.reverseRange_holds d1 a' b' hab' (by rw [HS1.out]; omega)
            have HPR := Lib.hid (Go.Sort.permIn_trans dk d1 _ a' b' HP1.out hR)
            clear hR
            have hwa : IntKind.i64.wrap ((b' : Int) - 1) = ((b' - 1 : Nat) : Int) := by rw [i64w (by omega)]; omega
            have hwb : IntKind.i64.wrap ((p : Int) - (a' : Int)) = ((p - a' : Nat) : Int) := by rw [i64w (by omega)]; omega
            have hwc : IntKind.i64.wrap (((b' - 1 : Nat) : Int) - ((p - a' : Nat) : Int)) = ((b' - 1 - (p - a') : Nat) : Int) := by rw [i64w (by omega)]; omega
            go_wp2_with fail
            refine (reverseRange_byte g off cap a' b' n d1 w1 HA2.out hab' (by omega) HS1.out (by omega)).mono ?_
            rintro e w2 ⟨rfl, hA3, hs3, hF3⟩
            have HA3 := Lib.hid hA3
            have HF3 := Lib.hid (HF2.out.trans hF3)
            have HS3 := Lib.hid hs3
            clear hA3 hs3 hF3
            go_wp2_with fail
            go_meet
            exact ⟨b' - 1 - (p - a'), 1, _, by first | rfl | (congr 1; omega), rfl, by omega, by omega, by omega, HA3.out, HS3.out, HF3.out, HPR.out⟩
          · have hh2i : ((h : Int) == 2) = false := beq_eq_false_iff_ne.2 (by omega)
            have hh2j : (h = 2) = False := eq_false hh2
            go_wp2_with fail
            go_meet
            exact ⟨p, h, d1, rfl, rfl, hp1, hp2, by omega, HA2.out, HS1.out, HF2.out, HP1.out⟩
        case rest =>
          clear hp1 hp2 hh
          obtain ⟨p2, h2, d2, rfl, rfl, hp1, hp2, hh2, hA3, hs3, hF3, hP3⟩ := hcut
          have HA3 := Lib.hid hA3
          have HF3 := Lib.hid hF3
          have HS3 := Lib.hid hs3
          have HP3 := Lib.hid hP3
          clear hA3 hs3 hF3 hP3 HA2 HF2 HS1 HP1
          have HB3 := Lib.hid (HB.out.perm (by rw [HSK.out]; omega) HP3.out)
          have HT3 := Lib.hid (todo_perm HT.out haa hbb (by rw [HSK.out]; omega) HP3.out)
          go_upto_region 15 with fail
          go_cut [68] from 61 to 68 (fun s68 wx => ∃ c : Bool, s68 = .bool c ∧ wx = wc)
          case first =>
            by_cases hh1 : h2 = 1
            · subst hh1
              cases wb <;> cases wp
              all_goals
                go_wp2_with fail
                go_meet
                exact ⟨_, rfl, rfl⟩
            · have hh1i : ((h2 : Int) == 1) = false := beq_eq_false_iff_ne.2 (by omega)
              have hh1j : (h2 = 1) = False := eq_false hh1
              cases wb <;> cases wp
              all_goals
                go_wp2_with fail
                go_meet
                exact ⟨_, rfl, rfl⟩
          case rest =>
          obtain ⟨wcc, rfl⟩ : ∃ x : World, x = wc := ⟨_, rfl⟩
          obtain ⟨c, rfl, hwc⟩ := hcut
          subst hwc
          go_upto_if 68 with fail
          go_cut [68] from 69 to 72 (fun _ wx => ∃ d3 : Array Int, AD wx g off d3 ∧ d3.size = n ∧ Frm (OneB g) w wx ∧ Go.Sort.Below ltZ a' b' d3 ∧ Todo a b d a' b' d3)
          case first =>
            cases c
            · go_wp2_with fail
              go_meet
              exact ⟨d2, HA3.out, HS3.out, HF3.out, HB3.out, HT3.out⟩
            · have hI := Go.Sort.partialInsertionSort_holds (lt := ltZ) swoZ d2 a' b' (by omega) (by rw [HS3.out]; omega) HB3.out
              have HV := Lib.hid (todo_perm HT3.out haa hbb (by rw [HS3.out]; omega) hI.1)
              have HVB := Lib.hid (HB3.out.perm (by rw [HS3.out]; omega) hI.1)
              have HV2 := Lib.hid hI.2
              have HPI := Lib.hid (partialInsertionSort_byte g off cap a' b' n d2 _ HA3.out (by omega) (by omega) HS3.out (by omega))
              clear hI
              generalize Go.Sort.partialInsertionSort ltZ d2 a' b' = r at *
              obtain ⟨d3, f3⟩ := r
              go_wp2_with fail
              refine HPI.out.mono ?_
              rintro e w2 ⟨rfl, hA4, hs4, hF4⟩
              have HA4 := Lib.hid hA4
              have HF4 := Lib.hid (HF3.out.trans hF4)
              have HS4 := Lib.hid hs4
              clear hA4 hs4 hF4
              cases f3
              · go_wp2_with fail
                go_meet
                exact ⟨d3, HA4.out, HS4.out, HF4.out, HVB.out, HV.out⟩
              · have HE := Lib.hid (todo_end HV.out (HV2.out rfl))
                go_wp2_with fail
                (try simp only [Exit.inBlock, Exit.then]); refine bodyPost_ret (results_none rfl _ _ _) rfl ?_
                exact ⟨rfl, _, HA4.out, HS4.out, HE.out.1, HE.out.2, HF4.out⟩
          case rest =>
            clear HA3 HS3 HF3 HB3 HT3 HP3 HB HT HSK
            obtain ⟨d3, hA4, hs4, hF4, hB4, hT4⟩ := hcut
            obtain ⟨G, hG, hcw, hfw⟩ := hA4.fam hs4
            have HG := Lib.hid hG
            have HA := Lib.hid hA4
            have HF := Lib.hid hF4
            have HS := Lib.hid hs4
            have HB := Lib.hid hB4
            have HT := Lib.hid hT4
            clear hA4 hs4 hF4 hB4 hT4 hG hfw
            obtain ⟨m, f, d4, hpe, hm1, hm2, hP4, h3, h4, hBl, hBr⟩ := part_facts HB.out p2 hp1 hp2 (by rw [HS.out]; omega)
            have HPC := Lib.hid (fun V hA => hpe ▸ partition_byte g off cap a' b' p2 n d3 V hA hp1 hp2 (by omega) HS.out (by omega))
            have HS4 := Lib.hid (show d4.size = n by rw [perm_size hP4]; exact HS.out)
            have HTL := Lib.hid (fun d5 h5 h6 => todo_left HT.out haa hbb (by rw [HS.out]; omega) hm1 hm2 hP4 h3 h4 (d5 := d5) h5 h6)
            have HTR := Lib.hid (fun d5 h5 h6 => todo_right HT.out haa hbb (by rw [HS.out]; omega) HB.out hm1 hm2 hP4 h3 h4 (d5 := d5) h5 h6)
            have HCL := Lib.hid (fun V hA => HIH.out (m - a') (by omega) a' m lim1 d4 V (Nat.le_refl _) hA hm1 (by omega) HS4.out hlm1 hBl)
            have HCR := Lib.hid (fun V hA => HIH.out (b' - (m + 1)) (by omega) (m + 1) b' lim1 d4 V (Nat.le_refl _) hA (by omega) (by omega) HS4.out hlm1 hBr)
            have hwm : IntKind.i64.wrap ((m : Int) + 1) = ((m + 1 : Nat) : Int) := by rw [i64w (by omega)]; omega
            have hp2n : p2 < n := by omega
            have HPR := Lib.hid (And.intro hp1 hp2)
            clear hP4 h3 h4 hBl hBr hpe hp1 hp2
            by_cases ha0 : a' = 0
            · have ha0i : decide ((0 : Int) < (a' : Int)) = false := decide_eq_false (by omega)
              have ha0j : decide (0 < a') = false := decide_eq_false (by omega)
              have ha0k : ¬ 0 < a' := by omega
              clear ha0
              go_wp2_with fail
              go_big_quiet (first | (go_at_call 86; refine Calls.quiet_of_same (less_byte _ _ _)))
              (try go_wp2_with fail)
              refine (HPC.out (wc.drewN nq) (HA.out.drewN nq)).mono ?_
              rintro e w2 ⟨rfl, hA5, hs5, hF5⟩
              have HA5 := Lib.hid (show AD w2 g off d4 from hA5)
              have HF5 := Lib.hid ((HF.out.drewN nq).trans hF5)
              clear hA5 hs5 hF5
              have hwl : IntKind.i64.wrap ((m : Int) - (a' : Int)) = ((m - a' : Nat) : Int) := by rw [i64w (by omega)]; omega
              have hwr : IntKind.i64.wrap ((b' : Int) - (m : Int)) = ((b' - m : Nat) : Int) := by rw [i64w (by omega)]; omega
              by_cases hlr : m - a' < b' - m
              · have hlri : ((m - a' : Nat) : Int) < ((b' - m : Nat) : Int) := by omega
                go_wp2_with fail
                refine (HCL.out w2 HA5.out).mono ?_
                rintro e w3 ⟨rfl, d5, hA6, hs6, hp6, hsd6, hF6⟩
                have HA6 := Lib.hid hA6
                have HS6 := Lib.hid hs6
                have HF6 := Lib.hid (HF5.out.trans hF6)
                have HX := Lib.hid (HTL.out d5 hp6 hsd6)
                clear hA6 hs6 hp6 hsd6 hF6
                go_wp2_with fail
                go_roundw
                case rel => exact ⟨m + 1, b', lim1, _, f, d5, by go_num, rfl, rfl, rfl, rfl, by omega, by omega, hbb, hlm1, HS6.out, HA6.out, HF6.out, HX.out.1, HX.out.2⟩
                case measure => simp [intOf]; omega
              · have hlri : ¬ ((m - a' : Nat) : Int) < ((b' - m : Nat) : Int) := by omega
                go_wp2_with fail
                refine (HCR.out w2 HA5.out).mono ?_
                rintro e w3 ⟨rfl, d5, hA6, hs6, hp6, hsd6, hF6⟩
                have HA6 := Lib.hid hA6
                have HS6 := Lib.hid hs6
                have HF6 := Lib.hid (HF5.out.trans hF6)
                have HX := Lib.hid (HTR.out d5 hp6 hsd6)
                clear hA6 hs6 hp6 hsd6 hF6
                go_wp2_with fail
                go_roundw
                case rel => exact ⟨a', m, lim1, _, f, d5, rfl, rfl, rfl, rfl, rfl, haa, hm1, by omega, hlm1, HS6.out, HA6.out, HF6.out, HX.out.1, HX.out.2⟩
                case measure => simp [intOf]; omega
            · have ha0i : decide ((0 : Int) < (a' : Int)) = true := decide_eq_true (by omega)
              have ha0j : decide (0 < a') = true := decide_eq_true (by omega)
              have ha0k : 0 < a' := by omega
              have hj0 : (0 : Int) ≤ (a' : Int) := Int.natCast_nonneg _
              have hw1 : IntKind.i64.wrap ((a' : Int) - 1) = ((a' - 1 : Nat) : Int) := by rw [i64w (by omega)]; omega
              have hj1 : (0 : Int) ≤ ((a' - 1 : Nat) : Int) := Int.natCast_nonneg _
              have hj1n : a' - 1 < n := by omega
              go_wp2_with fail
              go_big_quiet (first | (go_at_call 86; refine Calls.quiet_of_same (less_byte _ _ _)))
              go_wp2_with fail
              · have ht : (!ltZ (G (a' - 1)) (G p2)) = true := by assumption
                have ht2 : ltZ d3[a' - 1]! d3[p2]! = false := by rw [← HG.out, ← HG.out]; simpa using ht
                have HEQ := Lib.hid (todo_eq HT.out haa hbb (by rw [HS.out]; omega) HB.out p2 HPR.out.1 HPR.out.2 ha0k ht2)
                have HPE := Lib.hid (partitionEqual_byte g off cap a' b' p2 n d3 (wc.drewN nq) (HA.out.drewN nq) HPR.out.1 HPR.out.2 (by omega) HS.out (by omega))
                generalize Go.Sort.partitionEqual ltZ d3 a' b' p2 = r at *
                obtain ⟨m2, d5⟩ := r
                clear ht ht2
                refine HPE.out.mono ?_
                rintro e w2 ⟨rfl, hA5, hs5, hF5⟩
                have HA5 := Lib.hid hA5
                have HF5 := Lib.hid ((HF.out.drewN nq).trans hF5)
                have HS5 := Lib.hid hs5
                clear hA5 hs5 hF5
                go_wp2_with fail
                go_roundw
                case rel => exact ⟨m2, b', lim1, wb, wp, d5, rfl, rfl, rfl, rfl, rfl, by have := HEQ.out.1; omega, HEQ.out.2.1, hbb, hlm1, HS5.out, HA5.out, HF5.out, HEQ.out.2.2.1, HEQ.out.2.2.2⟩
                case measure => simp [intOf]; have := HEQ.out.1; have := HEQ.out.2.1; omega
              ·
                (try go_wp2_with fail)
                refine (HPC.out (wc.drewN nq) (HA.out.drewN nq)).mono ?_
                rintro e w2 ⟨rfl, hA5, hs5, hF5⟩
                have HA5 := Lib.hid (show AD w2 g off d4 from hA5)
                have HF5 := Lib.hid ((HF.out.drewN nq).trans hF5)
                clear hA5 hs5 hF5
                have hwl : IntKind.i64.wrap ((m : Int) - (a' : Int)) = ((m - a' : Nat) : Int) := by rw [i64w (by omega)]; omega
                have hwr : IntKind.i64.wrap ((b' : Int) - (m : Int)) = ((b' - m : Nat) : Int) := by rw [i64w (by omega)]; omega
                by_cases hlr : m - a' < b' - m
                · have hlri : ((m - a' : Nat) : Int) < ((b' - m : Nat) : Int) := by omega
                  go_wp2_with fail
                  refine (HCL.out w2 HA5.out).mono ?_
                  rintro e w3 ⟨rfl, d5, hA6, hs6, hp6, hsd6, hF6⟩
                  have HA6 := Lib.hid hA6
                  have HS6 := Lib.hid hs6
                  have HF6 := Lib.hid (HF5.out.trans hF6)
                  have HX := Lib.hid (HTL.out d5 hp6 hsd6)
                  clear hA6 hs6 hp6 hsd6 hF6
                  go_wp2_with fail
                  go_roundw
                  case rel => exact ⟨m + 1, b', lim1, _, f, d5, by go_num, rfl, rfl, rfl, rfl, by omega, by omega, hbb, hlm1, HS6.out, HA6.out, HF6.out, HX.out.1, HX.out.2⟩
                  case measure => simp [intOf]; omega
                · have hlri : ¬ ((m - a' : Nat) : Int) < ((b' - m : Nat) : Int) := by omega
                  go_wp2_with fail
                  refine (HCR.out w2 HA5.out).mono ?_
                  rintro e w3 ⟨rfl, d5, hA6, hs6, hp6, hsd6, hF6⟩
                  have HA6 := Lib.hid hA6
                  have HS6 := Lib.hid hs6
                  have HF6 := Lib.hid (HF5.out.trans hF6)
                  have HX := Lib.hid (HTR.out d5 hp6 hsd6)
                  clear hA6 hs6 hp6 hsd6 hF6
                  go_wp2_with fail
                  go_roundw
                  case rel => exact ⟨a', m, lim1, _, f, d5, rfl, rfl, rfl, rfl, rfl, haa, hm1, by omega, hlm1, HS6.out, HA6.out, HF6.out, HX.out.1, HX.out.2⟩
                  case measure => simp [intOf]; omega

end Go.Proofs.YthfjfhgeiggljaaDoor
