/-
  The law FnReports: the walk.
-/
import Derived.Test.YtcolbkgceaboaabGreatDoorRepZ
import Derived.Deep.CutRange
namespace Go.Proofs.YtcolbkgceaboaabGreatDoor
open Go.RowKit
set_option linter.unusedVariables false
set_option linter.unusedSimpArgs false

theorem nums_12 : mkS (numsT [1, -2]) = ⟨#[49, 44, 45, 50]⟩ := by
  have h1 : itoL 1 = [49] := by
    have := itoL_pos 1
    rw [decD_small (by decide)] at this
    exact this
  have h2 : itoL (-2) = [45, 50] := by
    have := itoL_neg 2 (by decide)
    rw [decD_small (by decide)] at this
    exact this
  have h3 : numsT [1, -2] = [49, 44, 45, 50] := by
    unfold numsT
    rw [if_neg (by simp)]
    show joinT [itoL 1, itoL (-2)] [44] = _
    rw [h1, h2]
    rfl
  rw [h3]; rfl

set_option maxRecDepth 100000 in
set_option maxHeartbeats 8000000 in
theorem law_FnReports {w : World} (A : Option Addr) (cap : Nat) (xs : List Int) (hA : Byt w w.heap.size A xs) (hP : Pow w) (hM : MaxL w) :
    Calls Tryz.prog 3 #[.slice A xs.length cap] w fun e w' => e = .returned (.bool true) ∧ Below w.heap.size w w' := by
  have HA := Lib.hid hA
  have HP := Lib.hid hP
  have HM := Lib.hid hM
  have hml := hA.1
  unfold maxLen at hml
  clear hA hP hM
  by_cases hbig : 1048576 < xs.length
  · go_enter Tryz.func3, Tryz.ntmps3
    go_wp2_with fail
    go_ret
    exact ⟨rfl, Below.refl _ _⟩
  go_enter Tryz.func3, Tryz.ntmps3
  go_wp2_with fail
  refine (spec_MakeRhythm_any A cap xs 0 12 w HA.out (by decide) (by decide) (by decide)).mono ?_
  rintro e w1 ⟨⟨v, rfl, N, bs, A2, c2, rfl, hok, hN12, hrw, hcp⟩, hb1⟩
  have hn1 : 1 ≤ N := by have := hok.1; omega
  have hfN : Fits (N : Int) := by unfold Fits; omega
  have HB2 := Lib.hid (hb1.alloc hb1.size (.cells #[.int .i64 N, .slice A2 bs.length c2] 25))
  have HC2 := Lib.hid (Cells2.new w1 (.int .i64 N) (.slice A2 bs.length c2) 25)
  have HI2 := Lib.hid ((hrw.ints (rh_fits hok)).lift ((Below.refl _ _).alloc (Nat.le_refl _) (.cells #[.int .i64 N, .slice A2 bs.length c2] 25)))
  have HOK := Lib.hid hok
  have HCP := Lib.hid hcp
  obtain ⟨q0, q1, _, _, _⟩ := HC2.out
  clear hrw hb1 hok hcp
  go_wp2_with fail
  generalize w1.alloc (.cells #[.int .i64 N, .slice A2 bs.length c2] 25) = w2 at *
  generalize w1.heap.size = q at *
  refine (spec_MakePattern_any A cap xs 30 w2 (HA.out.lift HB2.out) (by decide)).mono ?_
  rintro e w3 ⟨⟨ps, A4, c4, rfl, hp, hl13, hi4⟩, hb⟩
  have HB3 := Lib.hid (HB2.out.trans (hb.mono HB2.out.size))
  have HC3 := Lib.hid (HC2.out.below hb HC2.out.2.2.2.2)
  have HI3 := Lib.hid (HI2.out.lift hb)
  have HK3 := Lib.hid hi4
  have HPT := Lib.hid hp
  clear hb hi4 hp q0 q1
  obtain ⟨q0, q1, _, _, _⟩ := HC3.out
  have HFS := Lib.hid (fun V h (hb : Below w.heap.size w V) => impl_FormatSteps_any N A2 c2 bs V hfN h (HP.out.below hb) (HM.out.below hb))
  have HRL := Lib.hid (fun V h (hb : Below w.heap.size w V) => impl_RhythmLine_ok N A2 c2 bs V h HOK.out HCP.out (HP.out.below hb) (HM.out.below hb))
  have HTX := Lib.hid (fun V h => impl_FormatRhythm_ok N A2 c2 bs V h HOK.out)
  have HPE := Lib.hid (fun V h => impl_PeriodOf_ok N A2 c2 bs V h HOK.out)
  have HVE := Lib.hid (fun V h => impl_VectorOf_ok N A2 c2 bs V h HOK.out HCP.out)
  have hpf : Fits (perV N bs : Int) := by have := (perV_is HOK.out).2.1; unfold Fits; omega
  have HFI := Lib.hid (fun V (hb : Below w.heap.size w V) => impl_FormatInt_any (perV N bs) hpf V (HP.out.below hb))
  have hvl : (vecV N bs).length ≤ 24 := by rw [vecV_len]; omega
  have HFN := Lib.hid (fun A' c V h (hb : Below w.heap.size w V) => impl_FormatNumbers_any A' c (vecV N bs) V h (by omega) (HP.out.below hb))
  have hnl : (mkS (numsT (vecV N bs))).size ≤ 504 := by rw [mkS_size]; exact numsT_len (vecV_fit HOK.out) hvl
  have hsl : (mkS (stpL N bs)).size ≤ 504 := by rw [mkS_size]; exact stpL_len N bs
  have hpl : (mkS (itoL (perV N bs))).size ≤ 20 := by rw [mkS_size]; exact itoL_len _ hpf
  have htl : (mkS (textF N bs (fun _ => 120))).size ≤ 504 := by rw [mkS_size, textF_len]; omega
  have HRES := Lib.hid (show mkS (textF N bs (fun _ => 120)) ++ ⟨#[32, 115, 116, 101, 112, 115, 32]⟩ ++ mkS (stpL N bs) ++ ⟨#[32, 112, 101, 114, 105, 111, 100, 32]⟩ ++ mkS (itoL (perV N bs)) ++ ⟨#[32, 118, 101, 99, 116, 111, 114, 32]⟩ ++ mkS (numsT (vecV N bs)) = mkS (linL N bs) by
    rw [linL_eq]
    exact Str.eq ((((((str_mk _).app (show Str ⟨#[32, 115, 116, 101, 112, 115, 32]⟩ [32, 115, 116, 101, 112, 115, 32] from rfl)).app (str_mk _)).app (show Str ⟨#[32, 112, 101, 114, 105, 111, 100, 32]⟩ [32, 112, 101, 114, 105, 111, 100, 32] from rfl)).app (str_mk _)).app (show Str ⟨#[32, 118, 101, 99, 116, 111, 114, 32]⟩ [32, 118, 101, 99, 116, 111, 114, 32] from rfl) |>.app (str_mk _)))
  have HSV := Lib.hid (show stpL N bs = if stpV N bs = [] then [45] else stpV N bs from rfl)
  generalize perV N bs = per at *
  generalize vecV N bs = vec at *
  generalize textF N bs (fun _ => 120) = TX at *
  generalize stpV N bs = SV at *
  generalize stpL N bs = SL at *
  generalize linL N bs = LL at *
  clear hpf hvl
  go_wp2_with fail
  refine (HFS.out _ HI3.out HB3.out).mono ?_
  rintro e w4 ⟨rfl, hb⟩
  have HB4 := Lib.hid (HB3.out.trans (hb.mono HB3.out.size))
  have HC4 := Lib.hid (HC3.out.below hb HC3.out.2.2.2.2)
  have HI4 := Lib.hid (HI3.out.lift hb)
  have HK4 := Lib.hid (HK3.out.lift hb)
  clear hb q0 q1
  obtain ⟨q0, q1, _, _, _⟩ := HC4.out
  go_upto_if 17 with fail
  go_cut [5] from 14 to 17 (fun c wx => c = .string (mkS SL) ∧ Below w.heap.size w wx ∧ Cells2 wx q (.int .i64 N) (.slice A2 bs.length c2) ∧ Ints wx wx.heap.size A2 bs ∧ Ints wx wx.heap.size A4 ps)
  case first =>
    by_cases hs0 : SV = []
    · have hsl0 : SL = [45] := by rw [HSV.out, if_pos hs0]
      have HSL := Lib.hid hsl0
      subst hs0
      have hemp : (mkS ([] : List UInt8)).toList.isEmpty = true := by
        rw [Lib.toList_data, show (mkS ([] : List UInt8)).data.toList = [] from str_mk []]; rfl
      clear hsl0
      go_wp2_with fail
      · go_meet
        exact ⟨by rw [HSL.out]; rfl, HB4.out, HC4.out, HI4.out, HK4.out⟩
      · rename_i hh
        rw [hemp] at hh
        cases hh
    · have hsl0 : SL = SV := by rw [HSV.out, if_neg hs0]
      have HSL := Lib.hid hsl0
      have hne1 : ((mkS SV).toList == (⟨#[]⟩ : ByteArray).toList) = false := by
        rw [Lib.toList_data, Lib.toList_data, show (mkS SV).data.toList = SV from str_mk SV]
        exact beq_eq_false_iff_ne.2 hs0
      have hne2 : ((mkS SV).toList == []) = false := by
        rw [Lib.toList_data, show (mkS SV).data.toList = SV from str_mk SV]
        exact beq_eq_false_iff_ne.2 hs0
      have hne3 : ¬ (mkS SV).toList = [] := by
        rw [Lib.toList_data, show (mkS SV).data.toList = SV from str_mk SV]
        exact hs0
      have hne4 : (mkS SV).toList.isEmpty = false := by
        rw [Lib.toList_data, show (mkS SV).data.toList = SV from str_mk SV]
        cases SV with
        | nil => exact absurd rfl hs0
        | cons a r => rfl
      clear hsl0 hs0
      go_wp2_with fail
      · rename_i hh
        rw [hne4] at hh
        cases hh
      · go_meet
        exact ⟨by rw [HSL.out], HB4.out, HC4.out, HI4.out, HK4.out⟩
  case rest =>
    obtain ⟨rfl, hbel, hcel, hint, hpin⟩ := hcut
    have HB5 := Lib.hid hbel
    have HC5 := Lib.hid hcel
    have HI5 := Lib.hid hint
    have HK5 := Lib.hid hpin
    clear hbel hcel hint hpin q0 q1
    obtain ⟨q0, q1, _, _, _⟩ := HC5.out
    have HFT := Lib.hid (fun V h => impl_FailTime_any A4 c4 ps V h)
    have HCG := Lib.hid (fun V h => impl_CanGoOn_any A4 c4 ps V h)
    have HLP := Lib.hid (fun V h => impl_LinePeriod_any A4 c4 ps V h)
    have HPN := Lib.hid (fun V h => impl_PeriodEntries_any A4 c4 ps V h)
    have HLL := Lib.hid (fun V h (hb : Below w.heap.size w V) => impl_LineLine_any A4 c4 ps V h (HP.out.below hb))
    have hff : Fits (lfailV ps) := by have := lfailV_fit ps; unfold Fits; omega
    have hfp : Fits (lperV ps : Int) := by have := lperV_le ps; unfold Fits; omega
    have hen := lentV_fits ps
    have HFF := Lib.hid (fun V (hb : Below w.heap.size w V) => impl_FormatInt_any (lfailV ps) hff V (HP.out.below hb))
    have HFP := Lib.hid (fun V (hb : Below w.heap.size w V) => impl_FormatInt_any (lperV ps) hfp V (HP.out.below hb))
    have HFE := Lib.hid (fun A' c V h (hb : Below w.heap.size w V) => impl_FormatNumbers_any A' c (lentV ps) V h (by omega) (HP.out.below hb))
    have hzf : (mkS (itoL (lfailV ps))).size ≤ 20 := by rw [mkS_size]; exact itoL_len _ hff
    have hzp : (mkS (itoL (lperV ps))).size ≤ 20 := by rw [mkS_size]; exact itoL_len _ hfp
    have hze : (mkS (numsT (lentV ps))).size ≤ 504 := by rw [mkS_size]; exact numsT_len3 (fun x hx => by have := hen.1 x hx; unfold Fits; omega) (by omega)
    have HY0 := Lib.hid (show lcanV ps = false → (⟨#[102, 97, 105, 108, 115, 32]⟩ : ByteArray) ++ mkS (itoL (lfailV ps)) = mkS (lliV ps) from fun hc => by
      have hv : lliV ps = [102, 97, 105, 108, 115, 32] ++ itoL (lfailV ps) := by unfold lliV; rw [HPT.out, hc]; rfl
      rw [hv]
      exact Str.eq (Str.app (show Str ⟨#[102, 97, 105, 108, 115, 32]⟩ [102, 97, 105, 108, 115, 32] from rfl) (str_mk _)))
    have HY1 := Lib.hid (show lcanV ps = true → (⟨#[112, 101, 114, 105, 111, 100, 32]⟩ : ByteArray) ++ mkS (itoL (lperV ps)) ++ ⟨#[32, 101, 110, 116, 114, 105, 101, 115, 32]⟩ ++ mkS (numsT (lentV ps)) = mkS (lliV ps) from fun hc => by
      have hv : lliV ps = [112, 101, 114, 105, 111, 100, 32] ++ itoL (lperV ps) ++ [32, 101, 110, 116, 114, 105, 101, 115, 32] ++ numsT (lentV ps) := by unfold lliV; rw [HPT.out, hc]; rfl
      rw [hv]
      exact Str.eq (Str.app (Str.app (Str.app (show Str ⟨#[112, 101, 114, 105, 111, 100, 32]⟩ [112, 101, 114, 105, 111, 100, 32] from rfl) (str_mk _)) (show Str ⟨#[32, 101, 110, 116, 114, 105, 101, 115, 32]⟩ [32, 101, 110, 116, 114, 105, 101, 115, 32] from rfl)) (str_mk _)))
    generalize mkS (lliV ps) = Y at *
    generalize mkS (itoL (lfailV ps)) = SF at *
    generalize mkS (itoL (lperV ps)) = SP at *
    generalize mkS (numsT (lentV ps)) = SE at *
    generalize lfailV ps = ft at *
    obtain ⟨lp, hlp⟩ : ∃ t : Int, (lperV ps : Int) = t := ⟨_, rfl⟩
    rw [hlp] at HLP HFP
    generalize lentV ps = le at *
    generalize lcanV ps = cg at *
    have hz1 : ((⟨#[112, 101, 114, 105, 111, 100, 32]⟩ : ByteArray) ++ SP).size ≤ 27 := by rw [ByteArray.size_append]; show 7 + SP.size ≤ 27; omega
    have hz2 : ((⟨#[112, 101, 114, 105, 111, 100, 32]⟩ : ByteArray) ++ SP ++ ⟨#[32, 101, 110, 116, 114, 105, 101, 115, 32]⟩).size ≤ 36 := by rw [ByteArray.size_append]; show _ + 9 ≤ 36; omega
    clear hff hfp hen hlp
    go_wp2_with fail
    refine (HFT.out _ HK5.out).mono ?_
    rintro e w6 ⟨rfl, hb⟩
    have HB6 := Lib.hid (HB5.out.trans (hb.mono HB5.out.size))
    have HC6 := Lib.hid (HC5.out.below hb HC5.out.2.2.2.2)
    have HI6 := Lib.hid (HI5.out.lift hb)
    have HK6 := Lib.hid (HK5.out.lift hb)
    clear hb q0 q1
    obtain ⟨q0, q1, _, _, _⟩ := HC6.out
    go_wp2_with fail
    refine (HFF.out _ HB6.out).mono ?_
    rintro e w7 ⟨rfl, hb⟩
    have HB7 := Lib.hid (HB6.out.trans (hb.mono HB6.out.size))
    have HC7 := Lib.hid (HC6.out.below hb HC6.out.2.2.2.2)
    have HI7 := Lib.hid (HI6.out.lift hb)
    have HK7 := Lib.hid (HK6.out.lift hb)
    clear hb q0 q1
    obtain ⟨q0, q1, _, _, _⟩ := HC7.out
    go_wp2_with fail
    refine (HCG.out _ HK7.out).mono ?_
    rintro e w8 ⟨rfl, hb⟩
    have HB8 := Lib.hid (HB7.out.trans (hb.mono HB7.out.size))
    have HC8 := Lib.hid (HC7.out.below hb HC7.out.2.2.2.2)
    have HI8 := Lib.hid (HI7.out.lift hb)
    have HK8 := Lib.hid (HK7.out.lift hb)
    clear hb q0 q1
    obtain ⟨q0, q1, _, _, _⟩ := HC8.out
    go_upto_if 23 with fail
    go_cut [6] from 18 to 32 (fun c wx => c = .string Y ∧ Below w.heap.size w wx ∧ Cells2 wx q (.int .i64 N) (.slice A2 bs.length c2) ∧ Ints wx wx.heap.size A2 bs ∧ Ints wx wx.heap.size A4 ps)
    case first =>
      cases cg
      · have HRY := Lib.hid (HY0.out rfl)
        go_wp2_with fail
        go_meet
        exact ⟨by rw [HRY.out], HB8.out, HC8.out, HI8.out, HK8.out⟩
      · have HRY := Lib.hid (HY1.out rfl)
        go_wp2_with fail
        refine (HLP.out _ HK8.out).mono ?_
        rintro e w9 ⟨rfl, hb⟩
        have HB9 := Lib.hid (HB8.out.trans (hb.mono HB8.out.size))
        have HC9 := Lib.hid (HC8.out.below hb HC8.out.2.2.2.2)
        have HI9 := Lib.hid (HI8.out.lift hb)
        have HK9 := Lib.hid (HK8.out.lift hb)
        clear hb q0 q1
        obtain ⟨q0, q1, _, _, _⟩ := HC9.out
        go_wp2_with fail
        refine (HFP.out _ HB9.out).mono ?_
        rintro e w10 ⟨rfl, hb⟩
        have HB10 := Lib.hid (HB9.out.trans (hb.mono HB9.out.size))
        have HC10 := Lib.hid (HC9.out.below hb HC9.out.2.2.2.2)
        have HI10 := Lib.hid (HI9.out.lift hb)
        have HK10 := Lib.hid (HK9.out.lift hb)
        clear hb q0 q1
        obtain ⟨q0, q1, _, _, _⟩ := HC10.out
        go_wp2_with fail
        refine (HPN.out _ HK10.out).mono ?_
        rintro e w11 ⟨A11, c11, rfl, hi11, hb⟩
        have HE11 := Lib.hid hi11
        clear hi11
        have HB11 := Lib.hid (HB10.out.trans (hb.mono HB10.out.size))
        have HC11 := Lib.hid (HC10.out.below hb HC10.out.2.2.2.2)
        have HI11 := Lib.hid (HI10.out.lift hb)
        have HK11 := Lib.hid (HK10.out.lift hb)
        clear hb q0 q1
        obtain ⟨q0, q1, _, _, _⟩ := HC11.out
        go_wp2_with fail
        refine (HFE.out _ _ _ HE11.out HB11.out).mono ?_
        rintro e w12 ⟨rfl, hb⟩
        have HB12 := Lib.hid (HB11.out.trans (hb.mono HB11.out.size))
        have HC12 := Lib.hid (HC11.out.below hb HC11.out.2.2.2.2)
        have HI12 := Lib.hid (HI11.out.lift hb)
        have HK12 := Lib.hid (HK11.out.lift hb)
        clear hb q0 q1
        obtain ⟨q0, q1, _, _, _⟩ := HC12.out
        go_wp2_with fail
        go_meet
        exact ⟨by rw [HRY.out], HB12.out, HC12.out, HI12.out, HK12.out⟩
    case rest =>
      obtain ⟨rfl, hbel, hcel, hint, hpin⟩ := hcut
      have HB13 := Lib.hid hbel
      have HC13 := Lib.hid hcel
      have HI13 := Lib.hid hint
      have HK13 := Lib.hid hpin
      clear hbel hcel hint hpin q0 q1 hz1 hz2
      obtain ⟨q0, q1, _, _, _⟩ := HC13.out
      generalize mkS TX = ST at *
      generalize mkS (itoL (per : Int)) = SI at *
      generalize mkS (numsT vec) = SN at *
      generalize mkS SL = SS at *
      generalize mkS LL = Z at *
      have hres := HRES.out
      have y1 : (ST ++ ⟨#[32, 115, 116, 101, 112, 115, 32]⟩).size ≤ 511 := by rw [ByteArray.size_append]; show _ + 7 ≤ 511; omega
      have y2 : (ST ++ ⟨#[32, 115, 116, 101, 112, 115, 32]⟩ ++ SS).size ≤ 1015 := by rw [ByteArray.size_append]; omega
      have y3 : (ST ++ ⟨#[32, 115, 116, 101, 112, 115, 32]⟩ ++ SS ++ ⟨#[32, 112, 101, 114, 105, 111, 100, 32]⟩).size ≤ 1023 := by rw [ByteArray.size_append]; show _ + 8 ≤ 1023; omega
      have y4 : (ST ++ ⟨#[32, 115, 116, 101, 112, 115, 32]⟩ ++ SS ++ ⟨#[32, 112, 101, 114, 105, 111, 100, 32]⟩ ++ SI).size ≤ 1043 := by rw [ByteArray.size_append]; omega
      have y5 : (ST ++ ⟨#[32, 115, 116, 101, 112, 115, 32]⟩ ++ SS ++ ⟨#[32, 112, 101, 114, 105, 111, 100, 32]⟩ ++ SI ++ ⟨#[32, 118, 101, 99, 116, 111, 114, 32]⟩).size ≤ 1051 := by rw [ByteArray.size_append]; show _ + 8 ≤ 1051; omega
      have hzz : (Z.toList == Z.toList) = true := by simp
      have hyy : (Y.toList == Y.toList) = true := by simp
      clear hres
      go_wp2_with fail
      have HBd := Lib.hid (Below.drew5_ HB13.out)
      have HCd := Lib.hid (show Cells2 wc.drew q (.int .i64 N) (.slice A2 bs.length c2) from HC13.out)
      have HId := Lib.hid (show Ints wc.drew wc.drew.heap.size A2 bs from HI13.out)
      have HKd := Lib.hid (show Ints wc.drew wc.drew.heap.size A4 ps from HK13.out)
      (refine wp_region_held_drew (S := (fun w' => w'.cell? ⟨q, 0, none⟩ = some (.int .i64 N) ∧ w'.cell? ⟨q, 1, none⟩ = some (.slice A2 bs.length c2))) (by kernel_rfl) ?_ (fun hHeld => ?_); (focus ((try dsimp only); exact ⟨q0, q1⟩)))
      ((refine wpAnyH_take (i := 0) (v := ?_) rfl (by kernel_rfl) (by kernel_rfl) (by kernel_rfl) (fun _ _ _ h => h) (Or.inl ⟨by rfl, ?_⟩) (by assumption) ?_; rotate_left; (focus (intro wS hSw; (try dsimp only at hSw); go_simp; (try with_reducible rfl))); (try simp only [Act.put, List.getElem_toArray, List.getElem_cons_zero, List.getElem_cons_succ, List.setIfInBounds_toArray, List.set_cons_zero, List.set_cons_succ])); (refine wpAnyH_take (i := 2) (v := ?_) rfl (by kernel_rfl) (by kernel_rfl) (by kernel_rfl) (fun _ _ _ h => h) (Or.inl ⟨by rfl, ?_⟩) (by assumption) ?_; rotate_left; (focus (intro wS hSw; (try dsimp only at hSw); go_simp; (try with_reducible rfl))); (try simp only [Act.put, List.getElem_toArray, List.getElem_cons_zero, List.getElem_cons_succ, List.setIfInBounds_toArray, List.set_cons_zero, List.set_cons_succ])); (refine wpAnyH_take (i := 5) (v := ?_) rfl (by kernel_rfl) (by kernel_rfl) (by kernel_rfl) (fun _ _ _ h => h) (Or.inl ⟨by rfl, ?_⟩) (by assumption) ?_; rotate_left; (focus (intro wS hSw; (try dsimp only at hSw); go_simp; (try with_reducible rfl))); (try simp only [Act.put, List.getElem_toArray, List.getElem_cons_zero, List.getElem_cons_succ, List.setIfInBounds_toArray, List.set_cons_zero, List.set_cons_succ])); (refine wpAnyH_take (i := 8) (v := ?_) rfl (by kernel_rfl) (by kernel_rfl) (by kernel_rfl) (fun _ _ _ h => h) (Or.inl ⟨by rfl, ?_⟩) (by assumption) ?_; rotate_left; (focus (intro wS hSw; (try dsimp only at hSw); go_simp; (try with_reducible rfl))); (try simp only [Act.put, List.getElem_toArray, List.getElem_cons_zero, List.getElem_cons_succ, List.setIfInBounds_toArray, List.set_cons_zero, List.set_cons_succ])); (refine wpAnyH_take (i := 13) (v := ?_) rfl (by kernel_rfl) (by kernel_rfl) (by kernel_rfl) (fun _ _ _ h => h) (Or.inl ⟨by rfl, ?_⟩) (by assumption) ?_; rotate_left; (focus (intro wS hSw; (try dsimp only at hSw); go_simp; (try with_reducible rfl))); (try simp only [Act.put, List.getElem_toArray, List.getElem_cons_zero, List.getElem_cons_succ, List.setIfInBounds_toArray, List.set_cons_zero, List.set_cons_succ])))
      (refine wpAnyH_ready (rs := [1]) (by kernel_rfl) (by simp) ?_; refine AllReadyH.cons rfl (fun K hK => ?_) AllReadyH.nil; go_simp)
      go_at_call 13
      refine (HRL.out _ HId.out HBd.out).mono ?_
      rintro e w14 ⟨rfl, hb⟩
      have HB14 := Lib.hid (HBd.out.trans (hb.mono HBd.out.size))
      have HC14 := Lib.hid (HCd.out.below hb HCd.out.2.2.2.2)
      have HI14 := Lib.hid (HId.out.lift hb)
      have HK14 := Lib.hid (HKd.out.lift hb)
      clear hb q0 q1
      obtain ⟨q0, q1, _, _, _⟩ := HC14.out
      go_wp2_with fail
      (refine hK.out _ _ ?_ (fun hHeld2 => ?_); (focus ((try dsimp only); exact ⟨q0, q1⟩)); (clear hK K); (try simp only [Act.put, List.getElem_toArray, List.getElem_cons_zero, List.getElem_cons_succ, List.setIfInBounds_toArray, List.set_cons_zero, List.set_cons_succ]))
      (refine wpAnyH_ready (rs := [3]) (by kernel_rfl) (by simp) ?_; refine AllReadyH.cons rfl (fun K hK => ?_) AllReadyH.nil; go_simp)
      go_at_call 14
      refine (HTX.out _ HI14.out).mono ?_
      rintro e w15 ⟨rfl, hb⟩
      have HB15 := Lib.hid (HB14.out.trans (hb.mono HB14.out.size))
      have HC15 := Lib.hid (HC14.out.below hb HC14.out.2.2.2.2)
      have HI15 := Lib.hid (HI14.out.lift hb)
      have HK15 := Lib.hid (HK14.out.lift hb)
      clear hb q0 q1
      obtain ⟨q0, q1, _, _, _⟩ := HC15.out
      go_wp2_with fail
      (refine hK.out _ _ ?_ (fun hHeld2 => ?_); (focus ((try dsimp only); exact ⟨q0, q1⟩)); (clear hK K); (try simp only [Act.put, List.getElem_toArray, List.getElem_cons_zero, List.getElem_cons_succ, List.setIfInBounds_toArray, List.set_cons_zero, List.set_cons_succ]))
      (refine wpAnyH_take (i := 4) (v := ?_) rfl (by kernel_rfl) (by kernel_rfl) (by kernel_rfl) (fun _ _ _ h => h) (Or.inl ⟨by rfl, ?_⟩) (by assumption) ?_; rotate_left; (focus (intro wS hSw; (try dsimp only at hSw); go_simp; (try rw [if_neg (by omega)]); (try with_reducible rfl))); (try simp only [Act.put, List.getElem_toArray, List.getElem_cons_zero, List.getElem_cons_succ, List.setIfInBounds_toArray, List.set_cons_zero, List.set_cons_succ]))
      (refine wpAnyH_take (i := 6) (v := ?_) rfl (by kernel_rfl) (by kernel_rfl) (by kernel_rfl) (fun _ _ _ h => h) (Or.inl ⟨by rfl, ?_⟩) (by assumption) ?_; rotate_left; (focus (intro wS hSw; (try dsimp only at hSw); go_simp; (try rw [if_neg (by omega)]); (try with_reducible rfl))); (try simp only [Act.put, List.getElem_toArray, List.getElem_cons_zero, List.getElem_cons_succ, List.setIfInBounds_toArray, List.set_cons_zero, List.set_cons_succ]))
      (refine wpAnyH_take (i := 7) (v := ?_) rfl (by kernel_rfl) (by kernel_rfl) (by kernel_rfl) (fun _ _ _ h => h) (Or.inl ⟨by rfl, ?_⟩) (by assumption) ?_; rotate_left; (focus (intro wS hSw; (try dsimp only at hSw); go_simp; (try rw [if_neg (by omega)]); (try with_reducible rfl))); (try simp only [Act.put, List.getElem_toArray, List.getElem_cons_zero, List.getElem_cons_succ, List.setIfInBounds_toArray, List.set_cons_zero, List.set_cons_succ]))
      (refine wpAnyH_ready (rs := [9]) (by kernel_rfl) (by simp) ?_; refine AllReadyH.cons rfl (fun K hK => ?_) AllReadyH.nil; go_simp)
      go_at_call 15
      refine (HPE.out _ HI15.out).mono ?_
      rintro e w16 ⟨rfl, hb⟩
      have HB16 := Lib.hid (HB15.out.trans (hb.mono HB15.out.size))
      have HC16 := Lib.hid (HC15.out.below hb HC15.out.2.2.2.2)
      have HI16 := Lib.hid (HI15.out.lift hb)
      have HK16 := Lib.hid (HK15.out.lift hb)
      clear hb q0 q1
      obtain ⟨q0, q1, _, _, _⟩ := HC16.out
      go_wp2_with fail
      (refine hK.out _ _ ?_ (fun hHeld2 => ?_); (focus ((try dsimp only); exact ⟨q0, q1⟩)); (clear hK K); (try simp only [Act.put, List.getElem_toArray, List.getElem_cons_zero, List.getElem_cons_succ, List.setIfInBounds_toArray, List.set_cons_zero, List.set_cons_succ]))
      (refine wpAnyH_ready (rs := [10]) (by kernel_rfl) (by simp) ?_; refine AllReadyH.cons rfl (fun K hK => ?_) AllReadyH.nil; go_simp)
      go_at_call 7
      refine (HFI.out _ HB16.out).mono ?_
      rintro e w17 ⟨rfl, hb⟩
      have HB17 := Lib.hid (HB16.out.trans (hb.mono HB16.out.size))
      have HC17 := Lib.hid (HC16.out.below hb HC16.out.2.2.2.2)
      have HI17 := Lib.hid (HI16.out.lift hb)
      have HK17 := Lib.hid (HK16.out.lift hb)
      clear hb q0 q1
      obtain ⟨q0, q1, _, _, _⟩ := HC17.out
      go_wp2_with fail
      (refine hK.out _ _ ?_ (fun hHeld2 => ?_); (focus ((try dsimp only); exact ⟨q0, q1⟩)); (clear hK K); (try simp only [Act.put, List.getElem_toArray, List.getElem_cons_zero, List.getElem_cons_succ, List.setIfInBounds_toArray, List.set_cons_zero, List.set_cons_succ]))
      (refine wpAnyH_take (i := 11) (v := ?_) rfl (by kernel_rfl) (by kernel_rfl) (by kernel_rfl) (fun _ _ _ h => h) (Or.inl ⟨by rfl, ?_⟩) (by assumption) ?_; rotate_left; (focus (intro wS hSw; (try dsimp only at hSw); go_simp; (try rw [if_neg (by omega)]); (try with_reducible rfl))); (try simp only [Act.put, List.getElem_toArray, List.getElem_cons_zero, List.getElem_cons_succ, List.setIfInBounds_toArray, List.set_cons_zero, List.set_cons_succ]))
      (refine wpAnyH_take (i := 12) (v := ?_) rfl (by kernel_rfl) (by kernel_rfl) (by kernel_rfl) (fun _ _ _ h => h) (Or.inl ⟨by rfl, ?_⟩) (by assumption) ?_; rotate_left; (focus (intro wS hSw; (try dsimp only at hSw); go_simp; (try rw [if_neg (by omega)]); (try with_reducible rfl))); (try simp only [Act.put, List.getElem_toArray, List.getElem_cons_zero, List.getElem_cons_succ, List.setIfInBounds_toArray, List.set_cons_zero, List.set_cons_succ]))
      (refine wpAnyH_ready (rs := [14]) (by kernel_rfl) (by simp) ?_; refine AllReadyH.cons rfl (fun K hK => ?_) AllReadyH.nil; go_simp)
      go_at_call 16
      refine (HVE.out _ HI17.out).mono ?_
      rintro e w18 ⟨A18, c18, rfl, hi18, hb⟩
      have HV18 := Lib.hid hi18
      clear hi18
      have HB18 := Lib.hid (HB17.out.trans (hb.mono HB17.out.size))
      have HC18 := Lib.hid (HC17.out.below hb HC17.out.2.2.2.2)
      have HI18 := Lib.hid (HI17.out.lift hb)
      have HK18 := Lib.hid (HK17.out.lift hb)
      clear hb q0 q1
      obtain ⟨q0, q1, _, _, _⟩ := HC18.out
      go_wp2_with fail
      (refine hK.out _ _ ?_ (fun hHeld2 => ?_); (focus ((try dsimp only); exact ⟨q0, q1⟩)); (clear hK K); (try simp only [Act.put, List.getElem_toArray, List.getElem_cons_zero, List.getElem_cons_succ, List.setIfInBounds_toArray, List.set_cons_zero, List.set_cons_succ]))
      (refine wpAnyH_ready (rs := [15]) (by kernel_rfl) (by simp) ?_; refine AllReadyH.cons rfl (fun K hK => ?_) AllReadyH.nil; go_simp)
      go_at_call 11
      refine (HFN.out _ _ _ HV18.out HB18.out).mono ?_
      rintro e w19 ⟨rfl, hb⟩
      have HB19 := Lib.hid (HB18.out.trans (hb.mono HB18.out.size))
      have HC19 := Lib.hid (HC18.out.below hb HC18.out.2.2.2.2)
      have HI19 := Lib.hid (HI18.out.lift hb)
      have HK19 := Lib.hid (HK18.out.lift hb)
      clear hb q0 q1
      obtain ⟨q0, q1, _, _, _⟩ := HC19.out
      go_wp2_with fail
      (refine hK.out _ _ ?_ (fun hHeld2 => ?_); (focus ((try dsimp only); exact ⟨q0, q1⟩)); (clear hK K); (try simp only [Act.put, List.getElem_toArray, List.getElem_cons_zero, List.getElem_cons_succ, List.setIfInBounds_toArray, List.set_cons_zero, List.set_cons_succ]))
      have hres := HRES.out
      (refine wpAnyH_take (i := 16) (v := ?_) rfl (by kernel_rfl) (by kernel_rfl) (by kernel_rfl) (fun _ _ _ h => h) (Or.inl ⟨by rfl, ?_⟩) (by assumption) ?_; rotate_left; (focus (intro wS hSw; (try dsimp only at hSw); go_simp; (try rw [if_neg (by omega)]); (try with_reducible rfl))); (try simp only [Act.put, List.getElem_toArray, List.getElem_cons_zero, List.getElem_cons_succ, List.setIfInBounds_toArray, List.set_cons_zero, List.set_cons_succ]))
      clear hres
      ((refine wpAnyH_take (i := 17) (v := ?_) rfl (by kernel_rfl) (by kernel_rfl) (by kernel_rfl) (fun _ _ _ h => h) (Or.inl ⟨by rfl, ?_⟩) (by assumption) ?_; rotate_left; (focus (intro wS hSw; (try dsimp only at hSw); go_simp; (try with_reducible rfl))); (try simp only [Act.put, List.getElem_toArray, List.getElem_cons_zero, List.getElem_cons_succ, List.setIfInBounds_toArray, List.set_cons_zero, List.set_cons_succ])); (refine wpAnyH_take (i := 18) (v := ?_) rfl (by kernel_rfl) (by kernel_rfl) (by kernel_rfl) (fun _ _ _ h => h) (Or.inl ⟨by rfl, ?_⟩) (by assumption) ?_; rotate_left; (focus (intro wS hSw; (try dsimp only at hSw); go_simp; (try with_reducible rfl))); (try simp only [Act.put, List.getElem_toArray, List.getElem_cons_zero, List.getElem_cons_succ, List.setIfInBounds_toArray, List.set_cons_zero, List.set_cons_succ])); (refine wpAnyH_take (i := 19) (v := ?_) rfl (by kernel_rfl) (by kernel_rfl) (by kernel_rfl) (fun _ _ _ h => h) (Or.inl ⟨by rfl, ?_⟩) (by assumption) ?_; rotate_left; (focus (intro wS hSw; (try dsimp only at hSw); go_simp; (try with_reducible rfl))); (try simp only [Act.put, List.getElem_toArray, List.getElem_cons_zero, List.getElem_cons_succ, List.setIfInBounds_toArray, List.set_cons_zero, List.set_cons_succ])); (refine wpAnyH_take (i := 21) (v := ?_) rfl (by kernel_rfl) (by kernel_rfl) (by kernel_rfl) (fun _ _ _ h => h) (Or.inl ⟨by rfl, ?_⟩) (by assumption) ?_; rotate_left; (focus (intro wS hSw; (try dsimp only at hSw); go_simp; (try with_reducible rfl))); (try simp only [Act.put, List.getElem_toArray, List.getElem_cons_zero, List.getElem_cons_succ, List.setIfInBounds_toArray, List.set_cons_zero, List.set_cons_succ])))
      (refine wpAnyH_ready (rs := [20]) (by kernel_rfl) (by simp) ?_; refine AllReadyH.cons rfl (fun K hK => ?_) AllReadyH.nil; go_simp)
      go_at_call 17
      refine (HLL.out _ HK19.out HB19.out).mono ?_
      rintro e w20 ⟨rfl, hb⟩
      have HB20 := Lib.hid (HB19.out.trans (hb.mono HB19.out.size))
      have HC20 := Lib.hid (HC19.out.below hb HC19.out.2.2.2.2)
      have HI20 := Lib.hid (HI19.out.lift hb)
      have HK20 := Lib.hid (HK19.out.lift hb)
      clear hb q0 q1
      obtain ⟨q0, q1, _, _, _⟩ := HC20.out
      go_wp2_with fail
      (refine hK.out _ _ ?_ (fun hHeld2 => ?_); (focus ((try dsimp only); exact ⟨q0, q1⟩)); (clear hK K); (try simp only [Act.put, List.getElem_toArray, List.getElem_cons_zero, List.getElem_cons_succ, List.setIfInBounds_toArray, List.set_cons_zero, List.set_cons_succ]))
      ((refine wpAnyH_take (i := 22) (v := ?_) rfl (by kernel_rfl) (by kernel_rfl) (by kernel_rfl) (fun _ _ _ h => h) (Or.inl ⟨by rfl, ?_⟩) (by assumption) ?_; rotate_left; (focus (intro wS hSw; (try dsimp only at hSw); go_simp; (try with_reducible rfl))); (try simp only [Act.put, List.getElem_toArray, List.getElem_cons_zero, List.getElem_cons_succ, List.setIfInBounds_toArray, List.set_cons_zero, List.set_cons_succ])); (refine wpAnyH_take (i := 23) (v := ?_) rfl (by kernel_rfl) (by kernel_rfl) (by kernel_rfl) (fun _ _ _ h => h) (Or.inl ⟨by rfl, ?_⟩) (by assumption) ?_; rotate_left; (focus (intro wS hSw; (try dsimp only at hSw); go_simp; (try with_reducible rfl))); (try simp only [Act.put, List.getElem_toArray, List.getElem_cons_zero, List.getElem_cons_succ, List.setIfInBounds_toArray, List.set_cons_zero, List.set_cons_succ])); (refine wpAnyH_take (i := 24) (v := ?_) rfl (by kernel_rfl) (by kernel_rfl) (by kernel_rfl) (fun _ _ _ h => h) (Or.inl ⟨by rfl, ?_⟩) (by assumption) ?_; rotate_left; (focus (intro wS hSw; (try dsimp only at hSw); go_simp; (try with_reducible rfl))); (try simp only [Act.put, List.getElem_toArray, List.getElem_cons_zero, List.getElem_cons_succ, List.setIfInBounds_toArray, List.set_cons_zero, List.set_cons_succ])))
      (refine wpAnyH_ready (rs := [25]) (by kernel_rfl) (by simp) ?_; refine AllReadyH.cons rfl (fun K hK => ?_) AllReadyH.nil; go_simp)
      have hal := (Below.refl w20.heap.size w20).alloc (Nat.le_refl _) (.cells #[.int .i64 1, .int .i64 (-2)] 3)
      have HB21 := Lib.hid (HB20.out.trans (hal.mono HB20.out.size))
      have HC21 := Lib.hid (HC20.out.below hal HC20.out.2.2.2.2)
      have HLT := Lib.hid (show Ints (w20.alloc (.cells #[.int .i64 1, .int .i64 (-2)] 3)) (w20.alloc (.cells #[.int .i64 1, .int .i64 (-2)] 3)).heap.size (some ⟨w20.heap.size, 0, none⟩) [1, -2] from (ints_lit w20 [1, -2] (by decide) (fun x hx => by
        simp at hx
        rcases hx with rfl | rfl <;> (unfold Fits; omega))).mono (by simp))
      have HFL := Lib.hid (fun V (h : Ints V V.heap.size (some ⟨w20.heap.size, 0, none⟩) [1, -2]) (hb : Below w.heap.size w V) => show Calls Tryz.prog 11 #[.slice (some ⟨w20.heap.size, 0, none⟩) 2 2] V fun e w' => e = .returned (.string ⟨#[49, 44, 45, 50]⟩) ∧ Below V.heap.size V w' by
        have := impl_FormatNumbers_any (some ⟨w20.heap.size, 0, none⟩) 2 [1, -2] V h (by decide) (HP.out.below hb)
        rwa [nums_12] at this)
      clear hal q0 q1
      obtain ⟨q0, q1, _, _, _⟩ := HC21.out
      (refine hK.out _ _ ?_ (fun hHeld2 => ?_); (focus ((try dsimp only); exact ⟨q0, q1⟩)); (clear hK K); (try simp only [Act.put, List.getElem_toArray, List.getElem_cons_zero, List.getElem_cons_succ, List.setIfInBounds_toArray, List.set_cons_zero, List.set_cons_succ]))
      (refine wpAnyH_ready (rs := [26]) (by kernel_rfl) (by simp) ?_; refine AllReadyH.cons rfl (fun K hK => ?_) AllReadyH.nil; go_simp)
      go_at_call 11
      refine (HFL.out _ HLT.out HB21.out).mono ?_
      rintro e w22 ⟨rfl, hb⟩
      have HB22 := Lib.hid (HB21.out.trans (hb.mono HB21.out.size))
      have HC22 := Lib.hid (HC21.out.below hb HC21.out.2.2.2.2)
      clear hb q0 q1
      obtain ⟨q0, q1, _, _, _⟩ := HC22.out
      go_wp2_with fail
      (refine hK.out _ _ ?_ (fun hHeld2 => ?_); (focus ((try dsimp only); exact ⟨q0, q1⟩)); (clear hK K); (try simp only [Act.put, List.getElem_toArray, List.getElem_cons_zero, List.getElem_cons_succ, List.setIfInBounds_toArray, List.set_cons_zero, List.set_cons_succ]))
      ((refine wpAnyH_take (i := 27) (v := ?_) rfl (by kernel_rfl) (by kernel_rfl) (by kernel_rfl) (fun _ _ _ h => h) (Or.inl ⟨by rfl, ?_⟩) (by assumption) ?_; rotate_left; (focus (intro wS hSw; (try dsimp only at hSw); go_simp; (try with_reducible rfl))); (try simp only [Act.put, List.getElem_toArray, List.getElem_cons_zero, List.getElem_cons_succ, List.setIfInBounds_toArray, List.set_cons_zero, List.set_cons_succ])); (refine wpAnyH_take (i := 28) (v := ?_) rfl (by kernel_rfl) (by kernel_rfl) (by kernel_rfl) (fun _ _ _ h => h) (Or.inl ⟨by rfl, ?_⟩) (by assumption) ?_; rotate_left; (focus (intro wS hSw; (try dsimp only at hSw); go_simp; (try with_reducible rfl))); (try simp only [Act.put, List.getElem_toArray, List.getElem_cons_zero, List.getElem_cons_succ, List.setIfInBounds_toArray, List.set_cons_zero, List.set_cons_succ])); (refine wpAnyH_take (i := 29) (v := ?_) rfl (by kernel_rfl) (by kernel_rfl) (by kernel_rfl) (fun _ _ _ h => h) (Or.inl ⟨by rfl, ?_⟩) (by assumption) ?_; rotate_left; (focus (intro wS hSw; (try dsimp only at hSw); go_simp; (try with_reducible rfl))); (try simp only [Act.put, List.getElem_toArray, List.getElem_cons_zero, List.getElem_cons_succ, List.setIfInBounds_toArray, List.set_cons_zero, List.set_cons_succ])); (refine wpAnyH_take (i := 30) (v := ?_) rfl (by kernel_rfl) (by kernel_rfl) (by kernel_rfl) (fun _ _ _ h => h) (Or.inl ⟨by rfl, ?_⟩) (by assumption) ?_; rotate_left; (focus (intro wS hSw; (try dsimp only at hSw); go_simp; (try with_reducible rfl))); (try simp only [Act.put, List.getElem_toArray, List.getElem_cons_zero, List.getElem_cons_succ, List.setIfInBounds_toArray, List.set_cons_zero, List.set_cons_succ])))
      (refine wpAnyH_ready (rs := [31]) (by kernel_rfl) (by simp) ?_; refine AllReadyH.cons rfl (fun K hK => ?_) AllReadyH.nil; go_simp)
      go_at_call 18
      refine (impl_MeterLine_one _).mono ?_
      rintro e w23 ⟨rfl, hb⟩
      have HB23 := Lib.hid (HB22.out.trans (hb.mono HB22.out.size))
      have HC23 := Lib.hid (HC22.out.below hb HC22.out.2.2.2.2)
      clear hb q0 q1
      obtain ⟨q0, q1, _, _, _⟩ := HC23.out
      go_wp2_with fail
      (refine hK.out _ _ ?_ (fun hHeld2 => ?_); (focus ((try dsimp only); exact ⟨q0, q1⟩)); (clear hK K); (try simp only [Act.put, List.getElem_toArray, List.getElem_cons_zero, List.getElem_cons_succ, List.setIfInBounds_toArray, List.set_cons_zero, List.set_cons_succ]))
      ((refine wpAnyH_take (i := 32) (v := ?_) rfl (by kernel_rfl) (by kernel_rfl) (by kernel_rfl) (fun _ _ _ h => h) (Or.inl ⟨by rfl, ?_⟩) (by assumption) ?_; rotate_left; (focus (intro wS hSw; (try dsimp only at hSw); go_simp; (try with_reducible rfl))); (try simp only [Act.put, List.getElem_toArray, List.getElem_cons_zero, List.getElem_cons_succ, List.setIfInBounds_toArray, List.set_cons_zero, List.set_cons_succ])); (refine wpAnyH_take (i := 33) (v := ?_) rfl (by kernel_rfl) (by kernel_rfl) (by kernel_rfl) (fun _ _ _ h => h) (Or.inl ⟨by rfl, ?_⟩) (by assumption) ?_; rotate_left; (focus (intro wS hSw; (try dsimp only at hSw); go_simp; (try with_reducible rfl))); (try simp only [Act.put, List.getElem_toArray, List.getElem_cons_zero, List.getElem_cons_succ, List.setIfInBounds_toArray, List.set_cons_zero, List.set_cons_succ])); (refine wpAnyH_take (i := 34) (v := ?_) rfl (by kernel_rfl) (by kernel_rfl) (by kernel_rfl) (fun _ _ _ h => h) (Or.inl ⟨by rfl, ?_⟩) (by assumption) ?_; rotate_left; (focus (intro wS hSw; (try dsimp only at hSw); go_simp; (try with_reducible rfl))); (try simp only [Act.put, List.getElem_toArray, List.getElem_cons_zero, List.getElem_cons_succ, List.setIfInBounds_toArray, List.set_cons_zero, List.set_cons_succ])))
      refine wpAnyH_done (by kernel_rfl) ?_ _
      clear q0 q1
      go_wp2_with fail
      go_ret
      exact ⟨rfl, HB23.out⟩

end Go.Proofs.YtcolbkgceaboaabGreatDoor
