/-
  The law FnScores: the walk.
-/
import Derived.Test.YthfjfhgeiggljaaDoorScZ
import Derived.Test.YthfjfhgeiggljaaDoorBarI
import Derived.Test.YthfjfhgeiggljaaDoorLFnExactFoldRuns
import Derived.Test.YthfjfhgeiggljaaDoorLFnExactUnrollScore
namespace Go.Proofs.YthfjfhgeiggljaaDoor
open Go.RowKit
set_option linter.unusedVariables false
set_option linter.unusedSimpArgs false

theorem close_a : (scoreR ⟨#[97, 91, 98, 99, 93, 50]⟩).isSome = true := by decide +kernel
theorem close_p : mkS (plaV ⟨#[97, 91, 98, 99, 93, 50, 100]⟩) = ⟨#[97, 98, 99, 98, 99, 100]⟩ := by
  have : plaV ⟨#[97, 91, 98, 99, 93, 50, 100]⟩ = [97, 98, 99, 98, 99, 100] := by decide +kernel
  rw [this]; rfl
theorem close_n : (scoreR ⟨#[91, 93, 50]⟩).isSome = false := by decide +kernel
theorem mkS_at (l : List UInt8) (i : Nat) (h : i < (mkS l).size) : (((mkS l)[i]'h).toNat : Int) = ((l.getD i 0).toNat : Int) := by
  have := chr_at h
  rw [chr_mk] at this
  exact this.symm
theorem text_at_chr (s : ByteArray) (i : Nat) (h : i < s.size) : ((s[i]'h).toNat : Int) = chr s i := (chr_at h).symm

theorem foldV_len (s : ByteArray) : (foldV s).length ≤ 1000 := by
  unfold foldV
  by_cases h : s.size ≤ 500
  · rw [if_pos h]
    unfold foldW
    have := foldT_len s 501 0
    split
    · omega
    · exact Nat.zero_le _
  · rw [if_neg h]; exact Nat.zero_le _

set_option maxRecDepth 100000 in
set_option maxHeartbeats 8000000 in
theorem law_FnScores {w : World} (A : Option Addr) (cap : Nat) (xs : List Int) (hA : Byt w w.heap.size A xs) (hM : MaxL w) :
    Calls Tryd.prog 3 #[.slice A xs.length cap] w fun e w' => e = .returned (.bool true) ∧ Below w.heap.size w w' := by
  have HA := Lib.hid hA
  have HM := Lib.hid hM
  have hml := hA.1
  unfold maxLen at hml
  clear hA hM
  by_cases hbig : 1048576 < xs.length
  · go_enter Tryd.func3, Tryd.ntmps3
    go_wp2_with fail
    go_ret
    exact ⟨rfl, Below.refl _ _⟩
  go_enter Tryd.func3, Tryd.ntmps3
  go_wp2_with fail
  refine (spec_MakeScore_any A cap xs w HA.out).mono ?_
  rintro e w1 ⟨⟨u, rfl, hu⟩, hb1⟩
  have HB1 := Lib.hid hb1
  clear hb1
  go_wp2_with fail
  refine (spec_ScoreOk_any u _ (by unfold maxLen; omega)).mono ?_
  rintro e w2 ⟨rfl, hb2⟩
  have HB2 := Lib.hid (HB1.out.trans (hb2.mono HB1.out.size))
  clear hb2
  obtain ⟨ok, hok⟩ : ∃ ok, (scoreR u).isSome = ok := ⟨_, rfl⟩
  have HU := Lib.hid hok
  rw [hok]
  clear hok
  go_upto_if 26 with fail
  go_cut [3] from 24 to 26 (fun s3 wx => ∃ S : ByteArray, s3 = .string S ∧ (scoreR S).isSome = true ∧ Below w.heap.size w wx)
  case first =>
    cases ok
    · go_wp2_with fail
      go_meet
      exact ⟨_, rfl, close_a, HB2.out⟩
    · go_wp2_with fail
      go_meet
      exact ⟨_, rfl, HU.out, HB2.out⟩
  case rest =>
    obtain ⟨S, rfl, hok, hbc⟩ := hcut
    obtain ⟨w3, rfl⟩ : ∃ x : World, x = wc := ⟨_, rfl⟩
    have HB3 := Lib.hid hbc
    have HOK := Lib.hid hok
    have hs60 : S.size ≤ 60 := scoreR_60 hok
    obtain ⟨hlet, h500, hcnt⟩ := play_all hok
    have hso := hok
    have HSO := Lib.hid (fun V => impl_ScoreOk_any S V (by unfold maxLen; omega))
    rw [hok] at HSO
    have HPL := Lib.hid (fun V => impl_PlayScore_any S V (by unfold maxLen; omega))
    have HCN := Lib.hid (fun V => impl_CountPlayed_any S V (by unfold maxLen; omega))
    rw [← hcnt] at HCN
    have HDE := Lib.hid (fun V => impl_DepthOf_any S V (by unfold maxLen; omega))
    obtain ⟨hd0', hd3'⟩ := dep_ok hok
    have hd0 : ¬ depV S < 0 := by omega
    have hd3 : ¬ 3 < depV S := by omega
    generalize depV S = dd at HDE hd0 hd3
    have HPA := Lib.hid (fun (i : Nat) V => impl_PlaceAt_any S i V (by unfold maxLen; omega))
    have HPC := Lib.hid (fun (i : Nat) (h : i < (plaV S).length) => place_at hok h)
    have hpo := place_out hok
    have HPO := Lib.hid (fun V => impl_PlaceAt_any S ((plaV S).length : Int) V (by unfold maxLen; omega))
    rw [hpo] at HPO
    have HBU := Lib.hid (fun V => impl_BarsUsed_any S V (by unfold maxLen; omega))
    have HBI := Lib.hid (fun c (h : c ∈ barV S) => bar_in hok c h)
    have HBA := Lib.hid (fun i h0 (h : i < (barV S).length) => bar_asc S h0 h)
    have hblen : (barV S).length ≤ 26 := by
      unfold barV
      cases scoreR S with
      | none => exact Nat.zero_le _
      | some r => exact Nat.le_trans (List.length_filter_le _ _) (by decide)
    have hren := ren_play hok ⟨#[97]⟩ ⟨#[122]⟩ (by decide +kernel) (by decide +kernel)
    have hrenS := ren_score S ⟨#[97]⟩ ⟨#[122]⟩ (by decide +kernel) (by decide +kernel)
    have hrv : renV S ⟨#[97]⟩ ⟨#[122]⟩ = renL S ⟨#[97]⟩ ⟨#[122]⟩ ∧ renOk S ⟨#[97]⟩ ⟨#[122]⟩ = true := by
      have h1 : renOk S ⟨#[97]⟩ ⟨#[122]⟩ = true := by unfold renOk; rw [hok]; decide +kernel
      unfold renV
      rw [h1]
      exact ⟨rfl, rfl⟩
    have HRE := Lib.hid (fun V hV => impl_RenameBar_any S ⟨#[97]⟩ ⟨#[122]⟩ V (by omega) (by decide) (by decide) hV)
    rw [hrv.1, hrv.2] at HRE
    have hxs : (mkS (renL S ⟨#[97]⟩ ⟨#[122]⟩)).size ≤ 60 := by rw [mkS_size, renL_len]; exact hs60
    have HUN := Lib.hid (fun V => impl_UnrollScore_any (mkS (renL S ⟨#[97]⟩ ⟨#[122]⟩)) V (by unfold maxLen; omega))
    rw [hren, hrenS, hok] at HUN
    generalize mkS (renL S ⟨#[97]⟩ ⟨#[122]⟩) = X at HRE HUN hxs
    clear hren hrenS hrv hpo hd0' hd3' hcnt
    generalize plaV S = pl at *
    have HFO := Lib.hid (fun V => impl_FoldRuns_any (mkS pl) V (by rw [mkS_size]; omega))
    have hFl := foldV_len (mkS pl)
    have HFD := Lib.hid (fun (h : foldV (mkS pl) ≠ []) => fold_dep hlet h)
    have HFS := Lib.hid (fun (h : foldV (mkS pl) = []) => show ¬ (0 < (mkS pl).size ∧ (mkS pl).size ≤ 30) from fun hh => fold_some hlet hh.1 hh.2 h)
    rw [show (mkS pl).data.toList = pl from str_mk pl] at HFD
    generalize foldV (mkS pl) = F at HFO HFD HFS hFl
    have HPI := Lib.hid (fun i h => mkS_at pl i h)
    have hps : pl.length = (mkS pl).size := (mkS_size pl).symm
    have HPS := Lib.hid hps
    rw [hps] at HCN HPO
    have h500' : (mkS pl).size ≤ 500 := by omega
    obtain ⟨P, hP⟩ : ∃ P, mkS pl = P := ⟨_, rfl⟩
    rw [hP] at HCN HPO HPL HFO HFS HPI HPS h500'
    have HPP := Lib.hid hP
    clear hP hps h500 hlet hso hbc hok HB2 HB1
    go_wp2_with fail
    refine (HPL.out _).mono ?_
    rintro e w4 ⟨rfl, hb⟩
    have HB4 := Lib.hid (HB3.out.trans (hb.mono HB3.out.size))
    clear hb
    go_wp2_with fail
    refine (HCN.out _).mono ?_
    rintro e w5 ⟨rfl, hb⟩
    have HB5 := Lib.hid (HB4.out.trans (hb.mono HB4.out.size))
    clear hb
    go_wp2_with fail
    refine (HSO.out _).mono ?_
    rintro e w6 ⟨rfl, hb⟩
    have HB6 := Lib.hid (HB5.out.trans (hb.mono HB5.out.size))
    clear hb
    go_wp2_with fail
    refine (HDE.out _).mono ?_
    rintro e w7 ⟨rfl, hb⟩
    have HB7 := Lib.hid (HB6.out.trans (hb.mono HB6.out.size))
    clear hb
    go_wp2_with fail
    refine (HDE.out _).mono ?_
    rintro e w8 ⟨rfl, hb⟩
    have HB8 := Lib.hid (HB7.out.trans (hb.mono HB7.out.size))
    clear hb
    go_wp2_with fail
    go_loopw [6] (fun i wr => ∃ k : Nat, i = .int .i64 k ∧ k ≤ P.size ∧ Below w.heap.size w wr) (fun i _ => P.size - (intOf i).toNat)
    case atStart => exact ⟨0, rfl, Nat.zero_le _, HB8.out⟩
    case round =>
      obtain ⟨k, rfl, hk, hbr⟩ := hrel
      have HBR := Lib.hid hbr
      clear hbr
      by_cases hlt : k < P.size
      · obtain ⟨kk, hkk, hks, hkc⟩ := HPC.out k (by rw [HPS.out]; exact hlt)
        have hch : ((((S[kk]'hks).toNat : Int)) != ((P[k]'hlt).toNat : Int)) = false := by
          rw [text_at_chr S kk hks, hkc, HPI.out k hlt]; simp
        have HPAK := Lib.hid (HPA.out k)
        rw [hkk] at HPAK
        clear hkk hkc
        go_wp2_with fail
        refine (HPAK.out _).mono ?_
        rintro e wa ⟨rfl, hb⟩
        have HBA' := Lib.hid (HBR.out.trans (hb.mono HBR.out.size))
        clear hb
        go_wp2_with fail
        go_quiet (fail)
        go_wp2_with fail
        go_roundw
        case rel => exact ⟨k + 1, by go_num, by omega, Below.drewN_ HBA'.out _⟩
        case measure => simp [intOf]; omega
      · have hke : k = P.size := by omega
        subst hke
        go_wp2_with fail
        refine (HFO.out _).mono ?_
        rintro e w9 ⟨rfl, hb⟩
        have HB9 := Lib.hid (HBR.out.trans (hb.mono HBR.out.size))
        clear hb HB3 HB4 HB5 HB6 HB7 HB8 HSO HDE HBR HCN hd0 hd3
        go_upto_region 17 with fail
        go_cut [101] from 77 to 101 (fun s101 wx => s101 = .bool false ∧ Below w.heap.size w wx)
        case first =>
          by_cases hF : F = []
          · have hsz : ¬ (0 < P.size ∧ P.size ≤ 30) := HFS.out hF
            have hsz2 : P.size ≤ 0 ∨ 30 < P.size := by omega
            have hne : (mkS F).toList.isEmpty = true := by
              rw [hF, Lib.toList_data, show (mkS ([] : List UInt8)).data.toList = [] from str_mk []]; rfl
            clear hF HFD HFS
            generalize mkS F = G at *
            rcases hsz2 with hz | hz
            · have hzi : decide ((0 : Int) < (P.size : Int)) = false := decide_eq_false (by omega)
              have hzn : ¬ 0 < P.size := by omega
              clear hsz hz
              go_wp2_with fail
              go_meet
              exact ⟨rfl, HB9.out⟩
            · have hzi : (0 : Int) < (P.size : Int) := by omega
              have hzj : ¬ (P.size : Int) ≤ 30 := by omega
              clear hsz
              go_wp2_with fail
              go_meet
              exact ⟨rfl, HB9.out⟩
          · have HFF := Lib.hid (HFD.out hF)
            have HP2 := Lib.hid (fun V => impl_PlayScore_any (mkS F) V (by unfold maxLen; rw [mkS_size]; omega))
            rw [HFF.out.1, HPP.out] at HP2
            have HD2 := Lib.hid (fun V => impl_DepthOf_any (mkS F) V (by unfold maxLen; rw [mkS_size]; omega))
            have hd1 : ¬ 1 < depV (mkS F) := by have := HFF.out.2; omega
            generalize depV (mkS F) = d2 at HD2 hd1
            have hne : ((mkS F).toList).isEmpty = false := by
              rw [Lib.toList_data, show (mkS F).data.toList = F from str_mk F]
              cases F with
              | nil => exact absurd rfl hF
              | cons a l => rfl
            clear HFF HFD HFS hF
            generalize mkS F = G at *
            go_wp2_with fail
            refine (HP2.out _).mono ?_
            rintro e wa ⟨rfl, hb⟩
            have HBa := Lib.hid (HB9.out.trans (hb.mono HB9.out.size))
            clear hb
            go_wp2_with fail
            refine (HD2.out _).mono ?_
            rintro e wb ⟨rfl, hb⟩
            have HBb := Lib.hid (HBa.out.trans (hb.mono HBa.out.size))
            clear hb
            go_wp2_with fail
            go_meet
            exact ⟨by rw [decide_eq_false (by omega)], HBb.out⟩
        case rest =>
          obtain ⟨rfl, hbc⟩ := hcut
          obtain ⟨wb, rfl⟩ : ∃ x : World, x = wc := ⟨_, rfl⟩
          have HBB := Lib.hid hbc
          clear hbc HB9 HFD HFS HFO
          generalize mkS F = G at *
          go_wp2_with fail
          refine (HBU.out _).mono ?_
          rintro e wd ⟨rfl, hb⟩
          have HBD := Lib.hid (HBB.out.trans (hb.mono HBB.out.size))
          have HBP := Lib.hid (fun i h => mkS_at (barV S) i h)
          have HBS := Lib.hid (show (barV S).length = (mkS (barV S)).size from (mkS_size _).symm)
          clear hb HBU HBB
          generalize mkS (barV S) = B at *
          have hB26 : B.size ≤ 26 := by have := HBS.out; omega
          generalize barV S = bl at *
          go_wp2_with fail
          go_loopw [10] (fun i wr => ∃ k : Nat, i = .int .i64 k ∧ k ≤ B.size ∧ Below w.heap.size w wr) (fun i _ => B.size - (intOf i).toNat)
          case atStart => exact ⟨0, rfl, Nat.zero_le _, HBD.out⟩
          case round =>
            obtain ⟨k, rfl, hk, hbr⟩ := hrel
            have HBR := Lib.hid hbr
            clear hbr
            by_cases hlt : k < B.size
            · have hbk := HBP.out k hlt
              have HCM := Lib.hid (HBI.out (bl.getD k 0) (by
                rw [List.getD_eq_getElem?_getD, List.getElem?_eq_getElem (show k < bl.length by rw [HBS.out]; exact hlt)]
                exact List.getElem_mem _))
              obtain ⟨c, hc⟩ : ∃ c, bl.getD k 0 = c := ⟨_, rfl⟩
              rw [hc] at hbk HCM
              have HBK := Lib.hid hbk
              clear hbk
              go_wp2_with fail
              go_loopw [11, 12] (fun f j wr2 => ∃ (b : Bool) (m : Nat), f = .bool b ∧ j = .int .i64 m ∧ m ≤ P.size ∧ ((∃ x, x < m ∧ pl.getD x 0 = c) → b = true) ∧ Below w.heap.size w wr2) (fun _ j _ => P.size - (intOf j).toNat)
              case atStart => exact ⟨false, 0, rfl, rfl, Nat.zero_le _, fun ⟨x, hx, _⟩ => by omega, HBR.out⟩
              case round =>
                obtain ⟨b, m, rfl, rfl, hm, hbx, hbr2⟩ := hrel
                have HBX := Lib.hid hbx
                have HB2 := Lib.hid hbr2
                clear hbx hbr2
                by_cases hlm : m < P.size
                · have hpm := HPI.out m hlm
                  cases b
                  · by_cases he : pl.getD m 0 = c
                    · have heq : ((((P[m]'hlm).toNat : Int)) == ((B[k]'hlt).toNat : Int)) = true := by rw [hpm, HBK.out, he]; simp
                      clear hpm he
                      go_wp2_with fail
                      go_quiet (fail)
                      go_wp2_with fail
                      go_roundw
                      case rel => exact ⟨true, m + 1, rfl, by go_num, by omega, fun _ => rfl, Below.drewN_ HB2.out _⟩
                      case measure => simp [intOf]; omega
                    · have heq : ((((P[m]'hlm).toNat : Int)) == ((B[k]'hlt).toNat : Int)) = false := by
                        rw [hpm, HBK.out, beq_eq_false_iff_ne]
                        intro h
                        exact he (UInt8.toNat_inj.1 (by omega))
                      have HE := Lib.hid he
                      clear hpm he
                      go_wp2_with fail
                      go_quiet (fail)
                      go_wp2_with fail
                      go_roundw
                      case rel => exact ⟨false, m + 1, rfl, by go_num, by omega, fun ⟨x, hx, hxc⟩ => by
                        by_cases e : x = m
                        · subst e; exact absurd hxc HE.out
                        · exact HBX.out ⟨x, by omega, hxc⟩, Below.drewN_ HB2.out _⟩
                      case measure => simp [intOf]; omega
                  · clear hpm
                    go_wp2_with fail
                    go_quiet (fail)
                    go_wp2_with fail
                    go_roundw
                    case rel => exact ⟨true, m + 1, rfl, by go_num, by omega, fun _ => rfl, Below.drewN_ HB2.out _⟩
                    case measure => simp [intOf]; omega
                · have hbt : b = true := HBX.out (by
                    obtain ⟨x, hx, hxe⟩ := List.getElem_of_mem HCM.out
                    exact ⟨x, by have := HPS.out; omega, by rw [List.getD_eq_getElem?_getD, List.getElem?_eq_getElem hx]; exact hxe⟩)
                  subst hbt
                  have hme : m = P.size := by omega
                  subst hme
                  by_cases h0 : k = 0
                  · subst h0
                    go_wp2_with fail
                    go_quiet (fail)
                    go_wp2_with fail
                    go_roundw
                    case rel => exact ⟨1, rfl, by omega, Below.drewN_ HB2.out _⟩
                    case measure => simp [intOf]; omega
                  · obtain ⟨j, hj⟩ : ∃ j, k = j + 1 := ⟨k - 1, by omega⟩
                    have hlj : j < B.size := by omega
                    have hup : ¬ ((B[k]'hlt).toNat : Int) ≤ ((B[j]'hlj).toNat : Int) := by
                      have := HBA.out k (by omega) (by rw [HBS.out]; exact hlt)
                      rw [HBP.out k hlt, HBP.out j hlj, show j = k - 1 by omega]
                      omega
                    have hjk : (k : Int) - 1 = (j : Int) := by omega
                    have hk0 : (0 : Int) < (k : Int) := by omega
                    have hwj : IntKind.i64.wrap ((k : Int) - 1) = (j : Int) := by rw [hjk]; exact i64w (by omega)
                    have hkn : 0 < k := by omega
                    have HJ := Lib.hid hj
                    clear hj h0
                    go_wp2_with fail
                    go_quiet (fail)
                    go_wp2_with fail
                    go_roundw
                    case rel => exact ⟨k + 1, by go_num, by omega, Below.drewN_ HB2.out _⟩
                    case measure => simp [intOf]; omega
            · have hke : k = B.size := by omega
              subst hke
              go_wp2_with fail
              refine (HRE.out _ (HM.out.below HBR.out)).mono ?_
              rintro e we ⟨rfl, hb⟩
              have HBE := Lib.hid (HBR.out.trans (hb.mono HBR.out.size))
              clear hb
              go_wp2_with fail
              refine (HUN.out _).mono ?_
              rintro e wf ⟨rfl, hb⟩
              have HBF := Lib.hid (HBE.out.trans (hb.mono HBE.out.size))
              clear hb
              go_wp2_with fail
              generalize hY : mkS (pl.map (renC ⟨#[97]⟩ ⟨#[122]⟩)) = Y
              have HY := Lib.hid hY
              clear hY HUN HRE
              go_loopw [17, 18] (fun t i wr => ∃ (k : Nat) (v : ByteArray), i = .int .i64 k ∧ t = .string v ∧ k ≤ P.size ∧ Str v ((pl.map (renC ⟨#[97]⟩ ⟨#[122]⟩)).take k) ∧ Below w.heap.size w wr) (fun _ i _ => P.size - (intOf i).toNat)
              case atStart => exact ⟨0, _, rfl, rfl, Nat.zero_le _, str_nil, HBF.out⟩
              case round =>
                obtain ⟨k, v, rfl, rfl, hk, hv, hbr⟩ := hrel
                have HBR := Lib.hid hbr
                have hvs : v.size ≤ 500 := by have := hv.size; rw [List.length_take] at this; omega
                have HV := Lib.hid hv
                clear hbr hv
                by_cases hlt : k < P.size
                · have hpk := HPI.out k hlt
                  have hsn : (pl.map (renC ⟨#[97]⟩ ⟨#[122]⟩)).take (k + 1) = (pl.map (renC ⟨#[97]⟩ ⟨#[122]⟩)).take k ++ [renC ⟨#[97]⟩ ⟨#[122]⟩ (pl.getD k 0)] := by
                    have hl : k < pl.length := by rw [HPS.out]; exact hlt
                    rw [List.take_succ_eq_append_getElem (by rw [List.length_map]; exact hl), List.getElem_map, List.getD_eq_getElem?_getD, List.getElem?_eq_getElem hl]
                    rfl
                  by_cases hc : pl.getD k 0 = 97
                  · have heq : ((((P[k]'hlt).toNat : Int)) == 97) = true := by rw [hpk, hc]; rfl
                    have HREL := Lib.hid (show Str (v ++ ⟨#[122]⟩) ((pl.map (renC ⟨#[97]⟩ ⟨#[122]⟩)).take (k + 1)) by
                      rw [hsn, hc]; exact HV.out.app rfl)
                    clear hsn hpk hc
                    go_wp2_with fail
                    go_roundw
                    case rel => exact ⟨k + 1, _, by go_num, rfl, by omega, HREL.out, HBR.out⟩
                    case measure => simp [intOf]; omega
                  · have heq : ((((P[k]'hlt).toNat : Int)) == 97) = false := by
                      rw [hpk, beq_eq_false_iff_ne]
                      intro h
                      exact hc (UInt8.toNat_inj.1 (show (pl.getD k 0).toNat = 97 by omega))
                    have HREL := Lib.hid (show Str (v ++ P.extract k (k + 1)) ((pl.map (renC ⟨#[97]⟩ ⟨#[122]⟩)).take (k + 1)) by
                      rw [hsn]
                      refine HV.out.app ?_
                      have h1 := str_at P k hlt
                      have h2 : P[k]'hlt = pl.getD k 0 := UInt8.toNat_inj.1 (by omega)
                      rw [h2] at h1
                      have h3 : renC ⟨#[97]⟩ ⟨#[122]⟩ (pl.getD k 0) = pl.getD k 0 := by unfold renC; exact if_neg hc
                      rw [h3]
                      exact h1)
                    clear hsn hpk hc
                    go_wp2_with fail
                    go_roundw
                    case rel => exact ⟨k + 1, _, by go_num, rfl, by omega, HREL.out, HBR.out⟩
                    case measure => simp [intOf]; omega
                · have hke : k = P.size := by omega
                  subst hke
                  have hvy : v = Y := by
                    have := HV.out.eq
                    rw [List.take_of_length_le (by rw [List.length_map]; have := HPS.out; omega)] at this
                    rw [this, HY.out]
                  subst hvy
                  clear HV
                  have HCP := Lib.hid (fun V => impl_PlayScore_any ⟨#[97, 91, 98, 99, 93, 50, 100]⟩ V (by decide))
                  rw [close_p] at HCP
                  have HCO := Lib.hid (fun V => impl_ScoreOk_any ⟨#[91, 93, 50]⟩ V (by decide))
                  rw [close_n] at HCO
                  go_wp2_with fail
                  refine (HPO.out _).mono ?_
                  rintro e wg ⟨rfl, hb⟩
                  have HBG := Lib.hid (HBR.out.trans (hb.mono HBR.out.size))
                  clear hb
                  go_wp2_with fail
                  refine (HCP.out _).mono ?_
                  rintro e wh ⟨rfl, hb⟩
                  have HBH := Lib.hid (HBG.out.trans (hb.mono HBG.out.size))
                  clear hb
                  go_wp2_with fail
                  refine (HCO.out _).mono ?_
                  rintro e wi ⟨rfl, hb⟩
                  have HBI2 := Lib.hid (HBH.out.trans (hb.mono HBH.out.size))
                  clear hb
                  go_wp2_with fail
                  go_ret
                  exact ⟨rfl, HBI2.out⟩

end Go.Proofs.YthfjfhgeiggljaaDoor
