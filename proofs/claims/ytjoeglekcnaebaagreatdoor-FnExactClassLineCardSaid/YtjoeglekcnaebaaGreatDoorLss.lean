/-
  The least rotation, the least form, the units, the class of a rhythm, by the reference.
-/
import Derived.Test.YtjoeglekcnaebaaGreatDoorLst
import Derived.Test.YtjoeglekcnaebaaGreatDoorGcdB
import Derived.Test.YtjoeglekcnaebaaGreatDoorSpcP
import Derived.Test.YtjoeglekcnaebaaGreatDoorSrok
namespace Go.Proofs.YtjoeglekcnaebaaGreatDoor
open Go.RowKit
set_option linter.unusedVariables false
set_option linter.unusedSimpArgs false

set_option maxRecDepth 100000 in
set_option maxHeartbeats 4000000 in
theorem spec_l04Least_any (N : Nat) (A : Option Addr) (cap : Nat) (bs : List Int) (w : World) (hA : Ints w w.heap.size A bs) (hok : RhOk N bs) :
    Calls Tryz.prog 35 #[.agg #[.int .i64 N, .slice A bs.length cap]] w (RetRh1 w N (lstV N bs)) := by
  have hn1 : 1 ≤ N := by have := hok.1; omega
  have hn2 : N ≤ 24 := by have := hok.2.1; omega
  have HLK := Lib.hid (fun m => lstR_ok hok m)
  have HRK := Lib.hid (fun (k : Nat) => (rotL_ok hok (k : Int)).1)
  have HRT := Lib.hid (fun (k : Nat) (hk : k ≤ 1000) V h => show Calls Tryz.prog 36 #[.agg #[.int .i64 N, .slice A bs.length cap], .int .i64 1, .int .i64 k] V (RetRh1 V N (rotL N bs (k : Int))) from (rotL_of hok (k : Int)) ▸ spec_l02Map_any N A cap bs 1 k V h hok (fun x h1 h2 => by omega) (by omega))
  have HAF := Lib.hid (fun A1 A2 c1 c2 a b V h1 h2 ha hb => spec_l04After_any N A1 A2 c1 c2 a b V h1 h2 ha hb)
  have HLO := Lib.hid (lstR_one N bs)
  have hal1 := (Below.refl w.heap.size w).alloc (Nat.le_refl _) (.cells #[.int .i64 N, .slice A (bs).length cap] 27)
  have HBW := Lib.hid (hal1.alloc hal1.size (.cells #[.int .i64 0, .slice none 0 0] 27))
  have HVA := Lib.hid ((Hav.boxed hA N cap).alloc (.cells #[.int .i64 0, .slice none 0 0] 27))
  have HLA := Lib.hid (Cells2.new_at (w.alloc (.cells #[.int .i64 N, .slice A (bs).length cap] 27)) (.int .i64 0) (.slice none 0 0) 27 (w.heap.size + 1) (by simp))
  have HA := Lib.hid hA
  have HR0 := Lib.hid (HRT.out 0 (by omega))
  rw [← HLO.out, show ((0 : Nat) : Int) = 0 from rfl] at HR0
  clear hal1 hA
  obtain ⟨⟨p0, p1, _, _, _⟩, _⟩ := HVA.out
  go_enter Tryz.func35, Tryz.ntmps35
  go_wp2_with fail
  generalize (w.alloc (.cells #[.int .i64 N, .slice A (bs).length cap] 27)).alloc (.cells #[.int .i64 0, .slice none 0 0] 27) = W at *
  refine (HR0.out _ HVA.out.2).mono ?_
  rintro e w1 ⟨A0, c0, rfl, hrw, hb⟩
  have hqw := HLA.out.2.2.2.2
  have hz1 := hb.size
  obtain ⟨b0, hl0, hb0⟩ := hrw.rvL w.heap.size (by omega) (by omega) N c0
  have HBW := Lib.hid (HBW.out.trans (hb.mono HBW.out.size))
  try have HVA := Lib.hid (HVA.out.lift hb)
  try have HVB := Lib.hid (HVB.out.lift hb)
  try have HVC := Lib.hid (HVC.out.lift hb)
  try have HVT := Lib.hid (HVT.out.lift hb)
  try have HVX := Lib.hid (HVX.out.lift hb)
  try have HVM := Lib.hid (HVM.out.lift hb)
  try have HVF := Lib.hid (HVF.out.lift hb)
  try have HVP := Lib.hid (HVP.out.lift hb)
  try have HVQ := Lib.hid (HVQ.out.lift hb)
  try have HLA := Lib.hid (HLA.out.lift hb)
  try have HLW := Lib.hid (HLW.out.lift hb)
  try have HI := Lib.hid (HI.out.lift hb)
  try have HRB := Lib.hid (HRB.out.trans (hb.mono HRB.out.size))
  try have HWW := Lib.hid (HWW.out.trans (hb.mono HWW.out.size))
  clear hb
  have HVX := Lib.hid hl0
  clear hrw hl0
  clear p0 p1
  obtain ⟨⟨p0, p1, _, _, _⟩, _⟩ := HVA.out
  have hbg : b0 < w1.heap.size := HVX.out.2.2.1
  go_wp2_with fail
  have hal2 := (Below.refl w1.heap.size w1).alloc (Nat.le_refl _) (.cells #[.int .i64 N, .slice A0 (lstR N bs 1).length c0] 27)
  have hb := hal2
  have HBW := Lib.hid (HBW.out.trans (hb.mono HBW.out.size))
  try have HVA := Lib.hid (HVA.out.lift hb)
  try have HVB := Lib.hid (HVB.out.lift hb)
  try have HVC := Lib.hid (HVC.out.lift hb)
  try have HVT := Lib.hid (HVT.out.lift hb)
  try have HVX := Lib.hid (HVX.out.lift hb)
  try have HVM := Lib.hid (HVM.out.lift hb)
  try have HVF := Lib.hid (HVF.out.lift hb)
  try have HVP := Lib.hid (HVP.out.lift hb)
  try have HVQ := Lib.hid (HVQ.out.lift hb)
  try have HLA := Lib.hid (HLA.out.lift hb)
  try have HLW := Lib.hid (HLW.out.lift hb)
  try have HI := Lib.hid (HI.out.lift hb)
  try have HRB := Lib.hid (HRB.out.trans (hb.mono HRB.out.size))
  try have HWW := Lib.hid (HWW.out.trans (hb.mono HWW.out.size))
  clear hb
  have HLW := Lib.hid (Cells2.new w1 (.int .i64 N) (.slice A0 (lstR N bs 1).length c0) 27)
  clear hal2
  clear p0 p1
  generalize w1.alloc (.cells #[.int .i64 N, .slice A0 (lstR N bs 1).length c0] 27) = W2 at *
  have hgq0 : w.heap.size + 1 < w1.heap.size := by omega
  generalize w1.heap.size = g at *
  go_loopw [4] (fun i wr => ∃ (j : Nat) (AX : Option Addr) (cX bX : Nat), j ≤ N ∧ i = .int .i64 j ∧ (RV.mk N (lstR N bs j) AX cX bX).Lies wr w.heap.size ∧ bX ≠ g ∧ bX ≠ w.heap.size + 1 ∧ Cells2 wr g (.int .i64 N) (.slice AX (lstR N bs j).length cX) ∧ Cells2 wr w.heap.size (.int .i64 N) (.slice A bs.length cap) ∧ Cells2 wr (w.heap.size + 1) (.int .i64 0) (.slice none 0 0) ∧ Below w.heap.size w wr) (fun i _ => N - (intOf i).toNat)
  case atStart => exact ⟨1, A0, c0, b0, hn1, rfl, HVX.out, by omega, by omega, HLW.out, HVA.out.1, HLA.out, HBW.out⟩
  case round =>
    obtain ⟨j, AX, cX, bX, hj, rfl, hx, hg1, hg2, hbest, hrc, hzc, hbel⟩ := hrel
    obtain ⟨wo, rfl⟩ : ∃ wo : World, wo = wr := ⟨_, rfl⟩
    clear HVX HLW HVA HLA HBW
    have HBW := Lib.hid hbel
    have HVX := Lib.hid hx
    have HLW := Lib.hid hbest
    have HLA := Lib.hid hzc
    have HVA := Lib.hid (show Hav wo N w.heap.size A cap bs from ⟨hrc, (HA.out.below hbel).mono hbel.size⟩)
    have hwo : g < wo.heap.size := hbest.2.2.2.2
    have HXO := Lib.hid (HLK.out j)
    clear hx hbest hzc hrc hbel
    obtain ⟨⟨p0, p1, _, _, _⟩, _⟩ := HVA.out
    by_cases hlt : j < N
    · have HYO := Lib.hid (HRK.out j)
      have HRJ := Lib.hid (HRT.out j (by omega))
      have HSU := Lib.hid (show lstR N bs (j + 1) = lateR N (lstR N bs j) (rotL N bs (j : Nat)) from rfl)
      obtain ⟨Z1, hZ1⟩ : ∃ Z1, lstR N bs (j + 1) = Z1 := ⟨_, rfl⟩
      have HZ1 := Lib.hid hZ1
      rw [hZ1] at HSU
      clear hZ1
      generalize lstR N bs j = X at *
      generalize rotL N bs ((j : Nat) : Int) = Y at *
      have hji : (j : Int) < (N : Int) := by omega
      go_wp2_with fail
      refine (HRJ.out _ HVA.out.2).mono ?_
      rintro e w5 ⟨A5, c5, rfl, hrw, hb⟩
      have hz5 := hb.size
      obtain ⟨b5, hl5, hb5⟩ := hrw.rvL w.heap.size (by have := HLA.out.2.2.2.2; omega) (by have := HLA.out.2.2.2.2; omega) N c5
      have hq5 : w.heap.size + 1 < wo.heap.size := HLA.out.2.2.2.2
      have hgq : w.heap.size + 1 < g := hgq0
      have HBW := Lib.hid (HBW.out.trans (hb.mono HBW.out.size))
      try have HVA := Lib.hid (HVA.out.lift hb)
      try have HVB := Lib.hid (HVB.out.lift hb)
      try have HVC := Lib.hid (HVC.out.lift hb)
      try have HVT := Lib.hid (HVT.out.lift hb)
      try have HVX := Lib.hid (HVX.out.lift hb)
      try have HVM := Lib.hid (HVM.out.lift hb)
      try have HVF := Lib.hid (HVF.out.lift hb)
      try have HVP := Lib.hid (HVP.out.lift hb)
      try have HVQ := Lib.hid (HVQ.out.lift hb)
      try have HLA := Lib.hid (HLA.out.lift hb)
      try have HLW := Lib.hid (HLW.out.lift hb)
      try have HI := Lib.hid (HI.out.lift hb)
      try have HRB := Lib.hid (HRB.out.trans (hb.mono HRB.out.size))
      try have HWW := Lib.hid (HWW.out.trans (hb.mono HWW.out.size))
      clear hb
      have HVT := Lib.hid hl5
      clear hrw hl5 p0 p1
      obtain ⟨s0, s1, sf0, sf1, _⟩ := HLW.out
      go_wp2_with fail
      have HXB := Lib.hid (Cells2.new w5 (.int .i64 N) (.slice A5 Y.length c5) 27)
      have hb := (Below.refl w5.heap.size w5).alloc (Nat.le_refl _) (.cells #[.int .i64 N, .slice A5 (Y).length c5] 27)
      have HBW := Lib.hid (HBW.out.trans (hb.mono HBW.out.size))
      try have HVA := Lib.hid (HVA.out.lift hb)
      try have HVB := Lib.hid (HVB.out.lift hb)
      try have HVC := Lib.hid (HVC.out.lift hb)
      try have HVT := Lib.hid (HVT.out.lift hb)
      try have HVX := Lib.hid (HVX.out.lift hb)
      try have HVM := Lib.hid (HVM.out.lift hb)
      try have HVF := Lib.hid (HVF.out.lift hb)
      try have HVP := Lib.hid (HVP.out.lift hb)
      try have HVQ := Lib.hid (HVQ.out.lift hb)
      try have HLA := Lib.hid (HLA.out.lift hb)
      try have HLW := Lib.hid (HLW.out.lift hb)
      try have HI := Lib.hid (HI.out.lift hb)
      try have HRB := Lib.hid (HRB.out.trans (hb.mono HRB.out.size))
      try have HWW := Lib.hid (HWW.out.trans (hb.mono HWW.out.size))
      clear hb
      generalize w5.alloc (.cells #[.int .i64 N, .slice A5 (Y).length c5] 27) = w6 at *
      have hg5 : g < w5.heap.size := by omega
      generalize w5.heap.size = gx at *
      clear s0 s1 sf0 sf1
      obtain ⟨s0, s1, sf0, sf1, _⟩ := HLW.out
      obtain ⟨x0, x1, _, _, _⟩ := HXB.out
      have HAJ := Lib.hid (HAF.out A5 AX c5 cX Y X w6 (HVT.out.intsL HYO.out) (HVX.out.intsL HXO.out) HYO.out HXO.out)
      cases ht : aftB N Y X
      · rw [ht] at HAJ
        have HLT := Lib.hid (lateR_no ht)
        clear ht
        go_wp2_with fail
        refine HAJ.out.mono ?_
        rintro e w7 ⟨rfl, hb⟩
        have HBW := Lib.hid (HBW.out.trans (hb.mono HBW.out.size))
        try have HVA := Lib.hid (HVA.out.lift hb)
        try have HVB := Lib.hid (HVB.out.lift hb)
        try have HVC := Lib.hid (HVC.out.lift hb)
        try have HVT := Lib.hid (HVT.out.lift hb)
        try have HVX := Lib.hid (HVX.out.lift hb)
        try have HVM := Lib.hid (HVM.out.lift hb)
        try have HVF := Lib.hid (HVF.out.lift hb)
        try have HVP := Lib.hid (HVP.out.lift hb)
        try have HVQ := Lib.hid (HVQ.out.lift hb)
        try have HLA := Lib.hid (HLA.out.lift hb)
        try have HLW := Lib.hid (HLW.out.lift hb)
        try have HI := Lib.hid (HI.out.lift hb)
        try have HRB := Lib.hid (HRB.out.trans (hb.mono HRB.out.size))
        try have HWW := Lib.hid (HWW.out.trans (hb.mono HWW.out.size))
        clear hb
        go_wp2_with fail
        go_roundw
        case rel => exact ⟨j + 1, AX, cX, bX, by omega, by go_num, by rw [show lstR N bs (j + 1) = Z1 from HZ1.out, HSU.out, HLT.out]; exact HVX.out, hg1, hg2, by rw [show lstR N bs (j + 1) = Z1 from HZ1.out, HSU.out, HLT.out]; exact HLW.out, HVA.out.1, HLA.out, HBW.out⟩
        case measure => simp [intOf]; omega
      · rw [ht] at HAJ
        have HLT := Lib.hid (lateR_yes ht)
        clear ht
        go_wp2_with fail
        refine HAJ.out.mono ?_
        rintro e w7 ⟨rfl, hb⟩
        have HXB := Lib.hid (HXB.out.lift hb)
        have HBW := Lib.hid (HBW.out.trans (hb.mono HBW.out.size))
        try have HVA := Lib.hid (HVA.out.lift hb)
        try have HVB := Lib.hid (HVB.out.lift hb)
        try have HVC := Lib.hid (HVC.out.lift hb)
        try have HVT := Lib.hid (HVT.out.lift hb)
        try have HVX := Lib.hid (HVX.out.lift hb)
        try have HVM := Lib.hid (HVM.out.lift hb)
        try have HVF := Lib.hid (HVF.out.lift hb)
        try have HVP := Lib.hid (HVP.out.lift hb)
        try have HVQ := Lib.hid (HVQ.out.lift hb)
        try have HLA := Lib.hid (HLA.out.lift hb)
        try have HLW := Lib.hid (HLW.out.lift hb)
        try have HI := Lib.hid (HI.out.lift hb)
        try have HRB := Lib.hid (HRB.out.trans (hb.mono HRB.out.size))
        try have HWW := Lib.hid (HWW.out.trans (hb.mono HWW.out.size))
        clear hb
        clear s0 s1 sf0 sf1 x0 x1
        obtain ⟨s0, s1, sf0, sf1, _⟩ := HLW.out
        obtain ⟨x0, x1, _, _, _⟩ := HXB.out
        have HLW2 := Lib.hid ((HLW.out.set0 (.int .i64 N)).set1 (.slice A5 Y.length c5))
        have HRC2 := Lib.hid ((HVA.out.1.far (p := ⟨g, 0, none⟩) (show w.heap.size ≠ g by omega) (.int .i64 N)).far (p := ⟨g, 1, none⟩) (show w.heap.size ≠ g by omega) (.slice A5 Y.length c5))
        have HLA2 := Lib.hid ((HLA.out.far (p := ⟨g, 0, none⟩) (show w.heap.size + 1 ≠ g by omega) (.int .i64 N)).far (p := ⟨g, 1, none⟩) (show w.heap.size + 1 ≠ g by omega) (.slice A5 Y.length c5))
        have HVX2 := Lib.hid ((HVT.out.far (p := ⟨g, 0, none⟩) (show b5 ≠ g by omega) (.int .i64 N)).far (p := ⟨g, 1, none⟩) (show b5 ≠ g by omega) (.slice A5 Y.length c5))
        have HBW2 := Lib.hid ((HBW.out.setCell (p := ⟨g, 0, none⟩) (show w.heap.size ≤ g by omega) (.int .i64 N)).setCell (p := ⟨g, 1, none⟩) (show w.heap.size ≤ g by omega) (.slice A5 Y.length c5))
        have hb5g : b5 ≠ g := by omega
        have hb5q : b5 ≠ w.heap.size + 1 := by omega
        go_wp2_with fail
        go_roundw
        case rel => exact ⟨j + 1, A5, c5, b5, by omega, by go_num, by rw [show lstR N bs (j + 1) = Z1 from HZ1.out, HSU.out, HLT.out]; exact HVX2.out, hb5g, hb5q, by rw [show lstR N bs (j + 1) = Z1 from HZ1.out, HSU.out, HLT.out]; exact HLW2.out, HRC2.out, HLA2.out, HBW2.out⟩
        case measure => simp [intOf]; omega
    · have hjN : j = N := by omega
      subst hjN
      have HV := Lib.hid (show lstV j bs = lstR j bs j from rfl)
      generalize lstR j bs j = X at *
      obtain ⟨s0, s1, _, _, _⟩ := HLW.out
      obtain ⟨r0, r1, rf0, rf1, _⟩ := HLA.out
      go_wp2_with fail
      refine bodyPost_ret (v := .agg #[.int .i64 j, .slice AX X.length cX]) (by simp [results, Tryz.results35, go_sem, r0, r1]) rfl ?_
      rw [HV.out]
      exact ⟨AX, cX, rfl, ((HVX.out.far (p := ⟨w.heap.size + 1, 0, none⟩) hg2 _).far (p := ⟨w.heap.size + 1, 1, none⟩) hg2 _).rwL, (HBW.out.setCell (p := ⟨w.heap.size + 1, 0, none⟩) (Nat.le_add_right _ _) _).setCell (p := ⟨w.heap.size + 1, 1, none⟩) (Nat.le_add_right _ _) _⟩

set_option maxRecDepth 100000 in
set_option maxHeartbeats 4000000 in
theorem spec_LeastForm_any (N : Nat) (A : Option Addr) (cap : Nat) (bs : List Int) (w : World) (hA : Ints w w.heap.size A bs) (hok : RhOk N bs) :
    Calls Tryz.prog 14 #[.agg #[.int .i64 N, .slice A bs.length cap]] w (RetRh2 w N (frmV N bs) true) := by
  have hn1 : 1 ≤ N := by have := hok.1; omega
  have hn2 : N ≤ 24 := by have := hok.2.1; omega
  have hmo : RhOk N (mirV N bs) := affL_ok hn1 hn2
  have hr : rhB N bs = true := rhB_iff.2 hok
  have HRO := Lib.hid (fun V h => hr ▸ spec_RhythmOk_any N A cap bs V h)
  have HLX := Lib.hid (lstV_ok hok)
  have HMO := Lib.hid hmo
  have HLM := Lib.hid (lstV_ok hmo)
  have HLR := Lib.hid (fun V h => spec_l04Least_any N A cap bs V h hok)
  have HMR := Lib.hid (fun V h => show Calls Tryz.prog 36 #[.agg #[.int .i64 N, .slice A bs.length cap], .int .i64 (-1), .int .i64 0] V (RetRh1 V N (mirV N bs)) from spec_l02Map_any N A cap bs (-1) 0 V h hok (fun x h1 h2 => by omega) (by omega))
  have HML := Lib.hid (fun A c V h => spec_l04Least_any N A c (mirV N bs) V h hmo)
  have HAF := Lib.hid (fun A1 A2 c1 c2 V h1 h2 => spec_l04After_any N A1 A2 c1 c2 (lstV N (mirV N bs)) (lstV N bs) V h1 h2 (lstV_ok hmo) (lstV_ok hok))
  have HV := Lib.hid (show frmV N bs = lateR N (lstV N bs) (lstV N (mirV N bs)) from rfl)
  have hal1 := (Below.refl w.heap.size w).alloc (Nat.le_refl _) (.cells #[.int .i64 N, .slice A (bs).length cap] 27)
  have HBW := Lib.hid (hal1.alloc hal1.size (.cells #[.int .i64 0, .slice none 0 0] 27))
  have HVA := Lib.hid ((Hav.boxed hA N cap).alloc (.cells #[.int .i64 0, .slice none 0 0] 27))
  have HLA := Lib.hid (Cells2.new_at (w.alloc (.cells #[.int .i64 N, .slice A (bs).length cap] 27)) (.int .i64 0) (.slice none 0 0) 27 (w.heap.size + 1) (by simp))
  generalize lstV N (mirV N bs) = Y at *
  generalize mirV N bs = M at *
  generalize lstV N bs = X at *
  clear hal1 hA hmo hr
  obtain ⟨⟨p0, p1, _, _, _⟩, _⟩ := HVA.out
  go_enter Tryz.func14, Tryz.ntmps14
  go_wp2_with fail
  generalize (w.alloc (.cells #[.int .i64 N, .slice A (bs).length cap] 27)).alloc (.cells #[.int .i64 0, .slice none 0 0] 27) = W at *
  refine (HRO.out _ HVA.out.2).mono ?_
  rintro e w0 ⟨rfl, hb⟩
  have HBW := Lib.hid (HBW.out.trans (hb.mono HBW.out.size))
  try have HVA := Lib.hid (HVA.out.lift hb)
  try have HVB := Lib.hid (HVB.out.lift hb)
  try have HVC := Lib.hid (HVC.out.lift hb)
  try have HVT := Lib.hid (HVT.out.lift hb)
  try have HVX := Lib.hid (HVX.out.lift hb)
  try have HVM := Lib.hid (HVM.out.lift hb)
  try have HVF := Lib.hid (HVF.out.lift hb)
  try have HVP := Lib.hid (HVP.out.lift hb)
  try have HVQ := Lib.hid (HVQ.out.lift hb)
  try have HLA := Lib.hid (HLA.out.lift hb)
  try have HLW := Lib.hid (HLW.out.lift hb)
  try have HI := Lib.hid (HI.out.lift hb)
  try have HRB := Lib.hid (HRB.out.trans (hb.mono HRB.out.size))
  try have HWW := Lib.hid (HWW.out.trans (hb.mono HWW.out.size))
  clear hb
  clear p0 p1
  obtain ⟨⟨p0, p1, _, _, _⟩, _⟩ := HVA.out
  go_wp2_with fail
  refine (HLR.out _ HVA.out.2).mono ?_
  rintro e w1 ⟨A1, c1, rfl, hrw, hb⟩
  have hz5 := hb.size
  obtain ⟨b1, hl5, hb5⟩ := hrw.rvL w.heap.size (by have := HLA.out.2.2.2.2; omega) (by have := HLA.out.2.2.2.2; omega) N c1
  have hq5 : w.heap.size + 1 < w0.heap.size := HLA.out.2.2.2.2
  have HBW := Lib.hid (HBW.out.trans (hb.mono HBW.out.size))
  try have HVA := Lib.hid (HVA.out.lift hb)
  try have HVB := Lib.hid (HVB.out.lift hb)
  try have HVC := Lib.hid (HVC.out.lift hb)
  try have HVT := Lib.hid (HVT.out.lift hb)
  try have HVX := Lib.hid (HVX.out.lift hb)
  try have HVM := Lib.hid (HVM.out.lift hb)
  try have HVF := Lib.hid (HVF.out.lift hb)
  try have HVP := Lib.hid (HVP.out.lift hb)
  try have HVQ := Lib.hid (HVQ.out.lift hb)
  try have HLA := Lib.hid (HLA.out.lift hb)
  try have HLW := Lib.hid (HLW.out.lift hb)
  try have HI := Lib.hid (HI.out.lift hb)
  try have HRB := Lib.hid (HRB.out.trans (hb.mono HRB.out.size))
  try have HWW := Lib.hid (HWW.out.trans (hb.mono HWW.out.size))
  clear hb
  have HVX := Lib.hid hl5
  clear hrw hl5
  clear p0 p1
  obtain ⟨⟨p0, p1, _, _, _⟩, _⟩ := HVA.out
  have hg2 : b1 ≠ w.heap.size + 1 := by omega
  clear hb5 hz5
  go_wp2_with fail
  have HBA := Lib.hid (Cells2.new w1 (.int .i64 N) (.slice A1 X.length c1) 27)
  have hb := (Below.refl w1.heap.size w1).alloc (Nat.le_refl _) (.cells #[.int .i64 N, .slice A1 (X).length c1] 27)
  have HBW := Lib.hid (HBW.out.trans (hb.mono HBW.out.size))
  try have HVA := Lib.hid (HVA.out.lift hb)
  try have HVB := Lib.hid (HVB.out.lift hb)
  try have HVC := Lib.hid (HVC.out.lift hb)
  try have HVT := Lib.hid (HVT.out.lift hb)
  try have HVX := Lib.hid (HVX.out.lift hb)
  try have HVM := Lib.hid (HVM.out.lift hb)
  try have HVF := Lib.hid (HVF.out.lift hb)
  try have HVP := Lib.hid (HVP.out.lift hb)
  try have HVQ := Lib.hid (HVQ.out.lift hb)
  try have HLA := Lib.hid (HLA.out.lift hb)
  try have HLW := Lib.hid (HLW.out.lift hb)
  try have HI := Lib.hid (HI.out.lift hb)
  try have HRB := Lib.hid (HRB.out.trans (hb.mono HRB.out.size))
  try have HWW := Lib.hid (HWW.out.trans (hb.mono HWW.out.size))
  clear hb
  generalize w1.alloc (.cells #[.int .i64 N, .slice A1 (X).length c1] 27) = w2 at *
  generalize w1.heap.size = ga at *
  clear p0 p1
  obtain ⟨⟨p0, p1, _, _, _⟩, _⟩ := HVA.out
  refine (HMR.out _ HVA.out.2).mono ?_
  rintro e w3 ⟨A3, c3, rfl, hrw, hb⟩
  have HBA := Lib.hid (HBA.out.lift hb)
  have hz5 := hb.size
  obtain ⟨b3, hl5, hb5⟩ := hrw.rvL w.heap.size (by have := HLA.out.2.2.2.2; omega) (by have := HLA.out.2.2.2.2; omega) N c3
  have hq5 : w.heap.size + 1 < w2.heap.size := HLA.out.2.2.2.2
  have HBW := Lib.hid (HBW.out.trans (hb.mono HBW.out.size))
  try have HVA := Lib.hid (HVA.out.lift hb)
  try have HVB := Lib.hid (HVB.out.lift hb)
  try have HVC := Lib.hid (HVC.out.lift hb)
  try have HVT := Lib.hid (HVT.out.lift hb)
  try have HVX := Lib.hid (HVX.out.lift hb)
  try have HVM := Lib.hid (HVM.out.lift hb)
  try have HVF := Lib.hid (HVF.out.lift hb)
  try have HVP := Lib.hid (HVP.out.lift hb)
  try have HVQ := Lib.hid (HVQ.out.lift hb)
  try have HLA := Lib.hid (HLA.out.lift hb)
  try have HLW := Lib.hid (HLW.out.lift hb)
  try have HI := Lib.hid (HI.out.lift hb)
  try have HRB := Lib.hid (HRB.out.trans (hb.mono HRB.out.size))
  try have HWW := Lib.hid (HWW.out.trans (hb.mono HWW.out.size))
  clear hb
  have HVM := Lib.hid hl5
  clear hrw hl5
  clear p0 p1
  obtain ⟨⟨p0, p1, _, _, _⟩, _⟩ := HVA.out
  clear hb5 hz5
  go_wp2_with fail
  refine (HML.out A3 c3 _ (HVM.out.intsL HMO.out)).mono ?_
  rintro e w4 ⟨A4, c4, rfl, hrw, hb⟩
  clear HVM
  have HBA := Lib.hid (HBA.out.lift hb)
  have hz5 := hb.size
  obtain ⟨b4, hl5, hb5⟩ := hrw.rvL w.heap.size (by have := HLA.out.2.2.2.2; omega) (by have := HLA.out.2.2.2.2; omega) N c4
  have hq5 : w.heap.size + 1 < w3.heap.size := HLA.out.2.2.2.2
  have HBW := Lib.hid (HBW.out.trans (hb.mono HBW.out.size))
  try have HVA := Lib.hid (HVA.out.lift hb)
  try have HVB := Lib.hid (HVB.out.lift hb)
  try have HVC := Lib.hid (HVC.out.lift hb)
  try have HVT := Lib.hid (HVT.out.lift hb)
  try have HVX := Lib.hid (HVX.out.lift hb)
  try have HVM := Lib.hid (HVM.out.lift hb)
  try have HVF := Lib.hid (HVF.out.lift hb)
  try have HVP := Lib.hid (HVP.out.lift hb)
  try have HVQ := Lib.hid (HVQ.out.lift hb)
  try have HLA := Lib.hid (HLA.out.lift hb)
  try have HLW := Lib.hid (HLW.out.lift hb)
  try have HI := Lib.hid (HI.out.lift hb)
  try have HRB := Lib.hid (HRB.out.trans (hb.mono HRB.out.size))
  try have HWW := Lib.hid (HWW.out.trans (hb.mono HWW.out.size))
  clear hb
  have HVT := Lib.hid hl5
  clear hrw hl5
  clear p0 p1
  obtain ⟨⟨p0, p1, _, _, _⟩, _⟩ := HVA.out
  have hg4 : b4 ≠ w.heap.size + 1 := by omega
  clear hb5 hz5
  obtain ⟨s0, s1, _, _, _⟩ := HBA.out
  go_wp2_with fail
  have HBB := Lib.hid (Cells2.new w4 (.int .i64 N) (.slice A4 Y.length c4) 27)
  have hb := (Below.refl w4.heap.size w4).alloc (Nat.le_refl _) (.cells #[.int .i64 N, .slice A4 (Y).length c4] 27)
  have HBA := Lib.hid (HBA.out.lift hb)
  have HBW := Lib.hid (HBW.out.trans (hb.mono HBW.out.size))
  try have HVA := Lib.hid (HVA.out.lift hb)
  try have HVB := Lib.hid (HVB.out.lift hb)
  try have HVC := Lib.hid (HVC.out.lift hb)
  try have HVT := Lib.hid (HVT.out.lift hb)
  try have HVX := Lib.hid (HVX.out.lift hb)
  try have HVM := Lib.hid (HVM.out.lift hb)
  try have HVF := Lib.hid (HVF.out.lift hb)
  try have HVP := Lib.hid (HVP.out.lift hb)
  try have HVQ := Lib.hid (HVQ.out.lift hb)
  try have HLA := Lib.hid (HLA.out.lift hb)
  try have HLW := Lib.hid (HLW.out.lift hb)
  try have HI := Lib.hid (HI.out.lift hb)
  try have HRB := Lib.hid (HRB.out.trans (hb.mono HRB.out.size))
  try have HWW := Lib.hid (HWW.out.trans (hb.mono HWW.out.size))
  clear hb
  generalize w4.alloc (.cells #[.int .i64 N, .slice A4 (Y).length c4] 27) = w5 at *
  generalize w4.heap.size = gb at *
  clear p0 p1 s0 s1
  obtain ⟨s0, s1, _, _, _⟩ := HBA.out
  obtain ⟨t0, t1, _, _, _⟩ := HBB.out
  have HAJ := Lib.hid (HAF.out A4 A1 c4 c1 w5 (HVT.out.intsL HLM.out) (HVX.out.intsL HLX.out))
  cases ht : aftB N Y X
  · rw [ht] at HAJ
    have HLT := Lib.hid (lateR_no ht)
    clear ht
    go_wp2_with fail
    refine HAJ.out.mono ?_
    rintro e w7 ⟨rfl, hb⟩
    have HBA := Lib.hid (HBA.out.lift hb)
    have HBW := Lib.hid (HBW.out.trans (hb.mono HBW.out.size))
    try have HVA := Lib.hid (HVA.out.lift hb)
    try have HVB := Lib.hid (HVB.out.lift hb)
    try have HVC := Lib.hid (HVC.out.lift hb)
    try have HVT := Lib.hid (HVT.out.lift hb)
    try have HVX := Lib.hid (HVX.out.lift hb)
    try have HVM := Lib.hid (HVM.out.lift hb)
    try have HVF := Lib.hid (HVF.out.lift hb)
    try have HVP := Lib.hid (HVP.out.lift hb)
    try have HVQ := Lib.hid (HVQ.out.lift hb)
    try have HLA := Lib.hid (HLA.out.lift hb)
    try have HLW := Lib.hid (HLW.out.lift hb)
    try have HI := Lib.hid (HI.out.lift hb)
    try have HRB := Lib.hid (HRB.out.trans (hb.mono HRB.out.size))
    try have HWW := Lib.hid (HWW.out.trans (hb.mono HWW.out.size))
    clear hb
    clear s0 s1 t0 t1
    obtain ⟨s0, s1, _, _, _⟩ := HBA.out
    obtain ⟨r0, r1, rf0, rf1, _⟩ := HLA.out
    go_wp2_with fail
    refine bodyPost_ret (v := .tuple #[.agg #[.int .i64 N, .slice A1 X.length c1], .bool true]) (by simp [results, Tryz.results14, go_sem, r0, r1]) rfl ?_
    rw [HV.out, HLT.out]
    exact ⟨A1, c1, rfl, ((HVX.out.far (p := ⟨w.heap.size + 1, 0, none⟩) hg2 _).far (p := ⟨w.heap.size + 1, 1, none⟩) hg2 _).rwL, (HBW.out.setCell (p := ⟨w.heap.size + 1, 0, none⟩) (Nat.le_add_right _ _) _).setCell (p := ⟨w.heap.size + 1, 1, none⟩) (Nat.le_add_right _ _) _⟩
  · rw [ht] at HAJ
    have HLT := Lib.hid (lateR_yes ht)
    clear ht
    go_wp2_with fail
    refine HAJ.out.mono ?_
    rintro e w7 ⟨rfl, hb⟩
    have HBB := Lib.hid (HBB.out.lift hb)
    have HBW := Lib.hid (HBW.out.trans (hb.mono HBW.out.size))
    try have HVA := Lib.hid (HVA.out.lift hb)
    try have HVB := Lib.hid (HVB.out.lift hb)
    try have HVC := Lib.hid (HVC.out.lift hb)
    try have HVT := Lib.hid (HVT.out.lift hb)
    try have HVX := Lib.hid (HVX.out.lift hb)
    try have HVM := Lib.hid (HVM.out.lift hb)
    try have HVF := Lib.hid (HVF.out.lift hb)
    try have HVP := Lib.hid (HVP.out.lift hb)
    try have HVQ := Lib.hid (HVQ.out.lift hb)
    try have HLA := Lib.hid (HLA.out.lift hb)
    try have HLW := Lib.hid (HLW.out.lift hb)
    try have HI := Lib.hid (HI.out.lift hb)
    try have HRB := Lib.hid (HRB.out.trans (hb.mono HRB.out.size))
    try have HWW := Lib.hid (HWW.out.trans (hb.mono HWW.out.size))
    clear hb
    clear s0 s1 t0 t1
    obtain ⟨t0, t1, _, _, _⟩ := HBB.out
    obtain ⟨r0, r1, rf0, rf1, _⟩ := HLA.out
    go_wp2_with fail
    refine bodyPost_ret (v := .tuple #[.agg #[.int .i64 N, .slice A4 Y.length c4], .bool true]) (by simp [results, Tryz.results14, go_sem, r0, r1]) rfl ?_
    rw [HV.out, HLT.out]
    exact ⟨A4, c4, rfl, ((HVT.out.far (p := ⟨w.heap.size + 1, 0, none⟩) hg4 _).far (p := ⟨w.heap.size + 1, 1, none⟩) hg4 _).rwL, (HBW.out.setCell (p := ⟨w.heap.size + 1, 0, none⟩) (Nat.le_add_right _ _) _).setCell (p := ⟨w.heap.size + 1, 1, none⟩) (Nat.le_add_right _ _) _⟩

set_option maxRecDepth 100000 in
set_option maxHeartbeats 1000000 in
theorem spec_UnitsOf_any (n : Nat) (w : World) (hn1 : 1 ≤ n) (hn2 : n ≤ 24) :
    Calls Tryz.prog 38 #[.int .i64 n] w fun e w' => ∃ A c, e = .returned (.slice A (uniV n).length c) ∧ OwnI w' w.heap.size (.slice A (uniV n).length c) (uniV n) ∧ Below w.heap.size w w' := by
  have HI := Lib.hid (fun (u : Nat) V (hu : u ≤ 1000) => spec_l02Gcd_any u n V (by omega) (by omega))
  have hin : inB (n : Int) 1 24 = true := inB_true ⟨by omega, by omega⟩
  have hw1 : IntKind.i64.wrap ((n : Int) - 1) = (n : Int) - 1 := i64w (by omega)
  go_enter Tryz.func38, Tryz.ntmps38
  go_wp2_with (go_at_call 34; refine (l01In_any _ _ _ _).mono ?_; rintro e w' ⟨rfl, rfl⟩)
  go_loopw [3, 4] (fun so i wr => ∃ j : Nat, 1 ≤ j ∧ j ≤ max 1 (n - 1) + 1 ∧ i = .int .i64 j ∧ OwnI wr w.heap.size so (uniF n j) ∧ Below w.heap.size w wr) (fun _ i _ => n + 1 - (intOf i).toNat)
  case atStart => exact ⟨1, Nat.le_refl _, by omega, rfl, by rw [uniF_one]; exact OwnI.empty_at _ _ _ rfl (Nat.le_refl _), (Below.refl _ _).alloc (Nat.le_refl _) _⟩
  case round =>
    obtain ⟨j, hj1, hj, rfl, hown, hbel⟩ := hrel
    obtain ⟨wo, rfl⟩ : ∃ wo : World, wo = wr := ⟨_, rfl⟩
    have hws := hbel.size
    have HBE := Lib.hid hbel
    have HO := Lib.hid hown
    obtain ⟨A1, c1, rfl⟩ := hown.form
    have hmk := uniF_len n j
    clear hbel hown
    by_cases hlt : j ≤ max 1 (n - 1)
    · have hji : (j : Int) ≤ max 1 ((n : Int) - 1) := by omega
      have HIJ := Lib.hid (HI.out j wo (by omega))
      have hpe : uniP n j = true ↔ Nat.gcd j n = 1 := by
        unfold uniP
        rw [Bool.and_eq_true, decide_eq_true_eq, decide_eq_true_eq]
        exact ⟨fun h => h.2, fun h => ⟨⟨hj1, hlt⟩, h⟩⟩
      obtain ⟨g, hg⟩ : ∃ g, Nat.gcd j n = g := ⟨_, rfl⟩
      rw [hg] at HIJ hpe
      by_cases hp : g = 1
      · have HSU := Lib.hid (show uniF n (j + 1) = uniF n j ++ [(j : Int)] by
          show (if uniP n j then _ else _) = _
          rw [if_pos (hpe.2 hp)])
        clear hpe hg
        subst hp
        generalize uniF n j = L at *
        go_wp2_with fail
        refine HIJ.out.mono ?_
        rintro e w1 ⟨rfl, rfl⟩
        go_wp2_with (at_builtin; refine wpList_append_int rfl (.tmp 20) (.tmp 22) rfl w.heap.size _ L rfl (HO.out.alloc _) _ _ rfl (cell_new1 _ _ _) (by omega) (by simp; omega) ?_; intro v2 w2 hown2 hb2)
        have HO3 := Lib.hid hown2
        have HB3 := Lib.hid ((HBE.out.alloc (by omega) _).trans hb2)
        clear hown2 hb2
        go_wp2_with fail
        go_roundw
        case rel => exact ⟨j + 1, by omega, by omega, by go_num, by rw [HSU.out]; exact HO3.out, HB3.out⟩
        case measure => simp [intOf]; omega
      · have HSU := Lib.hid (show uniF n (j + 1) = uniF n j by
          show (if uniP n j then _ else _) = _
          rw [if_neg (fun h => hp (hpe.1 h))])
        have hge : ((g : Int) == 1) = false := beq_eq_false_iff_ne.2 (by omega)
        clear hpe hg
        generalize uniF n j = L at *
        go_wp2_with (go_at_call 66; refine HIJ.out.mono ?_; rintro e w1 ⟨rfl, rfl⟩)
        go_roundw
        case rel => exact ⟨j + 1, by omega, by omega, by go_num, by rw [HSU.out]; exact HO.out, HBE.out⟩
        case measure => simp [intOf]; omega
    · have hje : j = max 1 (n - 1) + 1 := by omega
      have HV := Lib.hid (show uniV n = uniF n j by rw [hje, uniV_eq hn1])
      generalize uniF n j = L at *
      have hji : ¬ (j : Int) ≤ max 1 ((n : Int) - 1) := by omega
      clear hje
      go_wp2_with fail
      go_ret
      rw [HV.out]
      exact ⟨A1, c1, rfl, HO.out, HBE.out⟩

set_option maxRecDepth 100000 in
set_option maxHeartbeats 4000000 in
theorem spec_StretchClass_any (N : Nat) (A : Option Addr) (cap : Nat) (bs : List Int) (w : World) (hA : Ints w w.heap.size A bs) (hok : RhOk N bs) :
    Calls Tryz.prog 15 #[.agg #[.int .i64 N, .slice A bs.length cap]] w (RetRh2 w N (clsV N bs) true) := by
  have hn1 : 1 ≤ N := by have := hok.1; omega
  have hn2 : N ≤ 24 := by have := hok.2.1; omega
  have hr : rhB N bs = true := rhB_iff.2 hok
  have HRO := Lib.hid (fun V h => hr ▸ spec_RhythmOk_any N A cap bs V h)
  have HLK := Lib.hid (fun m => clsR_ok hok m)
  have HAK := Lib.hid (fun (u : Nat) => (show RhOk N (affL N u 0 bs) from affL_ok hn1 hn2))
  have hux : ∀ u : Nat, u ≤ 1000 → ∀ x : Int, 0 ≤ x → x < 24 → -1000000 ≤ (u : Int) * x ∧ (u : Int) * x ≤ 1000000 := fun u hu x h1 h2 => by
    have h0 : 0 ≤ (u : Int) * x := Int.mul_nonneg (by omega) h1
    have h2 : (u : Int) * x ≤ 1000 * 24 := Int.mul_le_mul (by omega) (by omega) h1 (by omega)
    omega
  have HST := Lib.hid (fun (u : Nat) (hu : u ≤ 1000) V h => show Calls Tryz.prog 36 #[.agg #[.int .i64 N, .slice A bs.length cap], .int .i64 u, .int .i64 0] V (RetRh1 V N (affL N u 0 bs)) from spec_l02Map_any N A cap bs u 0 V h hok (hux u hu) (by omega))
  have HLF := Lib.hid (fun M A c V h (hM : RhOk N M) => spec_LeastForm_any N A c M V h hM)
  have HUN := Lib.hid (fun V => spec_UnitsOf_any N V hn1 hn2)
  have HAF := Lib.hid (fun A1 A2 c1 c2 a b V h1 h2 ha hb => spec_l04After_any N A1 A2 c1 c2 a b V h1 h2 ha hb)
  have HUA := Lib.hid (fun j (hj : j < (uniV N).length) => uniV_at hj)
  have HCS := Lib.hid (fun m => show clsR N bs (m + 1) = lateR N (clsR N bs m) (frmV N (affL N ((uniV N).getD m 0) 0 bs)) from rfl)
  have HFO := Lib.hid (fun u => frmV_ok (show RhOk N (affL N u 0 bs) from affL_ok hn1 hn2))
  have HV0 := Lib.hid (show clsV N bs = clsR N bs (uniV N).length from rfl)
  have hul := uniV_len N
  have hal1 := (Below.refl w.heap.size w).alloc (Nat.le_refl _) (.cells #[.int .i64 N, .slice A (bs).length cap] 27)
  have HBW := Lib.hid (hal1.alloc hal1.size (.cells #[.int .i64 0, .slice none 0 0] 27))
  have HVA := Lib.hid ((Hav.boxed hA N cap).alloc (.cells #[.int .i64 0, .slice none 0 0] 27))
  have HLA := Lib.hid (Cells2.new_at (w.alloc (.cells #[.int .i64 N, .slice A (bs).length cap] 27)) (.int .i64 0) (.slice none 0 0) 27 (w.heap.size + 1) (by simp))
  have HA := Lib.hid hA
  have HR0 := Lib.hid (HLF.out bs A cap)
  rw [show frmV N bs = clsR N bs 0 from rfl] at HR0
  have HOK := Lib.hid hok
  clear hal1 hA hok hr hux
  obtain ⟨⟨p0, p1, _, _, _⟩, _⟩ := HVA.out
  go_enter Tryz.func15, Tryz.ntmps15
  go_wp2_with fail
  generalize (w.alloc (.cells #[.int .i64 N, .slice A (bs).length cap] 27)).alloc (.cells #[.int .i64 0, .slice none 0 0] 27) = W at *
  refine (HRO.out _ HVA.out.2).mono ?_
  rintro e w0 ⟨rfl, hb⟩
  have HBW := Lib.hid (HBW.out.trans (hb.mono HBW.out.size))
  try have HVA := Lib.hid (HVA.out.lift hb)
  try have HVB := Lib.hid (HVB.out.lift hb)
  try have HVC := Lib.hid (HVC.out.lift hb)
  try have HVT := Lib.hid (HVT.out.lift hb)
  try have HVX := Lib.hid (HVX.out.lift hb)
  try have HVM := Lib.hid (HVM.out.lift hb)
  try have HVF := Lib.hid (HVF.out.lift hb)
  try have HVP := Lib.hid (HVP.out.lift hb)
  try have HVQ := Lib.hid (HVQ.out.lift hb)
  try have HLA := Lib.hid (HLA.out.lift hb)
  try have HLW := Lib.hid (HLW.out.lift hb)
  try have HI := Lib.hid (HI.out.lift hb)
  try have HRB := Lib.hid (HRB.out.trans (hb.mono HRB.out.size))
  try have HWW := Lib.hid (HWW.out.trans (hb.mono HWW.out.size))
  clear hb
  clear p0 p1
  obtain ⟨⟨p0, p1, _, _, _⟩, _⟩ := HVA.out
  go_wp2_with fail
  refine (HR0.out _ HVA.out.2 HOK.out).mono ?_
  rintro e w1 ⟨A0, c0, rfl, hrw, hb⟩
  have hqw := HLA.out.2.2.2.2
  have hz1 := hb.size
  obtain ⟨b0, hl0, hb0⟩ := hrw.rvL w.heap.size (by omega) (by omega) N c0
  have HBW := Lib.hid (HBW.out.trans (hb.mono HBW.out.size))
  try have HVA := Lib.hid (HVA.out.lift hb)
  try have HVB := Lib.hid (HVB.out.lift hb)
  try have HVC := Lib.hid (HVC.out.lift hb)
  try have HVT := Lib.hid (HVT.out.lift hb)
  try have HVX := Lib.hid (HVX.out.lift hb)
  try have HVM := Lib.hid (HVM.out.lift hb)
  try have HVF := Lib.hid (HVF.out.lift hb)
  try have HVP := Lib.hid (HVP.out.lift hb)
  try have HVQ := Lib.hid (HVQ.out.lift hb)
  try have HLA := Lib.hid (HLA.out.lift hb)
  try have HLW := Lib.hid (HLW.out.lift hb)
  try have HI := Lib.hid (HI.out.lift hb)
  try have HRB := Lib.hid (HRB.out.trans (hb.mono HRB.out.size))
  try have HWW := Lib.hid (HWW.out.trans (hb.mono HWW.out.size))
  clear hb
  have HVX := Lib.hid hl0
  clear hrw hl0
  clear p0 p1
  obtain ⟨⟨p0, p1, _, _, _⟩, _⟩ := HVA.out
  have hbg : b0 < w1.heap.size := HVX.out.2.2.1
  go_wp2_with fail
  have hal2 := (Below.refl w1.heap.size w1).alloc (Nat.le_refl _) (.cells #[.int .i64 N, .slice A0 (clsR N bs 0).length c0] 27)
  have hb := hal2
  have HBW := Lib.hid (HBW.out.trans (hb.mono HBW.out.size))
  try have HVA := Lib.hid (HVA.out.lift hb)
  try have HVB := Lib.hid (HVB.out.lift hb)
  try have HVC := Lib.hid (HVC.out.lift hb)
  try have HVT := Lib.hid (HVT.out.lift hb)
  try have HVX := Lib.hid (HVX.out.lift hb)
  try have HVM := Lib.hid (HVM.out.lift hb)
  try have HVF := Lib.hid (HVF.out.lift hb)
  try have HVP := Lib.hid (HVP.out.lift hb)
  try have HVQ := Lib.hid (HVQ.out.lift hb)
  try have HLA := Lib.hid (HLA.out.lift hb)
  try have HLW := Lib.hid (HLW.out.lift hb)
  try have HI := Lib.hid (HI.out.lift hb)
  try have HRB := Lib.hid (HRB.out.trans (hb.mono HRB.out.size))
  try have HWW := Lib.hid (HWW.out.trans (hb.mono HWW.out.size))
  clear hb
  have HLW := Lib.hid (Cells2.new w1 (.int .i64 N) (.slice A0 (clsR N bs 0).length c0) 27)
  clear hal2
  clear p0 p1
  obtain ⟨⟨p0, p1, _, _, _⟩, _⟩ := HVA.out
  generalize w1.alloc (.cells #[.int .i64 N, .slice A0 (clsR N bs 0).length c0] 27) = W2 at *
  have hgq0 : w.heap.size + 1 < w1.heap.size := by omega
  have hgW : w1.heap.size < W2.heap.size := HLW.out.2.2.2.2
  generalize w1.heap.size = g at *
  refine (HUN.out _).mono ?_
  rintro e w3 ⟨Au, cu, rfl, hown, hb⟩
  have hz3 := hb.size
  have HUI := Lib.hid (show Ints w3 w3.heap.size Au (uniV N) from hown.ints (fun x hx => by
    obtain ⟨u, a, b, c⟩ := uniF_mem N (N + 1) x hx
    unfold Fits; omega))
  have hub : 0 < (uniV N).length → ∃ bu, Au = some ⟨bu, 0, none⟩ ∧ bu ≠ g ∧ g < bu ∧ bu < w3.heap.size ∧ ∀ i, i < (uniV N).length → w3.cell? ⟨bu, i, none⟩ = some (.int .i64 ((uniV N).getD i 0)) := fun h0 => by
    obtain ⟨bu, cu', e⟩ := hown.posC h0
    obtain ⟨hl1, hl2⟩ := hown.lt bu (by rw [e]; rfl)
    have hAu : Au = some ⟨bu, 0, none⟩ := by injection e
    obtain ⟨b', off, e2, hlt', hc⟩ := HUI.out.2.2 h0
    rw [hAu] at e2
    injection e2 with e2
    injection e2 with e3 e4
    subst e3 e4
    exact ⟨bu, hAu, by omega, by omega, hl2, fun i hi => by have := hc i hi; rwa [Nat.zero_add] at this⟩
  have HUB := Lib.hid hub
  clear hown hub HUI
  have HBW := Lib.hid (HBW.out.trans (hb.mono HBW.out.size))
  try have HVA := Lib.hid (HVA.out.lift hb)
  try have HVB := Lib.hid (HVB.out.lift hb)
  try have HVC := Lib.hid (HVC.out.lift hb)
  try have HVT := Lib.hid (HVT.out.lift hb)
  try have HVX := Lib.hid (HVX.out.lift hb)
  try have HVM := Lib.hid (HVM.out.lift hb)
  try have HVF := Lib.hid (HVF.out.lift hb)
  try have HVP := Lib.hid (HVP.out.lift hb)
  try have HVQ := Lib.hid (HVQ.out.lift hb)
  try have HLA := Lib.hid (HLA.out.lift hb)
  try have HLW := Lib.hid (HLW.out.lift hb)
  try have HI := Lib.hid (HI.out.lift hb)
  try have HRB := Lib.hid (HRB.out.trans (hb.mono HRB.out.size))
  try have HWW := Lib.hid (HWW.out.trans (hb.mono HWW.out.size))
  clear hb
  clear p0 p1
  go_wp2_with fail
  go_loopw [23] (fun i wr => ∃ (j : Nat) (AX : Option Addr) (cX bX : Nat), j ≤ (uniV N).length ∧ i = .int .i64 j ∧ (RV.mk N (clsR N bs j) AX cX bX).Lies wr w.heap.size ∧ bX ≠ g ∧ bX ≠ w.heap.size + 1 ∧ Cells2 wr g (.int .i64 N) (.slice AX (clsR N bs j).length cX) ∧ Cells2 wr w.heap.size (.int .i64 N) (.slice A bs.length cap) ∧ Cells2 wr (w.heap.size + 1) (.int .i64 0) (.slice none 0 0) ∧ Below w.heap.size w wr ∧ Frm (fun c => c = g) w3 wr) (fun i _ => (uniV N).length - (intOf i).toNat)
  case atStart => exact ⟨0, A0, c0, b0, Nat.zero_le _, rfl, HVX.out, by omega, by omega, HLW.out, HVA.out.1, HLA.out, HBW.out, Frm.refl _ _⟩
  case round =>
    obtain ⟨j, AX, cX, bX, hj, rfl, hx, hg1, hg2, hbest, hrc, hzc, hbel, hfr⟩ := hrel
    obtain ⟨wo, rfl⟩ : ∃ wo : World, wo = wr := ⟨_, rfl⟩
    clear HVX HLW HVA HLA HBW
    have HFR0 := Lib.hid hfr
    have HBW := Lib.hid hbel
    have HVX := Lib.hid hx
    have HLW := Lib.hid hbest
    have HLA := Lib.hid hzc
    have HVA := Lib.hid (show Hav wo N w.heap.size A cap bs from ⟨hrc, (HA.out.below hbel).mono hbel.size⟩)
    have hwo : g < wo.heap.size := hbest.2.2.2.2
    have HXO := Lib.hid (HLK.out j)
    have hwz : w3.heap.size ≤ wo.heap.size := hfr.size
    clear hx hbest hzc hrc hbel hfr
    obtain ⟨⟨p0, p1, _, _, _⟩, _⟩ := HVA.out
    by_cases hlt : j < (uniV N).length
    · obtain ⟨u, hu, hu1, hu2⟩ := HUA.out j hlt
      obtain ⟨bu, hAu, hbu1, hbu2, hbu3, hbuc⟩ := HUB.out (by omega)
      have huc := (HFR0.out.cell (o := j) hbu3 (show ¬ bu = g from hbu1)).trans (hbuc j hlt)
      rw [hu] at huc
      have hcs := HCS.out j
      rw [hu] at hcs
      have HSU := Lib.hid hcs
      have HYO := Lib.hid (HFO.out u)
      have HMO := Lib.hid (HAK.out u)
      have HSJ := Lib.hid (HST.out u (by omega))
      have HFJ := Lib.hid (fun A c V h => HLF.out (affL N u 0 bs) A c V h (HMO.out))
      obtain ⟨Z1, hZ1⟩ : ∃ Z1, clsR N bs (j + 1) = Z1 := ⟨_, rfl⟩
      have HZ1 := Lib.hid hZ1
      rw [hZ1] at HSU
      clear hZ1 hu hcs hbuc
      subst hAu
      generalize clsR N bs j = X at *
      generalize frmV N (affL N ((u : Nat) : Int) 0 bs) = Y at *
      generalize affL N ((u : Nat) : Int) 0 bs = M at *
      generalize (uniV N).length = ul at *
      have hji : (j : Int) < (ul : Int) := by omega
      have HWW := Lib.hid (Below.refl wo.heap.size wo)
      have hq5 : w.heap.size + 1 < wo.heap.size := HLA.out.2.2.2.2
      go_wp2_with fail
      refine (HSJ.out _ HVA.out.2).mono ?_
      rintro e w4 ⟨A4, c4, rfl, hrw, hb⟩
      have hz4 := hb.size
      obtain ⟨b4, hl4, _⟩ := hrw.rvL w.heap.size (by omega) (by omega) N c4
      have HBW := Lib.hid (HBW.out.trans (hb.mono HBW.out.size))
      try have HVA := Lib.hid (HVA.out.lift hb)
      try have HVB := Lib.hid (HVB.out.lift hb)
      try have HVC := Lib.hid (HVC.out.lift hb)
      try have HVT := Lib.hid (HVT.out.lift hb)
      try have HVX := Lib.hid (HVX.out.lift hb)
      try have HVM := Lib.hid (HVM.out.lift hb)
      try have HVF := Lib.hid (HVF.out.lift hb)
      try have HVP := Lib.hid (HVP.out.lift hb)
      try have HVQ := Lib.hid (HVQ.out.lift hb)
      try have HLA := Lib.hid (HLA.out.lift hb)
      try have HLW := Lib.hid (HLW.out.lift hb)
      try have HI := Lib.hid (HI.out.lift hb)
      try have HRB := Lib.hid (HRB.out.trans (hb.mono HRB.out.size))
      try have HWW := Lib.hid (HWW.out.trans (hb.mono HWW.out.size))
      clear hb
      have HVM := Lib.hid hl4
      clear hrw hl4 p0 p1
      go_wp2_with fail
      refine (HFJ.out A4 c4 _ (HVM.out.intsL HMO.out)).mono ?_
      rintro e w5 ⟨A5, c5, rfl, hrw, hb⟩
      have hz5 := hb.size
      clear HVM
      obtain ⟨b5, hl5, hb5⟩ := hrw.rvL w.heap.size (by omega) (by omega) N c5
      have hgq : w.heap.size + 1 < g := hgq0
      have HBW := Lib.hid (HBW.out.trans (hb.mono HBW.out.size))
      try have HVA := Lib.hid (HVA.out.lift hb)
      try have HVB := Lib.hid (HVB.out.lift hb)
      try have HVC := Lib.hid (HVC.out.lift hb)
      try have HVT := Lib.hid (HVT.out.lift hb)
      try have HVX := Lib.hid (HVX.out.lift hb)
      try have HVM := Lib.hid (HVM.out.lift hb)
      try have HVF := Lib.hid (HVF.out.lift hb)
      try have HVP := Lib.hid (HVP.out.lift hb)
      try have HVQ := Lib.hid (HVQ.out.lift hb)
      try have HLA := Lib.hid (HLA.out.lift hb)
      try have HLW := Lib.hid (HLW.out.lift hb)
      try have HI := Lib.hid (HI.out.lift hb)
      try have HRB := Lib.hid (HRB.out.trans (hb.mono HRB.out.size))
      try have HWW := Lib.hid (HWW.out.trans (hb.mono HWW.out.size))
      clear hb
      have HVT := Lib.hid hl5
      clear hrw hl5
      obtain ⟨s0, s1, sf0, sf1, _⟩ := HLW.out
      go_wp2_with fail
      have HXB := Lib.hid (Cells2.new w5 (.int .i64 N) (.slice A5 Y.length c5) 27)
      have hb := (Below.refl w5.heap.size w5).alloc (Nat.le_refl _) (.cells #[.int .i64 N, .slice A5 (Y).length c5] 27)
      have HBW := Lib.hid (HBW.out.trans (hb.mono HBW.out.size))
      try have HVA := Lib.hid (HVA.out.lift hb)
      try have HVB := Lib.hid (HVB.out.lift hb)
      try have HVC := Lib.hid (HVC.out.lift hb)
      try have HVT := Lib.hid (HVT.out.lift hb)
      try have HVX := Lib.hid (HVX.out.lift hb)
      try have HVM := Lib.hid (HVM.out.lift hb)
      try have HVF := Lib.hid (HVF.out.lift hb)
      try have HVP := Lib.hid (HVP.out.lift hb)
      try have HVQ := Lib.hid (HVQ.out.lift hb)
      try have HLA := Lib.hid (HLA.out.lift hb)
      try have HLW := Lib.hid (HLW.out.lift hb)
      try have HI := Lib.hid (HI.out.lift hb)
      try have HRB := Lib.hid (HRB.out.trans (hb.mono HRB.out.size))
      try have HWW := Lib.hid (HWW.out.trans (hb.mono HWW.out.size))
      clear hb
      generalize w5.alloc (.cells #[.int .i64 N, .slice A5 (Y).length c5] 27) = w6 at *
      have hg5 : g < w5.heap.size := by omega
      generalize w5.heap.size = gx at *
      clear s0 s1 sf0 sf1
      obtain ⟨s0, s1, sf0, sf1, _⟩ := HLW.out
      obtain ⟨x0, x1, _, _, _⟩ := HXB.out
      have HAJ := Lib.hid (HAF.out A5 AX c5 cX Y X w6 (HVT.out.intsL HYO.out) (HVX.out.intsL HXO.out) HYO.out HXO.out)
      cases ht : aftB N Y X
      · rw [ht] at HAJ
        have HLT := Lib.hid (lateR_no ht)
        clear ht
        go_wp2_with fail
        refine HAJ.out.mono ?_
        rintro e w7 ⟨rfl, hb⟩
        have HBW := Lib.hid (HBW.out.trans (hb.mono HBW.out.size))
        try have HVA := Lib.hid (HVA.out.lift hb)
        try have HVB := Lib.hid (HVB.out.lift hb)
        try have HVC := Lib.hid (HVC.out.lift hb)
        try have HVT := Lib.hid (HVT.out.lift hb)
        try have HVX := Lib.hid (HVX.out.lift hb)
        try have HVM := Lib.hid (HVM.out.lift hb)
        try have HVF := Lib.hid (HVF.out.lift hb)
        try have HVP := Lib.hid (HVP.out.lift hb)
        try have HVQ := Lib.hid (HVQ.out.lift hb)
        try have HLA := Lib.hid (HLA.out.lift hb)
        try have HLW := Lib.hid (HLW.out.lift hb)
        try have HI := Lib.hid (HI.out.lift hb)
        try have HRB := Lib.hid (HRB.out.trans (hb.mono HRB.out.size))
        try have HWW := Lib.hid (HWW.out.trans (hb.mono HWW.out.size))
        clear hb
        go_wp2_with fail
        go_roundw
        case rel => exact ⟨j + 1, AX, cX, bX, by omega, by go_num, by rw [show clsR N bs (j + 1) = Z1 from HZ1.out, HSU.out, HLT.out]; exact HVX.out, hg1, hg2, by rw [show clsR N bs (j + 1) = Z1 from HZ1.out, HSU.out, HLT.out]; exact HLW.out, HVA.out.1, HLA.out, HBW.out, HFR0.out.trans (Frm.pure HWW.out _)⟩
        case measure => simp [intOf]; omega
      · rw [ht] at HAJ
        have HLT := Lib.hid (lateR_yes ht)
        clear ht
        go_wp2_with fail
        refine HAJ.out.mono ?_
        rintro e w7 ⟨rfl, hb⟩
        have HXB := Lib.hid (HXB.out.lift hb)
        have HBW := Lib.hid (HBW.out.trans (hb.mono HBW.out.size))
        try have HVA := Lib.hid (HVA.out.lift hb)
        try have HVB := Lib.hid (HVB.out.lift hb)
        try have HVC := Lib.hid (HVC.out.lift hb)
        try have HVT := Lib.hid (HVT.out.lift hb)
        try have HVX := Lib.hid (HVX.out.lift hb)
        try have HVM := Lib.hid (HVM.out.lift hb)
        try have HVF := Lib.hid (HVF.out.lift hb)
        try have HVP := Lib.hid (HVP.out.lift hb)
        try have HVQ := Lib.hid (HVQ.out.lift hb)
        try have HLA := Lib.hid (HLA.out.lift hb)
        try have HLW := Lib.hid (HLW.out.lift hb)
        try have HI := Lib.hid (HI.out.lift hb)
        try have HRB := Lib.hid (HRB.out.trans (hb.mono HRB.out.size))
        try have HWW := Lib.hid (HWW.out.trans (hb.mono HWW.out.size))
        clear hb
        clear s0 s1 sf0 sf1 x0 x1
        obtain ⟨s0, s1, sf0, sf1, _⟩ := HLW.out
        obtain ⟨x0, x1, _, _, _⟩ := HXB.out
        have HLW2 := Lib.hid ((HLW.out.set0 (.int .i64 N)).set1 (.slice A5 Y.length c5))
        have HRC2 := Lib.hid ((HVA.out.1.far (p := ⟨g, 0, none⟩) (show w.heap.size ≠ g by omega) (.int .i64 N)).far (p := ⟨g, 1, none⟩) (show w.heap.size ≠ g by omega) (.slice A5 Y.length c5))
        have HLA2 := Lib.hid ((HLA.out.far (p := ⟨g, 0, none⟩) (show w.heap.size + 1 ≠ g by omega) (.int .i64 N)).far (p := ⟨g, 1, none⟩) (show w.heap.size + 1 ≠ g by omega) (.slice A5 Y.length c5))
        have HVX2 := Lib.hid ((HVT.out.far (p := ⟨g, 0, none⟩) (show b5 ≠ g by omega) (.int .i64 N)).far (p := ⟨g, 1, none⟩) (show b5 ≠ g by omega) (.slice A5 Y.length c5))
        have HBW2 := Lib.hid ((HBW.out.setCell (p := ⟨g, 0, none⟩) (show w.heap.size ≤ g by omega) (.int .i64 N)).setCell (p := ⟨g, 1, none⟩) (show w.heap.size ≤ g by omega) (.slice A5 Y.length c5))
        have HFR2 := Lib.hid (((HFR0.out.trans (Frm.pure HWW.out _)).setCell (p := ⟨g, 0, none⟩) rfl (.int .i64 N)).setCell (p := ⟨g, 1, none⟩) rfl (.slice A5 Y.length c5))
        have hb5g : b5 ≠ g := by omega
        have hb5q : b5 ≠ w.heap.size + 1 := by omega
        go_wp2_with fail
        go_roundw
        case rel => exact ⟨j + 1, A5, c5, b5, by omega, by go_num, by rw [show clsR N bs (j + 1) = Z1 from HZ1.out, HSU.out, HLT.out]; exact HVX2.out, hb5g, hb5q, by rw [show clsR N bs (j + 1) = Z1 from HZ1.out, HSU.out, HLT.out]; exact HLW2.out, HRC2.out, HLA2.out, HBW2.out, HFR2.out⟩
        case measure => simp [intOf]; omega
    · have hjN : j = (uniV N).length := by omega
      subst hjN
      have HV := Lib.hid HV0.out
      generalize clsR N bs (uniV N).length = X at *
      obtain ⟨s0, s1, _, _, _⟩ := HLW.out
      obtain ⟨r0, r1, rf0, rf1, _⟩ := HLA.out
      go_wp2_with fail
      refine bodyPost_ret (v := .tuple #[.agg #[.int .i64 N, .slice AX X.length cX], .bool true]) (by simp [results, Tryz.results15, go_sem, r0, r1]) rfl ?_
      rw [HV.out]
      exact ⟨AX, cX, rfl, ((HVX.out.far (p := ⟨w.heap.size + 1, 0, none⟩) hg2 _).far (p := ⟨w.heap.size + 1, 1, none⟩) hg2 _).rwL, (HBW.out.setCell (p := ⟨w.heap.size + 1, 0, none⟩) (Nat.le_add_right _ _) _).setCell (p := ⟨w.heap.size + 1, 1, none⟩) (Nat.le_add_right _ _) _⟩

end Go.Proofs.YtjoeglekcnaebaaGreatDoor
