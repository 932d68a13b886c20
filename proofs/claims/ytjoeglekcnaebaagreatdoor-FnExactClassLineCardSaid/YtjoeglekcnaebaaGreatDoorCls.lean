/-
  The least form, the units, the class of a rhythm, by the program.
-/
import Derived.Test.YtjoeglekcnaebaaGreatDoorLst
import Derived.Test.YtjoeglekcnaebaaGreatDoorGcdB
namespace Go.Proofs.YtjoeglekcnaebaaGreatDoor
open Go.RowKit
set_option linter.unusedVariables false
set_option linter.unusedSimpArgs false

set_option maxRecDepth 100000 in
set_option maxHeartbeats 4000000 in
theorem impl_leastForm_any (N : Nat) (A : Option Addr) (cap : Nat) (bs : List Int) (w : World) (hA : Ints w w.heap.size A bs) (hok : RhOk N bs) :
    Calls Tryz.prog 22 #[.agg #[.int .i64 N, .slice A bs.length cap]] w (RetRh1 w N (frmV N bs)) := by
  have hn1 : 1 ≤ N := by have := hok.1; omega
  have hn2 : N ≤ 24 := by have := hok.2.1; omega
  have hmo : RhOk N (mirV N bs) := affL_ok hn1 hn2
  have HLX := Lib.hid (lstV_ok hok)
  have HMO := Lib.hid hmo
  have HLM := Lib.hid (lstV_ok hmo)
  have HLR := Lib.hid (fun V h => impl_leastRotation_any N A cap bs V h hok)
  have HMR := Lib.hid (fun V h => impl_mirrored_any N A cap bs V h hok)
  have HML := Lib.hid (fun A c V h => impl_leastRotation_any N A c (mirV N bs) V h hmo)
  have HV := Lib.hid (show frmV N bs = lateR N (lstV N bs) (lstV N (mirV N bs)) from rfl)
  have hal1 := (Below.refl w.heap.size w).alloc (Nat.le_refl _) (.cells #[.int .i64 N, .slice A (bs).length cap] 27)
  have HBW := Lib.hid (hal1.alloc hal1.size (.cells #[.int .i64 0, .slice none 0 0] 27))
  have HVA := Lib.hid ((Hav.boxed hA N cap).alloc (.cells #[.int .i64 0, .slice none 0 0] 27))
  have HLA := Lib.hid (Cells2.new_at (w.alloc (.cells #[.int .i64 N, .slice A (bs).length cap] 27)) (.int .i64 0) (.slice none 0 0) 27 (w.heap.size + 1) (by simp))
  generalize lstV N (mirV N bs) = Y at *
  generalize mirV N bs = M at *
  generalize lstV N bs = X at *
  clear hal1 hA hmo
  obtain ⟨⟨p0, p1, _, _, _⟩, _⟩ := HVA.out
  go_enter Tryz.func22, Tryz.ntmps22
  go_wp2_with fail
  generalize (w.alloc (.cells #[.int .i64 N, .slice A (bs).length cap] 27)).alloc (.cells #[.int .i64 0, .slice none 0 0] 27) = W at *
  have HBW := Lib.hid (Below.drewH_ HBW.out)
  try have HRB := Lib.hid (Below.drewH_ HRB.out)
  try have HWW := Lib.hid (Below.drewH_ HWW.out)
  try have HVA := Lib.hid HVA.out.drew
  try have HVB := Lib.hid HVB.out.drew
  try have HVC := Lib.hid HVC.out.drew
  try have HVT := Lib.hid HVT.out.drew
  try have HVX := Lib.hid HVX.out.drew
  try have HVM := Lib.hid HVM.out.drew
  try have HVF := Lib.hid HVF.out.drew
  try have HVP := Lib.hid HVP.out.drew
  try have HVQ := Lib.hid HVQ.out.drew
  try have HLA := Lib.hid HLA.out.drewR_
  try have HLW := Lib.hid HLW.out.drewR_
  (refine wp_region_held_drew (S := (fun w' => w'.cell? ⟨w.heap.size, 0, none⟩ = some (.int .i64 N) ∧ w'.cell? ⟨w.heap.size, 1, none⟩ = some (.slice A bs.length cap))) (by kernel_rfl) ?_ (fun hHeld => ?_); (focus ((try dsimp only); exact ⟨p0, p1⟩)))
  ((refine wpAnyH_take (i := 0) (v := ?_) rfl (by kernel_rfl) (by kernel_rfl) (by kernel_rfl) (fun _ _ _ h => h) (Or.inl ⟨by rfl, ?_⟩) (by assumption) ?_; rotate_left; (focus (intro wS hSw; (try dsimp only at hSw); go_simp; (try with_reducible rfl))); (try simp only [Act.put, List.getElem_toArray, List.getElem_cons_zero, List.getElem_cons_succ, List.setIfInBounds_toArray, List.set_cons_zero, List.set_cons_succ])); (refine wpAnyH_take (i := 2) (v := ?_) rfl (by kernel_rfl) (by kernel_rfl) (by kernel_rfl) (fun _ _ _ h => h) (Or.inl ⟨by rfl, ?_⟩) (by assumption) ?_; rotate_left; (focus (intro wS hSw; (try dsimp only at hSw); go_simp; (try with_reducible rfl))); (try simp only [Act.put, List.getElem_toArray, List.getElem_cons_zero, List.getElem_cons_succ, List.setIfInBounds_toArray, List.set_cons_zero, List.set_cons_succ])))
  (refine wpAnyH_ready (rs := [1]) (by kernel_rfl) (by simp) ?_; refine AllReadyH.cons rfl (fun K hK => ?_) AllReadyH.nil; go_simp)
  go_at_call 45
  refine (HLR.out _ HVA.out.2).mono ?_
  rintro e w1 ⟨A1, c1, rfl, hrw, hb⟩
  have hz5 := hb.size
  obtain ⟨b1, hl5, hb5⟩ := hrw.rvL w.heap.size (by have := HLA.out.2.2.2.2; omega) (by have := HLA.out.2.2.2.2; omega) N c1
  have hq5 : w.heap.size + 1 < W.drew.heap.size := HLA.out.2.2.2.2
  have HBW := Lib.hid (HBW.out.trans (hb.mono HBW.out.size))
  try have HVA := Lib.hid (HVA.out.lift hb)
  try have HVB := Lib.hid (HVB.out.lift hb)
  try have HVC := Lib.hid (HVC.out.lift hb)
  try have HVT := Lib.hid (HVT.out.lift hb)
  try have HVX := Lib.hid (HVX.out.lift hb)
  try have HVM := Lib.hid (HVM.out.lift hb)
  try have HVF := Lib.hid (HVF.out.lift hb)
  try have HVP := Lib.hid (HVP.out.lift hb)
  try have HVQ := Lib.hid (HVQ.out.lift hb)
  try have HLA := Lib.hid (HLA.out.lift hb)
  try have HLW := Lib.hid (HLW.out.lift hb)
  try have HI := Lib.hid (HI.out.lift hb)
  try have HRB := Lib.hid (HRB.out.trans (hb.mono HRB.out.size))
  try have HWW := Lib.hid (HWW.out.trans (hb.mono HWW.out.size))
  clear hb
  have HVX := Lib.hid hl5
  clear hrw hl5
  clear p0 p1
  obtain ⟨⟨p0, p1, _, _, _⟩, _⟩ := HVA.out
  have hg2 : b1 ≠ w.heap.size + 1 := by omega
  clear hb5 hz5 hq5
  go_wp2_with fail
  (refine hK.out _ _ ?_ (fun hHeld2 => ?_); (focus ((try dsimp only); exact ⟨p0, p1⟩)); (clear hK K); (try simp only [Act.put, List.getElem_toArray, List.getElem_cons_zero, List.getElem_cons_succ, List.setIfInBounds_toArray, List.set_cons_zero, List.set_cons_succ]))
  (refine wpAnyH_ready (rs := [3]) (by kernel_rfl) (by simp) ?_; refine AllReadyH.cons rfl (fun K hK => ?_) AllReadyH.nil; go_simp)
  go_at_call 46
  refine (HMR.out _ HVA.out.2).mono ?_
  rintro e w2 ⟨A2, c2, rfl, hrw, hb⟩
  have hz5 := hb.size
  obtain ⟨b2, hl5, hb5⟩ := hrw.rvL w.heap.size (by have := HLA.out.2.2.2.2; omega) (by have := HLA.out.2.2.2.2; omega) N c2
  have hq5 : w.heap.size + 1 < w1.heap.size := HLA.out.2.2.2.2
  have HBW := Lib.hid (HBW.out.trans (hb.mono HBW.out.size))
  try have HVA := Lib.hid (HVA.out.lift hb)
  try have HVB := Lib.hid (HVB.out.lift hb)
  try have HVC := Lib.hid (HVC.out.lift hb)
  try have HVT := Lib.hid (HVT.out.lift hb)
  try have HVX := Lib.hid (HVX.out.lift hb)
  try have HVM := Lib.hid (HVM.out.lift hb)
  try have HVF := Lib.hid (HVF.out.lift hb)
  try have HVP := Lib.hid (HVP.out.lift hb)
  try have HVQ := Lib.hid (HVQ.out.lift hb)
  try have HLA := Lib.hid (HLA.out.lift hb)
  try have HLW := Lib.hid (HLW.out.lift hb)
  try have HI := Lib.hid (HI.out.lift hb)
  try have HRB := Lib.hid (HRB.out.trans (hb.mono HRB.out.size))
  try have HWW := Lib.hid (HWW.out.trans (hb.mono HWW.out.size))
  clear hb
  have HVM := Lib.hid hl5
  clear hrw hl5
  clear p0 p1
  obtain ⟨⟨p0, p1, _, _, _⟩, _⟩ := HVA.out
  clear hb5 hz5 hq5
  go_wp2_with fail
  (refine hK.out _ _ ?_ (fun hHeld2 => ?_); (focus ((try dsimp only); exact ⟨p0, p1⟩)); (clear hK K); (try simp only [Act.put, List.getElem_toArray, List.getElem_cons_zero, List.getElem_cons_succ, List.setIfInBounds_toArray, List.set_cons_zero, List.set_cons_succ]))
  (refine wpAnyH_ready (rs := [4]) (by kernel_rfl) (by simp) ?_; refine AllReadyH.cons rfl (fun K hK => ?_) AllReadyH.nil; go_simp)
  go_at_call 45
  refine (HML.out A2 c2 _ (HVM.out.intsL HMO.out)).mono ?_
  rintro e w3 ⟨A3, c3, rfl, hrw, hb⟩
  clear HVM
  have hz5 := hb.size
  obtain ⟨b3, hl5, hb5⟩ := hrw.rvL w.heap.size (by have := HLA.out.2.2.2.2; omega) (by have := HLA.out.2.2.2.2; omega) N c3
  have hq5 : w.heap.size + 1 < w2.heap.size := HLA.out.2.2.2.2
  have HBW := Lib.hid (HBW.out.trans (hb.mono HBW.out.size))
  try have HVA := Lib.hid (HVA.out.lift hb)
  try have HVB := Lib.hid (HVB.out.lift hb)
  try have HVC := Lib.hid (HVC.out.lift hb)
  try have HVT := Lib.hid (HVT.out.lift hb)
  try have HVX := Lib.hid (HVX.out.lift hb)
  try have HVM := Lib.hid (HVM.out.lift hb)
  try have HVF := Lib.hid (HVF.out.lift hb)
  try have HVP := Lib.hid (HVP.out.lift hb)
  try have HVQ := Lib.hid (HVQ.out.lift hb)
  try have HLA := Lib.hid (HLA.out.lift hb)
  try have HLW := Lib.hid (HLW.out.lift hb)
  try have HI := Lib.hid (HI.out.lift hb)
  try have HRB := Lib.hid (HRB.out.trans (hb.mono HRB.out.size))
  try have HWW := Lib.hid (HWW.out.trans (hb.mono HWW.out.size))
  clear hb
  have HVT := Lib.hid hl5
  clear hrw hl5
  clear p0 p1
  obtain ⟨⟨p0, p1, _, _, _⟩, _⟩ := HVA.out
  have hg3 : b3 ≠ w.heap.size + 1 := by omega
  clear hb5 hz5 hq5
  go_wp2_with fail
  (refine hK.out _ _ ?_ (fun hHeld2 => ?_); (focus ((try dsimp only); exact ⟨p0, p1⟩)); (clear hK K); (try simp only [Act.put, List.getElem_toArray, List.getElem_cons_zero, List.getElem_cons_succ, List.setIfInBounds_toArray, List.set_cons_zero, List.set_cons_succ]))
  have hzz : ∃ (AZ : Option Addr) (cZ bZ : Nat), (RV.mk N (lateR N X Y) AZ cZ bZ).Lies w3 w.heap.size ∧ bZ ≠ w.heap.size + 1 ∧ Calls Tryz.prog 44 #[.agg #[.int .i64 N, .slice A1 X.length c1], .agg #[.int .i64 N, .slice A3 Y.length c3]] w3 fun e w' => e = .returned (.agg #[.int .i64 N, .slice AZ (lateR N X Y).length cZ]) ∧ Below w3.heap.size w3 w' := by
    have hcall := impl_later_any N A1 A3 c1 c3 X Y w3 (HVX.out.intsL HLX.out) (HVT.out.intsL HLM.out) HLX.out HLM.out
    by_cases hl : codI N X < codI N Y
    · unfold lateR
      rw [if_pos hl] at hcall ⊢
      exact ⟨A3, c3, b3, HVT.out, hg3, hcall⟩
    · unfold lateR
      rw [if_neg hl] at hcall ⊢
      exact ⟨A1, c1, b1, HVX.out, hg2, hcall⟩
  obtain ⟨AZ, cZ, bZ, hzl, hzq, hcall⟩ := hzz
  have HCZ := Lib.hid hcall
  clear HVX HVT hcall
  have HVX := Lib.hid hzl
  clear hzl
  generalize lateR N X Y = Z at *
  (refine wpAnyH_ready (rs := [5]) (by kernel_rfl) (by simp) ?_; refine AllReadyH.cons rfl (fun K hK => ?_) AllReadyH.nil; go_simp)
  go_at_call 44
  refine HCZ.out.mono ?_
  rintro e w6 ⟨rfl, hb⟩
  have HBW := Lib.hid (HBW.out.trans (hb.mono HBW.out.size))
  try have HVA := Lib.hid (HVA.out.lift hb)
  try have HVB := Lib.hid (HVB.out.lift hb)
  try have HVC := Lib.hid (HVC.out.lift hb)
  try have HVT := Lib.hid (HVT.out.lift hb)
  try have HVX := Lib.hid (HVX.out.lift hb)
  try have HVM := Lib.hid (HVM.out.lift hb)
  try have HVF := Lib.hid (HVF.out.lift hb)
  try have HVP := Lib.hid (HVP.out.lift hb)
  try have HVQ := Lib.hid (HVQ.out.lift hb)
  try have HLA := Lib.hid (HLA.out.lift hb)
  try have HLW := Lib.hid (HLW.out.lift hb)
  try have HI := Lib.hid (HI.out.lift hb)
  try have HRB := Lib.hid (HRB.out.trans (hb.mono HRB.out.size))
  try have HWW := Lib.hid (HWW.out.trans (hb.mono HWW.out.size))
  clear hb
  clear p0 p1
  obtain ⟨⟨p0, p1, _, _, _⟩, _⟩ := HVA.out
  obtain ⟨r0, r1, rf0, rf1, _⟩ := HLA.out
  go_wp2_with fail
  (refine hK.out _ _ ?_ (fun hHeld2 => ?_); (focus ((try dsimp only); exact ⟨p0, p1⟩)); (clear hK K); (try simp only [Act.put, List.getElem_toArray, List.getElem_cons_zero, List.getElem_cons_succ, List.setIfInBounds_toArray, List.set_cons_zero, List.set_cons_succ]))
  (refine wpAnyH_ready (rs := [6]) (by kernel_rfl) (by simp) ?_; refine AllReadyH.cons rfl (fun K hK => ?_) AllReadyH.nil; go_simp)
  have HLA2 := Lib.hid ((HLA.out.set0 (.int .i64 N)).set1 (.slice AZ Z.length cZ))
  have HRC2 := Lib.hid ((HVA.out.1.far (p := ⟨w.heap.size + 1, 0, none⟩) (show w.heap.size ≠ w.heap.size + 1 by omega) (.int .i64 N)).far (p := ⟨w.heap.size + 1, 1, none⟩) (show w.heap.size ≠ w.heap.size + 1 by omega) (.slice AZ Z.length cZ))
  have HVX2 := Lib.hid ((HVX.out.far (p := ⟨w.heap.size + 1, 0, none⟩) hzq (.int .i64 N)).far (p := ⟨w.heap.size + 1, 1, none⟩) hzq (.slice AZ Z.length cZ))
  have HBW2 := Lib.hid ((HBW.out.setCell (p := ⟨w.heap.size + 1, 0, none⟩) (Nat.le_add_right _ _) (.int .i64 N)).setCell (p := ⟨w.heap.size + 1, 1, none⟩) (Nat.le_add_right _ _) (.slice AZ Z.length cZ))
  clear p0 p1 r0 r1 rf0 rf1
  obtain ⟨p0, p1, _, _, _⟩ := HRC2.out
  obtain ⟨r0, r1, _, _, _⟩ := HLA2.out
  (refine hK.out _ _ ?_ (fun hHeld2 => ?_); (focus ((try dsimp only); exact ⟨p0, p1⟩)); (clear hK K); (try simp only [Act.put, List.getElem_toArray, List.getElem_cons_zero, List.getElem_cons_succ, List.setIfInBounds_toArray, List.set_cons_zero, List.set_cons_succ]))
  refine wpAnyH_done (by kernel_rfl) ?_ _
  go_wp2_with fail
  refine bodyPost_ret (v := .agg #[.int .i64 N, .slice AZ Z.length cZ]) (by simp [results, Tryz.results22, go_sem, r0, r1]) rfl ?_
  rw [HV.out]
  exact ⟨AZ, cZ, rfl, HVX2.out.rwL, HBW2.out⟩

set_option maxHeartbeats 400000 in
theorem impl_isUnit_any (u n : Nat) (w : World) (hu : u ≤ 1000) (hn : n ≤ 1000) :
    Calls Tryz.prog 80 #[.int .i64 u, .int .i64 n] w fun e w' => e = .returned (.bool (uniP n u)) ∧ Below w.heap.size w w' := by
  have HG := Lib.hid (fun V => impl_gcd_any u n V (by omega) (by omega))
  have hw1 : IntKind.i64.wrap ((n : Int) - 1) = (n : Int) - 1 := i64w (by omega)
  have HV := Lib.hid (show uniP n u = (inB u 1 (max ((n : Int) - 1) 1) && ((Nat.gcd u n : Nat) : Int) == 1) by
    unfold uniP inB
    have e1 : decide (1 ≤ u ∧ u ≤ max 1 (n - 1)) = (decide ((1 : Int) ≤ u) && decide ((u : Int) ≤ max ((n : Int) - 1) 1)) := by
      rw [← Bool.decide_and]; exact decide_eq_decide.2 (by omega)
    rw [e1]
    congr 1
    exact (decide_eq_decide.2 (by omega)).trans rfl)
  cases hI : inB (u : Int) 1 (max ((n : Int) - 1) 1)
  · rw [hI] at HV
    go_enter Tryz.func80, Tryz.ntmps80
    go_wp2_with (go_at_call 42; refine (within_any _ _ _ _).mono ?_; rintro e w' ⟨rfl, rfl⟩)
    go_ret
    exact ⟨ret_bool HV.out.symm, Below.refl _ _⟩
  · rw [hI] at HV
    obtain ⟨g, hg⟩ : ∃ g, Nat.gcd u n = g := ⟨_, rfl⟩
    rw [hg] at HV HG
    go_enter Tryz.func80, Tryz.ntmps80
    go_wp2_with (first | (go_at_call 42; refine (within_any _ _ _ _).mono ?_; rintro e w' ⟨rfl, rfl⟩) | (go_at_call 95; refine (HG.out _).mono ?_; rintro e w1 ⟨rfl, hb⟩))
    go_ret
    exact ⟨ret_bool HV.out.symm, hb⟩

set_option maxRecDepth 100000 in
set_option maxHeartbeats 1000000 in
theorem impl_UnitsOf_any (n : Nat) (w : World) (hn1 : 1 ≤ n) (hn2 : n ≤ 24) :
    Calls Tryz.prog 52 #[.int .i64 n] w fun e w' => ∃ A c, e = .returned (.slice A (uniV n).length c) ∧ OwnI w' w.heap.size (.slice A (uniV n).length c) (uniV n) ∧ Below w.heap.size w w' := by
  have HI := Lib.hid (fun (u : Nat) V (hu : u ≤ 1000) => impl_isUnit_any u n V hu (by omega))
  have hin : inB (n : Int) 1 24 = true := inB_true ⟨by omega, by omega⟩
  have hw1 : IntKind.i64.wrap ((n : Int) + 1) = (n : Int) + 1 := i64w (by omega)
  go_enter Tryz.func52, Tryz.ntmps52
  go_wp2_with (go_at_call 42; refine (within_any _ _ _ _).mono ?_; rintro e w' ⟨rfl, rfl⟩)
  go_loopw [3, 10] (fun so i wr => ∃ j : Nat, j ≤ n + 1 ∧ i = .int .i64 j ∧ OwnI wr w.heap.size so (uniF n j) ∧ Below w.heap.size w wr) (fun _ i _ => n + 1 - (intOf i).toNat)
  case atStart => exact ⟨0, Nat.zero_le _, rfl, OwnI.nil _ _, Below.refl _ _⟩
  case round =>
    obtain ⟨j, hj, rfl, hown, hbel⟩ := hrel
    obtain ⟨wo, rfl⟩ : ∃ wo : World, wo = wr := ⟨_, rfl⟩
    have hws := hbel.size
    have HBE := Lib.hid hbel
    have HO := Lib.hid hown
    obtain ⟨A1, c1, rfl⟩ := hown.form
    have hmk := uniF_len n j
    clear hbel hown
    by_cases hlt : j < n + 1
    · have hji : (j : Int) < (n : Int) + 1 := by omega
      have HIJ := Lib.hid (HI.out j wo (by omega))
      cases hp : uniP n j
      · have HSU := Lib.hid (show uniF n (j + 1) = uniF n j by
          show (if uniP n j then _ else _) = _
          rw [if_neg (by rw [hp]; decide)])
        rw [hp] at HIJ
        clear hp
        generalize uniF n j = L at *
        go_wp2_with (go_at_call 80; refine HIJ.out.mono ?_; rintro e w1 ⟨rfl, hb⟩)
        have HO2 := Lib.hid (HO.out.grown hb)
        have HB2 := Lib.hid (HBE.out.trans (hb.mono hws))
        clear hb
        go_wp2_with fail
        go_roundw
        case rel => exact ⟨j + 1, by omega, by go_num, by rw [HSU.out]; exact HO2.out, HB2.out⟩
        case measure => simp [intOf]; omega
      · have HSU := Lib.hid (show uniF n (j + 1) = uniF n j ++ [(j : Int)] by
          show (if uniP n j then _ else _) = _
          rw [if_pos hp])
        rw [hp] at HIJ
        clear hp
        generalize uniF n j = L at *
        go_wp2_with fail
        refine HIJ.out.mono ?_
        rintro e w1 ⟨rfl, hb⟩
        have hz1 := hb.size
        have HO2 := Lib.hid (HO.out.grown hb)
        have HB2 := Lib.hid (HBE.out.trans (hb.mono hws))
        clear hb
        go_wp2_with (at_builtin; refine wpList_append_int rfl (.tmp 16) (.tmp 18) rfl w.heap.size _ L rfl (HO2.out.alloc _) _ _ rfl (cell_new1 _ _ _) (by omega) (by simp; omega) ?_; intro v2 w2 hown2 hb2)
        have HO3 := Lib.hid hown2
        have HB3 := Lib.hid ((HB2.out.alloc (by omega) _).trans hb2)
        clear hown2 hb2
        go_wp2_with fail
        go_roundw
        case rel => exact ⟨j + 1, by omega, by go_num, by rw [HSU.out]; exact HO3.out, HB3.out⟩
        case measure => simp [intOf]; omega
    · have hje : j = n + 1 := by omega
      subst hje
      have HV := Lib.hid (show uniV n = uniF n (n + 1) from rfl)
      generalize uniF n (n + 1) = L at *
      have hji : ¬ ((n + 1 : Nat) : Int) < (n : Int) + 1 := by omega
      go_wp2_with fail
      go_ret
      rw [HV.out]
      exact ⟨A1, c1, rfl, HO.out, HBE.out⟩

set_option maxRecDepth 100000 in
set_option maxHeartbeats 4000000 in
theorem impl_class_any (N : Nat) (A : Option Addr) (cap : Nat) (bs : List Int) (w : World) (hA : Ints w w.heap.size A bs) (hok : RhOk N bs) :
    Calls Tryz.prog 26 #[.agg #[.int .i64 N, .slice A bs.length cap]] w (RetRh1 w N (clsV N bs)) := by
  have hn1 : 1 ≤ N := by have := hok.1; omega
  have hn2 : N ≤ 24 := by have := hok.2.1; omega
  have HLK := Lib.hid (fun m => clsR_ok hok m)
  have HAK := Lib.hid (fun (u : Nat) => (show RhOk N (affL N u 0 bs) from affL_ok hn1 hn2))
  have HST := Lib.hid (fun (k : Nat) (hk : k ≤ 1000) V h => impl_stretched_any N A cap bs k V h hok hk)
  have HLF := Lib.hid (fun M A c V h (hM : RhOk N M) => impl_leastForm_any N A c M V h hM)
  have HUN := Lib.hid (fun V => impl_UnitsOf_any N V hn1 hn2)
  have HUA := Lib.hid (fun j (hj : j < (uniV N).length) => uniV_at hj)
  have HCS := Lib.hid (fun m => show clsR N bs (m + 1) = lateR N (clsR N bs m) (frmV N (affL N ((uniV N).getD m 0) 0 bs)) from rfl)
  have HFO := Lib.hid (fun u => frmV_ok (show RhOk N (affL N u 0 bs) from affL_ok hn1 hn2))
  have HV0 := Lib.hid (show clsV N bs = clsR N bs (uniV N).length from rfl)
  have hul := uniV_len N
  have hal1 := (Below.refl w.heap.size w).alloc (Nat.le_refl _) (.cells #[.int .i64 N, .slice A (bs).length cap] 27)
  have HBW := Lib.hid (hal1.alloc hal1.size (.cells #[.int .i64 0, .slice none 0 0] 27))
  have HVA := Lib.hid ((Hav.boxed hA N cap).alloc (.cells #[.int .i64 0, .slice none 0 0] 27))
  have HLA := Lib.hid (Cells2.new_at (w.alloc (.cells #[.int .i64 N, .slice A (bs).length cap] 27)) (.int .i64 0) (.slice none 0 0) 27 (w.heap.size + 1) (by simp))
  have HA := Lib.hid hA
  have HR0 := Lib.hid (HLF.out bs A cap)
  rw [show frmV N bs = clsR N bs 0 from rfl] at HR0
  have HOK := Lib.hid hok
  clear hal1 hA hok
  obtain ⟨⟨p0, p1, _, _, _⟩, _⟩ := HVA.out
  go_enter Tryz.func26, Tryz.ntmps26
  go_wp2_with fail
  generalize (w.alloc (.cells #[.int .i64 N, .slice A (bs).length cap] 27)).alloc (.cells #[.int .i64 0, .slice none 0 0] 27) = W at *
  refine (HR0.out _ HVA.out.2 HOK.out).mono ?_
  rintro e w1 ⟨A0, c0, rfl, hrw, hb⟩
  have hqw := HLA.out.2.2.2.2
  have hz1 := hb.size
  obtain ⟨b0, hl0, hb0⟩ := hrw.rvL w.heap.size (by omega) (by omega) N c0
  have HBW := Lib.hid (HBW.out.trans (hb.mono HBW.out.size))
  try have HVA := Lib.hid (HVA.out.lift hb)
  try have HVB := Lib.hid (HVB.out.lift hb)
  try have HVC := Lib.hid (HVC.out.lift hb)
  try have HVT := Lib.hid (HVT.out.lift hb)
  try have HVX := Lib.hid (HVX.out.lift hb)
  try have HVM := Lib.hid (HVM.out.lift hb)
  try have HVF := Lib.hid (HVF.out.lift hb)
  try have HVP := Lib.hid (HVP.out.lift hb)
  try have HVQ := Lib.hid (HVQ.out.lift hb)
  try have HLA := Lib.hid (HLA.out.lift hb)
  try have HLW := Lib.hid (HLW.out.lift hb)
  try have HI := Lib.hid (HI.out.lift hb)
  try have HRB := Lib.hid (HRB.out.trans (hb.mono HRB.out.size))
  try have HWW := Lib.hid (HWW.out.trans (hb.mono HWW.out.size))
  clear hb
  have HVX := Lib.hid hl0
  clear hrw hl0
  clear p0 p1
  obtain ⟨⟨p0, p1, _, _, _⟩, _⟩ := HVA.out
  have hbg : b0 < w1.heap.size := HVX.out.2.2.1
  go_wp2_with fail
  have hal2 := (Below.refl w1.heap.size w1).alloc (Nat.le_refl _) (.cells #[.int .i64 N, .slice A0 (clsR N bs 0).length c0] 27)
  have hb := hal2
  have HBW := Lib.hid (HBW.out.trans (hb.mono HBW.out.size))
  try have HVA := Lib.hid (HVA.out.lift hb)
  try have HVB := Lib.hid (HVB.out.lift hb)
  try have HVC := Lib.hid (HVC.out.lift hb)
  try have HVT := Lib.hid (HVT.out.lift hb)
  try have HVX := Lib.hid (HVX.out.lift hb)
  try have HVM := Lib.hid (HVM.out.lift hb)
  try have HVF := Lib.hid (HVF.out.lift hb)
  try have HVP := Lib.hid (HVP.out.lift hb)
  try have HVQ := Lib.hid (HVQ.out.lift hb)
  try have HLA := Lib.hid (HLA.out.lift hb)
  try have HLW := Lib.hid (HLW.out.lift hb)
  try have HI := Lib.hid (HI.out.lift hb)
  try have HRB := Lib.hid (HRB.out.trans (hb.mono HRB.out.size))
  try have HWW := Lib.hid (HWW.out.trans (hb.mono HWW.out.size))
  clear hb
  have HLW := Lib.hid (Cells2.new w1 (.int .i64 N) (.slice A0 (clsR N bs 0).length c0) 27)
  clear hal2
  clear p0 p1
  obtain ⟨⟨p0, p1, _, _, _⟩, _⟩ := HVA.out
  generalize w1.alloc (.cells #[.int .i64 N, .slice A0 (clsR N bs 0).length c0] 27) = W2 at *
  have hgq0 : w.heap.size + 1 < w1.heap.size := by omega
  have hgW : w1.heap.size < W2.heap.size := HLW.out.2.2.2.2
  generalize w1.heap.size = g at *
  go_wp2_with fail
  refine (HUN.out _).mono ?_
  rintro e w3 ⟨Au, cu, rfl, hown, hb⟩
  have hz3 := hb.size
  have HUI := Lib.hid (show Ints w3 w3.heap.size Au (uniV N) from hown.ints (fun x hx => by
    obtain ⟨u, a, b, c⟩ := uniF_mem N (N + 1) x hx
    unfold Fits; omega))
  have hub : 0 < (uniV N).length → ∃ bu, Au = some ⟨bu, 0, none⟩ ∧ bu ≠ g ∧ g < bu ∧ bu < w3.heap.size ∧ ∀ i, i < (uniV N).length → w3.cell? ⟨bu, i, none⟩ = some (.int .i64 ((uniV N).getD i 0)) := fun h0 => by
    obtain ⟨bu, cu', e⟩ := hown.posC h0
    obtain ⟨hl1, hl2⟩ := hown.lt bu (by rw [e]; rfl)
    have hAu : Au = some ⟨bu, 0, none⟩ := by injection e
    obtain ⟨b', off, e2, hlt', hc⟩ := HUI.out.2.2 h0
    rw [hAu] at e2
    injection e2 with e2
    injection e2 with e3 e4
    subst e3 e4
    exact ⟨bu, hAu, by omega, by omega, hl2, fun i hi => by have := hc i hi; rwa [Nat.zero_add] at this⟩
  have HUB := Lib.hid hub
  clear hown hub HUI
  have HBW := Lib.hid (HBW.out.trans (hb.mono HBW.out.size))
  try have HVA := Lib.hid (HVA.out.lift hb)
  try have HVB := Lib.hid (HVB.out.lift hb)
  try have HVC := Lib.hid (HVC.out.lift hb)
  try have HVT := Lib.hid (HVT.out.lift hb)
  try have HVX := Lib.hid (HVX.out.lift hb)
  try have HVM := Lib.hid (HVM.out.lift hb)
  try have HVF := Lib.hid (HVF.out.lift hb)
  try have HVP := Lib.hid (HVP.out.lift hb)
  try have HVQ := Lib.hid (HVQ.out.lift hb)
  try have HLA := Lib.hid (HLA.out.lift hb)
  try have HLW := Lib.hid (HLW.out.lift hb)
  try have HI := Lib.hid (HI.out.lift hb)
  try have HRB := Lib.hid (HRB.out.trans (hb.mono HRB.out.size))
  try have HWW := Lib.hid (HWW.out.trans (hb.mono HWW.out.size))
  clear hb
  clear p0 p1
  go_wp2_with fail
  go_loopw [12] (fun i wr => ∃ (j : Nat) (AX : Option Addr) (cX bX : Nat), j ≤ (uniV N).length ∧ i = .int .i64 j ∧ (RV.mk N (clsR N bs j) AX cX bX).Lies wr w.heap.size ∧ bX ≠ g ∧ bX ≠ w.heap.size + 1 ∧ Cells2 wr g (.int .i64 N) (.slice AX (clsR N bs j).length cX) ∧ Cells2 wr w.heap.size (.int .i64 N) (.slice A bs.length cap) ∧ Cells2 wr (w.heap.size + 1) (.int .i64 0) (.slice none 0 0) ∧ Below w.heap.size w wr ∧ Frm (fun c => c = g) w3 wr) (fun i _ => (uniV N).length - (intOf i).toNat)
  case atStart => exact ⟨0, A0, c0, b0, Nat.zero_le _, rfl, HVX.out, by omega, by omega, HLW.out, HVA.out.1, HLA.out, HBW.out, Frm.refl _ _⟩
  case round =>
    obtain ⟨j, AX, cX, bX, hj, rfl, hx, hg1, hg2, hbest, hrc, hzc, hbel, hfr⟩ := hrel
    obtain ⟨wo, rfl⟩ : ∃ wo : World, wo = wr := ⟨_, rfl⟩
    clear HVX HLW HVA HLA HBW
    have HFR0 := Lib.hid hfr
    have HBW := Lib.hid hbel
    have HVX := Lib.hid hx
    have HLW := Lib.hid hbest
    have HLA := Lib.hid hzc
    have HVA := Lib.hid (show Hav wo N w.heap.size A cap bs from ⟨hrc, (HA.out.below hbel).mono hbel.size⟩)
    have hwo : g < wo.heap.size := hbest.2.2.2.2
    have HXO := Lib.hid (HLK.out j)
    have hwz : w3.heap.size ≤ wo.heap.size := hfr.size
    clear hx hbest hzc hrc hbel hfr
    obtain ⟨⟨p0, p1, _, _, _⟩, _⟩ := HVA.out
    by_cases hlt : j < (uniV N).length
    · obtain ⟨u, hu, hu1, hu2⟩ := HUA.out j hlt
      obtain ⟨bu, hAu, hbu1, hbu2, hbu3, hbuc⟩ := HUB.out (by omega)
      have huc := (HFR0.out.cell (o := j) hbu3 (show ¬ bu = g from hbu1)).trans (hbuc j hlt)
      rw [hu] at huc
      have hcs := HCS.out j
      rw [hu] at hcs
      have HSU := Lib.hid hcs
      have HYO := Lib.hid (HFO.out u)
      have HMO := Lib.hid (HAK.out u)
      have HSJ := Lib.hid (HST.out u (by omega))
      have HFJ := Lib.hid (fun A c V h => HLF.out (affL N u 0 bs) A c V h (HMO.out))
      obtain ⟨Z1, hZ1⟩ : ∃ Z1, clsR N bs (j + 1) = Z1 := ⟨_, rfl⟩
      have HZ1 := Lib.hid hZ1
      rw [hZ1] at HSU
      clear hZ1 hu hcs hbuc
      subst hAu
      generalize clsR N bs j = X at *
      generalize frmV N (affL N ((u : Nat) : Int) 0 bs) = Y at *
      generalize affL N ((u : Nat) : Int) 0 bs = M at *
      generalize (uniV N).length = ul at *
      obtain ⟨s0, s1, _, _, _⟩ := HLW.out
      have hji : (j : Int) < (ul : Int) := by omega
      go_wp2_with fail
      have HWW := Lib.hid (Below.refl wo.heap.size wo)
      have HBW := Lib.hid (Below.drewH_ HBW.out)
      try have HRB := Lib.hid (Below.drewH_ HRB.out)
      try have HWW := Lib.hid (Below.drewH_ HWW.out)
      try have HVA := Lib.hid HVA.out.drew
      try have HVB := Lib.hid HVB.out.drew
      try have HVC := Lib.hid HVC.out.drew
      try have HVT := Lib.hid HVT.out.drew
      try have HVX := Lib.hid HVX.out.drew
      try have HVM := Lib.hid HVM.out.drew
      try have HVF := Lib.hid HVF.out.drew
      try have HVP := Lib.hid HVP.out.drew
      try have HVQ := Lib.hid HVQ.out.drew
      try have HLA := Lib.hid HLA.out.drewR_
      try have HLW := Lib.hid HLW.out.drewR_
      (refine wp_region_held_drew (S := (fun w' => w'.cell? ⟨w.heap.size, 0, none⟩ = some (.int .i64 N) ∧ w'.cell? ⟨w.heap.size, 1, none⟩ = some (.slice A bs.length cap))) (by kernel_rfl) ?_ (fun hHeld => ?_); (focus ((try dsimp only); exact ⟨p0, p1⟩)))
      ((refine wpAnyH_take (i := 1) (v := ?_) rfl (by kernel_rfl) (by kernel_rfl) (by kernel_rfl) (fun _ _ _ h => h) (Or.inl ⟨by rfl, ?_⟩) (by assumption) ?_; rotate_left; (focus (intro wS hSw; (try dsimp only at hSw); go_simp; (try with_reducible rfl))); (try simp only [Act.put, List.getElem_toArray, List.getElem_cons_zero, List.getElem_cons_succ, List.setIfInBounds_toArray, List.set_cons_zero, List.set_cons_succ])); (refine wpAnyH_take (i := 2) (v := ?_) rfl (by kernel_rfl) (by kernel_rfl) (by kernel_rfl) (fun _ _ _ h => h) (Or.inl ⟨by rfl, ?_⟩) (by assumption) ?_; rotate_left; (focus (intro wS hSw; (try dsimp only at hSw); go_simp; (try with_reducible rfl))); (try simp only [Act.put, List.getElem_toArray, List.getElem_cons_zero, List.getElem_cons_succ, List.setIfInBounds_toArray, List.set_cons_zero, List.set_cons_succ])))
      refine wpAnyH_ready (rs := [0, 3]) (by kernel_rfl) (by simp) ?_
      refine AllReadyH.cons rfl (fun K hK => ?_) (AllReadyH.cons rfl (fun K hK => ?_) AllReadyH.nil)
      · as_aux_lemma =>
        clear s0 s1
        obtain ⟨s0, s1, _, _, _⟩ := HLW.out
        go_simp
        (refine hK.out _ _ ?_ (fun hHeld2 => ?_); (focus ((try dsimp only); exact ⟨p0, p1⟩)); (clear hK K); (try simp only [Act.put, List.getElem_toArray, List.getElem_cons_zero, List.getElem_cons_succ, List.setIfInBounds_toArray, List.set_cons_zero, List.set_cons_succ]))
        (refine wpAnyH_ready (rs := [3]) (by kernel_rfl) (by simp) ?_; refine AllReadyH.cons rfl (fun K hK => ?_) AllReadyH.nil; go_simp)
        go_at_call 53
        refine (HSJ.out _ HVA.out.2).mono ?_
        rintro e w4 ⟨A4, c4, rfl, hrw, hb⟩
        have hz4 := hb.size
        obtain ⟨b4, hl4, _⟩ := hrw.rvL w.heap.size (by have := HLA.out.2.2.2.2; omega) (by have := HLA.out.2.2.2.2; omega) N c4
        clear hrw
        have HBW := Lib.hid (HBW.out.trans (hb.mono HBW.out.size))
        try have HVA := Lib.hid (HVA.out.lift hb)
        try have HVB := Lib.hid (HVB.out.lift hb)
        try have HVC := Lib.hid (HVC.out.lift hb)
        try have HVT := Lib.hid (HVT.out.lift hb)
        try have HVX := Lib.hid (HVX.out.lift hb)
        try have HVM := Lib.hid (HVM.out.lift hb)
        try have HVF := Lib.hid (HVF.out.lift hb)
        try have HVP := Lib.hid (HVP.out.lift hb)
        try have HVQ := Lib.hid (HVQ.out.lift hb)
        try have HLA := Lib.hid (HLA.out.lift hb)
        try have HLW := Lib.hid (HLW.out.lift hb)
        try have HI := Lib.hid (HI.out.lift hb)
        try have HRB := Lib.hid (HRB.out.trans (hb.mono HRB.out.size))
        try have HWW := Lib.hid (HWW.out.trans (hb.mono HWW.out.size))
        clear hb
        have HVM := Lib.hid hl4
        clear hl4 p0 p1 s0 s1
        obtain ⟨⟨p0, p1, _, _, _⟩, _⟩ := HVA.out
        obtain ⟨s0, s1, _, _, _⟩ := HLW.out
        go_wp2_with fail
        (refine hK.out _ _ ?_ (fun hHeld2 => ?_); (focus ((try dsimp only); exact ⟨p0, p1⟩)); (clear hK K); (try simp only [Act.put, List.getElem_toArray, List.getElem_cons_zero, List.getElem_cons_succ, List.setIfInBounds_toArray, List.set_cons_zero, List.set_cons_succ]))
        (refine wpAnyH_ready (rs := [4]) (by kernel_rfl) (by simp) ?_; refine AllReadyH.cons rfl (fun K hK => ?_) AllReadyH.nil; go_simp)
        go_at_call 22
        refine (HFJ.out A4 c4 _ (HVM.out.intsL HMO.out)).mono ?_
        rintro e w5 ⟨A5, c5, rfl, hrw, hb⟩
        clear HVM
        have hz5 := hb.size
        obtain ⟨b5, hl5, hb5⟩ := hrw.rvL w.heap.size (by have := HLA.out.2.2.2.2; omega) (by have := HLA.out.2.2.2.2; omega) N c5
        have hq5 : w.heap.size + 1 < w4.heap.size := HLA.out.2.2.2.2
        have HBW := Lib.hid (HBW.out.trans (hb.mono HBW.out.size))
        try have HVA := Lib.hid (HVA.out.lift hb)
        try have HVB := Lib.hid (HVB.out.lift hb)
        try have HVC := Lib.hid (HVC.out.lift hb)
        try have HVT := Lib.hid (HVT.out.lift hb)
        try have HVX := Lib.hid (HVX.out.lift hb)
        try have HVM := Lib.hid (HVM.out.lift hb)
        try have HVF := Lib.hid (HVF.out.lift hb)
        try have HVP := Lib.hid (HVP.out.lift hb)
        try have HVQ := Lib.hid (HVQ.out.lift hb)
        try have HLA := Lib.hid (HLA.out.lift hb)
        try have HLW := Lib.hid (HLW.out.lift hb)
        try have HI := Lib.hid (HI.out.lift hb)
        try have HRB := Lib.hid (HRB.out.trans (hb.mono HRB.out.size))
        try have HWW := Lib.hid (HWW.out.trans (hb.mono HWW.out.size))
        clear hb
        have HVT := Lib.hid hl5
        clear hrw hl5
        have hb5' : b5 = w.heap.size ∨ w4.heap.size ≤ b5 := hb5
        clear hb5
        have hgq : w.heap.size + 1 < g := hgq0
        have hzz : ∃ (AZ : Option Addr) (cZ bZ : Nat), (RV.mk N (lateR N X Y) AZ cZ bZ).Lies w5 w.heap.size ∧ bZ ≠ g ∧ bZ ≠ w.heap.size + 1 ∧ Calls Tryz.prog 44 #[.agg #[.int .i64 N, .slice AX X.length cX], .agg #[.int .i64 N, .slice A5 Y.length c5]] w5 fun e w' => e = .returned (.agg #[.int .i64 N, .slice AZ (lateR N X Y).length cZ]) ∧ Below w5.heap.size w5 w' := by
          have hcall := impl_later_any N AX A5 cX c5 X Y w5 (HVX.out.intsL HXO.out) (HVT.out.intsL HYO.out) HXO.out HYO.out
          by_cases hl : codI N X < codI N Y
          · unfold lateR
            rw [if_pos hl] at hcall ⊢
            exact ⟨A5, c5, b5, HVT.out, by omega, by omega, hcall⟩
          · unfold lateR
            rw [if_neg hl] at hcall ⊢
            exact ⟨AX, cX, bX, HVX.out, hg1, hg2, hcall⟩
        obtain ⟨AZ, cZ, bZ, hzl, hzg, hzq, hcall⟩ := hzz
        have HCZ := Lib.hid hcall
        clear HVX HVT hcall
        have HVX := Lib.hid hzl
        clear hzl
        generalize lateR N X Y = Z at *
        clear p0 p1 s0 s1
        obtain ⟨⟨p0, p1, _, _, _⟩, _⟩ := HVA.out
        obtain ⟨s0, s1, sf0, sf1, _⟩ := HLW.out
        go_wp2_with fail
        (refine hK.out _ _ ?_ (fun hHeld2 => ?_); (focus ((try dsimp only); exact ⟨p0, p1⟩)); (clear hK K); (try simp only [Act.put, List.getElem_toArray, List.getElem_cons_zero, List.getElem_cons_succ, List.setIfInBounds_toArray, List.set_cons_zero, List.set_cons_succ]))
        (refine wpAnyH_ready (rs := [5]) (by kernel_rfl) (by simp) ?_; refine AllReadyH.cons rfl (fun K hK => ?_) AllReadyH.nil; go_simp)
        go_at_call 44
        refine HCZ.out.mono ?_
        rintro e w6 ⟨rfl, hb⟩
        have HBW := Lib.hid (HBW.out.trans (hb.mono HBW.out.size))
        try have HVA := Lib.hid (HVA.out.lift hb)
        try have HVB := Lib.hid (HVB.out.lift hb)
        try have HVC := Lib.hid (HVC.out.lift hb)
        try have HVT := Lib.hid (HVT.out.lift hb)
        try have HVX := Lib.hid (HVX.out.lift hb)
        try have HVM := Lib.hid (HVM.out.lift hb)
        try have HVF := Lib.hid (HVF.out.lift hb)
        try have HVP := Lib.hid (HVP.out.lift hb)
        try have HVQ := Lib.hid (HVQ.out.lift hb)
        try have HLA := Lib.hid (HLA.out.lift hb)
        try have HLW := Lib.hid (HLW.out.lift hb)
        try have HI := Lib.hid (HI.out.lift hb)
        try have HRB := Lib.hid (HRB.out.trans (hb.mono HRB.out.size))
        try have HWW := Lib.hid (HWW.out.trans (hb.mono HWW.out.size))
        clear hb
        clear p0 p1 s0 s1 sf0 sf1
        obtain ⟨⟨p0, p1, _, _, _⟩, _⟩ := HVA.out
        obtain ⟨s0, s1, sf0, sf1, _⟩ := HLW.out
        go_wp2_with fail
        (refine hK.out _ _ ?_ (fun hHeld2 => ?_); (focus ((try dsimp only); exact ⟨p0, p1⟩)); (clear hK K); (try simp only [Act.put, List.getElem_toArray, List.getElem_cons_zero, List.getElem_cons_succ, List.setIfInBounds_toArray, List.set_cons_zero, List.set_cons_succ]))
        (refine wpAnyH_ready (rs := [6]) (by kernel_rfl) (by simp) ?_; refine AllReadyH.cons rfl (fun K hK => ?_) AllReadyH.nil; go_simp)
        have HLW2 := Lib.hid ((HLW.out.set0 (.int .i64 N)).set1 (.slice AZ Z.length cZ))
        have HRC2 := Lib.hid ((HVA.out.1.far (p := ⟨g, 0, none⟩) (show w.heap.size ≠ g by omega) (.int .i64 N)).far (p := ⟨g, 1, none⟩) (show w.heap.size ≠ g by omega) (.slice AZ Z.length cZ))
        have HLA2 := Lib.hid ((HLA.out.far (p := ⟨g, 0, none⟩) (show w.heap.size + 1 ≠ g by omega) (.int .i64 N)).far (p := ⟨g, 1, none⟩) (show w.heap.size + 1 ≠ g by omega) (.slice AZ Z.length cZ))
        have HVX2 := Lib.hid ((HVX.out.far (p := ⟨g, 0, none⟩) hzg (.int .i64 N)).far (p := ⟨g, 1, none⟩) hzg (.slice AZ Z.length cZ))
        have HBW2 := Lib.hid ((HBW.out.setCell (p := ⟨g, 0, none⟩) (show w.heap.size ≤ g by omega) (.int .i64 N)).setCell (p := ⟨g, 1, none⟩) (show w.heap.size ≤ g by omega) (.slice AZ Z.length cZ))
        clear p0 p1 s0 s1 sf0 sf1
        obtain ⟨p0, p1, _, _, _⟩ := HRC2.out
        obtain ⟨s0, s1, _, _, _⟩ := HLW2.out
        (refine hK.out _ _ ?_ (fun hHeld2 => ?_); (focus ((try dsimp only); exact ⟨p0, p1⟩)); (clear hK K); (try simp only [Act.put, List.getElem_toArray, List.getElem_cons_zero, List.getElem_cons_succ, List.setIfInBounds_toArray, List.set_cons_zero, List.set_cons_succ]))
        refine wpAnyH_done (by kernel_rfl) ?_ _
        go_wp2_with fail
        go_roundw
        case rel => exact ⟨j + 1, AZ, cZ, bZ, by omega, by go_num, by rw [show clsR N bs (j + 1) = Z1 from HZ1.out, HSU.out]; exact HVX2.out, hzg, hzq, by rw [show clsR N bs (j + 1) = Z1 from HZ1.out, HSU.out]; exact HLW2.out, HRC2.out, HLA2.out, HBW2.out, ((HFR0.out.trans (Frm.pure HWW.out _)).setCell (p := ⟨g, 0, none⟩) rfl (.int .i64 N)).setCell (p := ⟨g, 1, none⟩) rfl (.slice AZ Z.length cZ)⟩
        case measure => simp [intOf]; omega
      · go_simp
        go_at_call 53
        refine (HSJ.out _ HVA.out.2).mono ?_
        rintro e w4 ⟨A4, c4, rfl, hrw, hb⟩
        have hz4 := hb.size
        obtain ⟨b4, hl4, _⟩ := hrw.rvL w.heap.size (by have := HLA.out.2.2.2.2; omega) (by have := HLA.out.2.2.2.2; omega) N c4
        clear hrw
        have HBW := Lib.hid (HBW.out.trans (hb.mono HBW.out.size))
        try have HVA := Lib.hid (HVA.out.lift hb)
        try have HVB := Lib.hid (HVB.out.lift hb)
        try have HVC := Lib.hid (HVC.out.lift hb)
        try have HVT := Lib.hid (HVT.out.lift hb)
        try have HVX := Lib.hid (HVX.out.lift hb)
        try have HVM := Lib.hid (HVM.out.lift hb)
        try have HVF := Lib.hid (HVF.out.lift hb)
        try have HVP := Lib.hid (HVP.out.lift hb)
        try have HVQ := Lib.hid (HVQ.out.lift hb)
        try have HLA := Lib.hid (HLA.out.lift hb)
        try have HLW := Lib.hid (HLW.out.lift hb)
        try have HI := Lib.hid (HI.out.lift hb)
        try have HRB := Lib.hid (HRB.out.trans (hb.mono HRB.out.size))
        try have HWW := Lib.hid (HWW.out.trans (hb.mono HWW.out.size))
        clear hb
        have HVM := Lib.hid hl4
        clear hl4 p0 p1 s0 s1
        obtain ⟨⟨p0, p1, _, _, _⟩, _⟩ := HVA.out
        obtain ⟨s0, s1, _, _, _⟩ := HLW.out
        go_wp2_with fail
        (refine hK.out _ _ ?_ (fun hHeld2 => ?_); (focus ((try dsimp only); exact ⟨p0, p1⟩)); (clear hK K); (try simp only [Act.put, List.getElem_toArray, List.getElem_cons_zero, List.getElem_cons_succ, List.setIfInBounds_toArray, List.set_cons_zero, List.set_cons_succ]))
        refine wpAnyH_ready (rs := [0, 4]) (by kernel_rfl) (by simp) ?_
        refine AllReadyH.cons rfl (fun K hK => ?_) (AllReadyH.cons rfl (fun K hK => ?_) AllReadyH.nil)
        · as_aux_lemma =>
          clear s0 s1
          obtain ⟨s0, s1, _, _, _⟩ := HLW.out
          go_simp
          (refine hK.out _ _ ?_ (fun hHeld2 => ?_); (focus ((try dsimp only); exact ⟨p0, p1⟩)); (clear hK K); (try simp only [Act.put, List.getElem_toArray, List.getElem_cons_zero, List.getElem_cons_succ, List.setIfInBounds_toArray, List.set_cons_zero, List.set_cons_succ]))
          (refine wpAnyH_ready (rs := [4]) (by kernel_rfl) (by simp) ?_; refine AllReadyH.cons rfl (fun K hK => ?_) AllReadyH.nil; go_simp)
          go_at_call 22
          refine (HFJ.out A4 c4 _ (HVM.out.intsL HMO.out)).mono ?_
          rintro e w5 ⟨A5, c5, rfl, hrw, hb⟩
          clear HVM
          have hz5 := hb.size
          obtain ⟨b5, hl5, hb5⟩ := hrw.rvL w.heap.size (by have := HLA.out.2.2.2.2; omega) (by have := HLA.out.2.2.2.2; omega) N c5
          have hq5 : w.heap.size + 1 < w4.heap.size := HLA.out.2.2.2.2
          have HBW := Lib.hid (HBW.out.trans (hb.mono HBW.out.size))
          try have HVA := Lib.hid (HVA.out.lift hb)
          try have HVB := Lib.hid (HVB.out.lift hb)
          try have HVC := Lib.hid (HVC.out.lift hb)
          try have HVT := Lib.hid (HVT.out.lift hb)
          try have HVX := Lib.hid (HVX.out.lift hb)
          try have HVM := Lib.hid (HVM.out.lift hb)
          try have HVF := Lib.hid (HVF.out.lift hb)
          try have HVP := Lib.hid (HVP.out.lift hb)
          try have HVQ := Lib.hid (HVQ.out.lift hb)
          try have HLA := Lib.hid (HLA.out.lift hb)
          try have HLW := Lib.hid (HLW.out.lift hb)
          try have HI := Lib.hid (HI.out.lift hb)
          try have HRB := Lib.hid (HRB.out.trans (hb.mono HRB.out.size))
          try have HWW := Lib.hid (HWW.out.trans (hb.mono HWW.out.size))
          clear hb
          have HVT := Lib.hid hl5
          clear hrw hl5
          have hb5' : b5 = w.heap.size ∨ w4.heap.size ≤ b5 := hb5
          clear hb5
          have hgq : w.heap.size + 1 < g := hgq0
          have hzz : ∃ (AZ : Option Addr) (cZ bZ : Nat), (RV.mk N (lateR N X Y) AZ cZ bZ).Lies w5 w.heap.size ∧ bZ ≠ g ∧ bZ ≠ w.heap.size + 1 ∧ Calls Tryz.prog 44 #[.agg #[.int .i64 N, .slice AX X.length cX], .agg #[.int .i64 N, .slice A5 Y.length c5]] w5 fun e w' => e = .returned (.agg #[.int .i64 N, .slice AZ (lateR N X Y).length cZ]) ∧ Below w5.heap.size w5 w' := by
            have hcall := impl_later_any N AX A5 cX c5 X Y w5 (HVX.out.intsL HXO.out) (HVT.out.intsL HYO.out) HXO.out HYO.out
            by_cases hl : codI N X < codI N Y
            · unfold lateR
              rw [if_pos hl] at hcall ⊢
              exact ⟨A5, c5, b5, HVT.out, by omega, by omega, hcall⟩
            · unfold lateR
              rw [if_neg hl] at hcall ⊢
              exact ⟨AX, cX, bX, HVX.out, hg1, hg2, hcall⟩
          obtain ⟨AZ, cZ, bZ, hzl, hzg, hzq, hcall⟩ := hzz
          have HCZ := Lib.hid hcall
          clear HVX HVT hcall
          have HVX := Lib.hid hzl
          clear hzl
          generalize lateR N X Y = Z at *
          clear p0 p1 s0 s1
          obtain ⟨⟨p0, p1, _, _, _⟩, _⟩ := HVA.out
          obtain ⟨s0, s1, sf0, sf1, _⟩ := HLW.out
          go_wp2_with fail
          (refine hK.out _ _ ?_ (fun hHeld2 => ?_); (focus ((try dsimp only); exact ⟨p0, p1⟩)); (clear hK K); (try simp only [Act.put, List.getElem_toArray, List.getElem_cons_zero, List.getElem_cons_succ, List.setIfInBounds_toArray, List.set_cons_zero, List.set_cons_succ]))
          (refine wpAnyH_ready (rs := [5]) (by kernel_rfl) (by simp) ?_; refine AllReadyH.cons rfl (fun K hK => ?_) AllReadyH.nil; go_simp)
          go_at_call 44
          refine HCZ.out.mono ?_
          rintro e w6 ⟨rfl, hb⟩
          have HBW := Lib.hid (HBW.out.trans (hb.mono HBW.out.size))
          try have HVA := Lib.hid (HVA.out.lift hb)
          try have HVB := Lib.hid (HVB.out.lift hb)
          try have HVC := Lib.hid (HVC.out.lift hb)
          try have HVT := Lib.hid (HVT.out.lift hb)
          try have HVX := Lib.hid (HVX.out.lift hb)
          try have HVM := Lib.hid (HVM.out.lift hb)
          try have HVF := Lib.hid (HVF.out.lift hb)
          try have HVP := Lib.hid (HVP.out.lift hb)
          try have HVQ := Lib.hid (HVQ.out.lift hb)
          try have HLA := Lib.hid (HLA.out.lift hb)
          try have HLW := Lib.hid (HLW.out.lift hb)
          try have HI := Lib.hid (HI.out.lift hb)
          try have HRB := Lib.hid (HRB.out.trans (hb.mono HRB.out.size))
          try have HWW := Lib.hid (HWW.out.trans (hb.mono HWW.out.size))
          clear hb
          clear p0 p1 s0 s1 sf0 sf1
          obtain ⟨⟨p0, p1, _, _, _⟩, _⟩ := HVA.out
          obtain ⟨s0, s1, sf0, sf1, _⟩ := HLW.out
          go_wp2_with fail
          (refine hK.out _ _ ?_ (fun hHeld2 => ?_); (focus ((try dsimp only); exact ⟨p0, p1⟩)); (clear hK K); (try simp only [Act.put, List.getElem_toArray, List.getElem_cons_zero, List.getElem_cons_succ, List.setIfInBounds_toArray, List.set_cons_zero, List.set_cons_succ]))
          (refine wpAnyH_ready (rs := [6]) (by kernel_rfl) (by simp) ?_; refine AllReadyH.cons rfl (fun K hK => ?_) AllReadyH.nil; go_simp)
          have HLW2 := Lib.hid ((HLW.out.set0 (.int .i64 N)).set1 (.slice AZ Z.length cZ))
          have HRC2 := Lib.hid ((HVA.out.1.far (p := ⟨g, 0, none⟩) (show w.heap.size ≠ g by omega) (.int .i64 N)).far (p := ⟨g, 1, none⟩) (show w.heap.size ≠ g by omega) (.slice AZ Z.length cZ))
          have HLA2 := Lib.hid ((HLA.out.far (p := ⟨g, 0, none⟩) (show w.heap.size + 1 ≠ g by omega) (.int .i64 N)).far (p := ⟨g, 1, none⟩) (show w.heap.size + 1 ≠ g by omega) (.slice AZ Z.length cZ))
          have HVX2 := Lib.hid ((HVX.out.far (p := ⟨g, 0, none⟩) hzg (.int .i64 N)).far (p := ⟨g, 1, none⟩) hzg (.slice AZ Z.length cZ))
          have HBW2 := Lib.hid ((HBW.out.setCell (p := ⟨g, 0, none⟩) (show w.heap.size ≤ g by omega) (.int .i64 N)).setCell (p := ⟨g, 1, none⟩) (show w.heap.size ≤ g by omega) (.slice AZ Z.length cZ))
          clear p0 p1 s0 s1 sf0 sf1
          obtain ⟨p0, p1, _, _, _⟩ := HRC2.out
          obtain ⟨s0, s1, _, _, _⟩ := HLW2.out
          (refine hK.out _ _ ?_ (fun hHeld2 => ?_); (focus ((try dsimp only); exact ⟨p0, p1⟩)); (clear hK K); (try simp only [Act.put, List.getElem_toArray, List.getElem_cons_zero, List.getElem_cons_succ, List.setIfInBounds_toArray, List.set_cons_zero, List.set_cons_succ]))
          refine wpAnyH_done (by kernel_rfl) ?_ _
          go_wp2_with fail
          go_roundw
          case rel => exact ⟨j + 1, AZ, cZ, bZ, by omega, by go_num, by rw [show clsR N bs (j + 1) = Z1 from HZ1.out, HSU.out]; exact HVX2.out, hzg, hzq, by rw [show clsR N bs (j + 1) = Z1 from HZ1.out, HSU.out]; exact HLW2.out, HRC2.out, HLA2.out, HBW2.out, ((HFR0.out.trans (Frm.pure HWW.out _)).setCell (p := ⟨g, 0, none⟩) rfl (.int .i64 N)).setCell (p := ⟨g, 1, none⟩) rfl (.slice AZ Z.length cZ)⟩
          case measure => simp [intOf]; omega
        · as_aux_lemma =>
          go_simp
          go_at_call 22
          refine (HFJ.out A4 c4 _ (HVM.out.intsL HMO.out)).mono ?_
          rintro e w5 ⟨A5, c5, rfl, hrw, hb⟩
          clear HVM
          have hz5 := hb.size
          obtain ⟨b5, hl5, hb5⟩ := hrw.rvL w.heap.size (by have := HLA.out.2.2.2.2; omega) (by have := HLA.out.2.2.2.2; omega) N c5
          have hq5 : w.heap.size + 1 < w4.heap.size := HLA.out.2.2.2.2
          have HBW := Lib.hid (HBW.out.trans (hb.mono HBW.out.size))
          try have HVA := Lib.hid (HVA.out.lift hb)
          try have HVB := Lib.hid (HVB.out.lift hb)
          try have HVC := Lib.hid (HVC.out.lift hb)
          try have HVT := Lib.hid (HVT.out.lift hb)
          try have HVX := Lib.hid (HVX.out.lift hb)
          try have HVM := Lib.hid (HVM.out.lift hb)
          try have HVF := Lib.hid (HVF.out.lift hb)
          try have HVP := Lib.hid (HVP.out.lift hb)
          try have HVQ := Lib.hid (HVQ.out.lift hb)
          try have HLA := Lib.hid (HLA.out.lift hb)
          try have HLW := Lib.hid (HLW.out.lift hb)
          try have HI := Lib.hid (HI.out.lift hb)
          try have HRB := Lib.hid (HRB.out.trans (hb.mono HRB.out.size))
          try have HWW := Lib.hid (HWW.out.trans (hb.mono HWW.out.size))
          clear hb
          have HVT := Lib.hid hl5
          clear hrw hl5
          have hb5' : b5 = w.heap.size ∨ w4.heap.size ≤ b5 := hb5
          clear hb5
          have hgq : w.heap.size + 1 < g := hgq0
          have hzz : ∃ (AZ : Option Addr) (cZ bZ : Nat), (RV.mk N (lateR N X Y) AZ cZ bZ).Lies w5 w.heap.size ∧ bZ ≠ g ∧ bZ ≠ w.heap.size + 1 ∧ Calls Tryz.prog 44 #[.agg #[.int .i64 N, .slice AX X.length cX], .agg #[.int .i64 N, .slice A5 Y.length c5]] w5 fun e w' => e = .returned (.agg #[.int .i64 N, .slice AZ (lateR N X Y).length cZ]) ∧ Below w5.heap.size w5 w' := by
            have hcall := impl_later_any N AX A5 cX c5 X Y w5 (HVX.out.intsL HXO.out) (HVT.out.intsL HYO.out) HXO.out HYO.out
            by_cases hl : codI N X < codI N Y
            · unfold lateR
              rw [if_pos hl] at hcall ⊢
              exact ⟨A5, c5, b5, HVT.out, by omega, by omega, hcall⟩
            · unfold lateR
              rw [if_neg hl] at hcall ⊢
              exact ⟨AX, cX, bX, HVX.out, hg1, hg2, hcall⟩
          obtain ⟨AZ, cZ, bZ, hzl, hzg, hzq, hcall⟩ := hzz
          have HCZ := Lib.hid hcall
          clear HVX HVT hcall
          have HVX := Lib.hid hzl
          clear hzl
          generalize lateR N X Y = Z at *
          clear p0 p1 s0 s1
          obtain ⟨⟨p0, p1, _, _, _⟩, _⟩ := HVA.out
          obtain ⟨s0, s1, sf0, sf1, _⟩ := HLW.out
          go_wp2_with fail
          (refine hK.out _ _ ?_ (fun hHeld2 => ?_); (focus ((try dsimp only); exact ⟨p0, p1⟩)); (clear hK K); (try simp only [Act.put, List.getElem_toArray, List.getElem_cons_zero, List.getElem_cons_succ, List.setIfInBounds_toArray, List.set_cons_zero, List.set_cons_succ]))
          (refine wpAnyH_ready (rs := [0]) (by kernel_rfl) (by simp) ?_; refine AllReadyH.cons rfl (fun K hK => ?_) AllReadyH.nil; go_simp)
          (refine hK.out _ _ ?_ (fun hHeld2 => ?_); (focus ((try dsimp only); exact ⟨p0, p1⟩)); (clear hK K); (try simp only [Act.put, List.getElem_toArray, List.getElem_cons_zero, List.getElem_cons_succ, List.setIfInBounds_toArray, List.set_cons_zero, List.set_cons_succ]))
          (refine wpAnyH_ready (rs := [5]) (by kernel_rfl) (by simp) ?_; refine AllReadyH.cons rfl (fun K hK => ?_) AllReadyH.nil; go_simp)
          go_at_call 44
          refine HCZ.out.mono ?_
          rintro e w6 ⟨rfl, hb⟩
          have HBW := Lib.hid (HBW.out.trans (hb.mono HBW.out.size))
          try have HVA := Lib.hid (HVA.out.lift hb)
          try have HVB := Lib.hid (HVB.out.lift hb)
          try have HVC := Lib.hid (HVC.out.lift hb)
          try have HVT := Lib.hid (HVT.out.lift hb)
          try have HVX := Lib.hid (HVX.out.lift hb)
          try have HVM := Lib.hid (HVM.out.lift hb)
          try have HVF := Lib.hid (HVF.out.lift hb)
          try have HVP := Lib.hid (HVP.out.lift hb)
          try have HVQ := Lib.hid (HVQ.out.lift hb)
          try have HLA := Lib.hid (HLA.out.lift hb)
          try have HLW := Lib.hid (HLW.out.lift hb)
          try have HI := Lib.hid (HI.out.lift hb)
          try have HRB := Lib.hid (HRB.out.trans (hb.mono HRB.out.size))
          try have HWW := Lib.hid (HWW.out.trans (hb.mono HWW.out.size))
          clear hb
          clear p0 p1 s0 s1 sf0 sf1
          obtain ⟨⟨p0, p1, _, _, _⟩, _⟩ := HVA.out
          obtain ⟨s0, s1, sf0, sf1, _⟩ := HLW.out
          go_wp2_with fail
          (refine hK.out _ _ ?_ (fun hHeld2 => ?_); (focus ((try dsimp only); exact ⟨p0, p1⟩)); (clear hK K); (try simp only [Act.put, List.getElem_toArray, List.getElem_cons_zero, List.getElem_cons_succ, List.setIfInBounds_toArray, List.set_cons_zero, List.set_cons_succ]))
          (refine wpAnyH_ready (rs := [6]) (by kernel_rfl) (by simp) ?_; refine AllReadyH.cons rfl (fun K hK => ?_) AllReadyH.nil; go_simp)
          have HLW2 := Lib.hid ((HLW.out.set0 (.int .i64 N)).set1 (.slice AZ Z.length cZ))
          have HRC2 := Lib.hid ((HVA.out.1.far (p := ⟨g, 0, none⟩) (show w.heap.size ≠ g by omega) (.int .i64 N)).far (p := ⟨g, 1, none⟩) (show w.heap.size ≠ g by omega) (.slice AZ Z.length cZ))
          have HLA2 := Lib.hid ((HLA.out.far (p := ⟨g, 0, none⟩) (show w.heap.size + 1 ≠ g by omega) (.int .i64 N)).far (p := ⟨g, 1, none⟩) (show w.heap.size + 1 ≠ g by omega) (.slice AZ Z.length cZ))
          have HVX2 := Lib.hid ((HVX.out.far (p := ⟨g, 0, none⟩) hzg (.int .i64 N)).far (p := ⟨g, 1, none⟩) hzg (.slice AZ Z.length cZ))
          have HBW2 := Lib.hid ((HBW.out.setCell (p := ⟨g, 0, none⟩) (show w.heap.size ≤ g by omega) (.int .i64 N)).setCell (p := ⟨g, 1, none⟩) (show w.heap.size ≤ g by omega) (.slice AZ Z.length cZ))
          clear p0 p1 s0 s1 sf0 sf1
          obtain ⟨p0, p1, _, _, _⟩ := HRC2.out
          obtain ⟨s0, s1, _, _, _⟩ := HLW2.out
          (refine hK.out _ _ ?_ (fun hHeld2 => ?_); (focus ((try dsimp only); exact ⟨p0, p1⟩)); (clear hK K); (try simp only [Act.put, List.getElem_toArray, List.getElem_cons_zero, List.getElem_cons_succ, List.setIfInBounds_toArray, List.set_cons_zero, List.set_cons_succ]))
          refine wpAnyH_done (by kernel_rfl) ?_ _
          go_wp2_with fail
          go_roundw
          case rel => exact ⟨j + 1, AZ, cZ, bZ, by omega, by go_num, by rw [show clsR N bs (j + 1) = Z1 from HZ1.out, HSU.out]; exact HVX2.out, hzg, hzq, by rw [show clsR N bs (j + 1) = Z1 from HZ1.out, HSU.out]; exact HLW2.out, HRC2.out, HLA2.out, HBW2.out, ((HFR0.out.trans (Frm.pure HWW.out _)).setCell (p := ⟨g, 0, none⟩) rfl (.int .i64 N)).setCell (p := ⟨g, 1, none⟩) rfl (.slice AZ Z.length cZ)⟩
          case measure => simp [intOf]; omega
    · have hjN : j = (uniV N).length := by omega
      subst hjN
      have HV := Lib.hid HV0.out
      generalize clsR N bs (uniV N).length = X at *
      obtain ⟨s0, s1, _, _, _⟩ := HLW.out
      obtain ⟨r0, r1, rf0, rf1, _⟩ := HLA.out
      go_wp2_with fail
      refine bodyPost_ret (v := .agg #[.int .i64 N, .slice AX X.length cX]) (by simp [results, Tryz.results26, go_sem, r0, r1]) rfl ?_
      rw [HV.out]
      exact ⟨AX, cX, rfl, ((HVX.out.far (p := ⟨w.heap.size + 1, 0, none⟩) hg2 _).far (p := ⟨w.heap.size + 1, 1, none⟩) hg2 _).rwL, (HBW.out.setCell (p := ⟨w.heap.size + 1, 0, none⟩) (Nat.le_add_right _ _) _).setCell (p := ⟨w.heap.size + 1, 1, none⟩) (Nat.le_add_right _ _) _⟩

end Go.Proofs.YtjoeglekcnaebaaGreatDoor
