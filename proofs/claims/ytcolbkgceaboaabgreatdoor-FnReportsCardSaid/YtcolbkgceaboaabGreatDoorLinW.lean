/-
  RhythmLine of both: the walks.
-/
import Derived.Test.YtcolbkgceaboaabGreatDoorLinR
namespace Go.Proofs.YtcolbkgceaboaabGreatDoor
open Go.RowKit
set_option linter.unusedVariables false
set_option linter.unusedSimpArgs false

theorem Below.drewQ_ {B : Nat} {a w : World} (h : Below B a w) : Below B a w.drew := ⟨h.os, h.tape, h.output, h.size, h.block⟩
theorem strs_cells (w : World) (g : Nat) (xs : List Txt) (hl : xs.length ≤ 1048576) (hg : w.heap.size = g) : Strs (w.alloc (.cells (xs.map emS).toArray 9)) (w.alloc (.cells (xs.map emS).toArray 9)).heap.size (some ⟨g, 0, none⟩) xs := by
  subst hg
  refine ⟨hl, fun _ => ⟨w.heap.size, 0, rfl, by simp, fun i hi => ?_⟩⟩
  rw [cell_of_row _ _ _ _ _ _ (heap_alloc_new w _), Nat.zero_add]
  rw [List.getElem?_toArray, List.getElem?_map, List.getElem?_eq_getElem hi, List.getD_eq_getElem?_getD, List.getElem?_eq_getElem hi]
  rfl

set_option maxRecDepth 100000 in
set_option maxHeartbeats 4000000 in
theorem impl_RhythmLine_ok (N : Nat) (A : Option Addr) (cap : Nat) (bs : List Int) (w : World) (hA : Ints w w.heap.size A bs) (hok : RhOk N bs) (hcap : bs.length ≤ cap) (hP : Pow w) (hM : MaxL w) :
    Calls Tryz.prog 13 #[.agg #[.int .i64 N, .slice A bs.length cap]] w fun e w' => e = .returned (.string (mkS (linL N bs))) ∧ Below w.heap.size w w' := by
  have hn1 : 1 ≤ N := by have := hok.1; omega
  have hn2 : N ≤ 24 := by have := hok.2.1; omega
  have hfN : Fits (N : Int) := by unfold Fits; omega
  have HRO := Lib.hid (fun V h => impl_RhythmOk_any N A cap bs V hfN h)
  rw [rhB_iff.2 hok] at HRO
  have HFS := Lib.hid (fun V h (hb : Below w.heap.size w V) => impl_FormatSteps_any N A cap bs V hfN h (hP.below hb) (hM.below hb))
  have HTX := Lib.hid (fun V h => impl_text_any N A cap bs V h hok)
  have HPE := Lib.hid (fun V h => impl_period_any N A cap bs V h hok)
  have HVE := Lib.hid (fun V h => impl_vector_any N A cap bs V h hok hcap)
  have hpf : Fits (perV N bs : Int) := by have := (perV_is hok).2.1; unfold Fits; omega
  have HFI := Lib.hid (fun V (hb : Below w.heap.size w V) => impl_FormatInt_any (perV N bs) hpf V (hP.below hb))
  have hvl : (vecV N bs).length ≤ 24 := by rw [vecV_len]; omega
  have HVF := Lib.hid (vecV_fit hok)
  have HFN := Lib.hid (fun A' c V h (hb : Below w.heap.size w V) => impl_FormatNumbers_any A' c (vecV N bs) V h (by omega) (hP.below hb))
  have hnl := numsT_len (vecV_fit hok) hvl
  have hsl := stpL_len N bs
  have hpl := itoL_len _ hpf
  have HLN := Lib.hid (show linL N bs = joinT [textF N bs (fun _ => 120), [115, 116, 101, 112, 115], stpL N bs, [112, 101, 114, 105, 111, 100], itoL (perV N bs), [118, 101, 99, 116, 111, 114], numsT (vecV N bs)] [32] from rfl)
  have htl : (textF N bs (fun _ => 120)).length ≤ 504 := by rw [textF_len]; omega
  have HSV := Lib.hid (show stpL N bs = if stpV N bs = [] then [45] else stpV N bs from rfl)
  have HA := Lib.hid hA
  generalize perV N bs = per at *
  generalize vecV N bs = vec at *
  generalize textF N bs (fun _ => 120) = TX at *
  generalize stpV N bs = SV at *
  generalize stpL N bs = SL at *
  generalize linL N bs = LL at *
  generalize numsT vec = NV at *
  obtain ⟨IP, hIP⟩ : ∃ t, itoL (per : Int) = t := ⟨_, rfl⟩
  rw [hIP] at HFI HLN hpl
  have HJ := Lib.hid (fun V g (hg : V.heap.size = g) => impl_Join_any (some ⟨g, 0, none⟩) 7 [TX, [115, 116, 101, 112, 115], SL, [112, 101, 114, 105, 111, 100], IP, [118, 101, 99, 116, 111, 114], NV] [32] 504 _ (strs_cells V g _ (by simp) hg) (by simp) (by
    intro x hx
    simp at hx
    rcases hx with rfl | rfl | rfl | rfl | rfl | rfl | rfl <;> first | assumption | (simp; done) | omega) (by simp))
  rw [← HLN.out] at HJ
  obtain ⟨c0, c1⟩ := box2 (Below.refl (w.heap.size + 1) (w.alloc (.cells #[.int .i64 N, .slice A bs.length cap] 25)))
  have HB0 := Lib.hid ((Below.refl w.heap.size w).alloc (Nat.le_refl _) (.cells #[.int .i64 N, .slice A bs.length cap] 25))
  have HC0 := Lib.hid (Cells2.new w (.int .i64 N) (.slice A bs.length cap) 25)
  have HI0 := Lib.hid (HA.out.lift HB0.out)
  clear hA hok hP hM hIP
  go_enter Tryz.func13, Tryz.ntmps13
  go_wp2_with fail
  refine (HRO.out _ HI0.out).mono ?_
  rintro e w1 ⟨rfl, hb⟩
  have HB1 := Lib.hid (HB0.out.trans (hb.mono HB0.out.size))
  have HC1 := Lib.hid (HC0.out.below hb HC0.out.2.2.2.2)
  have HI1 := Lib.hid (HI0.out.lift hb)
  clear hb c0 c1
  obtain ⟨c0, c1, _, _, _⟩ := HC1.out
  go_wp2_with fail
  refine (HFS.out _ HI1.out HB1.out).mono ?_
  rintro e w2 ⟨rfl, hb⟩
  have HB2 := Lib.hid (HB1.out.trans (hb.mono HB1.out.size))
  have HC2 := Lib.hid (HC1.out.below hb HC1.out.2.2.2.2)
  have HI2 := Lib.hid (HI1.out.lift hb)
  clear hb c0 c1
  obtain ⟨c0, c1, _, _, _⟩ := HC2.out
  by_cases hs0 : SV = []
  · subst hs0
    have hsl0 : SL = [45] := by rw [HSV.out, if_pos rfl]
    subst hsl0
    have hemp : mkS ([] : List UInt8) = ⟨#[]⟩ := rfl
    go_wp2_with fail
    have HBd := Lib.hid (Below.drewQ_ HB2.out)
    have HCd := Lib.hid (show Cells2 w2.drew w.heap.size (.int .i64 N) (.slice A bs.length cap) from HC2.out)
    have HId := Lib.hid (show Ints w2.drew w2.drew.heap.size A bs from HI2.out)
    (refine wp_region_held_drew (S := (fun w' => w'.cell? ⟨w.heap.size, 0, none⟩ = some (.int .i64 N) ∧ w'.cell? ⟨w.heap.size, 1, none⟩ = some (.slice A bs.length cap))) (by kernel_rfl) ?_ (fun hHeld => ?_); (focus ((try dsimp only); exact ⟨c0, c1⟩)))
    ((refine wpAnyH_take (i := 0) (v := ?_) rfl (by kernel_rfl) (by kernel_rfl) (by kernel_rfl) (fun _ _ _ h => h) (Or.inl ⟨by rfl, ?_⟩) (by assumption) ?_; rotate_left; (focus (intro wS hSw; (try dsimp only at hSw); go_simp; (try with_reducible rfl))); (try simp only [Act.put, List.getElem_toArray, List.getElem_cons_zero, List.getElem_cons_succ, List.setIfInBounds_toArray, List.set_cons_zero, List.set_cons_succ])); (refine wpAnyH_take (i := 2) (v := ?_) rfl (by kernel_rfl) (by kernel_rfl) (by kernel_rfl) (fun _ _ _ h => h) (Or.inl ⟨by rfl, ?_⟩) (by assumption) ?_; rotate_left; (focus (intro wS hSw; (try dsimp only at hSw); go_simp; (try with_reducible rfl))); (try simp only [Act.put, List.getElem_toArray, List.getElem_cons_zero, List.getElem_cons_succ, List.setIfInBounds_toArray, List.set_cons_zero, List.set_cons_succ])); (refine wpAnyH_take (i := 3) (v := ?_) rfl (by kernel_rfl) (by kernel_rfl) (by kernel_rfl) (fun _ _ _ h => h) (Or.inl ⟨by rfl, ?_⟩) (by assumption) ?_; rotate_left; (focus (intro wS hSw; (try dsimp only at hSw); go_simp; (try with_reducible rfl))); (try simp only [Act.put, List.getElem_toArray, List.getElem_cons_zero, List.getElem_cons_succ, List.setIfInBounds_toArray, List.set_cons_zero, List.set_cons_succ])); (refine wpAnyH_take (i := 6) (v := ?_) rfl (by kernel_rfl) (by kernel_rfl) (by kernel_rfl) (fun _ _ _ h => h) (Or.inl ⟨by rfl, ?_⟩) (by assumption) ?_; rotate_left; (focus (intro wS hSw; (try dsimp only at hSw); go_simp; (try with_reducible rfl))); (try simp only [Act.put, List.getElem_toArray, List.getElem_cons_zero, List.getElem_cons_succ, List.setIfInBounds_toArray, List.set_cons_zero, List.set_cons_succ])))
    (refine wpAnyH_ready (rs := [1]) (by kernel_rfl) (by simp) ?_; refine AllReadyH.cons rfl (fun K hK => ?_) AllReadyH.nil; go_simp)
    go_at_call 30
    refine (HTX.out _ HId.out).mono ?_
    rintro e w3 ⟨rfl, hb⟩
    have HB3 := Lib.hid (HBd.out.trans (hb.mono HBd.out.size))
    have HC3 := Lib.hid (HCd.out.below hb HCd.out.2.2.2.2)
    have HI3 := Lib.hid (HId.out.lift hb)
    clear hb c0 c1
    obtain ⟨c0, c1, _, _, _⟩ := HC3.out
    go_wp2_with fail
    (refine hK.out _ _ ?_ (fun hHeld2 => ?_); (focus ((try dsimp only); exact ⟨c0, c1⟩)); (clear hK K); (try simp only [Act.put, List.getElem_toArray, List.getElem_cons_zero, List.getElem_cons_succ, List.setIfInBounds_toArray, List.set_cons_zero, List.set_cons_succ]))
    (refine wpAnyH_ready (rs := [4]) (by kernel_rfl) (by simp) ?_; refine AllReadyH.cons rfl (fun K hK => ?_) AllReadyH.nil; go_simp)
    go_at_call 31
    refine (HPE.out _ HI3.out).mono ?_
    rintro e w4 ⟨rfl, hb⟩
    have HB4 := Lib.hid (HB3.out.trans (hb.mono HB3.out.size))
    have HC4 := Lib.hid (HC3.out.below hb HC3.out.2.2.2.2)
    have HI4 := Lib.hid (HI3.out.lift hb)
    clear hb c0 c1
    obtain ⟨c0, c1, _, _, _⟩ := HC4.out
    go_wp2_with fail
    (refine hK.out _ _ ?_ (fun hHeld2 => ?_); (focus ((try dsimp only); exact ⟨c0, c1⟩)); (clear hK K); (try simp only [Act.put, List.getElem_toArray, List.getElem_cons_zero, List.getElem_cons_succ, List.setIfInBounds_toArray, List.set_cons_zero, List.set_cons_succ]))
    (refine wpAnyH_ready (rs := [5]) (by kernel_rfl) (by simp) ?_; refine AllReadyH.cons rfl (fun K hK => ?_) AllReadyH.nil; go_simp)
    go_at_call 7
    refine (HFI.out _ HB4.out).mono ?_
    rintro e w5 ⟨rfl, hb⟩
    have HB5 := Lib.hid (HB4.out.trans (hb.mono HB4.out.size))
    have HC5 := Lib.hid (HC4.out.below hb HC4.out.2.2.2.2)
    have HI5 := Lib.hid (HI4.out.lift hb)
    clear hb c0 c1
    obtain ⟨c0, c1, _, _, _⟩ := HC5.out
    go_wp2_with fail
    (refine hK.out _ _ ?_ (fun hHeld2 => ?_); (focus ((try dsimp only); exact ⟨c0, c1⟩)); (clear hK K); (try simp only [Act.put, List.getElem_toArray, List.getElem_cons_zero, List.getElem_cons_succ, List.setIfInBounds_toArray, List.set_cons_zero, List.set_cons_succ]))
    (refine wpAnyH_ready (rs := [7]) (by kernel_rfl) (by simp) ?_; refine AllReadyH.cons rfl (fun K hK => ?_) AllReadyH.nil; go_simp)
    go_at_call 32
    refine (HVE.out _ HI5.out).mono ?_
    rintro e w6 ⟨A6, c6, rfl, hI6, hb⟩
    have HV6 := Lib.hid hI6
    clear hI6
    have HB6 := Lib.hid (HB5.out.trans (hb.mono HB5.out.size))
    have HC6 := Lib.hid (HC5.out.below hb HC5.out.2.2.2.2)
    have HI6 := Lib.hid (HI5.out.lift hb)
    clear hb c0 c1
    obtain ⟨c0, c1, _, _, _⟩ := HC6.out
    go_wp2_with fail
    (refine hK.out _ _ ?_ (fun hHeld2 => ?_); (focus ((try dsimp only); exact ⟨c0, c1⟩)); (clear hK K); (try simp only [Act.put, List.getElem_toArray, List.getElem_cons_zero, List.getElem_cons_succ, List.setIfInBounds_toArray, List.set_cons_zero, List.set_cons_succ]))
    (refine wpAnyH_ready (rs := [8]) (by kernel_rfl) (by simp) ?_; refine AllReadyH.cons rfl (fun K hK => ?_) AllReadyH.nil; go_simp)
    go_at_call 11
    refine (HFN.out _ _ _ HV6.out HB6.out).mono ?_
    rintro e w7 ⟨rfl, hb⟩
    have HB7 := Lib.hid (HB6.out.trans (hb.mono HB6.out.size))
    have HC7 := Lib.hid (HC6.out.below hb HC6.out.2.2.2.2)
    have HI7 := Lib.hid (HI6.out.lift hb)
    clear hb c0 c1
    obtain ⟨c0, c1, _, _, _⟩ := HC7.out
    go_wp2_with fail
    (refine hK.out _ _ ?_ (fun hHeld2 => ?_); (focus ((try dsimp only); exact ⟨c0, c1⟩)); (clear hK K); (try simp only [Act.put, List.getElem_toArray, List.getElem_cons_zero, List.getElem_cons_succ, List.setIfInBounds_toArray, List.set_cons_zero, List.set_cons_succ]))
    (refine wpAnyH_ready (rs := [9]) (by kernel_rfl) (by simp) ?_; refine AllReadyH.cons rfl (fun K hK => ?_) AllReadyH.nil; go_simp)
    have HB8 := Lib.hid (HB7.out.alloc HB7.out.size (.cells ([TX, [115, 116, 101, 112, 115], [45], [112, 101, 114, 105, 111, 100], IP, [118, 101, 99, 116, 111, 114], NV].map emS).toArray 9))
    clear c0 c1
    obtain ⟨c0, c1, _, _, _⟩ := HC7.out.alloc (.cells ([TX, [115, 116, 101, 112, 115], [45], [112, 101, 114, 105, 111, 100], IP, [118, 101, 99, 116, 111, 114], NV].map emS).toArray 9)
    (refine hK.out _ _ ?_ (fun hHeld2 => ?_); (focus ((try dsimp only); exact ⟨c0, c1⟩)); (clear hK K); (try simp only [Act.put, List.getElem_toArray, List.getElem_cons_zero, List.getElem_cons_succ, List.setIfInBounds_toArray, List.set_cons_zero, List.set_cons_succ]))
    (refine wpAnyH_ready (rs := [10]) (by kernel_rfl) (by simp) ?_; refine AllReadyH.cons rfl (fun K hK => ?_) AllReadyH.nil; go_simp)
    go_at_call 29
    refine (HJ.out w7 w7.heap.size rfl).mono ?_
    rintro e w9 ⟨rfl, hb⟩
    have HB9 := Lib.hid (HB8.out.trans (hb.mono HB8.out.size))
    have HC8 := Lib.hid (HC7.out.alloc (.cells ([TX, [115, 116, 101, 112, 115], [45], [112, 101, 114, 105, 111, 100], IP, [118, 101, 99, 116, 111, 114], NV].map emS).toArray 9))
    clear c0 c1
    obtain ⟨c0, c1, _, _, _⟩ := HC8.out.below hb HC8.out.2.2.2.2
    clear hb
    go_wp2_with fail
    (refine hK.out _ _ ?_ (fun hHeld2 => ?_); (focus ((try dsimp only); exact ⟨c0, c1⟩)); (clear hK K); (try simp only [Act.put, List.getElem_toArray, List.getElem_cons_zero, List.getElem_cons_succ, List.setIfInBounds_toArray, List.set_cons_zero, List.set_cons_succ]))
    (refine wpAnyH_take (i := 11) (v := ?_) rfl (by kernel_rfl) (by kernel_rfl) (by kernel_rfl) (fun _ _ _ h => h) (Or.inl ⟨by rfl, ?_⟩) (by assumption) ?_; rotate_left; (focus (intro wS hSw; (try dsimp only at hSw); go_simp; (try with_reducible rfl))); (try simp only [Act.put, List.getElem_toArray, List.getElem_cons_zero, List.getElem_cons_succ, List.setIfInBounds_toArray, List.set_cons_zero, List.set_cons_succ]))
    refine wpAnyH_done (by kernel_rfl) ?_ _
    clear c0 c1
    go_wp2_with fail
    go_ret
    exact ⟨rfl, HB9.out⟩
  · have hsl0 : SL = SV := by rw [HSV.out, if_neg hs0]
    subst hsl0
    have hne1 : ((mkS SL).toList == (⟨#[]⟩ : ByteArray).toList) = false := by
      rw [Lib.toList_data, Lib.toList_data, show (mkS SL).data.toList = SL from str_mk SL]
      exact beq_eq_false_iff_ne.2 hs0
    have hne2 : ((mkS SL).toList == []) = false := by
      rw [Lib.toList_data, show (mkS SL).data.toList = SL from str_mk SL]
      exact beq_eq_false_iff_ne.2 hs0
    go_wp2_with fail
    have HBd := Lib.hid (Below.drewQ_ HB2.out)
    have HCd := Lib.hid (show Cells2 w2.drew w.heap.size (.int .i64 N) (.slice A bs.length cap) from HC2.out)
    have HId := Lib.hid (show Ints w2.drew w2.drew.heap.size A bs from HI2.out)
    (refine wp_region_held_drew (S := (fun w' => w'.cell? ⟨w.heap.size, 0, none⟩ = some (.int .i64 N) ∧ w'.cell? ⟨w.heap.size, 1, none⟩ = some (.slice A bs.length cap))) (by kernel_rfl) ?_ (fun hHeld => ?_); (focus ((try dsimp only); exact ⟨c0, c1⟩)))
    ((refine wpAnyH_take (i := 0) (v := ?_) rfl (by kernel_rfl) (by kernel_rfl) (by kernel_rfl) (fun _ _ _ h => h) (Or.inl ⟨by rfl, ?_⟩) (by assumption) ?_; rotate_left; (focus (intro wS hSw; (try dsimp only at hSw); go_simp; (try with_reducible rfl))); (try simp only [Act.put, List.getElem_toArray, List.getElem_cons_zero, List.getElem_cons_succ, List.setIfInBounds_toArray, List.set_cons_zero, List.set_cons_succ])); (refine wpAnyH_take (i := 2) (v := ?_) rfl (by kernel_rfl) (by kernel_rfl) (by kernel_rfl) (fun _ _ _ h => h) (Or.inl ⟨by rfl, ?_⟩) (by assumption) ?_; rotate_left; (focus (intro wS hSw; (try dsimp only at hSw); go_simp; (try with_reducible rfl))); (try simp only [Act.put, List.getElem_toArray, List.getElem_cons_zero, List.getElem_cons_succ, List.setIfInBounds_toArray, List.set_cons_zero, List.set_cons_succ])); (refine wpAnyH_take (i := 3) (v := ?_) rfl (by kernel_rfl) (by kernel_rfl) (by kernel_rfl) (fun _ _ _ h => h) (Or.inl ⟨by rfl, ?_⟩) (by assumption) ?_; rotate_left; (focus (intro wS hSw; (try dsimp only at hSw); go_simp; (try with_reducible rfl))); (try simp only [Act.put, List.getElem_toArray, List.getElem_cons_zero, List.getElem_cons_succ, List.setIfInBounds_toArray, List.set_cons_zero, List.set_cons_succ])); (refine wpAnyH_take (i := 6) (v := ?_) rfl (by kernel_rfl) (by kernel_rfl) (by kernel_rfl) (fun _ _ _ h => h) (Or.inl ⟨by rfl, ?_⟩) (by assumption) ?_; rotate_left; (focus (intro wS hSw; (try dsimp only at hSw); go_simp; (try with_reducible rfl))); (try simp only [Act.put, List.getElem_toArray, List.getElem_cons_zero, List.getElem_cons_succ, List.setIfInBounds_toArray, List.set_cons_zero, List.set_cons_succ])))
    (refine wpAnyH_ready (rs := [1]) (by kernel_rfl) (by simp) ?_; refine AllReadyH.cons rfl (fun K hK => ?_) AllReadyH.nil; go_simp)
    go_at_call 30
    refine (HTX.out _ HId.out).mono ?_
    rintro e w3 ⟨rfl, hb⟩
    have HB3 := Lib.hid (HBd.out.trans (hb.mono HBd.out.size))
    have HC3 := Lib.hid (HCd.out.below hb HCd.out.2.2.2.2)
    have HI3 := Lib.hid (HId.out.lift hb)
    clear hb c0 c1
    obtain ⟨c0, c1, _, _, _⟩ := HC3.out
    go_wp2_with fail
    (refine hK.out _ _ ?_ (fun hHeld2 => ?_); (focus ((try dsimp only); exact ⟨c0, c1⟩)); (clear hK K); (try simp only [Act.put, List.getElem_toArray, List.getElem_cons_zero, List.getElem_cons_succ, List.setIfInBounds_toArray, List.set_cons_zero, List.set_cons_succ]))
    (refine wpAnyH_ready (rs := [4]) (by kernel_rfl) (by simp) ?_; refine AllReadyH.cons rfl (fun K hK => ?_) AllReadyH.nil; go_simp)
    go_at_call 31
    refine (HPE.out _ HI3.out).mono ?_
    rintro e w4 ⟨rfl, hb⟩
    have HB4 := Lib.hid (HB3.out.trans (hb.mono HB3.out.size))
    have HC4 := Lib.hid (HC3.out.below hb HC3.out.2.2.2.2)
    have HI4 := Lib.hid (HI3.out.lift hb)
    clear hb c0 c1
    obtain ⟨c0, c1, _, _, _⟩ := HC4.out
    go_wp2_with fail
    (refine hK.out _ _ ?_ (fun hHeld2 => ?_); (focus ((try dsimp only); exact ⟨c0, c1⟩)); (clear hK K); (try simp only [Act.put, List.getElem_toArray, List.getElem_cons_zero, List.getElem_cons_succ, List.setIfInBounds_toArray, List.set_cons_zero, List.set_cons_succ]))
    (refine wpAnyH_ready (rs := [5]) (by kernel_rfl) (by simp) ?_; refine AllReadyH.cons rfl (fun K hK => ?_) AllReadyH.nil; go_simp)
    go_at_call 7
    refine (HFI.out _ HB4.out).mono ?_
    rintro e w5 ⟨rfl, hb⟩
    have HB5 := Lib.hid (HB4.out.trans (hb.mono HB4.out.size))
    have HC5 := Lib.hid (HC4.out.below hb HC4.out.2.2.2.2)
    have HI5 := Lib.hid (HI4.out.lift hb)
    clear hb c0 c1
    obtain ⟨c0, c1, _, _, _⟩ := HC5.out
    go_wp2_with fail
    (refine hK.out _ _ ?_ (fun hHeld2 => ?_); (focus ((try dsimp only); exact ⟨c0, c1⟩)); (clear hK K); (try simp only [Act.put, List.getElem_toArray, List.getElem_cons_zero, List.getElem_cons_succ, List.setIfInBounds_toArray, List.set_cons_zero, List.set_cons_succ]))
    (refine wpAnyH_ready (rs := [7]) (by kernel_rfl) (by simp) ?_; refine AllReadyH.cons rfl (fun K hK => ?_) AllReadyH.nil; go_simp)
    go_at_call 32
    refine (HVE.out _ HI5.out).mono ?_
    rintro e w6 ⟨A6, c6, rfl, hI6, hb⟩
    have HV6 := Lib.hid hI6
    clear hI6
    have HB6 := Lib.hid (HB5.out.trans (hb.mono HB5.out.size))
    have HC6 := Lib.hid (HC5.out.below hb HC5.out.2.2.2.2)
    have HI6 := Lib.hid (HI5.out.lift hb)
    clear hb c0 c1
    obtain ⟨c0, c1, _, _, _⟩ := HC6.out
    go_wp2_with fail
    (refine hK.out _ _ ?_ (fun hHeld2 => ?_); (focus ((try dsimp only); exact ⟨c0, c1⟩)); (clear hK K); (try simp only [Act.put, List.getElem_toArray, List.getElem_cons_zero, List.getElem_cons_succ, List.setIfInBounds_toArray, List.set_cons_zero, List.set_cons_succ]))
    (refine wpAnyH_ready (rs := [8]) (by kernel_rfl) (by simp) ?_; refine AllReadyH.cons rfl (fun K hK => ?_) AllReadyH.nil; go_simp)
    go_at_call 11
    refine (HFN.out _ _ _ HV6.out HB6.out).mono ?_
    rintro e w7 ⟨rfl, hb⟩
    have HB7 := Lib.hid (HB6.out.trans (hb.mono HB6.out.size))
    have HC7 := Lib.hid (HC6.out.below hb HC6.out.2.2.2.2)
    have HI7 := Lib.hid (HI6.out.lift hb)
    clear hb c0 c1
    obtain ⟨c0, c1, _, _, _⟩ := HC7.out
    go_wp2_with fail
    (refine hK.out _ _ ?_ (fun hHeld2 => ?_); (focus ((try dsimp only); exact ⟨c0, c1⟩)); (clear hK K); (try simp only [Act.put, List.getElem_toArray, List.getElem_cons_zero, List.getElem_cons_succ, List.setIfInBounds_toArray, List.set_cons_zero, List.set_cons_succ]))
    (refine wpAnyH_ready (rs := [9]) (by kernel_rfl) (by simp) ?_; refine AllReadyH.cons rfl (fun K hK => ?_) AllReadyH.nil; go_simp)
    have HB8 := Lib.hid (HB7.out.alloc HB7.out.size (.cells ([TX, [115, 116, 101, 112, 115], SL, [112, 101, 114, 105, 111, 100], IP, [118, 101, 99, 116, 111, 114], NV].map emS).toArray 9))
    clear c0 c1
    obtain ⟨c0, c1, _, _, _⟩ := HC7.out.alloc (.cells ([TX, [115, 116, 101, 112, 115], SL, [112, 101, 114, 105, 111, 100], IP, [118, 101, 99, 116, 111, 114], NV].map emS).toArray 9)
    (refine hK.out _ _ ?_ (fun hHeld2 => ?_); (focus ((try dsimp only); exact ⟨c0, c1⟩)); (clear hK K); (try simp only [Act.put, List.getElem_toArray, List.getElem_cons_zero, List.getElem_cons_succ, List.setIfInBounds_toArray, List.set_cons_zero, List.set_cons_succ]))
    (refine wpAnyH_ready (rs := [10]) (by kernel_rfl) (by simp) ?_; refine AllReadyH.cons rfl (fun K hK => ?_) AllReadyH.nil; go_simp)
    go_at_call 29
    refine (HJ.out w7 w7.heap.size rfl).mono ?_
    rintro e w9 ⟨rfl, hb⟩
    have HB9 := Lib.hid (HB8.out.trans (hb.mono HB8.out.size))
    have HC8 := Lib.hid (HC7.out.alloc (.cells ([TX, [115, 116, 101, 112, 115], SL, [112, 101, 114, 105, 111, 100], IP, [118, 101, 99, 116, 111, 114], NV].map emS).toArray 9))
    clear c0 c1
    obtain ⟨c0, c1, _, _, _⟩ := HC8.out.below hb HC8.out.2.2.2.2
    clear hb
    go_wp2_with fail
    (refine hK.out _ _ ?_ (fun hHeld2 => ?_); (focus ((try dsimp only); exact ⟨c0, c1⟩)); (clear hK K); (try simp only [Act.put, List.getElem_toArray, List.getElem_cons_zero, List.getElem_cons_succ, List.setIfInBounds_toArray, List.set_cons_zero, List.set_cons_succ]))
    (refine wpAnyH_take (i := 11) (v := ?_) rfl (by kernel_rfl) (by kernel_rfl) (by kernel_rfl) (fun _ _ _ h => h) (Or.inl ⟨by rfl, ?_⟩) (by assumption) ?_; rotate_left; (focus (intro wS hSw; (try dsimp only at hSw); go_simp; (try with_reducible rfl))); (try simp only [Act.put, List.getElem_toArray, List.getElem_cons_zero, List.getElem_cons_succ, List.setIfInBounds_toArray, List.set_cons_zero, List.set_cons_succ]))
    refine wpAnyH_done (by kernel_rfl) ?_ _
    clear c0 c1
    go_wp2_with fail
    go_ret
    exact ⟨rfl, HB9.out⟩

set_option maxHeartbeats 400000 in
theorem impl_RhythmLine_no (n : Int) (A : Option Addr) (cap : Nat) (bs : List Int) (w : World) (hn : Fits n) (hA : Ints w w.heap.size A bs) (hno : rhB n bs = false) :
    Calls Tryz.prog 13 #[.agg #[.int .i64 n, .slice A bs.length cap]] w fun e w' => e = .returned (.string (mkS [110, 111, 110, 101])) ∧ Below w.heap.size w w' := by
  have HRO := Lib.hid (fun V h => impl_RhythmOk_any n A cap bs V hn h)
  rw [hno] at HRO
  have HA := Lib.hid hA
  clear hA hno
  go_enter Tryz.func13, Tryz.ntmps13
  go_wp2_with fail
  refine (HRO.out _ (HA.out.lift (by repeat (first | exact Below.refl _ _ | assumption | (refine Below.alloc ?_ (by first | exact Nat.le_refl _ | (simp; done) | (simp; omega) | omega) _) | (refine Below.drew ?_) | (refine Below.setCell ?_ (by first | exact Nat.le_refl _ | (simp; done) | (simp; omega) | omega) _))))).mono ?_
  rintro e w1 ⟨rfl, hb⟩
  go_wp2_with fail
  go_ret
  exact ⟨rfl, ((Below.refl w.heap.size w).alloc (Nat.le_refl _) _).trans (hb.mono (by first | exact Nat.le_refl _ | (simp; done) | (simp; omega) | omega))⟩

end Go.Proofs.YtcolbkgceaboaabGreatDoor
