/-
  ClassLine of both: the walks.
-/
import Derived.Test.YtjoeglekcnaebaaGreatDoorCls
import Derived.Test.YtjoeglekcnaebaaGreatDoorOrb
import Derived.Test.YtjoeglekcnaebaaGreatDoorLss
import Derived.Test.YtjoeglekcnaebaaGreatDoorOrs
import Derived.Test.YtjoeglekcnaebaaGreatDoorFrh
import Derived.Test.YtjoeglekcnaebaaGreatDoorJoin
import Derived.Test.YtjoeglekcnaebaaGreatDoorFmtI
namespace Go.Proofs.YtjoeglekcnaebaaGreatDoor
open Go.RowKit
set_option linter.unusedVariables false
set_option linter.unusedSimpArgs false

theorem Below.drewQ_ {B : Nat} {a w : World} (h : Below B a w) : Below B a w.drew := ⟨h.os, h.tape, h.output, h.size, h.block⟩
theorem Ints.drew {w : World} {A : Option Addr} {xs : List Int} (h : Ints w w.heap.size A xs) : Ints w.drew w.drew.heap.size A xs := h

noncomputable def cllL (N : Nat) (bs : List Int) : Txt := joinT [textF N (frmV N bs) (fun _ => 120), [111, 114, 98, 105, 116], itoL (orbV N bs : Nat), [99, 108, 97, 115, 115], textF N (clsV N bs) (fun _ => 120)] [32]
noncomputable def cllV (n : Int) (bs : List Int) : Txt := if rhB n bs = true then cllL n.toNat bs else [110, 111, 110, 101]
theorem cllL_eq (N : Nat) (bs : List Int) : cllL N bs = textF N (frmV N bs) (fun _ => 120) ++ [32, 111, 114, 98, 105, 116, 32] ++ itoL (orbV N bs : Nat) ++ [32, 99, 108, 97, 115, 115, 32] ++ textF N (clsV N bs) (fun _ => 120) := by
  unfold cllL joinT
  rw [Lib.join_cons]
  unfold Lib.joinTail
  simp

set_option maxHeartbeats 400000 in
theorem impl_ClassLine_no (n : Int) (A : Option Addr) (cap : Nat) (bs : List Int) (w : World) (hn : Fits n) (hA : Ints w w.heap.size A bs) (hno : rhB n bs = false) :
    Calls Tryz.prog 8 #[.agg #[.int .i64 n, .slice A bs.length cap]] w fun e w' => e = .returned (.string (mkS [110, 111, 110, 101])) ∧ Below w.heap.size w w' := by
  have HRO := Lib.hid (fun V h => impl_RhythmOk_any n A cap bs V hn h)
  rw [hno] at HRO
  have HA := Lib.hid hA
  clear hA hno
  go_enter Tryz.func8, Tryz.ntmps8
  go_wp2_with fail
  refine (HRO.out _ (HA.out.lift (by repeat (first | exact Below.refl _ _ | assumption | (refine Below.alloc ?_ (by first | exact Nat.le_refl _ | (simp; done) | (simp; omega) | omega) _) | (refine Below.drew ?_) | (refine Below.setCell ?_ (by first | exact Nat.le_refl _ | (simp; done) | (simp; omega) | omega) _))))).mono ?_
  rintro e w1 ⟨rfl, hb⟩
  go_wp2_with fail
  go_ret
  exact ⟨rfl, ((Below.refl w.heap.size w).alloc (Nat.le_refl _) _).trans (hb.mono (by first | exact Nat.le_refl _ | (simp; done) | (simp; omega) | omega))⟩

set_option maxHeartbeats 400000 in
theorem spec_ClassLine_no (n : Int) (A : Option Addr) (cap : Nat) (bs : List Int) (w : World) (hn : Fits n) (hA : Ints w w.heap.size A bs) (hno : rhB n bs = false) :
    Calls Tryz.prog 6 #[.agg #[.int .i64 n, .slice A bs.length cap]] w fun e w' => e = .returned (.string (mkS [110, 111, 110, 101])) ∧ Below w.heap.size w w' := by
  have HRO := Lib.hid (fun V h => spec_RhythmOk_any n A cap bs V h)
  rw [hno] at HRO
  have HA := Lib.hid hA
  clear hA hno
  go_enter Tryz.func6, Tryz.ntmps6
  go_wp2_with fail
  refine (HRO.out _ (HA.out.lift (by repeat (first | exact Below.refl _ _ | assumption | (refine Below.alloc ?_ (by first | exact Nat.le_refl _ | (simp; done) | (simp; omega) | omega) _) | (refine Below.drew ?_) | (refine Below.setCell ?_ (by first | exact Nat.le_refl _ | (simp; done) | (simp; omega) | omega) _))))).mono ?_
  rintro e w1 ⟨rfl, hb⟩
  go_wp2_with fail
  go_ret
  exact ⟨rfl, ((Below.refl w.heap.size w).alloc (Nat.le_refl _) _).trans (hb.mono (by first | exact Nat.le_refl _ | (simp; done) | (simp; omega) | omega))⟩

set_option maxRecDepth 100000 in
set_option maxHeartbeats 4000000 in
theorem impl_ClassLine_ok (N : Nat) (A : Option Addr) (cap : Nat) (bs : List Int) (w : World) (hA : Ints w w.heap.size A bs) (hok : RhOk N bs) (hP : Pow w) :
    Calls Tryz.prog 8 #[.agg #[.int .i64 N, .slice A bs.length cap]] w fun e w' => e = .returned (.string (mkS (cllL N bs))) ∧ Below w.heap.size w w' := by
  have hn1 : 1 ≤ N := by have := hok.1; omega
  have hn2 : N ≤ 24 := by have := hok.2.1; omega
  have hfN : Fits (N : Int) := by unfold Fits; omega
  have HRO := Lib.hid (fun V h => impl_RhythmOk_any N A cap bs V hfN h)
  rw [rhB_iff.2 hok] at HRO
  have hfo := frmV_ok hok
  have hco : RhOk N (clsV N bs) := clsR_ok hok _
  have HFF := Lib.hid (rh_fitsL hfo)
  have HCF := Lib.hid (rh_fitsL hco)
  have HFR := Lib.hid (fun V h => impl_leastForm_any N A cap bs V h hok)
  have HCL := Lib.hid (fun V h => impl_class_any N A cap bs V h hok)
  have HOS := Lib.hid (fun V h => impl_OrbitSize_any N A cap bs V h hok)
  have HTF := Lib.hid (fun A c V h => impl_text_any N A c (frmV N bs) V h hfo)
  have HTC := Lib.hid (fun A c V h => impl_text_any N A c (clsV N bs) V h hco)
  have hpf : Fits ((orbV N bs : Nat) : Int) := by
    have := (perV_is hok).2.1
    unfold orbV Fits; split <;> omega
  have HFI := Lib.hid (fun V (hb : Below w.heap.size w V) => impl_FormatInt_any (orbV N bs : Nat) hpf V (hP.below hb))
  have hpl := itoL_len _ hpf
  have HLN := Lib.hid (show cllL N bs = joinT [textF N (frmV N bs) (fun _ => 120), [111, 114, 98, 105, 116], itoL (orbV N bs : Nat), [99, 108, 97, 115, 115], textF N (clsV N bs) (fun _ => 120)] [32] from rfl)
  have hfl : (textF N (frmV N bs) (fun _ => 120)).length ≤ 504 := by rw [textF_len]; omega
  have hcl : (textF N (clsV N bs) (fun _ => 120)).length ≤ 504 := by rw [textF_len]; omega
  have HA := Lib.hid hA
  generalize textF N (frmV N bs) (fun _ => 120) = TX at *
  generalize textF N (clsV N bs) (fun _ => 120) = TY at *
  generalize frmV N bs = F at *
  generalize clsV N bs = C at *
  generalize orbV N bs = ob at *
  generalize cllL N bs = LL at *
  obtain ⟨IP, hIP⟩ : ∃ t, itoL ((ob : Nat) : Int) = t := ⟨_, rfl⟩
  rw [hIP] at HFI HLN hpl
  have HJ := Lib.hid (fun V g (hg : V.heap.size = g) => impl_Join_any (some ⟨g, 0, none⟩) 5 [TX, [111, 114, 98, 105, 116], IP, [99, 108, 97, 115, 115], TY] [32] 504 _ (strs_cells V g _ (by simp) hg) (by simp) (by
    intro x hx
    simp at hx
    rcases hx with rfl | rfl | rfl | rfl | rfl <;> first | assumption | (simp; done) | omega) (by simp))
  rw [← HLN.out] at HJ
  obtain ⟨c0, c1⟩ := box2 (Below.refl (w.heap.size + 1) (w.alloc (.cells #[.int .i64 N, .slice A (bs).length cap] 27)))
  have HB0 := Lib.hid ((Below.refl w.heap.size w).alloc (Nat.le_refl _) (.cells #[.int .i64 N, .slice A (bs).length cap] 27))
  have HC0 := Lib.hid (Cells2.new w (.int .i64 N) (.slice A bs.length cap) 27)
  have HI0 := Lib.hid (HA.out.lift HB0.out)
  clear hA hok hP hIP hfo hco
  go_enter Tryz.func8, Tryz.ntmps8
  go_wp2_with fail
  refine (HRO.out _ HI0.out).mono ?_
  rintro e w2 ⟨rfl, hb⟩
  have HB2 := Lib.hid (HB0.out.trans (hb.mono HB0.out.size))
  have HC2 := Lib.hid (HC0.out.below hb HC0.out.2.2.2.2)
  have HI2 := Lib.hid (HI0.out.lift hb)
  clear hb c0 c1
  obtain ⟨c0, c1, _, _, _⟩ := HC2.out
  go_wp2_with fail
  have HBd := Lib.hid (Below.drewQ_ HB2.out)
  have HCd := Lib.hid (show Cells2 w2.drew w.heap.size (.int .i64 N) (.slice A bs.length cap) from HC2.out)
  have HId := Lib.hid (show Ints w2.drew w2.drew.heap.size A bs from HI2.out)
  (refine wp_region_held_drew (S := (fun w' => w'.cell? ⟨w.heap.size, 0, none⟩ = some (.int .i64 N) ∧ w'.cell? ⟨w.heap.size, 1, none⟩ = some (.slice A bs.length cap))) (by kernel_rfl) ?_ (fun hHeld => ?_); (focus ((try dsimp only); exact ⟨c0, c1⟩)))
  ((refine wpAnyH_take (i := 0) (v := ?_) rfl (by kernel_rfl) (by kernel_rfl) (by kernel_rfl) (fun _ _ _ h => h) (Or.inl ⟨by rfl, ?_⟩) (by assumption) ?_; rotate_left; (focus (intro wS hSw; (try dsimp only at hSw); go_simp; (try with_reducible rfl))); (try simp only [Act.put, List.getElem_toArray, List.getElem_cons_zero, List.getElem_cons_succ, List.setIfInBounds_toArray, List.set_cons_zero, List.set_cons_succ])); (refine wpAnyH_take (i := 3) (v := ?_) rfl (by kernel_rfl) (by kernel_rfl) (by kernel_rfl) (fun _ _ _ h => h) (Or.inl ⟨by rfl, ?_⟩) (by assumption) ?_; rotate_left; (focus (intro wS hSw; (try dsimp only at hSw); go_simp; (try with_reducible rfl))); (try simp only [Act.put, List.getElem_toArray, List.getElem_cons_zero, List.getElem_cons_succ, List.setIfInBounds_toArray, List.set_cons_zero, List.set_cons_succ])); (refine wpAnyH_take (i := 6) (v := ?_) rfl (by kernel_rfl) (by kernel_rfl) (by kernel_rfl) (fun _ _ _ h => h) (Or.inl ⟨by rfl, ?_⟩) (by assumption) ?_; rotate_left; (focus (intro wS hSw; (try dsimp only at hSw); go_simp; (try with_reducible rfl))); (try simp only [Act.put, List.getElem_toArray, List.getElem_cons_zero, List.getElem_cons_succ, List.setIfInBounds_toArray, List.set_cons_zero, List.set_cons_succ])))
  (refine wpAnyH_ready (rs := [1]) (by kernel_rfl) (by simp) ?_; refine AllReadyH.cons rfl (fun K hK => ?_) AllReadyH.nil; go_simp)
  go_at_call 22
  refine (HFR.out _ HId.out).mono ?_
  rintro e w3 ⟨A3, k3, rfl, hr, hb⟩
  have HR3 := Lib.hid (hr.ints HFF.out)
  clear hr
  have HB3 := Lib.hid (HBd.out.trans (hb.mono HBd.out.size))
  have HC3 := Lib.hid (HCd.out.below hb HCd.out.2.2.2.2)
  have HI3 := Lib.hid (HId.out.lift hb)
  clear hb c0 c1
  obtain ⟨c0, c1, _, _, _⟩ := HC3.out
  go_wp2_with fail
  (refine hK.out _ _ ?_ (fun hHeld2 => ?_); (focus ((try dsimp only); exact ⟨c0, c1⟩)); (clear hK K); (try simp only [Act.put, List.getElem_toArray, List.getElem_cons_zero, List.getElem_cons_succ, List.setIfInBounds_toArray, List.set_cons_zero, List.set_cons_succ]))
  (refine wpAnyH_ready (rs := [2]) (by kernel_rfl) (by simp) ?_; refine AllReadyH.cons rfl (fun K hK => ?_) AllReadyH.nil; go_simp)
  go_at_call 23
  refine (HTF.out _ _ _ HR3.out).mono ?_
  rintro e w4 ⟨rfl, hb⟩
  have HB4 := Lib.hid (HB3.out.trans (hb.mono HB3.out.size))
  have HC4 := Lib.hid (HC3.out.below hb HC3.out.2.2.2.2)
  have HI4 := Lib.hid (HI3.out.lift hb)
  clear hb c0 c1
  obtain ⟨c0, c1, _, _, _⟩ := HC4.out
  go_wp2_with fail
  (refine hK.out _ _ ?_ (fun hHeld2 => ?_); (focus ((try dsimp only); exact ⟨c0, c1⟩)); (clear hK K); (try simp only [Act.put, List.getElem_toArray, List.getElem_cons_zero, List.getElem_cons_succ, List.setIfInBounds_toArray, List.set_cons_zero, List.set_cons_succ]))
  (refine wpAnyH_ready (rs := [4]) (by kernel_rfl) (by simp) ?_; refine AllReadyH.cons rfl (fun K hK => ?_) AllReadyH.nil; go_simp)
  go_at_call 25
  refine (HOS.out _ HI4.out).mono ?_
  rintro e w5 ⟨rfl, hb⟩
  have HB5 := Lib.hid (HB4.out.trans (hb.mono HB4.out.size))
  have HC5 := Lib.hid (HC4.out.below hb HC4.out.2.2.2.2)
  have HI5 := Lib.hid (HI4.out.lift hb)
  clear hb c0 c1
  obtain ⟨c0, c1, _, _, _⟩ := HC5.out
  go_wp2_with fail
  (refine hK.out _ _ ?_ (fun hHeld2 => ?_); (focus ((try dsimp only); exact ⟨c0, c1⟩)); (clear hK K); (try simp only [Act.put, List.getElem_toArray, List.getElem_cons_zero, List.getElem_cons_succ, List.setIfInBounds_toArray, List.set_cons_zero, List.set_cons_succ]))
  (refine wpAnyH_ready (rs := [5]) (by kernel_rfl) (by simp) ?_; refine AllReadyH.cons rfl (fun K hK => ?_) AllReadyH.nil; go_simp)
  go_at_call 24
  refine (HFI.out _ HB5.out).mono ?_
  rintro e w6 ⟨rfl, hb⟩
  have HB6 := Lib.hid (HB5.out.trans (hb.mono HB5.out.size))
  have HC6 := Lib.hid (HC5.out.below hb HC5.out.2.2.2.2)
  have HI6 := Lib.hid (HI5.out.lift hb)
  clear hb c0 c1
  obtain ⟨c0, c1, _, _, _⟩ := HC6.out
  go_wp2_with fail
  (refine hK.out _ _ ?_ (fun hHeld2 => ?_); (focus ((try dsimp only); exact ⟨c0, c1⟩)); (clear hK K); (try simp only [Act.put, List.getElem_toArray, List.getElem_cons_zero, List.getElem_cons_succ, List.setIfInBounds_toArray, List.set_cons_zero, List.set_cons_succ]))
  (refine wpAnyH_ready (rs := [7]) (by kernel_rfl) (by simp) ?_; refine AllReadyH.cons rfl (fun K hK => ?_) AllReadyH.nil; go_simp)
  go_at_call 26
  refine (HCL.out _ HI6.out).mono ?_
  rintro e w7 ⟨A7, k7, rfl, hr, hb⟩
  have HR7 := Lib.hid (hr.ints HCF.out)
  clear hr
  have HB7 := Lib.hid (HB6.out.trans (hb.mono HB6.out.size))
  have HC7 := Lib.hid (HC6.out.below hb HC6.out.2.2.2.2)
  have HI7 := Lib.hid (HI6.out.lift hb)
  clear hb c0 c1
  obtain ⟨c0, c1, _, _, _⟩ := HC7.out
  go_wp2_with fail
  (refine hK.out _ _ ?_ (fun hHeld2 => ?_); (focus ((try dsimp only); exact ⟨c0, c1⟩)); (clear hK K); (try simp only [Act.put, List.getElem_toArray, List.getElem_cons_zero, List.getElem_cons_succ, List.setIfInBounds_toArray, List.set_cons_zero, List.set_cons_succ]))
  (refine wpAnyH_ready (rs := [8]) (by kernel_rfl) (by simp) ?_; refine AllReadyH.cons rfl (fun K hK => ?_) AllReadyH.nil; go_simp)
  go_at_call 23
  refine (HTC.out _ _ _ HR7.out).mono ?_
  rintro e w8 ⟨rfl, hb⟩
  have HB8 := Lib.hid (HB7.out.trans (hb.mono HB7.out.size))
  have HC8 := Lib.hid (HC7.out.below hb HC7.out.2.2.2.2)
  have HI8 := Lib.hid (HI7.out.lift hb)
  clear hb c0 c1
  obtain ⟨c0, c1, _, _, _⟩ := HC8.out
  go_wp2_with fail
  (refine hK.out _ _ ?_ (fun hHeld2 => ?_); (focus ((try dsimp only); exact ⟨c0, c1⟩)); (clear hK K); (try simp only [Act.put, List.getElem_toArray, List.getElem_cons_zero, List.getElem_cons_succ, List.setIfInBounds_toArray, List.set_cons_zero, List.set_cons_succ]))
  (refine wpAnyH_ready (rs := [9]) (by kernel_rfl) (by simp) ?_; refine AllReadyH.cons rfl (fun K hK => ?_) AllReadyH.nil; go_simp)
  have HB9 := Lib.hid (HB8.out.alloc HB8.out.size (.cells ([TX, [111, 114, 98, 105, 116], IP, [99, 108, 97, 115, 115], TY].map emS).toArray 9))
  clear c0 c1
  obtain ⟨c0, c1, _, _, _⟩ := HC8.out.alloc (.cells ([TX, [111, 114, 98, 105, 116], IP, [99, 108, 97, 115, 115], TY].map emS).toArray 9)
  (refine hK.out _ _ ?_ (fun hHeld2 => ?_); (focus ((try dsimp only); exact ⟨c0, c1⟩)); (clear hK K); (try simp only [Act.put, List.getElem_toArray, List.getElem_cons_zero, List.getElem_cons_succ, List.setIfInBounds_toArray, List.set_cons_zero, List.set_cons_succ]))
  (refine wpAnyH_ready (rs := [10]) (by kernel_rfl) (by simp) ?_; refine AllReadyH.cons rfl (fun K hK => ?_) AllReadyH.nil; go_simp)
  go_at_call 21
  refine (HJ.out w8 w8.heap.size rfl).mono ?_
  rintro e w9 ⟨rfl, hb⟩
  have HB10 := Lib.hid (HB9.out.trans (hb.mono HB9.out.size))
  have HC9 := Lib.hid (HC8.out.alloc (.cells ([TX, [111, 114, 98, 105, 116], IP, [99, 108, 97, 115, 115], TY].map emS).toArray 9))
  clear c0 c1
  obtain ⟨c0, c1, _, _, _⟩ := HC9.out.below hb HC9.out.2.2.2.2
  clear hb
  go_wp2_with fail
  (refine hK.out _ _ ?_ (fun hHeld2 => ?_); (focus ((try dsimp only); exact ⟨c0, c1⟩)); (clear hK K); (try simp only [Act.put, List.getElem_toArray, List.getElem_cons_zero, List.getElem_cons_succ, List.setIfInBounds_toArray, List.set_cons_zero, List.set_cons_succ]))
  (refine wpAnyH_take (i := 11) (v := ?_) rfl (by kernel_rfl) (by kernel_rfl) (by kernel_rfl) (fun _ _ _ h => h) (Or.inl ⟨by rfl, ?_⟩) (by assumption) ?_; rotate_left; (focus (intro wS hSw; (try dsimp only at hSw); go_simp; (try with_reducible rfl))); (try simp only [Act.put, List.getElem_toArray, List.getElem_cons_zero, List.getElem_cons_succ, List.setIfInBounds_toArray, List.set_cons_zero, List.set_cons_succ]))
  refine wpAnyH_done (by kernel_rfl) ?_ _
  clear c0 c1
  go_wp2_with fail
  go_ret
  exact ⟨rfl, HB10.out⟩

set_option maxRecDepth 100000 in
set_option maxHeartbeats 4000000 in
theorem spec_ClassLine_ok (N : Nat) (A : Option Addr) (cap : Nat) (bs : List Int) (w : World) (hA : Ints w w.heap.size A bs) (hok : RhOk N bs) :
    Calls Tryz.prog 6 #[.agg #[.int .i64 N, .slice A bs.length cap]] w fun e w' => e = .returned (.string (mkS (cllL N bs))) ∧ Below w.heap.size w w' := by
  have hn1 : 1 ≤ N := by have := hok.1; omega
  have hn2 : N ≤ 24 := by have := hok.2.1; omega
  have HRO := Lib.hid (fun V h => spec_RhythmOk_any N A cap bs V h)
  rw [rhB_iff.2 hok] at HRO
  have hfo := frmV_ok hok
  have hco : RhOk N (clsV N bs) := clsR_ok hok _
  have HFF := Lib.hid (rh_fitsL hfo)
  have HCF := Lib.hid (rh_fitsL hco)
  have HFR := Lib.hid (fun V h => spec_LeastForm_any N A cap bs V h hok)
  have HCL := Lib.hid (fun V h => spec_StretchClass_any N A cap bs V h hok)
  have HOS := Lib.hid (fun V h => spec_OrbitSize_any N A cap bs V h hok)
  have HTF := Lib.hid (fun A c V h => spec_FormatRhythm_ok N A c (frmV N bs) V h hfo)
  have HTC := Lib.hid (fun A c V h => spec_FormatRhythm_ok N A c (clsV N bs) V h hco)
  have hpf : Fits ((orbV N bs : Nat) : Int) := by
    have := (perV_is hok).2.1
    unfold orbV Fits; split <;> omega
  have HFI := Lib.hid (fun V => spec_FormatInt_any (orbV N bs : Nat) hpf V)
  have hpl := itoL_len _ hpf
  have HLN := Lib.hid (cllL_eq N bs)
  have hfl : (textF N (frmV N bs) (fun _ => 120)).length ≤ 504 := by rw [textF_len]; omega
  have hcl : (textF N (clsV N bs) (fun _ => 120)).length ≤ 504 := by rw [textF_len]; omega
  generalize textF N (frmV N bs) (fun _ => 120) = TX at *
  generalize textF N (clsV N bs) (fun _ => 120) = TY at *
  generalize frmV N bs = F at *
  generalize clsV N bs = C at *
  generalize orbV N bs = ob at *
  generalize cllL N bs = LL at *
  obtain ⟨IP, hIP⟩ : ∃ t, itoL ((ob : Nat) : Int) = t := ⟨_, rfl⟩
  rw [hIP] at HFI HLN hpl
  have z1 : (mkS TX).size ≤ 504 := by rw [mkS_size]; exact hfl
  have z2 : (mkS IP).size ≤ 20 := by rw [mkS_size]; exact hpl
  have z3 : (mkS TY).size ≤ 504 := by rw [mkS_size]; exact hcl
  have HRES := Lib.hid (show mkS TX ++ ⟨#[32, 111, 114, 98, 105, 116, 32]⟩ ++ mkS IP ++ ⟨#[32, 99, 108, 97, 115, 115, 32]⟩ ++ mkS TY = mkS LL by
    rw [HLN.out]
    exact Str.eq (((((str_mk TX).app (str_mk [32, 111, 114, 98, 105, 116, 32])).app (str_mk IP)).app (str_mk [32, 99, 108, 97, 115, 115, 32])).app (str_mk TY)))
  have HBW := Lib.hid ((Below.refl w.heap.size w).alloc (Nat.le_refl _) (.cells #[.int .i64 N, .slice A (bs).length cap] 27))
  have HVA := Lib.hid (Hav.boxed hA N cap)
  clear hA hok hIP hfo hco hfl hcl hpl
  obtain ⟨⟨p0, p1, _, _, _⟩, _⟩ := HVA.out
  go_enter Tryz.func6, Tryz.ntmps6
  go_wp2_with fail
  generalize w.alloc (.cells #[.int .i64 N, .slice A (bs).length cap] 27) = W at *
  refine (HRO.out _ HVA.out.2).mono ?_
  rintro e w1 ⟨rfl, hb⟩
  have HBW := Lib.hid (HBW.out.trans (hb.mono HBW.out.size))
  try have HVA := Lib.hid (HVA.out.lift hb)
  try have HVB := Lib.hid (HVB.out.lift hb)
  try have HVC := Lib.hid (HVC.out.lift hb)
  try have HVT := Lib.hid (HVT.out.lift hb)
  try have HVX := Lib.hid (HVX.out.lift hb)
  try have HVM := Lib.hid (HVM.out.lift hb)
  try have HVF := Lib.hid (HVF.out.lift hb)
  try have HVP := Lib.hid (HVP.out.lift hb)
  try have HVQ := Lib.hid (HVQ.out.lift hb)
  try have HLA := Lib.hid (HLA.out.lift hb)
  try have HLW := Lib.hid (HLW.out.lift hb)
  try have HI := Lib.hid (HI.out.lift hb)
  try have HRB := Lib.hid (HRB.out.trans (hb.mono HRB.out.size))
  try have HWW := Lib.hid (HWW.out.trans (hb.mono HWW.out.size))
  clear hb
  clear p0 p1
  obtain ⟨⟨p0, p1, _, _, _⟩, _⟩ := HVA.out
  go_wp2_with fail
  refine (HFR.out _ HVA.out.2).mono ?_
  rintro e w2 ⟨A2, k2, rfl, hr, hb⟩
  have HBW := Lib.hid (HBW.out.trans (hb.mono HBW.out.size))
  try have HVA := Lib.hid (HVA.out.lift hb)
  try have HVB := Lib.hid (HVB.out.lift hb)
  try have HVC := Lib.hid (HVC.out.lift hb)
  try have HVT := Lib.hid (HVT.out.lift hb)
  try have HVX := Lib.hid (HVX.out.lift hb)
  try have HVM := Lib.hid (HVM.out.lift hb)
  try have HVF := Lib.hid (HVF.out.lift hb)
  try have HVP := Lib.hid (HVP.out.lift hb)
  try have HVQ := Lib.hid (HVQ.out.lift hb)
  try have HLA := Lib.hid (HLA.out.lift hb)
  try have HLW := Lib.hid (HLW.out.lift hb)
  try have HI := Lib.hid (HI.out.lift hb)
  try have HRB := Lib.hid (HRB.out.trans (hb.mono HRB.out.size))
  try have HWW := Lib.hid (HWW.out.trans (hb.mono HWW.out.size))
  clear hb
  have hri := hr.ints HFF.out
  clear hr p0 p1
  obtain ⟨⟨p0, p1, _, _, _⟩, _⟩ := HVA.out
  go_wp2_with fail
  have hb := (Below.refl w2.heap.size w2).alloc (Nat.le_refl _) (.cells #[.int .i64 N, .slice A2 (F).length k2] 27)
  have hz := hri.lift hb
  clear hri
  have HBW := Lib.hid (HBW.out.trans (hb.mono HBW.out.size))
  try have HVA := Lib.hid (HVA.out.lift hb)
  try have HVB := Lib.hid (HVB.out.lift hb)
  try have HVC := Lib.hid (HVC.out.lift hb)
  try have HVT := Lib.hid (HVT.out.lift hb)
  try have HVX := Lib.hid (HVX.out.lift hb)
  try have HVM := Lib.hid (HVM.out.lift hb)
  try have HVF := Lib.hid (HVF.out.lift hb)
  try have HVP := Lib.hid (HVP.out.lift hb)
  try have HVQ := Lib.hid (HVQ.out.lift hb)
  try have HLA := Lib.hid (HLA.out.lift hb)
  try have HLW := Lib.hid (HLW.out.lift hb)
  try have HI := Lib.hid (HI.out.lift hb)
  try have HRB := Lib.hid (HRB.out.trans (hb.mono HRB.out.size))
  try have HWW := Lib.hid (HWW.out.trans (hb.mono HWW.out.size))
  clear hb
  have HVX := Lib.hid hz
  clear hz
  have HLA := Lib.hid (Cells2.new w2 (.int .i64 N) (.slice A2 F.length k2) 27)
  generalize w2.alloc (.cells #[.int .i64 N, .slice A2 (F).length k2] 27) = w3 at *
  obtain ⟨gf, hgf⟩ : ∃ g, w2.heap.size = g := ⟨_, rfl⟩
  rw [hgf] at HLA ⊢
  clear hgf
  clear p0 p1
  obtain ⟨⟨p0, p1, _, _, _⟩, _⟩ := HVA.out
  refine (HCL.out _ HVA.out.2).mono ?_
  rintro e w4 ⟨A4, k4, rfl, hr, hb⟩
  have HBW := Lib.hid (HBW.out.trans (hb.mono HBW.out.size))
  try have HVA := Lib.hid (HVA.out.lift hb)
  try have HVB := Lib.hid (HVB.out.lift hb)
  try have HVC := Lib.hid (HVC.out.lift hb)
  try have HVT := Lib.hid (HVT.out.lift hb)
  try have HVX := Lib.hid (HVX.out.lift hb)
  try have HVM := Lib.hid (HVM.out.lift hb)
  try have HVF := Lib.hid (HVF.out.lift hb)
  try have HVP := Lib.hid (HVP.out.lift hb)
  try have HVQ := Lib.hid (HVQ.out.lift hb)
  try have HLA := Lib.hid (HLA.out.lift hb)
  try have HLW := Lib.hid (HLW.out.lift hb)
  try have HI := Lib.hid (HI.out.lift hb)
  try have HRB := Lib.hid (HRB.out.trans (hb.mono HRB.out.size))
  try have HWW := Lib.hid (HWW.out.trans (hb.mono HWW.out.size))
  clear hb
  have hri := hr.ints HCF.out
  clear hr p0 p1
  go_wp2_with fail
  have hb := (Below.refl w4.heap.size w4).alloc (Nat.le_refl _) (.cells #[.int .i64 N, .slice A4 (C).length k4] 27)
  have hz := hri.lift hb
  clear hri
  have HBW := Lib.hid (HBW.out.trans (hb.mono HBW.out.size))
  try have HVA := Lib.hid (HVA.out.lift hb)
  try have HVB := Lib.hid (HVB.out.lift hb)
  try have HVC := Lib.hid (HVC.out.lift hb)
  try have HVT := Lib.hid (HVT.out.lift hb)
  try have HVX := Lib.hid (HVX.out.lift hb)
  try have HVM := Lib.hid (HVM.out.lift hb)
  try have HVF := Lib.hid (HVF.out.lift hb)
  try have HVP := Lib.hid (HVP.out.lift hb)
  try have HVQ := Lib.hid (HVQ.out.lift hb)
  try have HLA := Lib.hid (HLA.out.lift hb)
  try have HLW := Lib.hid (HLW.out.lift hb)
  try have HI := Lib.hid (HI.out.lift hb)
  try have HRB := Lib.hid (HRB.out.trans (hb.mono HRB.out.size))
  try have HWW := Lib.hid (HWW.out.trans (hb.mono HWW.out.size))
  clear hb
  have HVT := Lib.hid hz
  clear hz
  have HLW := Lib.hid (Cells2.new w4 (.int .i64 N) (.slice A4 C.length k4) 27)
  generalize w4.alloc (.cells #[.int .i64 N, .slice A4 (C).length k4] 27) = w5 at *
  obtain ⟨gc, hgc⟩ : ∃ g, w4.heap.size = g := ⟨_, rfl⟩
  rw [hgc] at HLW ⊢
  clear hgc
  obtain ⟨⟨p0, p1, _, _, _⟩, _⟩ := HVA.out
  obtain ⟨s0, s1, _, _, _⟩ := HLA.out
  obtain ⟨t0, t1, _, _, _⟩ := HLW.out
  have HBW := Lib.hid (Below.drewH_ HBW.out)
  try have HRB := Lib.hid (Below.drewH_ HRB.out)
  try have HWW := Lib.hid (Below.drewH_ HWW.out)
  try have HVA := Lib.hid HVA.out.drew
  try have HVB := Lib.hid HVB.out.drew
  try have HVC := Lib.hid HVC.out.drew
  try have HVT := Lib.hid HVT.out.drew
  try have HVX := Lib.hid HVX.out.drew
  try have HVM := Lib.hid HVM.out.drew
  try have HVF := Lib.hid HVF.out.drew
  try have HVP := Lib.hid HVP.out.drew
  try have HVQ := Lib.hid HVQ.out.drew
  try have HLA := Lib.hid HLA.out.drewR_
  try have HLW := Lib.hid HLW.out.drewR_
  (refine wp_region_held_drew (S := (fun w' => w'.cell? ⟨w.heap.size, 0, none⟩ = some (.int .i64 N) ∧ w'.cell? ⟨w.heap.size, 1, none⟩ = some (.slice A bs.length cap) ∧ w'.cell? ⟨gf, 0, none⟩ = some (.int .i64 N) ∧ w'.cell? ⟨gf, 1, none⟩ = some (.slice A2 F.length k2) ∧ w'.cell? ⟨gc, 0, none⟩ = some (.int .i64 N) ∧ w'.cell? ⟨gc, 1, none⟩ = some (.slice A4 C.length k4))) (by kernel_rfl) ?_ (fun hHeld => ?_); (focus ((try dsimp only); exact ⟨p0, p1, s0, s1, t0, t1⟩)))
  ((refine wpAnyH_take (i := 0) (v := ?_) rfl (by kernel_rfl) (by kernel_rfl) (by kernel_rfl) (fun _ _ _ h => h) (Or.inl ⟨by rfl, ?_⟩) (by assumption) ?_; rotate_left; (focus (intro wS hSw; (try dsimp only at hSw); go_simp; (try with_reducible rfl))); (try simp only [Act.put, List.getElem_toArray, List.getElem_cons_zero, List.getElem_cons_succ, List.setIfInBounds_toArray, List.set_cons_zero, List.set_cons_succ])); (refine wpAnyH_take (i := 3) (v := ?_) rfl (by kernel_rfl) (by kernel_rfl) (by kernel_rfl) (fun _ _ _ h => h) (Or.inl ⟨by rfl, ?_⟩) (by assumption) ?_; rotate_left; (focus (intro wS hSw; (try dsimp only at hSw); go_simp; (try with_reducible rfl))); (try simp only [Act.put, List.getElem_toArray, List.getElem_cons_zero, List.getElem_cons_succ, List.setIfInBounds_toArray, List.set_cons_zero, List.set_cons_succ])); (refine wpAnyH_take (i := 8) (v := ?_) rfl (by kernel_rfl) (by kernel_rfl) (by kernel_rfl) (fun _ _ _ h => h) (Or.inl ⟨by rfl, ?_⟩) (by assumption) ?_; rotate_left; (focus (intro wS hSw; (try dsimp only at hSw); go_simp; (try with_reducible rfl))); (try simp only [Act.put, List.getElem_toArray, List.getElem_cons_zero, List.getElem_cons_succ, List.setIfInBounds_toArray, List.set_cons_zero, List.set_cons_succ])))
  (refine wpAnyH_ready (rs := [1]) (by kernel_rfl) (by simp) ?_; refine AllReadyH.cons rfl (fun K hK => ?_) AllReadyH.nil; go_simp)
  go_at_call 16
  refine (HTF.out _ _ _ HVX.out).mono ?_
  rintro e w6 ⟨rfl, hb⟩
  have HBW := Lib.hid (HBW.out.trans (hb.mono HBW.out.size))
  try have HVA := Lib.hid (HVA.out.lift hb)
  try have HVB := Lib.hid (HVB.out.lift hb)
  try have HVC := Lib.hid (HVC.out.lift hb)
  try have HVT := Lib.hid (HVT.out.lift hb)
  try have HVX := Lib.hid (HVX.out.lift hb)
  try have HVM := Lib.hid (HVM.out.lift hb)
  try have HVF := Lib.hid (HVF.out.lift hb)
  try have HVP := Lib.hid (HVP.out.lift hb)
  try have HVQ := Lib.hid (HVQ.out.lift hb)
  try have HLA := Lib.hid (HLA.out.lift hb)
  try have HLW := Lib.hid (HLW.out.lift hb)
  try have HI := Lib.hid (HI.out.lift hb)
  try have HRB := Lib.hid (HRB.out.trans (hb.mono HRB.out.size))
  try have HWW := Lib.hid (HWW.out.trans (hb.mono HWW.out.size))
  clear hb
  clear p0 p1 s0 s1 t0 t1
  obtain ⟨⟨p0, p1, _, _, _⟩, _⟩ := HVA.out
  obtain ⟨s0, s1, _, _, _⟩ := HLA.out
  obtain ⟨t0, t1, _, _, _⟩ := HLW.out
  go_wp2_with fail
  (refine hK.out _ _ ?_ (fun hHeld2 => ?_); (focus ((try dsimp only); exact ⟨p0, p1, s0, s1, t0, t1⟩)); (clear hK K); (try simp only [Act.put, List.getElem_toArray, List.getElem_cons_zero, List.getElem_cons_succ, List.setIfInBounds_toArray, List.set_cons_zero, List.set_cons_succ]))
  have y1 : (mkS TX ++ ⟨#[32, 111, 114, 98, 105, 116, 32]⟩).size ≤ 511 := by rw [ByteArray.size_append]; show _ + 7 ≤ 511; omega
  have y2 : (mkS TX ++ ⟨#[32, 111, 114, 98, 105, 116, 32]⟩ ++ mkS IP).size ≤ 531 := by rw [ByteArray.size_append]; omega
  have y3 : (mkS TX ++ ⟨#[32, 111, 114, 98, 105, 116, 32]⟩ ++ mkS IP ++ ⟨#[32, 99, 108, 97, 115, 115, 32]⟩).size ≤ 538 := by rw [ByteArray.size_append]; show _ + 7 ≤ 538; omega
  (refine wpAnyH_take (i := 2) (v := ?_) rfl (by kernel_rfl) (by kernel_rfl) (by kernel_rfl) (fun _ _ _ h => h) (Or.inl ⟨by rfl, ?_⟩) (by assumption) ?_; rotate_left; (focus (intro wS hSw; (try dsimp only at hSw); go_simp; (try rw [if_neg (by omega)]); (try with_reducible rfl))); (try simp only [Act.put, List.getElem_toArray, List.getElem_cons_zero, List.getElem_cons_succ, List.setIfInBounds_toArray, List.set_cons_zero, List.set_cons_succ]))
  (refine wpAnyH_ready (rs := [4]) (by kernel_rfl) (by simp) ?_; refine AllReadyH.cons rfl (fun K hK => ?_) AllReadyH.nil; go_simp)
  go_at_call 18
  refine (HOS.out _ HVA.out.2).mono ?_
  rintro e w7 ⟨rfl, hb⟩
  have HBW := Lib.hid (HBW.out.trans (hb.mono HBW.out.size))
  try have HVA := Lib.hid (HVA.out.lift hb)
  try have HVB := Lib.hid (HVB.out.lift hb)
  try have HVC := Lib.hid (HVC.out.lift hb)
  try have HVT := Lib.hid (HVT.out.lift hb)
  try have HVX := Lib.hid (HVX.out.lift hb)
  try have HVM := Lib.hid (HVM.out.lift hb)
  try have HVF := Lib.hid (HVF.out.lift hb)
  try have HVP := Lib.hid (HVP.out.lift hb)
  try have HVQ := Lib.hid (HVQ.out.lift hb)
  try have HLA := Lib.hid (HLA.out.lift hb)
  try have HLW := Lib.hid (HLW.out.lift hb)
  try have HI := Lib.hid (HI.out.lift hb)
  try have HRB := Lib.hid (HRB.out.trans (hb.mono HRB.out.size))
  try have HWW := Lib.hid (HWW.out.trans (hb.mono HWW.out.size))
  clear hb
  clear p0 p1 s0 s1 t0 t1
  obtain ⟨⟨p0, p1, _, _, _⟩, _⟩ := HVA.out
  obtain ⟨s0, s1, _, _, _⟩ := HLA.out
  obtain ⟨t0, t1, _, _, _⟩ := HLW.out
  go_wp2_with fail
  (refine hK.out _ _ ?_ (fun hHeld2 => ?_); (focus ((try dsimp only); exact ⟨p0, p1, s0, s1, t0, t1⟩)); (clear hK K); (try simp only [Act.put, List.getElem_toArray, List.getElem_cons_zero, List.getElem_cons_succ, List.setIfInBounds_toArray, List.set_cons_zero, List.set_cons_succ]))
  (refine wpAnyH_ready (rs := [5]) (by kernel_rfl) (by simp) ?_; refine AllReadyH.cons rfl (fun K hK => ?_) AllReadyH.nil; go_simp)
  go_at_call 17
  refine (HFI.out _).mono ?_
  rintro e w8 ⟨rfl, hb⟩
  have HBW := Lib.hid (HBW.out.trans (hb.mono HBW.out.size))
  try have HVA := Lib.hid (HVA.out.lift hb)
  try have HVB := Lib.hid (HVB.out.lift hb)
  try have HVC := Lib.hid (HVC.out.lift hb)
  try have HVT := Lib.hid (HVT.out.lift hb)
  try have HVX := Lib.hid (HVX.out.lift hb)
  try have HVM := Lib.hid (HVM.out.lift hb)
  try have HVF := Lib.hid (HVF.out.lift hb)
  try have HVP := Lib.hid (HVP.out.lift hb)
  try have HVQ := Lib.hid (HVQ.out.lift hb)
  try have HLA := Lib.hid (HLA.out.lift hb)
  try have HLW := Lib.hid (HLW.out.lift hb)
  try have HI := Lib.hid (HI.out.lift hb)
  try have HRB := Lib.hid (HRB.out.trans (hb.mono HRB.out.size))
  try have HWW := Lib.hid (HWW.out.trans (hb.mono HWW.out.size))
  clear hb
  clear p0 p1 s0 s1 t0 t1
  obtain ⟨⟨p0, p1, _, _, _⟩, _⟩ := HVA.out
  obtain ⟨s0, s1, _, _, _⟩ := HLA.out
  obtain ⟨t0, t1, _, _, _⟩ := HLW.out
  go_wp2_with fail
  (refine hK.out _ _ ?_ (fun hHeld2 => ?_); (focus ((try dsimp only); exact ⟨p0, p1, s0, s1, t0, t1⟩)); (clear hK K); (try simp only [Act.put, List.getElem_toArray, List.getElem_cons_zero, List.getElem_cons_succ, List.setIfInBounds_toArray, List.set_cons_zero, List.set_cons_succ]))
  (refine wpAnyH_take (i := 6) (v := ?_) rfl (by kernel_rfl) (by kernel_rfl) (by kernel_rfl) (fun _ _ _ h => h) (Or.inl ⟨by rfl, ?_⟩) (by assumption) ?_; rotate_left; (focus (intro wS hSw; (try dsimp only at hSw); go_simp; (try rw [if_neg (by omega)]); (try with_reducible rfl))); (try simp only [Act.put, List.getElem_toArray, List.getElem_cons_zero, List.getElem_cons_succ, List.setIfInBounds_toArray, List.set_cons_zero, List.set_cons_succ]))
  (refine wpAnyH_take (i := 7) (v := ?_) rfl (by kernel_rfl) (by kernel_rfl) (by kernel_rfl) (fun _ _ _ h => h) (Or.inl ⟨by rfl, ?_⟩) (by assumption) ?_; rotate_left; (focus (intro wS hSw; (try dsimp only at hSw); go_simp; (try rw [if_neg (by omega)]); (try with_reducible rfl))); (try simp only [Act.put, List.getElem_toArray, List.getElem_cons_zero, List.getElem_cons_succ, List.setIfInBounds_toArray, List.set_cons_zero, List.set_cons_succ]))
  (refine wpAnyH_ready (rs := [9]) (by kernel_rfl) (by simp) ?_; refine AllReadyH.cons rfl (fun K hK => ?_) AllReadyH.nil; go_simp)
  go_at_call 16
  refine (HTC.out _ _ _ HVT.out).mono ?_
  rintro e w9 ⟨rfl, hb⟩
  have HBW := Lib.hid (HBW.out.trans (hb.mono HBW.out.size))
  try have HVA := Lib.hid (HVA.out.lift hb)
  try have HVB := Lib.hid (HVB.out.lift hb)
  try have HVC := Lib.hid (HVC.out.lift hb)
  try have HVT := Lib.hid (HVT.out.lift hb)
  try have HVX := Lib.hid (HVX.out.lift hb)
  try have HVM := Lib.hid (HVM.out.lift hb)
  try have HVF := Lib.hid (HVF.out.lift hb)
  try have HVP := Lib.hid (HVP.out.lift hb)
  try have HVQ := Lib.hid (HVQ.out.lift hb)
  try have HLA := Lib.hid (HLA.out.lift hb)
  try have HLW := Lib.hid (HLW.out.lift hb)
  try have HI := Lib.hid (HI.out.lift hb)
  try have HRB := Lib.hid (HRB.out.trans (hb.mono HRB.out.size))
  try have HWW := Lib.hid (HWW.out.trans (hb.mono HWW.out.size))
  clear hb
  clear p0 p1 s0 s1 t0 t1
  obtain ⟨⟨p0, p1, _, _, _⟩, _⟩ := HVA.out
  obtain ⟨s0, s1, _, _, _⟩ := HLA.out
  obtain ⟨t0, t1, _, _, _⟩ := HLW.out
  go_wp2_with fail
  (refine hK.out _ _ ?_ (fun hHeld2 => ?_); (focus ((try dsimp only); exact ⟨p0, p1, s0, s1, t0, t1⟩)); (clear hK K); (try simp only [Act.put, List.getElem_toArray, List.getElem_cons_zero, List.getElem_cons_succ, List.setIfInBounds_toArray, List.set_cons_zero, List.set_cons_succ]))
  (refine wpAnyH_take (i := 10) (v := ?_) rfl (by kernel_rfl) (by kernel_rfl) (by kernel_rfl) (fun _ _ _ h => h) (Or.inl ⟨by rfl, ?_⟩) (by assumption) ?_; rotate_left; (focus (intro wS hSw; (try dsimp only at hSw); go_simp; (try rw [if_neg (by omega)]); (try with_reducible rfl))); (try simp only [Act.put, List.getElem_toArray, List.getElem_cons_zero, List.getElem_cons_succ, List.setIfInBounds_toArray, List.set_cons_zero, List.set_cons_succ]))
  (refine wpAnyH_take (i := 11) (v := ?_) rfl (by kernel_rfl) (by kernel_rfl) (by kernel_rfl) (fun _ _ _ h => h) (Or.inl ⟨by rfl, ?_⟩) (by assumption) ?_; rotate_left; (focus (intro wS hSw; (try dsimp only at hSw); go_simp; (try with_reducible rfl))); (try simp only [Act.put, List.getElem_toArray, List.getElem_cons_zero, List.getElem_cons_succ, List.setIfInBounds_toArray, List.set_cons_zero, List.set_cons_succ]))
  refine wpAnyH_done (by kernel_rfl) ?_ _
  clear p0 p1 s0 s1 t0 t1
  go_wp2_with fail
  go_ret
  exact ⟨ret_str HRES.out, HBW.out⟩

theorem impl_ClassLine_any (n : Int) (A : Option Addr) (cap : Nat) (bs : List Int) (w : World) (hn : Fits n) (hA : Ints w w.heap.size A bs) (hP : Pow w) :
    Calls Tryz.prog 8 #[.agg #[.int .i64 n, .slice A bs.length cap]] w fun e w' => e = .returned (.string (mkS (cllV n bs))) ∧ Below w.heap.size w w' := by
  unfold cllV
  cases h : rhB n bs
  · exact impl_ClassLine_no n A cap bs w hn hA h
  · have hok := rhB_iff.1 h
    obtain ⟨N, rfl⟩ := Int.eq_ofNat_of_zero_le (show 0 ≤ n by have := hok.1; omega)
    exact impl_ClassLine_ok N A cap bs w hA hok hP
theorem spec_ClassLine_any (n : Int) (A : Option Addr) (cap : Nat) (bs : List Int) (w : World) (hn : Fits n) (hA : Ints w w.heap.size A bs) :
    Calls Tryz.prog 6 #[.agg #[.int .i64 n, .slice A bs.length cap]] w fun e w' => e = .returned (.string (mkS (cllV n bs))) ∧ Below w.heap.size w w' := by
  unfold cllV
  cases h : rhB n bs
  · exact spec_ClassLine_no n A cap bs w hn hA h
  · have hok := rhB_iff.1 h
    obtain ⟨N, rfl⟩ := Int.eq_ofNat_of_zero_le (show 0 ≤ n by have := hok.1; omega)
    exact spec_ClassLine_ok N A cap bs w hA hok

end Go.Proofs.YtjoeglekcnaebaaGreatDoor
