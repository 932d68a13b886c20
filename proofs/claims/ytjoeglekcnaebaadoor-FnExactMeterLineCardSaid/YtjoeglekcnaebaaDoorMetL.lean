/-
  MeterLine of both: the walks.
-/
import Derived.Test.YtjoeglekcnaebaaDoorMetF
namespace Go.Proofs.YtjoeglekcnaebaaDoor
open Go.RowKit
set_option linter.unusedVariables false
set_option linter.unusedSimpArgs false

noncomputable def metV (n : Int) (bs : List Int) : Txt := if rhB n bs = true then (if mtrL n.toNat = [] then [110, 111, 110, 101] else fmtM (bstM n.toNat bs (mtrL n.toNat).length) ++ [32] ++ itoL (syncV n.toNat bs (bstM n.toNat bs (mtrL n.toNat).length))) else [110, 111, 110, 101]
theorem metV_ok {N : Nat} {bs : List Int} (hok : RhOk N bs) : metV N bs = if mtrL N = [] then [110, 111, 110, 101] else fmtM (bstM N bs (mtrL N).length) ++ [32] ++ itoL (syncV N bs (bstM N bs (mtrL N).length)) := by
  unfold metV
  rw [if_pos (rhB_iff.2 hok), Int.toNat_natCast]
theorem metV_no {n : Int} {bs : List Int} (h : rhB n bs = false) : metV n bs = [110, 111, 110, 101] := by
  unfold metV
  rw [if_neg (by rw [h]; decide)]

set_option maxHeartbeats 400000 in
theorem impl_BestMeter_no (n : Int) (A : Option Addr) (cap : Nat) (bs : List Int) (w : World) (hn : Fits n) (hA : Ints w w.heap.size A bs) (hno : rhB n bs = false) :
    Calls Tryd.prog 15 #[.agg #[.int .i64 n, .slice A bs.length cap]] w fun e w' => e = .returned (.tuple #[.slice none 0 0, .bool false]) ∧ Below w.heap.size w w' := by
  have HRO := Lib.hid (fun V h => impl_RhythmOk_any n A cap bs V hn h)
  rw [hno] at HRO
  have HA := Lib.hid hA
  clear hA hno
  go_enter Tryd.func15, Tryd.ntmps15
  go_wp2_with fail
  refine (HRO.out _ (HA.out.lift (by repeat (first | exact Below.refl _ _ | assumption | (refine Below.alloc ?_ (by first | exact Nat.le_refl _ | (simp; done) | (simp; omega) | omega) _) | (refine Below.drew ?_) | (refine Below.setCell ?_ (by first | exact Nat.le_refl _ | (simp; done) | (simp; omega) | omega) _))))).mono ?_
  rintro e w1 ⟨rfl, hb⟩
  go_wp2_with fail
  refine bodyPost_ret (v := .tuple #[.slice none 0 0, .bool false]) (by simp [results, Tryd.results15, go_sem]) rfl ?_
  exact ⟨rfl, ((Below.refl w.heap.size w).alloc (Nat.le_refl _) _).trans (hb.mono (by first | exact Nat.le_refl _ | (simp; done) | (simp; omega) | omega))⟩

set_option maxHeartbeats 400000 in
theorem spec_BestMeter_no (n : Int) (A : Option Addr) (cap : Nat) (bs : List Int) (w : World) (hn : Fits n) (hA : Ints w w.heap.size A bs) (hno : rhB n bs = false) :
    Calls Tryd.prog 10 #[.agg #[.int .i64 n, .slice A bs.length cap]] w fun e w' => e = .returned (.tuple #[.slice none 0 0, .bool false]) ∧ Below w.heap.size w w' := by
  have HRO := Lib.hid (fun V h => spec_RhythmOk_any n A cap bs V h)
  rw [hno] at HRO
  have HA := Lib.hid hA
  clear hA hno
  go_enter Tryd.func10, Tryd.ntmps10
  go_wp2_with fail
  refine (HRO.out _ (HA.out.lift (by repeat (first | exact Below.refl _ _ | assumption | (refine Below.alloc ?_ (by first | exact Nat.le_refl _ | (simp; done) | (simp; omega) | omega) _) | (refine Below.drew ?_) | (refine Below.setCell ?_ (by first | exact Nat.le_refl _ | (simp; done) | (simp; omega) | omega) _))))).mono ?_
  rintro e w1 ⟨rfl, hb⟩
  go_wp2_with fail
  refine bodyPost_ret (v := .tuple #[.slice none 0 0, .bool false]) (by simp [results, Tryd.results10, go_sem]) rfl ?_
  exact ⟨rfl, ((Below.refl w.heap.size w).alloc (Nat.le_refl _) _).trans (hb.mono (by first | exact Nat.le_refl _ | (simp; done) | (simp; omega) | omega))⟩

set_option maxHeartbeats 400000 in
theorem impl_MeterLine_no (n : Int) (A : Option Addr) (cap : Nat) (bs : List Int) (w : World) (hn : Fits n) (hA : Ints w w.heap.size A bs) (hno : rhB n bs = false) :
    Calls Tryd.prog 7 #[.agg #[.int .i64 n, .slice A bs.length cap]] w fun e w' => e = .returned (.string (mkS [110, 111, 110, 101])) ∧ Below w.heap.size w w' := by
  have HRO := Lib.hid (fun V h => impl_BestMeter_no n A cap bs V hn h hno)
  have HA := Lib.hid hA
  clear hA hno
  go_enter Tryd.func7, Tryd.ntmps7
  go_wp2_with fail
  refine (HRO.out _ (HA.out.lift (by repeat (first | exact Below.refl _ _ | assumption | (refine Below.alloc ?_ (by first | exact Nat.le_refl _ | (simp; done) | (simp; omega) | omega) _) | (refine Below.drew ?_) | (refine Below.setCell ?_ (by first | exact Nat.le_refl _ | (simp; done) | (simp; omega) | omega) _))))).mono ?_
  rintro e w1 ⟨rfl, hb⟩
  go_wp2_with fail
  go_ret
  exact ⟨rfl, ((Below.refl w.heap.size w).alloc (Nat.le_refl _) _).trans (hb.mono (by first | exact Nat.le_refl _ | (simp; done) | (simp; omega) | omega))⟩

set_option maxHeartbeats 400000 in
theorem spec_MeterLine_no (n : Int) (A : Option Addr) (cap : Nat) (bs : List Int) (w : World) (hn : Fits n) (hA : Ints w w.heap.size A bs) (hno : rhB n bs = false) :
    Calls Tryd.prog 5 #[.agg #[.int .i64 n, .slice A bs.length cap]] w fun e w' => e = .returned (.string (mkS [110, 111, 110, 101])) ∧ Below w.heap.size w w' := by
  have HRO := Lib.hid (fun V h => spec_BestMeter_no n A cap bs V hn h hno)
  have HA := Lib.hid hA
  clear hA hno
  go_enter Tryd.func5, Tryd.ntmps5
  go_wp2_with fail
  refine (HRO.out _ (HA.out.lift (by repeat (first | exact Below.refl _ _ | assumption | (refine Below.alloc ?_ (by first | exact Nat.le_refl _ | (simp; done) | (simp; omega) | omega) _) | (refine Below.drew ?_) | (refine Below.setCell ?_ (by first | exact Nat.le_refl _ | (simp; done) | (simp; omega) | omega) _))))).mono ?_
  rintro e w1 ⟨rfl, hb⟩
  go_wp2_with fail
  go_ret
  exact ⟨rfl, ((Below.refl w.heap.size w).alloc (Nat.le_refl _) _).trans (hb.mono (by first | exact Nat.le_refl _ | (simp; done) | (simp; omega) | omega))⟩

set_option maxRecDepth 100000 in
set_option maxHeartbeats 2000000 in
theorem impl_MeterLine_ok (N : Nat) (A : Option Addr) (cap : Nat) (bs : List Int) (w : World) (hA : Ints w w.heap.size A bs) (hok : RhOk N bs)(hP : Pow w) (hM : MaxL w) :
    Calls Tryd.prog 7 #[.agg #[.int .i64 N, .slice A bs.length cap]] w fun e w' => e = .returned (.string (mkS (metV N bs))) ∧ Below w.heap.size w w' := by
  have hn1 : 1 ≤ N := by have := hok.1; omega
  have hn2 : N ≤ 24 := by have := hok.2.1; omega
  have hbl : bs.length ≤ N := by have := hok.len; omega
  have HBM := Lib.hid (fun V h => impl_BestMeter_any N A cap bs V h hok)
  have HBW := Lib.hid ((Below.refl w.heap.size w).alloc (Nat.le_refl _) (.cells #[.int .i64 N, .slice A (bs).length cap] 27))
  have HVA := Lib.hid (Hav.boxed hA N cap)
  have HMK := Lib.hid (fun (h : mtrL N ≠ []) => mtrL_ok hn2 (bstM_mem (N := N) (bs := bs) (j := (mtrL N).length) (by have := List.length_pos_iff.2 h; omega) (Nat.le_refl _)))
  have HV := Lib.hid (show metV N bs = if mtrL N = [] then [110, 111, 110, 101] else fmtM (bstM N bs (mtrL N).length) ++ [32] ++ itoL (syncV N bs (bstM N bs (mtrL N).length)) from metV_ok hok)
  have HFM := Lib.hid (fun A c xs V h (hb : Below w.heap.size w V) (hm : MetOk xs) => impl_FormatMeter_any A c xs V h hm (hP.below hb) (hM.below hb))
  have HSY := Lib.hid (fun A2 c2 xs V h1 h2 (hm : MetOk xs) hp hc => impl_SyncopationOf_any N A A2 cap c2 bs xs V h1 h2 hok hm hp hc)
  have HFI := Lib.hid (fun x (hx : Fits x) V (hb : Below w.heap.size w V) => impl_FormatInt_any x hx V (hP.below hb))
  generalize metV N bs = R at *
  clear hA hok
  obtain ⟨⟨p0, p1, _, _, _⟩, _⟩ := HVA.out
  go_enter Tryd.func7, Tryd.ntmps7
  go_wp2_with fail
  generalize w.alloc (.cells #[.int .i64 N, .slice A (bs).length cap] 27) = W at *
  refine (HBM.out _ HVA.out.2).mono ?_
  rintro e w1 ⟨hb, ⟨hml, rfl⟩ | ⟨A1, c1, hml, rfl, hI1, hc1⟩⟩
  · rw [if_pos hml] at HV
    have HBW := Lib.hid (HBW.out.trans (hb.mono HBW.out.size))
    clear hb
    go_wp2_with fail
    go_ret
    exact ⟨by rw [HV.out]; rfl, HBW.out⟩
  · rw [if_neg hml] at HV
    obtain ⟨hmo, hpr⟩ := HMK.out hml
    generalize bstM N bs (mtrL N).length = xs at *
    have HVX := Lib.hid hI1
    have HB1 := HBW
    clear HBW
    have HBW := Lib.hid (HB1.out.trans (hb.mono HB1.out.size))
    have HVA := Lib.hid (HVA.out.lift hb)
    have hsr := syncV_rng hmo N bs
    have HFF := Lib.hid (HFM.out A1 c1 xs)
    have HSS := Lib.hid (fun V h1 h2 => HSY.out A1 c1 xs V h1 h2 hmo hpr hc1)
    have hfl := fmtM_len hmo
    have hfs : Fits (syncV N bs xs) := by unfold Fits; omega
    have HFX := Lib.hid (HFI.out _ hfs)
    have hil := itoL_len _ hfs
    have HMO := Lib.hid hmo
    clear hb hI1 p0 p1 hmo hpr
    generalize syncV N bs xs = sc at *
    generalize itoL sc = IT at *
    generalize fmtM xs = FT at *
    have z1 : (mkS FT).size ≤ 105 := by rw [mkS_size]; exact hfl
    have z2 : (mkS IT).size ≤ 20 := by rw [mkS_size]; exact hil
    have y1 : (mkS FT ++ ⟨#[32]⟩).size ≤ 106 := by rw [ByteArray.size_append]; show _ + 1 ≤ 106; omega
    have HRES := Lib.hid (show mkS FT ++ ⟨#[32]⟩ ++ mkS IT = mkS R by
      rw [HV.out]
      exact Str.eq (((str_mk FT).app (str_mk [32])).app (str_mk IT)))
    obtain ⟨⟨p0, p1, _, _, _⟩, _⟩ := HVA.out
    go_wp2_with fail
    have HBW := Lib.hid (Below.drewH_ HBW.out)
    try have HRB := Lib.hid (Below.drewH_ HRB.out)
    try have HWW := Lib.hid (Below.drewH_ HWW.out)
    try have HVA := Lib.hid HVA.out.drew
    try have HVB := Lib.hid HVB.out.drew
    try have HVC := Lib.hid HVC.out.drew
    try have HVT := Lib.hid HVT.out.drew
    try have HVX := Lib.hid HVX.out.drew
    try have HVM := Lib.hid HVM.out.drew
    try have HVF := Lib.hid HVF.out.drew
    try have HVP := Lib.hid HVP.out.drew
    try have HVQ := Lib.hid HVQ.out.drew
    try have HLA := Lib.hid HLA.out.drewR_
    try have HLW := Lib.hid HLW.out.drewR_
    have HVX := Lib.hid (show Ints w1.drew w1.drew.heap.size A1 xs from HVX.out)
    (refine wp_region_held_drew (S := (fun w' => w'.cell? ⟨w.heap.size, 0, none⟩ = some (.int .i64 N) ∧ w'.cell? ⟨w.heap.size, 1, none⟩ = some (.slice A bs.length cap))) (by kernel_rfl) ?_ (fun hHeld => ?_); (focus ((try dsimp only); exact ⟨p0, p1⟩)))
    ((refine wpAnyH_take (i := 0) (v := ?_) rfl (by kernel_rfl) (by kernel_rfl) (by kernel_rfl) (fun _ _ _ h => h) (Or.inl ⟨by rfl, ?_⟩) (by assumption) ?_; rotate_left; (focus (intro wS hSw; (try dsimp only at hSw); go_simp; (try with_reducible rfl))); (try simp only [Act.put, List.getElem_toArray, List.getElem_cons_zero, List.getElem_cons_succ, List.setIfInBounds_toArray, List.set_cons_zero, List.set_cons_succ])); (refine wpAnyH_take (i := 3) (v := ?_) rfl (by kernel_rfl) (by kernel_rfl) (by kernel_rfl) (fun _ _ _ h => h) (Or.inl ⟨by rfl, ?_⟩) (by assumption) ?_; rotate_left; (focus (intro wS hSw; (try dsimp only at hSw); go_simp; (try with_reducible rfl))); (try simp only [Act.put, List.getElem_toArray, List.getElem_cons_zero, List.getElem_cons_succ, List.setIfInBounds_toArray, List.set_cons_zero, List.set_cons_succ])); (refine wpAnyH_take (i := 4) (v := ?_) rfl (by kernel_rfl) (by kernel_rfl) (by kernel_rfl) (fun _ _ _ h => h) (Or.inl ⟨by rfl, ?_⟩) (by assumption) ?_; rotate_left; (focus (intro wS hSw; (try dsimp only at hSw); go_simp; (try with_reducible rfl))); (try simp only [Act.put, List.getElem_toArray, List.getElem_cons_zero, List.getElem_cons_succ, List.setIfInBounds_toArray, List.set_cons_zero, List.set_cons_succ])))
    (refine wpAnyH_ready (rs := [1]) (by kernel_rfl) (by simp) ?_; refine AllReadyH.cons rfl (fun K hK => ?_) AllReadyH.nil; go_simp)
    go_at_call 16
    refine (HFF.out _ HVX.out HBW.out HMO.out).mono ?_
    rintro e w2 ⟨rfl, hb⟩
    have HBW := Lib.hid (HBW.out.trans (hb.mono HBW.out.size))
    try have HVA := Lib.hid (HVA.out.lift hb)
    try have HVB := Lib.hid (HVB.out.lift hb)
    try have HVC := Lib.hid (HVC.out.lift hb)
    try have HVT := Lib.hid (HVT.out.lift hb)
    try have HVX := Lib.hid (HVX.out.lift hb)
    try have HVM := Lib.hid (HVM.out.lift hb)
    try have HVF := Lib.hid (HVF.out.lift hb)
    try have HVP := Lib.hid (HVP.out.lift hb)
    try have HVQ := Lib.hid (HVQ.out.lift hb)
    try have HLA := Lib.hid (HLA.out.lift hb)
    try have HLW := Lib.hid (HLW.out.lift hb)
    try have HI := Lib.hid (HI.out.lift hb)
    try have HRB := Lib.hid (HRB.out.trans (hb.mono HRB.out.size))
    try have HWW := Lib.hid (HWW.out.trans (hb.mono HWW.out.size))
    clear hb
    clear p0 p1
    obtain ⟨⟨p0, p1, _, _, _⟩, _⟩ := HVA.out
    go_wp2_with fail
    (refine hK.out _ _ ?_ (fun hHeld2 => ?_); (focus ((try dsimp only); exact ⟨p0, p1⟩)); (clear hK K); (try simp only [Act.put, List.getElem_toArray, List.getElem_cons_zero, List.getElem_cons_succ, List.setIfInBounds_toArray, List.set_cons_zero, List.set_cons_succ]))
    (refine wpAnyH_take (i := 2) (v := ?_) rfl (by kernel_rfl) (by kernel_rfl) (by kernel_rfl) (fun _ _ _ h => h) (Or.inl ⟨by rfl, ?_⟩) (by assumption) ?_; rotate_left; (focus (intro wS hSw; (try dsimp only at hSw); go_simp; (try rw [if_neg (by omega)]); (try with_reducible rfl))); (try simp only [Act.put, List.getElem_toArray, List.getElem_cons_zero, List.getElem_cons_succ, List.setIfInBounds_toArray, List.set_cons_zero, List.set_cons_succ]))
    (refine wpAnyH_ready (rs := [5]) (by kernel_rfl) (by simp) ?_; refine AllReadyH.cons rfl (fun K hK => ?_) AllReadyH.nil; go_simp)
    go_at_call 18
    refine (HSS.out _ HVA.out.2 HVX.out).mono ?_
    rintro e w3 ⟨rfl, hb⟩
    have HBW := Lib.hid (HBW.out.trans (hb.mono HBW.out.size))
    try have HVA := Lib.hid (HVA.out.lift hb)
    try have HVB := Lib.hid (HVB.out.lift hb)
    try have HVC := Lib.hid (HVC.out.lift hb)
    try have HVT := Lib.hid (HVT.out.lift hb)
    try have HVX := Lib.hid (HVX.out.lift hb)
    try have HVM := Lib.hid (HVM.out.lift hb)
    try have HVF := Lib.hid (HVF.out.lift hb)
    try have HVP := Lib.hid (HVP.out.lift hb)
    try have HVQ := Lib.hid (HVQ.out.lift hb)
    try have HLA := Lib.hid (HLA.out.lift hb)
    try have HLW := Lib.hid (HLW.out.lift hb)
    try have HI := Lib.hid (HI.out.lift hb)
    try have HRB := Lib.hid (HRB.out.trans (hb.mono HRB.out.size))
    try have HWW := Lib.hid (HWW.out.trans (hb.mono HWW.out.size))
    clear hb
    clear p0 p1
    obtain ⟨⟨p0, p1, _, _, _⟩, _⟩ := HVA.out
    go_wp2_with fail
    (refine hK.out _ _ ?_ (fun hHeld2 => ?_); (focus ((try dsimp only); exact ⟨p0, p1⟩)); (clear hK K); (try simp only [Act.put, List.getElem_toArray, List.getElem_cons_zero, List.getElem_cons_succ, List.setIfInBounds_toArray, List.set_cons_zero, List.set_cons_succ]))
    (refine wpAnyH_ready (rs := [6]) (by kernel_rfl) (by simp) ?_; refine AllReadyH.cons rfl (fun K hK => ?_) AllReadyH.nil; go_simp)
    go_at_call 17
    refine (HFX.out _ HBW.out).mono ?_
    rintro e w4 ⟨rfl, hb⟩
    have HBW := Lib.hid (HBW.out.trans (hb.mono HBW.out.size))
    try have HVA := Lib.hid (HVA.out.lift hb)
    try have HVB := Lib.hid (HVB.out.lift hb)
    try have HVC := Lib.hid (HVC.out.lift hb)
    try have HVT := Lib.hid (HVT.out.lift hb)
    try have HVX := Lib.hid (HVX.out.lift hb)
    try have HVM := Lib.hid (HVM.out.lift hb)
    try have HVF := Lib.hid (HVF.out.lift hb)
    try have HVP := Lib.hid (HVP.out.lift hb)
    try have HVQ := Lib.hid (HVQ.out.lift hb)
    try have HLA := Lib.hid (HLA.out.lift hb)
    try have HLW := Lib.hid (HLW.out.lift hb)
    try have HI := Lib.hid (HI.out.lift hb)
    try have HRB := Lib.hid (HRB.out.trans (hb.mono HRB.out.size))
    try have HWW := Lib.hid (HWW.out.trans (hb.mono HWW.out.size))
    clear hb
    clear p0 p1
    obtain ⟨⟨p0, p1, _, _, _⟩, _⟩ := HVA.out
    go_wp2_with fail
    (refine hK.out _ _ ?_ (fun hHeld2 => ?_); (focus ((try dsimp only); exact ⟨p0, p1⟩)); (clear hK K); (try simp only [Act.put, List.getElem_toArray, List.getElem_cons_zero, List.getElem_cons_succ, List.setIfInBounds_toArray, List.set_cons_zero, List.set_cons_succ]))
    (refine wpAnyH_take (i := 7) (v := ?_) rfl (by kernel_rfl) (by kernel_rfl) (by kernel_rfl) (fun _ _ _ h => h) (Or.inl ⟨by rfl, ?_⟩) (by assumption) ?_; rotate_left; (focus (intro wS hSw; (try dsimp only at hSw); go_simp; (try rw [if_neg (by omega)]); (try with_reducible rfl))); (try simp only [Act.put, List.getElem_toArray, List.getElem_cons_zero, List.getElem_cons_succ, List.setIfInBounds_toArray, List.set_cons_zero, List.set_cons_succ]))
    (refine wpAnyH_take (i := 8) (v := ?_) rfl (by kernel_rfl) (by kernel_rfl) (by kernel_rfl) (fun _ _ _ h => h) (Or.inl ⟨by rfl, ?_⟩) (by assumption) ?_; rotate_left; (focus (intro wS hSw; (try dsimp only at hSw); go_simp; (try with_reducible rfl))); (try simp only [Act.put, List.getElem_toArray, List.getElem_cons_zero, List.getElem_cons_succ, List.setIfInBounds_toArray, List.set_cons_zero, List.set_cons_succ]))
    refine wpAnyH_done (by kernel_rfl) ?_ _
    clear p0 p1
    go_wp2_with fail
    go_ret
    exact ⟨ret_str HRES.out, HBW.out⟩

set_option maxRecDepth 100000 in
set_option maxHeartbeats 2000000 in
theorem spec_MeterLine_ok (N : Nat) (A : Option Addr) (cap : Nat) (bs : List Int) (w : World) (hA : Ints w w.heap.size A bs) (hok : RhOk N bs) :
    Calls Tryd.prog 5 #[.agg #[.int .i64 N, .slice A bs.length cap]] w fun e w' => e = .returned (.string (mkS (metV N bs))) ∧ Below w.heap.size w w' := by
  have hn1 : 1 ≤ N := by have := hok.1; omega
  have hn2 : N ≤ 24 := by have := hok.2.1; omega
  have hbl : bs.length ≤ N := by have := hok.len; omega
  have HBM := Lib.hid (fun V h => spec_BestMeter_any N A cap bs V h hok)
  have HBW := Lib.hid ((Below.refl w.heap.size w).alloc (Nat.le_refl _) (.cells #[.int .i64 N, .slice A (bs).length cap] 27))
  have HVA := Lib.hid (Hav.boxed hA N cap)
  have HMK := Lib.hid (fun (h : mtrL N ≠ []) => mtrL_ok hn2 (bstM_mem (N := N) (bs := bs) (j := (mtrL N).length) (by have := List.length_pos_iff.2 h; omega) (Nat.le_refl _)))
  have HV := Lib.hid (show metV N bs = if mtrL N = [] then [110, 111, 110, 101] else fmtM (bstM N bs (mtrL N).length) ++ [32] ++ itoL (syncV N bs (bstM N bs (mtrL N).length)) from metV_ok hok)
  have HFM := Lib.hid (fun A c xs V h (hb : Below w.heap.size w V) (hm : MetOk xs) => spec_FormatMeter_any A c xs V h hm)
  have HSY := Lib.hid (fun A2 c2 xs V h1 h2 (hm : MetOk xs) hp hc => spec_SyncopationOf_any N A A2 cap c2 bs xs V h1 h2 hok hm hp hc)
  have HFI := Lib.hid (fun x (hx : Fits x) V (hb : Below w.heap.size w V) => spec_FormatInt_any x hx V)
  generalize metV N bs = R at *
  clear hA hok
  obtain ⟨⟨p0, p1, _, _, _⟩, _⟩ := HVA.out
  go_enter Tryd.func5, Tryd.ntmps5
  go_wp2_with fail
  generalize w.alloc (.cells #[.int .i64 N, .slice A (bs).length cap] 27) = W at *
  refine (HBM.out _ HVA.out.2).mono ?_
  rintro e w1 ⟨hb, ⟨hml, rfl⟩ | ⟨A1, c1, hml, rfl, hI1, hc1⟩⟩
  · rw [if_pos hml] at HV
    have HBW := Lib.hid (HBW.out.trans (hb.mono HBW.out.size))
    clear hb
    go_wp2_with fail
    go_ret
    exact ⟨by rw [HV.out]; rfl, HBW.out⟩
  · rw [if_neg hml] at HV
    obtain ⟨hmo, hpr⟩ := HMK.out hml
    generalize bstM N bs (mtrL N).length = xs at *
    have HVX := Lib.hid hI1
    have HB1 := HBW
    clear HBW
    have HBW := Lib.hid (HB1.out.trans (hb.mono HB1.out.size))
    have HVA := Lib.hid (HVA.out.lift hb)
    have hsr := syncV_rng hmo N bs
    have HFF := Lib.hid (HFM.out A1 c1 xs)
    have HSS := Lib.hid (fun V h1 h2 => HSY.out A1 c1 xs V h1 h2 hmo hpr hc1)
    have hfl := fmtM_len hmo
    have hfs : Fits (syncV N bs xs) := by unfold Fits; omega
    have HFX := Lib.hid (HFI.out _ hfs)
    have hil := itoL_len _ hfs
    have HMO := Lib.hid hmo
    clear hb hI1 p0 p1 hmo hpr
    generalize syncV N bs xs = sc at *
    generalize itoL sc = IT at *
    generalize fmtM xs = FT at *
    have z1 : (mkS FT).size ≤ 105 := by rw [mkS_size]; exact hfl
    have z2 : (mkS IT).size ≤ 20 := by rw [mkS_size]; exact hil
    have y1 : (mkS FT ++ ⟨#[32]⟩).size ≤ 106 := by rw [ByteArray.size_append]; show _ + 1 ≤ 106; omega
    have HRES := Lib.hid (show mkS FT ++ ⟨#[32]⟩ ++ mkS IT = mkS R by
      rw [HV.out]
      exact Str.eq (((str_mk FT).app (str_mk [32])).app (str_mk IT)))
    obtain ⟨⟨p0, p1, _, _, _⟩, _⟩ := HVA.out
    go_wp2_with fail
    have HBW := Lib.hid (Below.drewH_ HBW.out)
    try have HRB := Lib.hid (Below.drewH_ HRB.out)
    try have HWW := Lib.hid (Below.drewH_ HWW.out)
    try have HVA := Lib.hid HVA.out.drew
    try have HVB := Lib.hid HVB.out.drew
    try have HVC := Lib.hid HVC.out.drew
    try have HVT := Lib.hid HVT.out.drew
    try have HVX := Lib.hid HVX.out.drew
    try have HVM := Lib.hid HVM.out.drew
    try have HVF := Lib.hid HVF.out.drew
    try have HVP := Lib.hid HVP.out.drew
    try have HVQ := Lib.hid HVQ.out.drew
    try have HLA := Lib.hid HLA.out.drewR_
    try have HLW := Lib.hid HLW.out.drewR_
    have HVX := Lib.hid (show Ints w1.drew w1.drew.heap.size A1 xs from HVX.out)
    (refine wp_region_held_drew (S := (fun w' => w'.cell? ⟨w.heap.size, 0, none⟩ = some (.int .i64 N) ∧ w'.cell? ⟨w.heap.size, 1, none⟩ = some (.slice A bs.length cap))) (by kernel_rfl) ?_ (fun hHeld => ?_); (focus ((try dsimp only); exact ⟨p0, p1⟩)))
    ((refine wpAnyH_take (i := 0) (v := ?_) rfl (by kernel_rfl) (by kernel_rfl) (by kernel_rfl) (fun _ _ _ h => h) (Or.inl ⟨by rfl, ?_⟩) (by assumption) ?_; rotate_left; (focus (intro wS hSw; (try dsimp only at hSw); go_simp; (try with_reducible rfl))); (try simp only [Act.put, List.getElem_toArray, List.getElem_cons_zero, List.getElem_cons_succ, List.setIfInBounds_toArray, List.set_cons_zero, List.set_cons_succ])); (refine wpAnyH_take (i := 3) (v := ?_) rfl (by kernel_rfl) (by kernel_rfl) (by kernel_rfl) (fun _ _ _ h => h) (Or.inl ⟨by rfl, ?_⟩) (by assumption) ?_; rotate_left; (focus (intro wS hSw; (try dsimp only at hSw); go_simp; (try with_reducible rfl))); (try simp only [Act.put, List.getElem_toArray, List.getElem_cons_zero, List.getElem_cons_succ, List.setIfInBounds_toArray, List.set_cons_zero, List.set_cons_succ])); (refine wpAnyH_take (i := 4) (v := ?_) rfl (by kernel_rfl) (by kernel_rfl) (by kernel_rfl) (fun _ _ _ h => h) (Or.inl ⟨by rfl, ?_⟩) (by assumption) ?_; rotate_left; (focus (intro wS hSw; (try dsimp only at hSw); go_simp; (try with_reducible rfl))); (try simp only [Act.put, List.getElem_toArray, List.getElem_cons_zero, List.getElem_cons_succ, List.setIfInBounds_toArray, List.set_cons_zero, List.set_cons_succ])))
    (refine wpAnyH_ready (rs := [1]) (by kernel_rfl) (by simp) ?_; refine AllReadyH.cons rfl (fun K hK => ?_) AllReadyH.nil; go_simp)
    go_at_call 11
    refine (HFF.out _ HVX.out HBW.out HMO.out).mono ?_
    rintro e w2 ⟨rfl, hb⟩
    have HBW := Lib.hid (HBW.out.trans (hb.mono HBW.out.size))
    try have HVA := Lib.hid (HVA.out.lift hb)
    try have HVB := Lib.hid (HVB.out.lift hb)
    try have HVC := Lib.hid (HVC.out.lift hb)
    try have HVT := Lib.hid (HVT.out.lift hb)
    try have HVX := Lib.hid (HVX.out.lift hb)
    try have HVM := Lib.hid (HVM.out.lift hb)
    try have HVF := Lib.hid (HVF.out.lift hb)
    try have HVP := Lib.hid (HVP.out.lift hb)
    try have HVQ := Lib.hid (HVQ.out.lift hb)
    try have HLA := Lib.hid (HLA.out.lift hb)
    try have HLW := Lib.hid (HLW.out.lift hb)
    try have HI := Lib.hid (HI.out.lift hb)
    try have HRB := Lib.hid (HRB.out.trans (hb.mono HRB.out.size))
    try have HWW := Lib.hid (HWW.out.trans (hb.mono HWW.out.size))
    clear hb
    clear p0 p1
    obtain ⟨⟨p0, p1, _, _, _⟩, _⟩ := HVA.out
    go_wp2_with fail
    (refine hK.out _ _ ?_ (fun hHeld2 => ?_); (focus ((try dsimp only); exact ⟨p0, p1⟩)); (clear hK K); (try simp only [Act.put, List.getElem_toArray, List.getElem_cons_zero, List.getElem_cons_succ, List.setIfInBounds_toArray, List.set_cons_zero, List.set_cons_succ]))
    (refine wpAnyH_take (i := 2) (v := ?_) rfl (by kernel_rfl) (by kernel_rfl) (by kernel_rfl) (fun _ _ _ h => h) (Or.inl ⟨by rfl, ?_⟩) (by assumption) ?_; rotate_left; (focus (intro wS hSw; (try dsimp only at hSw); go_simp; (try rw [if_neg (by omega)]); (try with_reducible rfl))); (try simp only [Act.put, List.getElem_toArray, List.getElem_cons_zero, List.getElem_cons_succ, List.setIfInBounds_toArray, List.set_cons_zero, List.set_cons_succ]))
    (refine wpAnyH_ready (rs := [5]) (by kernel_rfl) (by simp) ?_; refine AllReadyH.cons rfl (fun K hK => ?_) AllReadyH.nil; go_simp)
    go_at_call 13
    refine (HSS.out _ HVA.out.2 HVX.out).mono ?_
    rintro e w3 ⟨rfl, hb⟩
    have HBW := Lib.hid (HBW.out.trans (hb.mono HBW.out.size))
    try have HVA := Lib.hid (HVA.out.lift hb)
    try have HVB := Lib.hid (HVB.out.lift hb)
    try have HVC := Lib.hid (HVC.out.lift hb)
    try have HVT := Lib.hid (HVT.out.lift hb)
    try have HVX := Lib.hid (HVX.out.lift hb)
    try have HVM := Lib.hid (HVM.out.lift hb)
    try have HVF := Lib.hid (HVF.out.lift hb)
    try have HVP := Lib.hid (HVP.out.lift hb)
    try have HVQ := Lib.hid (HVQ.out.lift hb)
    try have HLA := Lib.hid (HLA.out.lift hb)
    try have HLW := Lib.hid (HLW.out.lift hb)
    try have HI := Lib.hid (HI.out.lift hb)
    try have HRB := Lib.hid (HRB.out.trans (hb.mono HRB.out.size))
    try have HWW := Lib.hid (HWW.out.trans (hb.mono HWW.out.size))
    clear hb
    clear p0 p1
    obtain ⟨⟨p0, p1, _, _, _⟩, _⟩ := HVA.out
    go_wp2_with fail
    (refine hK.out _ _ ?_ (fun hHeld2 => ?_); (focus ((try dsimp only); exact ⟨p0, p1⟩)); (clear hK K); (try simp only [Act.put, List.getElem_toArray, List.getElem_cons_zero, List.getElem_cons_succ, List.setIfInBounds_toArray, List.set_cons_zero, List.set_cons_succ]))
    (refine wpAnyH_ready (rs := [6]) (by kernel_rfl) (by simp) ?_; refine AllReadyH.cons rfl (fun K hK => ?_) AllReadyH.nil; go_simp)
    go_at_call 12
    refine (HFX.out _ HBW.out).mono ?_
    rintro e w4 ⟨rfl, hb⟩
    have HBW := Lib.hid (HBW.out.trans (hb.mono HBW.out.size))
    try have HVA := Lib.hid (HVA.out.lift hb)
    try have HVB := Lib.hid (HVB.out.lift hb)
    try have HVC := Lib.hid (HVC.out.lift hb)
    try have HVT := Lib.hid (HVT.out.lift hb)
    try have HVX := Lib.hid (HVX.out.lift hb)
    try have HVM := Lib.hid (HVM.out.lift hb)
    try have HVF := Lib.hid (HVF.out.lift hb)
    try have HVP := Lib.hid (HVP.out.lift hb)
    try have HVQ := Lib.hid (HVQ.out.lift hb)
    try have HLA := Lib.hid (HLA.out.lift hb)
    try have HLW := Lib.hid (HLW.out.lift hb)
    try have HI := Lib.hid (HI.out.lift hb)
    try have HRB := Lib.hid (HRB.out.trans (hb.mono HRB.out.size))
    try have HWW := Lib.hid (HWW.out.trans (hb.mono HWW.out.size))
    clear hb
    clear p0 p1
    obtain ⟨⟨p0, p1, _, _, _⟩, _⟩ := HVA.out
    go_wp2_with fail
    (refine hK.out _ _ ?_ (fun hHeld2 => ?_); (focus ((try dsimp only); exact ⟨p0, p1⟩)); (clear hK K); (try simp only [Act.put, List.getElem_toArray, List.getElem_cons_zero, List.getElem_cons_succ, List.setIfInBounds_toArray, List.set_cons_zero, List.set_cons_succ]))
    (refine wpAnyH_take (i := 7) (v := ?_) rfl (by kernel_rfl) (by kernel_rfl) (by kernel_rfl) (fun _ _ _ h => h) (Or.inl ⟨by rfl, ?_⟩) (by assumption) ?_; rotate_left; (focus (intro wS hSw; (try dsimp only at hSw); go_simp; (try rw [if_neg (by omega)]); (try with_reducible rfl))); (try simp only [Act.put, List.getElem_toArray, List.getElem_cons_zero, List.getElem_cons_succ, List.setIfInBounds_toArray, List.set_cons_zero, List.set_cons_succ]))
    (refine wpAnyH_take (i := 8) (v := ?_) rfl (by kernel_rfl) (by kernel_rfl) (by kernel_rfl) (fun _ _ _ h => h) (Or.inl ⟨by rfl, ?_⟩) (by assumption) ?_; rotate_left; (focus (intro wS hSw; (try dsimp only at hSw); go_simp; (try with_reducible rfl))); (try simp only [Act.put, List.getElem_toArray, List.getElem_cons_zero, List.getElem_cons_succ, List.setIfInBounds_toArray, List.set_cons_zero, List.set_cons_succ]))
    refine wpAnyH_done (by kernel_rfl) ?_ _
    clear p0 p1
    go_wp2_with fail
    go_ret
    exact ⟨ret_str HRES.out, HBW.out⟩

theorem impl_MeterLine_any (n : Int) (A : Option Addr) (cap : Nat) (bs : List Int) (w : World) (hn : Fits n) (hA : Ints w w.heap.size A bs) (hP : Pow w) (hM : MaxL w) :
    Calls Tryd.prog 7 #[.agg #[.int .i64 n, .slice A bs.length cap]] w fun e w' => e = .returned (.string (mkS (metV n bs))) ∧ Below w.heap.size w w' := by
  cases h : rhB n bs
  · rw [metV_no h]
    exact impl_MeterLine_no n A cap bs w hn hA h
  · have hok := rhB_iff.1 h
    obtain ⟨N, rfl⟩ := Int.eq_ofNat_of_zero_le (show 0 ≤ n by have := hok.1; omega)
    exact impl_MeterLine_ok N A cap bs w hA hok hP hM
theorem spec_MeterLine_any (n : Int) (A : Option Addr) (cap : Nat) (bs : List Int) (w : World) (hn : Fits n) (hA : Ints w w.heap.size A bs) :
    Calls Tryd.prog 5 #[.agg #[.int .i64 n, .slice A bs.length cap]] w fun e w' => e = .returned (.string (mkS (metV n bs))) ∧ Below w.heap.size w w' := by
  cases h : rhB n bs
  · rw [metV_no h]
    exact spec_MeterLine_no n A cap bs w hn hA h
  · have hok := rhB_iff.1 h
    obtain ⟨N, rfl⟩ := Int.eq_ofNat_of_zero_le (show 0 ≤ n by have := hok.1; omega)
    exact spec_MeterLine_ok N A cap bs w hA hok

end Go.Proofs.YtjoeglekcnaebaaDoor
