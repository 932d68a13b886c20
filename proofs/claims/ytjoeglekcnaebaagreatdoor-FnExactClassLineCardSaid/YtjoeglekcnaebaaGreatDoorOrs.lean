/-
  Axes and the size of an orbit, by the reference.
-/
import Derived.Test.YtjoeglekcnaebaaGreatDoorLst
import Derived.Test.YtjoeglekcnaebaaGreatDoorSpcP
import Derived.Test.YtjoeglekcnaebaaGreatDoorSrok
namespace Go.Proofs.YtjoeglekcnaebaaGreatDoor
open Go.RowKit
set_option linter.unusedVariables false
set_option linter.unusedSimpArgs false

def axF (N : Nat) (bs : List Int) : Nat → List Int
  | 0 => []
  | m + 1 => if eqB (affL N (-1) (m : Nat) bs) bs then axF N bs m ++ [(m : Int)] else axF N bs m
theorem axF_len (N : Nat) (bs : List Int) : ∀ m, (axF N bs m).length ≤ m
  | 0 => Nat.le_refl _
  | m + 1 => by
    have := axF_len N bs m
    unfold axF; split <;> simp <;> omega
theorem axF_any (N : Nat) (bs : List Int) : ∀ m, decide (0 < (axF N bs m).length) = (List.range m).any fun k => eqB (affL N (-1) (k : Nat) bs) bs
  | 0 => rfl
  | m + 1 => by
    rw [List.range_succ, List.any_append, ← axF_any N bs m]
    rw [show axF N bs (m + 1) = if eqB (affL N (-1) (m : Nat) bs) bs then axF N bs m ++ [(m : Int)] else axF N bs m from rfl]
    cases h : eqB (affL N (-1) (m : Nat) bs) bs <;> simp [h]
theorem ax_eq (N : Nat) (bs : List Int) : decide (0 < (axF N bs N).length) = axB N bs := axF_any N bs N

set_option maxRecDepth 100000 in
set_option maxHeartbeats 1000000 in
theorem spec_AxesOf_any (N : Nat) (A : Option Addr) (cap : Nat) (bs : List Int) (w : World) (hA : Ints w w.heap.size A bs) (hok : RhOk N bs) :
    Calls Tryz.prog 67 #[.agg #[.int .i64 N, .slice A bs.length cap]] w fun e w' => ∃ A' c, e = .returned (.slice A' (axF N bs N).length c) ∧ Below w.heap.size w w' := by
  have hn1 : 1 ≤ N := by have := hok.1; omega
  have hn2 : N ≤ 24 := by have := hok.2.1; omega
  have hr : rhB N bs = true := rhB_iff.2 hok
  have HRO := Lib.hid (fun V h => hr ▸ spec_RhythmOk_any N A cap bs V h)
  have HMP := Lib.hid (fun (k : Nat) (hk : k ≤ 1000) V h => show Calls Tryz.prog 36 #[.agg #[.int .i64 N, .slice A bs.length cap], .int .i64 (-1), .int .i64 k] V (RetRh1 V N (affL N (-1) k bs)) from spec_l02Map_any N A cap bs (-1) k V h hok (fun x h1 h2 => by omega) (by omega))
  have HMO := Lib.hid (fun (k : Nat) => (show RhOk N (affL N (-1) k bs) from affL_ok hn1 hn2))
  have HA := Lib.hid hA
  have HB0 := Lib.hid ((Below.refl w.heap.size w).alloc (Nat.le_refl _) (.cells #[.int .i64 N, .slice A (bs).length cap] 27))
  have HVA := Lib.hid (Hav.boxed hA N cap)
  clear hA hok hr
  obtain ⟨⟨p0, p1, _, _, _⟩, _⟩ := HVA.out
  go_enter Tryz.func67, Tryz.ntmps67
  go_wp2_with fail
  generalize w.alloc (.cells #[.int .i64 N, .slice A (bs).length cap] 27) = W at *
  have HV0 := HVA
  have hqw : w.heap.size + 1 ≤ W.heap.size := HVA.out.1.2.2.2.2
  refine (HRO.out _ HVA.out.2).mono ?_
  rintro e w1 ⟨rfl, hb⟩
  have HB1 := Lib.hid (hb.mono hqw)
  have hz1 := hb.size
  clear hb p0 p1
  go_wp2_with fail
  go_loopw [3, 4] (fun so i wr => ∃ j : Nat, j ≤ N ∧ i = .int .i64 j ∧ OwnI wr (w.heap.size + 1) so (axF N bs j) ∧ Below (w.heap.size + 1) W wr) (fun _ i _ => N - (intOf i).toNat)
  case atStart => exact ⟨0, Nat.zero_le _, rfl, OwnI.empty_at _ _ _ rfl (by omega), HB1.out.alloc (by omega) _⟩
  case round =>
    obtain ⟨j, hj, rfl, hown, hbel⟩ := hrel
    obtain ⟨wo, rfl⟩ : ∃ wo : World, wo = wr := ⟨_, rfl⟩
    obtain ⟨So, cso, rfl⟩ := hown.form
    have hwz : W.heap.size ≤ wo.heap.size := hbel.size
    have hcl := axF_len N bs j
    clear HVA
    have HVA := Lib.hid (show Hav wo N w.heap.size A cap bs from ⟨HV0.out.1.below hbel (Nat.lt_succ_self _), ((HA.out.below HB0.out).below (hbel.mono (Nat.le_succ _))).mono (by have := hbel.size; omega)⟩)
    have HBO := Lib.hid hbel
    have HO := Lib.hid hown
    clear hown hbel
    obtain ⟨⟨p0, p1, _, _, _⟩, _⟩ := HVA.out
    by_cases hlt : j < N
    · have hji : (j : Int) < (N : Int) := by omega
      have HMJ := Lib.hid (HMP.out j (by omega))
      have HMOJ := Lib.hid (HMO.out j)
      have HEQ := Lib.hid (fun (A2 : Option Addr) (c2 : Nat) (V : World) (h1 : Ints V V.heap.size A2 (affL N (-1) j bs)) (h2 : Ints V V.heap.size A bs) => spec_l02Same_any A2 A c2 cap (affL N (-1) j bs) bs V _ _ h1 h2)
      have hsu : axF N bs (j + 1) = if eqB (affL N (-1) (j : Nat) bs) bs then axF N bs j ++ [(j : Int)] else axF N bs j := rfl
      obtain ⟨r, hr⟩ : ∃ r, eqB (affL N (-1) (j : Nat) bs) bs = r := ⟨_, rfl⟩
      rw [hr] at HEQ hsu
      generalize affL N (-1) (j : Nat) bs = M at *
      have HSU := Lib.hid hsu
      clear hsu hr
      generalize axF N bs j = L at *
      cases r
      all_goals
        go_wp2_with fail
        have HBW := Lib.hid (Below.refl wo.heap.size wo)
        have HBW := Lib.hid (Below.drewH_ HBW.out)
        try have HRB := Lib.hid (Below.drewH_ HRB.out)
        try have HWW := Lib.hid (Below.drewH_ HWW.out)
        try have HVA := Lib.hid HVA.out.drew
        try have HVB := Lib.hid HVB.out.drew
        try have HVC := Lib.hid HVC.out.drew
        try have HVT := Lib.hid HVT.out.drew
        try have HVX := Lib.hid HVX.out.drew
        try have HVM := Lib.hid HVM.out.drew
        try have HVF := Lib.hid HVF.out.drew
        try have HVP := Lib.hid HVP.out.drew
        try have HVQ := Lib.hid HVQ.out.drew
        try have HLA := Lib.hid HLA.out.drewR_
        try have HLW := Lib.hid HLW.out.drewR_
        (refine wp_region_held_drew (S := (fun w' => w'.cell? ⟨w.heap.size, 0, none⟩ = some (.int .i64 N) ∧ w'.cell? ⟨w.heap.size, 1, none⟩ = some (.slice A bs.length cap))) (by kernel_rfl) ?_ (fun hHeld => ?_); (focus ((try dsimp only); exact ⟨p0, p1⟩)))
        ((refine wpAnyH_take (i := 0) (v := ?_) rfl (by kernel_rfl) (by kernel_rfl) (by kernel_rfl) (fun _ _ _ h => h) (Or.inl ⟨by rfl, ?_⟩) (by assumption) ?_; rotate_left; (focus (intro wS hSw; (try dsimp only at hSw); go_simp; (try with_reducible rfl))); (try simp only [Act.put, List.getElem_toArray, List.getElem_cons_zero, List.getElem_cons_succ, List.setIfInBounds_toArray, List.set_cons_zero, List.set_cons_succ])); (refine wpAnyH_take (i := 1) (v := ?_) rfl (by kernel_rfl) (by kernel_rfl) (by kernel_rfl) (fun _ _ _ h => h) (Or.inl ⟨by rfl, ?_⟩) (by assumption) ?_; rotate_left; (focus (intro wS hSw; (try dsimp only at hSw); go_simp; (try with_reducible rfl))); (try simp only [Act.put, List.getElem_toArray, List.getElem_cons_zero, List.getElem_cons_succ, List.setIfInBounds_toArray, List.set_cons_zero, List.set_cons_succ])); (refine wpAnyH_take (i := 4) (v := ?_) rfl (by kernel_rfl) (by kernel_rfl) (by kernel_rfl) (fun _ _ _ h => h) (Or.inl ⟨by rfl, ?_⟩) (by assumption) ?_; rotate_left; (focus (intro wS hSw; (try dsimp only at hSw); go_simp; (try with_reducible rfl))); (try simp only [Act.put, List.getElem_toArray, List.getElem_cons_zero, List.getElem_cons_succ, List.setIfInBounds_toArray, List.set_cons_zero, List.set_cons_succ])); (refine wpAnyH_take (i := 5) (v := ?_) rfl (by kernel_rfl) (by kernel_rfl) (by kernel_rfl) (fun _ _ _ h => h) (Or.inl ⟨by rfl, ?_⟩) (by assumption) ?_; rotate_left; (focus (intro wS hSw; (try dsimp only at hSw); go_simp; (try with_reducible rfl))); (try simp only [Act.put, List.getElem_toArray, List.getElem_cons_zero, List.getElem_cons_succ, List.setIfInBounds_toArray, List.set_cons_zero, List.set_cons_succ])))
        (refine wpAnyH_ready (rs := [2]) (by kernel_rfl) (by simp) ?_; refine AllReadyH.cons rfl (fun K hK => ?_) AllReadyH.nil; go_simp)
        go_at_call 36
        refine (HMJ.out _ HVA.out.2).mono ?_
        rintro e w2 ⟨A2, c2, rfl, hrw, hb⟩
        have HBW := Lib.hid (HBW.out.trans (hb.mono HBW.out.size))
        try have HVA := Lib.hid (HVA.out.lift hb)
        try have HVB := Lib.hid (HVB.out.lift hb)
        try have HVC := Lib.hid (HVC.out.lift hb)
        try have HVT := Lib.hid (HVT.out.lift hb)
        try have HVX := Lib.hid (HVX.out.lift hb)
        try have HVM := Lib.hid (HVM.out.lift hb)
        try have HVF := Lib.hid (HVF.out.lift hb)
        try have HVP := Lib.hid (HVP.out.lift hb)
        try have HVQ := Lib.hid (HVQ.out.lift hb)
        try have HLA := Lib.hid (HLA.out.lift hb)
        try have HLW := Lib.hid (HLW.out.lift hb)
        try have HI := Lib.hid (HI.out.lift hb)
        try have HRB := Lib.hid (HRB.out.trans (hb.mono HRB.out.size))
        try have HWW := Lib.hid (HWW.out.trans (hb.mono HWW.out.size))
        clear hb
        have HI2 := Lib.hid (hrw.ints (rh_fitsL HMOJ.out))
        clear hrw p0 p1
        obtain ⟨⟨p0, p1, _, _, _⟩, _⟩ := HVA.out
        go_wp2_with fail
        (refine hK.out _ _ ?_ (fun hHeld2 => ?_); (focus ((try dsimp only); exact ⟨p0, p1⟩)); (clear hK K); (try simp only [Act.put, List.getElem_toArray, List.getElem_cons_zero, List.getElem_cons_succ, List.setIfInBounds_toArray, List.set_cons_zero, List.set_cons_succ]))
        have hfd : ∀ V : World, (Instr.field 27 (.agg #[.int .i64 N, .slice A2 M.length c2]) 1).run Tryz.prog V = .ok (.slice A2 M.length c2) V := fun _ => by kernel_rfl
        (refine wpAnyH_take (i := 3) (v := ?_) rfl (by kernel_rfl) (by kernel_rfl) (by kernel_rfl) (fun _ _ _ h => h) (Or.inl ⟨by rfl, ?_⟩) (by assumption) ?_; rotate_left; (focus (intro wS hSw; (try dsimp only at hSw); go_simp; (try with_reducible rfl))); (try simp only [Act.put, List.getElem_toArray, List.getElem_cons_zero, List.getElem_cons_succ, List.setIfInBounds_toArray, List.set_cons_zero, List.set_cons_succ]))
        clear hfd
        (refine wpAnyH_ready (rs := [6]) (by kernel_rfl) (by simp) ?_; refine AllReadyH.cons rfl (fun K hK => ?_) AllReadyH.nil; go_simp)
        go_at_call 68
        refine (HEQ.out A2 c2 _ HI2.out HVA.out.2).mono ?_
        rintro e w3 ⟨rfl, rfl⟩
        go_wp2_with fail
        (refine hK.out _ _ ?_ (fun hHeld2 => ?_); (focus ((try dsimp only); exact ⟨p0, p1⟩)); (clear hK K); (try simp only [Act.put, List.getElem_toArray, List.getElem_cons_zero, List.getElem_cons_succ, List.setIfInBounds_toArray, List.set_cons_zero, List.set_cons_succ]))
        refine wpAnyH_done (by kernel_rfl) ?_ _
        have HO2 := Lib.hid (HO.out.grown HBW.out)
        have hz2 := HBW.out.size
        have HB2 := Lib.hid (HBO.out.trans (HBW.out.mono (by omega)))
      · rw [if_neg (by decide)] at HSU
        go_wp2_with fail
        go_roundw
        case rel => exact ⟨j + 1, by omega, by go_num, by rw [HSU.out]; exact HO2.out, HB2.out⟩
        case measure => simp [intOf]; omega
      · rw [if_pos trivial] at HSU
        go_wp2_with (at_builtin; refine wpList_append_int rfl (.tmp 22) (.tmp 24) rfl (w.heap.size + 1) _ L rfl (HO2.out.alloc _) _ _ rfl (cell_new1 _ _ _) (by omega) (by simp; omega) ?_; intro v4 w4 hown4 hb4)
        have HO3 := Lib.hid hown4
        have HB3 := Lib.hid ((HB2.out.alloc (by omega) _).trans hb4)
        clear hown4 hb4
        go_wp2_with fail
        go_roundw
        case rel => exact ⟨j + 1, by omega, by go_num, by rw [HSU.out]; exact HO3.out, HB3.out⟩
        case measure => simp [intOf]; omega
    · have hjN : j = N := by omega
      subst hjN
      obtain ⟨L, hL⟩ : ∃ L, axF j bs j = L := ⟨_, rfl⟩
      have HV := Lib.hid hL
      rw [hL] at HO ⊢
      clear hL
      go_wp2_with fail
      go_ret
      rw [HV.out]
      exact ⟨So, cso, rfl, HB0.out.trans (HBO.out.mono (Nat.le_succ _))⟩

set_option maxRecDepth 100000 in
set_option maxHeartbeats 400000 in
theorem spec_IsMirrored_any (N : Nat) (A : Option Addr) (cap : Nat) (bs : List Int) (w : World) (hA : Ints w w.heap.size A bs) (hok : RhOk N bs) :
    Calls Tryz.prog 40 #[.agg #[.int .i64 N, .slice A bs.length cap]] w fun e w' => e = .returned (.bool (axB N bs)) ∧ Below w.heap.size w w' := by
  have HAX := Lib.hid (fun V h => spec_AxesOf_any N A cap bs V h hok)
  have HE := Lib.hid (ax_eq N bs)
  have HB0 := Lib.hid ((Below.refl w.heap.size w).alloc (Nat.le_refl _) (.cells #[.int .i64 N, .slice A (bs).length cap] 27))
  have HVA := Lib.hid (Hav.boxed hA N cap)
  generalize (axF N bs N).length = L at *
  clear hA hok
  obtain ⟨⟨p0, p1, _, _, _⟩, _⟩ := HVA.out
  go_enter Tryz.func40, Tryz.ntmps40
  go_wp2_with fail
  generalize w.alloc (.cells #[.int .i64 N, .slice A (bs).length cap] 27) = W at *
  refine (HAX.out _ HVA.out.2).mono ?_
  rintro e w1 ⟨A1, c1, rfl, hb⟩
  have HB1 := Lib.hid (HB0.out.trans (hb.mono HB0.out.size))
  clear hb
  go_wp2_with fail
  go_ret
  exact ⟨ret_bool HE.out, HB1.out⟩

set_option maxRecDepth 100000 in
set_option maxHeartbeats 400000 in
theorem spec_OrbitSize_any (N : Nat) (A : Option Addr) (cap : Nat) (bs : List Int) (w : World) (hA : Ints w w.heap.size A bs) (hok : RhOk N bs) :
    Calls Tryz.prog 18 #[.agg #[.int .i64 N, .slice A bs.length cap]] w fun e w' => e = .returned (.int .i64 (orbV N bs : Nat)) ∧ Below w.heap.size w w' := by
  have hn2 : N ≤ 24 := by have := hok.2.1; omega
  have hr : rhB N bs = true := rhB_iff.2 hok
  have hp := (perV_is hok).2.1
  have HRO := Lib.hid (fun V h => hr ▸ spec_RhythmOk_any N A cap bs V h)
  have HIM := Lib.hid (fun V h => spec_IsMirrored_any N A cap bs V h hok)
  have HPV := Lib.hid (fun V h => spec_l04Period_any N A cap bs V h hok)
  have HOV := Lib.hid (show orbV N bs = if axB N bs then perV N bs else 2 * perV N bs from rfl)
  have HBW := Lib.hid ((Below.refl w.heap.size w).alloc (Nat.le_refl _) (.cells #[.int .i64 N, .slice A (bs).length cap] 27))
  have HVA := Lib.hid (Hav.boxed hA N cap)
  generalize axB N bs = ax at *
  generalize perV N bs = p at *
  clear hA hok hr
  obtain ⟨⟨p0, p1, _, _, _⟩, _⟩ := HVA.out
  have hw1 : IntKind.i64.wrap (2 * (p : Int)) = 2 * (p : Int) := i64w (by omega)
  go_enter Tryz.func18, Tryz.ntmps18
  go_wp2_with fail
  generalize w.alloc (.cells #[.int .i64 N, .slice A (bs).length cap] 27) = W at *
  refine (HRO.out _ HVA.out.2).mono ?_
  rintro e w1 ⟨rfl, hb⟩
  have HBW := Lib.hid (HBW.out.trans (hb.mono HBW.out.size))
  try have HVA := Lib.hid (HVA.out.lift hb)
  try have HVB := Lib.hid (HVB.out.lift hb)
  try have HVC := Lib.hid (HVC.out.lift hb)
  try have HVT := Lib.hid (HVT.out.lift hb)
  try have HVX := Lib.hid (HVX.out.lift hb)
  try have HVM := Lib.hid (HVM.out.lift hb)
  try have HVF := Lib.hid (HVF.out.lift hb)
  try have HVP := Lib.hid (HVP.out.lift hb)
  try have HVQ := Lib.hid (HVQ.out.lift hb)
  try have HLA := Lib.hid (HLA.out.lift hb)
  try have HLW := Lib.hid (HLW.out.lift hb)
  try have HI := Lib.hid (HI.out.lift hb)
  try have HRB := Lib.hid (HRB.out.trans (hb.mono HRB.out.size))
  try have HWW := Lib.hid (HWW.out.trans (hb.mono HWW.out.size))
  clear hb
  clear p0 p1
  obtain ⟨⟨p0, p1, _, _, _⟩, _⟩ := HVA.out
  go_wp2_with fail
  refine (HIM.out _ HVA.out.2).mono ?_
  rintro e w2 ⟨rfl, hb⟩
  have HBW := Lib.hid (HBW.out.trans (hb.mono HBW.out.size))
  try have HVA := Lib.hid (HVA.out.lift hb)
  try have HVB := Lib.hid (HVB.out.lift hb)
  try have HVC := Lib.hid (HVC.out.lift hb)
  try have HVT := Lib.hid (HVT.out.lift hb)
  try have HVX := Lib.hid (HVX.out.lift hb)
  try have HVM := Lib.hid (HVM.out.lift hb)
  try have HVF := Lib.hid (HVF.out.lift hb)
  try have HVP := Lib.hid (HVP.out.lift hb)
  try have HVQ := Lib.hid (HVQ.out.lift hb)
  try have HLA := Lib.hid (HLA.out.lift hb)
  try have HLW := Lib.hid (HLW.out.lift hb)
  try have HI := Lib.hid (HI.out.lift hb)
  try have HRB := Lib.hid (HRB.out.trans (hb.mono HRB.out.size))
  try have HWW := Lib.hid (HWW.out.trans (hb.mono HWW.out.size))
  clear hb
  clear p0 p1
  obtain ⟨⟨p0, p1, _, _, _⟩, _⟩ := HVA.out
  cases ax
  · rw [if_neg (by decide)] at HOV
    go_wp2_with fail
    refine (HPV.out _ HVA.out.2).mono ?_
    rintro e w3 ⟨rfl, hb⟩
    have HBW := Lib.hid (HBW.out.trans (hb.mono HBW.out.size))
    try have HVA := Lib.hid (HVA.out.lift hb)
    try have HVB := Lib.hid (HVB.out.lift hb)
    try have HVC := Lib.hid (HVC.out.lift hb)
    try have HVT := Lib.hid (HVT.out.lift hb)
    try have HVX := Lib.hid (HVX.out.lift hb)
    try have HVM := Lib.hid (HVM.out.lift hb)
    try have HVF := Lib.hid (HVF.out.lift hb)
    try have HVP := Lib.hid (HVP.out.lift hb)
    try have HVQ := Lib.hid (HVQ.out.lift hb)
    try have HLA := Lib.hid (HLA.out.lift hb)
    try have HLW := Lib.hid (HLW.out.lift hb)
    try have HI := Lib.hid (HI.out.lift hb)
    try have HRB := Lib.hid (HRB.out.trans (hb.mono HRB.out.size))
    try have HWW := Lib.hid (HWW.out.trans (hb.mono HWW.out.size))
    clear hb
    go_wp2_with fail
    go_ret
    exact ⟨ret_int (by rw [HOV.out]; omega), HBW.out⟩
  · rw [if_pos rfl] at HOV
    go_wp2_with fail
    refine (HPV.out _ HVA.out.2).mono ?_
    rintro e w3 ⟨rfl, hb⟩
    have HBW := Lib.hid (HBW.out.trans (hb.mono HBW.out.size))
    try have HVA := Lib.hid (HVA.out.lift hb)
    try have HVB := Lib.hid (HVB.out.lift hb)
    try have HVC := Lib.hid (HVC.out.lift hb)
    try have HVT := Lib.hid (HVT.out.lift hb)
    try have HVX := Lib.hid (HVX.out.lift hb)
    try have HVM := Lib.hid (HVM.out.lift hb)
    try have HVF := Lib.hid (HVF.out.lift hb)
    try have HVP := Lib.hid (HVP.out.lift hb)
    try have HVQ := Lib.hid (HVQ.out.lift hb)
    try have HLA := Lib.hid (HLA.out.lift hb)
    try have HLW := Lib.hid (HLW.out.lift hb)
    try have HI := Lib.hid (HI.out.lift hb)
    try have HRB := Lib.hid (HRB.out.trans (hb.mono HRB.out.size))
    try have HWW := Lib.hid (HWW.out.trans (hb.mono HWW.out.size))
    clear hb
    go_wp2_with fail
    go_ret
    exact ⟨ret_int (by rw [HOV.out]), HBW.out⟩

end Go.Proofs.YtjoeglekcnaebaaGreatDoor
