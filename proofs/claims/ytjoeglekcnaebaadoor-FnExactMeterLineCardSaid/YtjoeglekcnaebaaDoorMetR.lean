/-
  Meters that are ones, units, weights and syncopation, by the reference.
-/
import Derived.Test.YtjoeglekcnaebaaDoorMetS
import Derived.Test.YtjoeglekcnaebaaDoorSrok
namespace Go.Proofs.YtjoeglekcnaebaaDoor
open Go.RowKit
set_option linter.unusedVariables false
set_option linter.unusedSimpArgs false

set_option maxHeartbeats 400000 in
theorem spec_l18Size_any (A : Option Addr) (cap : Nat) (xs : List Int) (w : World) (B : Nat) (hA : Ints w B A xs) (h27 : In27 xs) (hp : prd xs ≤ 100000) :
    Calls Tryd.prog 38 #[.slice A xs.length cap] w fun e w' => e = .returned (.int .i64 (prd xs)) ∧ w = w' := by
  have hlen := hA.1
  unfold maxLen at hlen
  have HC := Lib.hid hA.2.2
  have HP := Lib.hid (fun j => And.intro (prd_pos (h27.take j)) (prd_take_le h27 j))
  have HX := Lib.hid (fun j (hj : j < xs.length) => h27 (xs.getD j 0) (by rw [List.getD_eq_getElem?_getD, List.getElem?_eq_getElem hj]; exact List.getElem_mem hj))
  have HT := Lib.hid (fun j x (hj : j < xs.length) (hx : xs.getD j 0 = x) => prd_take hj hx)
  have HE := Lib.hid (show prd (xs.take xs.length) = prd xs by rw [List.take_length])
  have HZ := Lib.hid (show prd (xs.take 0) = 1 by rw [List.take_zero]; rfl)
  generalize prd xs = P at *
  clear hA h27
  go_enter Tryd.func38, Tryd.ntmps38
  go_wp2
  go_loop [3, 8] (fun s i => ∃ j : Nat, j ≤ xs.length ∧ i = .int .i64 j ∧ s = .int .i64 (prd (xs.take j))) (fun _ i => xs.length - (intOf i).toNat)
  case atStart => exact ⟨0, Nat.zero_le _, rfl, by rw [HZ.out]⟩
  case round =>
    obtain ⟨j, hj, rfl, rfl⟩ := hrel
    by_cases hlt : j < xs.length
    · obtain ⟨b, off, rfl, hB, hc⟩ := HC.out (by omega)
      have hcell := hc j hlt
      have hx := HX.out j hlt
      have hp1 := HP.out (j + 1)
      have hp0 := HP.out j
      obtain ⟨x, hxe⟩ : ∃ x, xs.getD j 0 = x := ⟨_, rfl⟩
      rw [hxe] at hcell hx
      have hs := HT.out j x hlt hxe
      rw [hs] at hp1
      have HS := Lib.hid hs
      generalize prd (xs.take j) = Q at *
      have hw : IntKind.i64.wrap (Q * x) = Q * x := i64w (by omega)
      clear hc hxe hs
      go_wp2
      go_round
      case rel => exact ⟨j + 1, by omega, by go_num, by rw [HS.out]⟩
      case measure => simp [intOf]; omega
    · have hjn : j = xs.length := by omega
      subst hjn
      rw [HE.out]
      go_wp2
      go_ret
      exact ⟨rfl, rfl⟩

set_option maxHeartbeats 400000 in
theorem spec_MeterOk_any (A : Option Addr) (cap : Nat) (xs : List Int) (w : World) (hA : Ints w w.heap.size A xs) (hm : MetOk xs) :
    Calls Tryd.prog 22 #[.slice A xs.length cap] w fun e w' => e = .returned (.bool true) ∧ Below w.heap.size w w' := by
  have hlen := hm.2.1
  have HC := Lib.hid hA.2.2
  have HP := Lib.hid (fun j => And.intro (prd_pos (hm.2.2.1.take j)) (prd_take_le hm.2.2.1 j))
  have HX := Lib.hid (fun j (hj : j < xs.length) => hm.2.2.1 (xs.getD j 0) (by rw [List.getD_eq_getElem?_getD, List.getElem?_eq_getElem hj]; exact List.getElem_mem hj))
  have HT := Lib.hid (fun j x (hj : j < xs.length) (hx : xs.getD j 0 = x) => prd_take hj hx)
  have HE := Lib.hid (show prd (xs.take xs.length) = prd xs by rw [List.take_length])
  have HZ := Lib.hid (show prd (xs.take 0) = 1 by rw [List.take_zero]; rfl)
  have hp24 := hm.2.2.2
  have hin : inB (xs.length : Int) 1 5 = true := inB_true ⟨by have := hm.1; omega, by omega⟩
  generalize prd xs = P at *
  clear hA hm
  go_enter Tryd.func22, Tryd.ntmps22
  go_wp2_with (go_at_call 36; refine (l01In_any _ _ _ _).mono ?_; rintro e w' ⟨rfl, rfl⟩)
  go_loop [3, 12] (fun s i => ∃ j : Nat, j ≤ xs.length ∧ i = .int .i64 j ∧ s = .int .i64 (prd (xs.take j))) (fun _ i => xs.length - (intOf i).toNat)
  case atStart => exact ⟨0, Nat.zero_le _, rfl, by rw [HZ.out]⟩
  case round =>
    obtain ⟨j, hj, rfl, rfl⟩ := hrel
    by_cases hlt : j < xs.length
    · obtain ⟨b, off, rfl, hB, hc⟩ := HC.out (by omega)
      have hcell := hc j hlt
      have hx := HX.out j hlt
      have hp1 := HP.out (j + 1)
      have hp0 := HP.out j
      obtain ⟨x, hxe⟩ : ∃ x, xs.getD j 0 = x := ⟨_, rfl⟩
      rw [hxe] at hcell hx
      have hs := HT.out j x hlt hxe
      rw [hs] at hp1
      have HS := Lib.hid hs
      generalize prd (xs.take j) = Q at *
      have hw : IntKind.i64.wrap (Q * x) = Q * x := i64w (by omega)
      have hxi : inB x 2 7 = true := inB_true hx
      clear hc hxe hs
      go_wp2_with (go_at_call 36; refine (l01In_any _ _ _ _).mono ?_; rintro e w' ⟨rfl, rfl⟩)
      go_round
      case rel => exact ⟨j + 1, by omega, by go_num, by rw [HS.out]⟩
      case measure => simp [intOf]; omega
    · have hjn : j = xs.length := by omega
      subst hjn
      rw [HE.out]
      go_wp2_with fail
      go_ret
      exact ⟨by simp [hp24], Below.refl _ _⟩

set_option maxRecDepth 100000 in
set_option maxHeartbeats 1000000 in
theorem spec_l18Fit_any (N : Nat) (A A2 : Option Addr) (cap c2 : Nat) (bs xs : List Int) (w : World) (hA : Ints w w.heap.size A bs) (hX : Ints w w.heap.size A2 xs) (hok : RhOk N bs) (hm : MetOk xs) (hp : prd xs = N) :
    Calls Tryd.prog 24 #[.agg #[.int .i64 N, .slice A bs.length cap], .slice A2 xs.length c2] w fun e w' => e = .returned (.bool true) ∧ Below w.heap.size w w' := by
  have hn2 : N ≤ 24 := by have := hok.2.1; omega
  have hfN : Fits (N : Int) := by unfold Fits; omega
  have hr : rhB N bs = true := rhB_iff.2 hok
  have HRO := Lib.hid (fun V h => hr ▸ spec_RhythmOk_any N A cap bs V h)
  have HMO := Lib.hid (fun V h => spec_MeterOk_any A2 c2 xs V h hm)
  have HPR := Lib.hid (fun V h => hp ▸ spec_l18Size_any A2 c2 xs V V.heap.size h hm.2.2.1 (by have := hm.2.2.2; omega))
  have HBW := Lib.hid ((Below.refl w.heap.size w).alloc (Nat.le_refl _) (.cells #[.int .i64 N, .slice A (bs).length cap] 27))
  have HVA := Lib.hid (Hav.boxed hA N cap)
  have HVX := Lib.hid (hX.lift HBW.out)
  clear hA hX hok hm hr
  obtain ⟨⟨p0, p1, _, _, _⟩, _⟩ := HVA.out
  go_enter Tryd.func24, Tryd.ntmps24
  go_wp2_with fail
  generalize w.alloc (.cells #[.int .i64 N, .slice A (bs).length cap] 27) = W at *
  have HBW := Lib.hid (Below.drewH_ HBW.out)
  have HVA := Lib.hid HVA.out.drew
  have HVX := Lib.hid (show Ints W.drew W.drew.heap.size A2 xs from HVX.out)
  (refine wp_region_held_drew (S := (fun w' => w'.cell? ⟨w.heap.size, 0, none⟩ = some (.int .i64 N) ∧ w'.cell? ⟨w.heap.size, 1, none⟩ = some (.slice A bs.length cap))) (by kernel_rfl) ?_ (fun hHeld => ?_); (focus ((try dsimp only); exact ⟨p0, p1⟩)))
  (refine wpAnyH_take (i := 0) (v := ?_) rfl (by kernel_rfl) (by kernel_rfl) (by kernel_rfl) (fun _ _ _ h => h) (Or.inl ⟨by rfl, ?_⟩) (by assumption) ?_; rotate_left; (focus (intro wS hSw; (try dsimp only at hSw); go_simp; (try with_reducible rfl))); (try simp only [Act.put, List.getElem_toArray, List.getElem_cons_zero, List.getElem_cons_succ, List.setIfInBounds_toArray, List.set_cons_zero, List.set_cons_succ]))
  (refine wpAnyH_ready (rs := [1]) (by kernel_rfl) (by simp) ?_; refine AllReadyH.cons rfl (fun K hK => ?_) AllReadyH.nil; go_simp)
  go_at_call 20
  refine (HRO.out _ HVA.out.2).mono ?_
  rintro e w1 ⟨rfl, hb⟩
  have HBW := Lib.hid (HBW.out.trans (hb.mono HBW.out.size))
  try have HVA := Lib.hid (HVA.out.lift hb)
  try have HVB := Lib.hid (HVB.out.lift hb)
  try have HVC := Lib.hid (HVC.out.lift hb)
  try have HVT := Lib.hid (HVT.out.lift hb)
  try have HVX := Lib.hid (HVX.out.lift hb)
  try have HVM := Lib.hid (HVM.out.lift hb)
  try have HVF := Lib.hid (HVF.out.lift hb)
  try have HVP := Lib.hid (HVP.out.lift hb)
  try have HVQ := Lib.hid (HVQ.out.lift hb)
  try have HLA := Lib.hid (HLA.out.lift hb)
  try have HLW := Lib.hid (HLW.out.lift hb)
  try have HI := Lib.hid (HI.out.lift hb)
  try have HRB := Lib.hid (HRB.out.trans (hb.mono HRB.out.size))
  try have HWW := Lib.hid (HWW.out.trans (hb.mono HWW.out.size))
  clear hb
  clear p0 p1
  obtain ⟨⟨p0, p1, _, _, _⟩, _⟩ := HVA.out
  go_wp2_with fail
  (refine hK.out _ _ ?_ (fun hHeld2 => ?_); (focus ((try dsimp only); exact ⟨p0, p1⟩)); (clear hK K); (try simp only [Act.put, List.getElem_toArray, List.getElem_cons_zero, List.getElem_cons_succ, List.setIfInBounds_toArray, List.set_cons_zero, List.set_cons_succ]))
  ((refine wpAnyH_take (i := 2) (v := ?_) rfl (by kernel_rfl) (by kernel_rfl) (by kernel_rfl) (fun _ _ _ h => h) (Or.inl ⟨by rfl, ?_⟩) (by assumption) ?_; rotate_left; (focus (intro wS hSw; (try dsimp only at hSw); go_simp; (try with_reducible rfl))); (try simp only [Act.put, List.getElem_toArray, List.getElem_cons_zero, List.getElem_cons_succ, List.setIfInBounds_toArray, List.set_cons_zero, List.set_cons_succ])); (refine wpAnyH_take (i := 3) (v := ?_) rfl (by kernel_rfl) (by kernel_rfl) (by kernel_rfl) (fun _ _ _ h => h) (Or.inl ⟨by rfl, ?_⟩) (by assumption) ?_; rotate_left; (focus (intro wS hSw; (try dsimp only at hSw); go_simp; (try with_reducible rfl))); (try simp only [Act.put, List.getElem_toArray, List.getElem_cons_zero, List.getElem_cons_succ, List.setIfInBounds_toArray, List.set_cons_zero, List.set_cons_succ])))
  (refine wpAnyH_ready (rs := [4]) (by kernel_rfl) (by simp) ?_; refine AllReadyH.cons rfl (fun K hK => ?_) AllReadyH.nil; go_simp)
  go_at_call 22
  refine (HMO.out _ HVX.out).mono ?_
  rintro e w2 ⟨rfl, hb⟩
  have HBW := Lib.hid (HBW.out.trans (hb.mono HBW.out.size))
  try have HVA := Lib.hid (HVA.out.lift hb)
  try have HVB := Lib.hid (HVB.out.lift hb)
  try have HVC := Lib.hid (HVC.out.lift hb)
  try have HVT := Lib.hid (HVT.out.lift hb)
  try have HVX := Lib.hid (HVX.out.lift hb)
  try have HVM := Lib.hid (HVM.out.lift hb)
  try have HVF := Lib.hid (HVF.out.lift hb)
  try have HVP := Lib.hid (HVP.out.lift hb)
  try have HVQ := Lib.hid (HVQ.out.lift hb)
  try have HLA := Lib.hid (HLA.out.lift hb)
  try have HLW := Lib.hid (HLW.out.lift hb)
  try have HI := Lib.hid (HI.out.lift hb)
  try have HRB := Lib.hid (HRB.out.trans (hb.mono HRB.out.size))
  try have HWW := Lib.hid (HWW.out.trans (hb.mono HWW.out.size))
  clear hb
  clear p0 p1
  obtain ⟨⟨p0, p1, _, _, _⟩, _⟩ := HVA.out
  go_wp2_with fail
  (refine hK.out _ _ ?_ (fun hHeld2 => ?_); (focus ((try dsimp only); exact ⟨p0, p1⟩)); (clear hK K); (try simp only [Act.put, List.getElem_toArray, List.getElem_cons_zero, List.getElem_cons_succ, List.setIfInBounds_toArray, List.set_cons_zero, List.set_cons_succ]))
  ((refine wpAnyH_take (i := 5) (v := ?_) rfl (by kernel_rfl) (by kernel_rfl) (by kernel_rfl) (fun _ _ _ h => h) (Or.inl ⟨by rfl, ?_⟩) (by assumption) ?_; rotate_left; (focus (intro wS hSw; (try dsimp only at hSw); go_simp; (try with_reducible rfl))); (try simp only [Act.put, List.getElem_toArray, List.getElem_cons_zero, List.getElem_cons_succ, List.setIfInBounds_toArray, List.set_cons_zero, List.set_cons_succ])); (refine wpAnyH_take (i := 6) (v := ?_) rfl (by kernel_rfl) (by kernel_rfl) (by kernel_rfl) (fun _ _ _ h => h) (Or.inl ⟨by rfl, ?_⟩) (by assumption) ?_; rotate_left; (focus (intro wS hSw; (try dsimp only at hSw); go_simp; (try with_reducible rfl))); (try simp only [Act.put, List.getElem_toArray, List.getElem_cons_zero, List.getElem_cons_succ, List.setIfInBounds_toArray, List.set_cons_zero, List.set_cons_succ])); (refine wpAnyH_take (i := 7) (v := ?_) rfl (by kernel_rfl) (by kernel_rfl) (by kernel_rfl) (fun _ _ _ h => h) (Or.inl ⟨by rfl, ?_⟩) (by assumption) ?_; rotate_left; (focus (intro wS hSw; (try dsimp only at hSw); go_simp; (try with_reducible rfl))); (try simp only [Act.put, List.getElem_toArray, List.getElem_cons_zero, List.getElem_cons_succ, List.setIfInBounds_toArray, List.set_cons_zero, List.set_cons_succ])); (refine wpAnyH_take (i := 8) (v := ?_) rfl (by kernel_rfl) (by kernel_rfl) (by kernel_rfl) (fun _ _ _ h => h) (Or.inl ⟨by rfl, ?_⟩) (by assumption) ?_; rotate_left; (focus (intro wS hSw; (try dsimp only at hSw); go_simp; (try with_reducible rfl))); (try simp only [Act.put, List.getElem_toArray, List.getElem_cons_zero, List.getElem_cons_succ, List.setIfInBounds_toArray, List.set_cons_zero, List.set_cons_succ])); (refine wpAnyH_take (i := 9) (v := ?_) rfl (by kernel_rfl) (by kernel_rfl) (by kernel_rfl) (fun _ _ _ h => h) (Or.inl ⟨by rfl, ?_⟩) (by assumption) ?_; rotate_left; (focus (intro wS hSw; (try dsimp only at hSw); go_simp; (try with_reducible rfl))); (try simp only [Act.put, List.getElem_toArray, List.getElem_cons_zero, List.getElem_cons_succ, List.setIfInBounds_toArray, List.set_cons_zero, List.set_cons_succ])))
  (refine wpAnyH_ready (rs := [10]) (by kernel_rfl) (by simp) ?_; refine AllReadyH.cons rfl (fun K hK => ?_) AllReadyH.nil; go_simp)
  go_at_call 38
  refine (HPR.out _ HVX.out).mono ?_
  rintro e w3 ⟨rfl, rfl⟩
  go_wp2_with fail
  (refine hK.out _ _ ?_ (fun hHeld2 => ?_); (focus ((try dsimp only); exact ⟨p0, p1⟩)); (clear hK K); (try simp only [Act.put, List.getElem_toArray, List.getElem_cons_zero, List.getElem_cons_succ, List.setIfInBounds_toArray, List.set_cons_zero, List.set_cons_succ]))
  ((refine wpAnyH_take (i := 11) (v := ?_) rfl (by kernel_rfl) (by kernel_rfl) (by kernel_rfl) (fun _ _ _ h => h) (Or.inl ⟨by rfl, ?_⟩) (by assumption) ?_; rotate_left; (focus (intro wS hSw; (try dsimp only at hSw); go_simp; (try with_reducible rfl))); (try simp only [Act.put, List.getElem_toArray, List.getElem_cons_zero, List.getElem_cons_succ, List.setIfInBounds_toArray, List.set_cons_zero, List.set_cons_succ])); (refine wpAnyH_take (i := 12) (v := ?_) rfl (by kernel_rfl) (by kernel_rfl) (by kernel_rfl) (fun _ _ _ h => h) (Or.inl ⟨by rfl, ?_⟩) (by assumption) ?_; rotate_left; (focus (intro wS hSw; (try dsimp only at hSw); go_simp; (try with_reducible rfl))); (try simp only [Act.put, List.getElem_toArray, List.getElem_cons_zero, List.getElem_cons_succ, List.setIfInBounds_toArray, List.set_cons_zero, List.set_cons_succ])); (refine wpAnyH_take (i := 13) (v := ?_) rfl (by kernel_rfl) (by kernel_rfl) (by kernel_rfl) (fun _ _ _ h => h) (Or.inl ⟨by rfl, ?_⟩) (by assumption) ?_; rotate_left; (focus (intro wS hSw; (try dsimp only at hSw); go_simp; (try with_reducible rfl))); (try simp only [Act.put, List.getElem_toArray, List.getElem_cons_zero, List.getElem_cons_succ, List.setIfInBounds_toArray, List.set_cons_zero, List.set_cons_succ])))
  refine wpAnyH_done (by kernel_rfl) ?_ _
  go_wp2_with fail
  go_ret
  exact ⟨by simp, HBW.out⟩

set_option maxHeartbeats 400000 in
theorem spec_l18Unit_any (A : Option Addr) (cap : Nat) (xs : List Int) (i : Nat) (w : World) (B : Nat) (hA : Ints w B A xs) (hm : MetOk xs) (hi : i < xs.length) (hcap : xs.length ≤ cap) :
    Calls Tryd.prog 39 #[.slice A xs.length cap, .int .i64 i] w fun e w' => e = .returned (.int .i64 (unt xs i)) ∧ w = w' := by
  have hlen := hm.2.1
  obtain ⟨b, off, rfl, hB, _⟩ := hA.2.2 (by omega)
  have HID := Lib.hid (hA.dropM (i + 1))
  have HU := Lib.hid (show unt xs i = prd (xs.drop (i + 1)) from rfl)
  have hdl : (xs.drop (i + 1)).length = xs.length - (i + 1) := List.length_drop
  have HSZ := Lib.hid (fun A' c V B' h => spec_l18Size_any A' c (xs.drop (i + 1)) V B' h (hm.2.2.1.drop _) (by have := prd_drop_le hm.2.2.1 (i + 1); have := hm.2.2.2; omega))
  rw [hdl] at HSZ
  have hw1 : IntKind.i64.wrap ((i : Int) + 1) = (i : Int) + 1 := i64w (by omega)
  generalize unt xs i = u at *
  generalize prd (xs.drop (i + 1)) = p at *
  clear hA hm hdl
  by_cases hck : cap = i + 1
  · have hl0 : xs.length - (i + 1) = 0 := by omega
    have hxl : xs.length = i + 1 := by omega
    rw [hl0] at HSZ
    have hd0 : xs.drop (i + 1) = [] := List.drop_eq_nil_of_le (by omega)
    have HN := Lib.hid (fun V B' A' => (hd0 ▸ Ints.none_ A' : Ints V B' A' (xs.drop (i + 1))))
    clear hl0 hd0
    subst hck
    go_enter Tryd.func39, Tryd.ntmps39
    go_wp2_with fail
    refine (HSZ.out _ _ _ B (HN.out _ _ _)).mono ?_
    rintro e w1 ⟨rfl, rfl⟩
    go_wp2_with fail
    go_ret
    exact ⟨ret_int HU.out.symm, rfl⟩
  · have hck2 : ¬ cap - (i + 1) = 0 := by omega
    go_enter Tryd.func39, Tryd.ntmps39
    go_wp2_with fail
    refine (HSZ.out _ _ _ B HID.out).mono ?_
    rintro e w1 ⟨rfl, rfl⟩
    go_wp2_with fail
    go_ret
    exact ⟨ret_int HU.out.symm, rfl⟩

set_option maxRecDepth 100000 in
set_option maxHeartbeats 1000000 in
theorem spec_WeightsOf_any (A : Option Addr) (cap : Nat) (xs : List Int) (N : Nat) (w : World) (hA : Ints w w.heap.size A xs) (hm : MetOk xs) (hN : prd xs = N) (hcap : xs.length ≤ cap) :
    Calls Tryd.prog 25 #[.slice A xs.length cap] w fun e w' => ∃ A' c, e = .returned (.slice A' N c) ∧ Ints w' w'.heap.size A' (wgtL xs) ∧ Below w.heap.size w w' := by
  have hn24 : N ≤ 24 := by have := hm.2.2.2; omega
  have hx5 := hm.2.1
  have HMO := Lib.hid (spec_MeterOk_any A cap xs w hA hm)
  have HPR := Lib.hid (fun V h => hN ▸ spec_l18Size_any A cap xs V w.heap.size h hm.2.2.1 (by have := hm.2.2.2; omega))
  have HUN := Lib.hid (fun i V h (hi : i < xs.length) => spec_l18Unit_any A cap xs i V w.heap.size h hm hi hcap)
  have HUR := Lib.hid (fun i => unt_rng hm i)
  have HWL := Lib.hid (show wgtL xs = wgtF xs N by unfold wgtL; rw [hN, Int.toNat_natCast])
  have HA := Lib.hid hA
  clear hA hm hN
  go_enter Tryd.func25, Tryd.ntmps25
  go_wp2_with fail
  refine HMO.out.mono ?_
  rintro e w1 ⟨rfl, hb⟩
  have HB1 := Lib.hid hb
  have hz1 := hb.size
  clear hb
  go_wp2_with fail
  go_loopw [3, 4] (fun so i wr => ∃ j : Nat, j ≤ N ∧ i = .int .i64 j ∧ OwnI wr w.heap.size so (wgtF xs j) ∧ Below w.heap.size w wr) (fun _ i _ => N - (intOf i).toNat)
  case atStart => exact ⟨0, Nat.zero_le _, rfl, OwnI.empty_at _ _ _ rfl hz1, HB1.out.alloc hz1 _⟩
  case round =>
    obtain ⟨j, hj, rfl, hown, hbel⟩ := hrel
    obtain ⟨wo, rfl⟩ : ∃ wo : World, wo = wr := ⟨_, rfl⟩
    obtain ⟨So, cso, rfl⟩ := hown.form
    have hws := hbel.size
    have HB := Lib.hid hbel
    have HO := Lib.hid hown
    have HI := Lib.hid (HA.out.below hbel)
    have HWN := Lib.hid (wgtF_len xs j)
    have hwl : (wgtF xs j).length ≤ 24 := by rw [HWN.out]; omega
    clear hown hbel
    by_cases hlt : j < N
    · have hji : (j : Int) < (N : Int) := by omega
      have HSU := Lib.hid (wgtF_succ xs j)
      generalize wgtF xs j = L at *
      go_wp2_with fail
      refine (HPR.out _ HI.out).mono ?_
      rintro e w2 ⟨rfl, rfl⟩
      go_wp2_with fail
      go_loop [5, 19] (fun c i => ∃ t : Nat, t ≤ xs.length ∧ i = .int .i64 t ∧ c = .int .i64 (cntW xs j t)) (fun _ i => xs.length - (intOf i).toNat)
      case atStart => exact ⟨0, Nat.zero_le _, rfl, rfl⟩
      case round =>
        obtain ⟨t, ht, rfl, rfl⟩ := hrel
        have hcr := cntW_rng xs j t
        by_cases hltt : t < xs.length
        · have hti : (t : Int) < (xs.length : Int) := by omega
          have HUJ := Lib.hid (fun V h => HUN.out t V h hltt)
          have hur := HUR.out t
          have HCS := Lib.hid (show cntW xs j (t + 1) = if (j : Int) % unt xs t = 0 then cntW xs j t + 1 else cntW xs j t from rfl)
          generalize unt xs t = u at *
          generalize cntW xs j t = c at *
          have hnz : (u = 0) = False := eq_false (by omega)
          have hrm : (j : Int).tmod u = (j : Int) % u := Int.tmod_eq_emod_of_nonneg (by omega)
          have h0 : 0 ≤ (j : Int) % u := Int.emod_nonneg _ (by omega)
          have h1 : (j : Int) % u < u := Int.emod_lt_of_pos _ (by omega)
          generalize (j : Int) % u = r at *
          have hw1 : IntKind.i64.wrap r = r := i64w (by omega)
          have hw2 : IntKind.i64.wrap (c + 1) = c + 1 := i64w (by omega)
          by_cases hr : r = 0
          · rw [if_pos hr] at HCS
            subst hr
            go_wp2_with (go_at_call 39; refine (HUJ.out _ HI.out).mono ?_; rintro e w3 ⟨rfl, rfl⟩)
            go_round
            case rel => exact ⟨t + 1, by omega, by go_num, by rw [HCS.out]⟩
            case measure => simp [intOf]; omega
          · rw [if_neg hr] at HCS
            have hrb : (r == 0) = false := beq_eq_false_iff_ne.2 hr
            go_wp2_with (go_at_call 39; refine (HUJ.out _ HI.out).mono ?_; rintro e w3 ⟨rfl, rfl⟩)
            go_round
            case rel => exact ⟨t + 1, by omega, by go_num, by rw [HCS.out]⟩
            case measure => simp [intOf]; omega
        · have hte : t = xs.length := by omega
          subst hte
          have hti : ¬ (xs.length : Int) < (xs.length : Int) := by omega
          generalize cntW xs j xs.length = c at *
          go_wp2_with (at_builtin; refine wpList_append_int rfl (.tmp 31) (.tmp 33) rfl w.heap.size _ L rfl (HO.out.alloc _) _ _ rfl (cell_new1 _ _ _) (by omega) (by simp; omega) ?_; intro v2 w2 hown2 hb2)
          have HO2 := Lib.hid hown2
          have HB2 := Lib.hid ((HB.out.alloc hws _).trans hb2)
          clear hown2 hb2
          go_wp2_with fail
          go_roundw
          case rel => exact ⟨j + 1, by omega, by go_num, by rw [HSU.out]; exact HO2.out, HB2.out⟩
          case measure => simp [intOf]; omega
    · have hje : j = N := by omega
      subst hje
      have hji : ¬ (j : Int) < (j : Int) := by omega
      have HIW := Lib.hid (show Ints wo wo.heap.size So (wgtL xs) by
        rw [HWL.out]
        exact HO.out.ints (fun x hx => by
          unfold wgtF at hx
          rw [List.mem_map] at hx
          obtain ⟨p, _, rfl⟩ := hx
          have := cntW_rng xs p xs.length
          unfold Fits; omega))
      clear hwl
      go_wp2_with fail
      refine (HPR.out _ HI.out).mono ?_
      rintro e w2 ⟨rfl, rfl⟩
      go_wp2_with fail
      go_ret
      exact ⟨So, cso, by rw [HWN.out]; rfl, HIW.out, HB.out⟩

set_option maxRecDepth 100000 in
set_option maxHeartbeats 2000000 in
theorem spec_SyncopationOf_any (N : Nat) (A A2 : Option Addr) (cap c2 : Nat) (bs xs : List Int) (w : World) (hA : Ints w w.heap.size A bs) (hX : Ints w w.heap.size A2 xs) (hok : RhOk N bs) (hm : MetOk xs) (hp : prd xs = N) (hc2 : xs.length ≤ c2) :
    Calls Tryd.prog 13 #[.agg #[.int .i64 N, .slice A bs.length cap], .slice A2 xs.length c2] w fun e w' => e = .returned (.int .i64 (syncV N bs xs)) ∧ Below w.heap.size w w' := by
  have hn1 : 1 ≤ N := by have := hok.1; omega
  have hn2 : N ≤ 24 := by have := hok.2.1; omega
  have hfN : Fits (N : Int) := by unfold Fits; omega
  have hbl : bs.length ≤ 24 := Nat.le_trans (metb_len hok) hn2
  have hr : rhB N bs = true := rhB_iff.2 hok
  have HFT := Lib.hid (fun V h1 h2 => spec_l18Fit_any N A A2 cap c2 bs xs V h1 h2 hok hm hp)
  have HWG := Lib.hid (fun V h => spec_WeightsOf_any A2 c2 xs N V h hm hp hc2)
  have HST := Lib.hid (fun V h => stepsOf_ok hr ▸ spec_StepsOf_any N A cap bs V h)
  have HSR := Lib.hid (fun i (hi : i < bs.length) => met_step hr hi)
  have hsl : (stepsL N bs).length = bs.length := stepsL_len _ _
  have HWR := Lib.hid (wgtL_rng hm)
  have hwl : (wgtL xs).length = N := by rw [wgtL_len, hp, Int.toNat_natCast]
  have HV := Lib.hid (show syncV N bs xs = synV (wgtL xs) N bs (stepsL N bs) bs.length from rfl)
  have HBR := Lib.hid (fun i (hi : i < bs.length) => hok.2.2.1 i hi)
  have HGR := Lib.hid (fun p m => grtV_rng (wgtL_rng hm) N p m)
  have HYR := Lib.hid (fun i => synV_rng (wgtL_rng hm) N bs (stepsL N bs) i)
  have HGS := Lib.hid (fun (p : Int) (m : Nat) => show grtV (wgtL xs) N p (m + 1) = max (grtV (wgtL xs) N p m) ((wgtL xs).getD ((p + (m + 1 : Nat)) % N).toNat 0) from rfl)
  have HYS := Lib.hid (fun (i : Nat) => show synV (wgtL xs) N bs (stepsL N bs) (i + 1) = synV (wgtL xs) N bs (stepsL N bs) i + max 0 (grtV (wgtL xs) N (bs.getD i 0) (((stepsL N bs).getD i 0).toNat - 1) - (wgtL xs).getD (bs.getD i 0).toNat 0) from rfl)
  have HBW := Lib.hid ((Below.refl w.heap.size w).alloc (Nat.le_refl _) (.cells #[.int .i64 N, .slice A (bs).length cap] 27))
  have HVA := Lib.hid (Hav.boxed hA N cap)
  have HVX := Lib.hid (hX.lift HBW.out)
  generalize wgtL xs = WL at *
  generalize stepsL N bs = SL at *
  clear hA hX hok hm hr hp
  obtain ⟨⟨p0, p1, _, _, _⟩, _⟩ := HVA.out
  go_enter Tryd.func13, Tryd.ntmps13
  go_wp2_with fail
  generalize w.alloc (.cells #[.int .i64 N, .slice A (bs).length cap] 27) = W at *
  refine (HFT.out _ HVA.out.2 HVX.out).mono ?_
  rintro e w1 ⟨rfl, hb⟩
  have HBW := Lib.hid (HBW.out.trans (hb.mono HBW.out.size))
  try have HVA := Lib.hid (HVA.out.lift hb)
  try have HVB := Lib.hid (HVB.out.lift hb)
  try have HVC := Lib.hid (HVC.out.lift hb)
  try have HVT := Lib.hid (HVT.out.lift hb)
  try have HVX := Lib.hid (HVX.out.lift hb)
  try have HVM := Lib.hid (HVM.out.lift hb)
  try have HVF := Lib.hid (HVF.out.lift hb)
  try have HVP := Lib.hid (HVP.out.lift hb)
  try have HVQ := Lib.hid (HVQ.out.lift hb)
  try have HLA := Lib.hid (HLA.out.lift hb)
  try have HLW := Lib.hid (HLW.out.lift hb)
  try have HI := Lib.hid (HI.out.lift hb)
  try have HRB := Lib.hid (HRB.out.trans (hb.mono HRB.out.size))
  try have HWW := Lib.hid (HWW.out.trans (hb.mono HWW.out.size))
  clear hb
  clear p0 p1
  obtain ⟨⟨p0, p1, _, _, _⟩, _⟩ := HVA.out
  go_wp2_with fail
  refine (HWG.out _ HVX.out).mono ?_
  rintro e w2 ⟨AW, cW, rfl, hIW, hb⟩
  have HBW := Lib.hid (HBW.out.trans (hb.mono HBW.out.size))
  try have HVA := Lib.hid (HVA.out.lift hb)
  try have HVB := Lib.hid (HVB.out.lift hb)
  try have HVC := Lib.hid (HVC.out.lift hb)
  try have HVT := Lib.hid (HVT.out.lift hb)
  try have HVX := Lib.hid (HVX.out.lift hb)
  try have HVM := Lib.hid (HVM.out.lift hb)
  try have HVF := Lib.hid (HVF.out.lift hb)
  try have HVP := Lib.hid (HVP.out.lift hb)
  try have HVQ := Lib.hid (HVQ.out.lift hb)
  try have HLA := Lib.hid (HLA.out.lift hb)
  try have HLW := Lib.hid (HLW.out.lift hb)
  try have HI := Lib.hid (HI.out.lift hb)
  try have HRB := Lib.hid (HRB.out.trans (hb.mono HRB.out.size))
  try have HWW := Lib.hid (HWW.out.trans (hb.mono HWW.out.size))
  clear hb
  have HVP := Lib.hid hIW
  clear hIW p0 p1
  obtain ⟨⟨p0, p1, _, _, _⟩, _⟩ := HVA.out
  go_wp2_with fail
  refine (HST.out _ HVA.out.2).mono ?_
  rintro e w3 ⟨AS, cS, rfl, hIS, hb⟩
  have HBW := Lib.hid (HBW.out.trans (hb.mono HBW.out.size))
  try have HVA := Lib.hid (HVA.out.lift hb)
  try have HVB := Lib.hid (HVB.out.lift hb)
  try have HVC := Lib.hid (HVC.out.lift hb)
  try have HVT := Lib.hid (HVT.out.lift hb)
  try have HVX := Lib.hid (HVX.out.lift hb)
  try have HVM := Lib.hid (HVM.out.lift hb)
  try have HVF := Lib.hid (HVF.out.lift hb)
  try have HVP := Lib.hid (HVP.out.lift hb)
  try have HVQ := Lib.hid (HVQ.out.lift hb)
  try have HLA := Lib.hid (HLA.out.lift hb)
  try have HLW := Lib.hid (HLW.out.lift hb)
  try have HI := Lib.hid (HI.out.lift hb)
  try have HRB := Lib.hid (HRB.out.trans (hb.mono HRB.out.size))
  try have HWW := Lib.hid (HWW.out.trans (hb.mono HWW.out.size))
  clear hb
  have HVQ := Lib.hid hIS
  clear hIS p0 p1
  obtain ⟨⟨p0, p1, _, _, _⟩, _⟩ := HVA.out
  rw [hsl]
  go_wp2_with fail
  go_loop [7, 23] (fun s i => ∃ j : Nat, j ≤ bs.length ∧ i = .int .i64 j ∧ s = .int .i64 (synV WL N bs SL j)) (fun _ i => bs.length - (intOf i).toNat)
  case atStart => exact ⟨0, Nat.zero_le _, rfl, rfl⟩
  case round =>
    obtain ⟨j, hj, rfl, rfl⟩ := hrel
    by_cases hlt : j < bs.length
    · have hji : (j : Int) < (bs.length : Int) := by omega
      have hj0 : (0 : Int) ≤ (j : Int) := Int.natCast_nonneg _
      obtain ⟨bB, oB, hAB, hbB, hcB⟩ := HVA.out.2.2.2 (by omega)
      obtain ⟨bS, oS, hAS, hbS, hcS⟩ := HVQ.out.2.2 (by omega)
      obtain ⟨bW, oW, hAW, hbW, hcW⟩ := HVP.out.2.2 (by omega)
      subst hAB hAS hAW
      have hcb := hcB j hlt
      have hcs := hcS j (by omega)
      obtain ⟨s, hs, hs1, hs2⟩ := HSR.out j hlt
      have hpr := HBR.out j hlt
      have HYJ := Lib.hid (HYS.out j)
      have hyr := HYR.out j
      have hsn : SL.getD j 0 = (s : Int) := hs
      obtain ⟨p, hp⟩ : ∃ p, bs.getD j 0 = p := ⟨_, rfl⟩
      rw [hp] at hcb hpr HYJ
      rw [hsn] at hcs HYJ
      obtain ⟨p, rfl⟩ := Int.eq_ofNat_of_zero_le hpr.1
      have hcp := hcW p (by omega)
      obtain ⟨v, hv⟩ : ∃ v, WL.getD p 0 = v := ⟨_, rfl⟩
      have hvr := HWR.out p
      rw [hv] at hcp hvr
      rw [Int.toNat_natCast, Int.toNat_natCast, hv] at HYJ
      have HCW := Lib.hid hcW
      have hpl : (p : Int) < (N : Int) := by omega
      have hp0 : (0 : Int) ≤ (p : Int) := Int.natCast_nonneg _
      generalize synV WL N bs SL j = Y at *
      clear hp hv hs hsn hcB hcS hcW
      go_wp2_with fail
      go_loop [10, 11] (fun g d => ∃ m : Nat, m + 1 ≤ s ∧ d = .int .i64 ((m + 1 : Nat) : Int) ∧ g = .int .i64 (grtV WL N p m)) (fun _ d => s - (intOf d).toNat)
      case atStart => exact ⟨0, hs1, rfl, rfl⟩
      case round =>
        obtain ⟨m, hm, rfl, rfl⟩ := hrel
        have hgr := HGR.out p m
        by_cases hlm : m + 1 < s
        · have hmi : ((m + 1 : Nat) : Int) < (s : Int) := by omega
          obtain ⟨m1, hm1⟩ : ∃ m1, m + 1 = m1 := ⟨_, rfl⟩
          have hqN : (p + m1) % N < N := Nat.mod_lt _ hn1
          have HGJ := Lib.hid (show grtV WL N p (m + 1) = max (grtV WL N p m) (WL.getD ((p + m1) % N) 0) by
            rw [HGS.out, hm1, ← Int.natCast_add, ← Int.natCast_emod, Int.toNat_natCast])
          have hcq := HCW.out ((p + m1) % N) (by omega)
          rw [hm1] at hmi HGJ ⊢
          have hw1 : IntKind.i64.wrap ((p : Int) + (m1 : Int)) = (p : Int) + (m1 : Int) := i64w (by omega)
          have hnz : ((N : Int) = 0) = False := eq_false (by omega)
          have hnz2 : (N = 0) = False := eq_false (by omega)
          have hrm : ((p : Int) + (m1 : Int)).tmod (N : Int) = ((p : Int) + (m1 : Int)) % (N : Int) := Int.tmod_eq_emod_of_nonneg (by omega)
          have hq0 : (0 : Int) ≤ ((p : Int) + (m1 : Int)) % (N : Int) := Int.emod_nonneg _ (by omega)
          have hql : ((p : Int) + (m1 : Int)) % (N : Int) < (N : Int) := Int.emod_lt_of_pos _ (by omega)
          have hw2 : IntKind.i64.wrap (((p : Int) + (m1 : Int)) % (N : Int)) = ((p : Int) + (m1 : Int)) % (N : Int) := i64w (by omega)
          have HM1 := Lib.hid hm1
          have hms : m1 < s := by omega
          generalize WL.getD ((p + m1) % N) 0 = u at *
          generalize grtV WL N p m = G at *
          clear hm1 hlm hm
          go_wp2_with fail
          go_round
          case rel => exact ⟨m1, by omega, by go_num, by rw [HGJ.out]⟩
          case measure => simp [intOf]; omega
        · have hme : s - 1 = m := by omega
          have hmi : ¬ ((m + 1 : Nat) : Int) < (s : Int) := by omega
          rw [hme] at HYJ
          generalize grtV WL N p m = G at *
          have hw1 : IntKind.i64.wrap (G - v) = G - v := i64w (by omega)
          have hw2 : IntKind.i64.wrap (Y + max 0 (G - v)) = Y + max 0 (G - v) := i64w (by omega)
          clear hme hm hlm
          go_wp2_with fail
          go_round
          case rel => exact ⟨j + 1, by omega, by go_num, by rw [HYJ.out]⟩
          case measure => simp [intOf]; omega
    · have hje : j = bs.length := by omega
      subst hje
      have hji : ¬ (bs.length : Int) < (bs.length : Int) := by omega
      generalize synV WL N bs SL bs.length = Y at *
      go_wp2_with fail
      go_ret
      exact ⟨ret_int HV.out.symm, HBW.out⟩

end Go.Proofs.YtjoeglekcnaebaaDoor
