/-
  The syncopation of a rhythm in a meter, by the program.
-/
import Derived.Test.YtjoeglekcnaebaaDoorMetI
import Derived.Test.YtjoeglekcnaebaaDoorStepsOf
namespace Go.Proofs.YtjoeglekcnaebaaDoor
open Go.RowKit
set_option linter.unusedVariables false
set_option linter.unusedSimpArgs false

theorem met_step {n : Int} {bs : List Int} (h : rhB n bs = true) {i : Nat} (hi : i < bs.length) : ∃ s : Nat, (stepsL n bs).getD i 0 = s ∧ 1 ≤ s ∧ s ≤ 24 := by
  have hl := stepsL_len n bs
  have := (stepsOf_fit n bs).2 ((stepsL n bs).getD i 0) (by
    rw [stepsOf_ok h, List.getD_eq_getElem?_getD, List.getElem?_eq_getElem (by omega)]
    exact List.getElem_mem _)
  obtain ⟨s, hs⟩ := Int.eq_ofNat_of_zero_le (show 0 ≤ (stepsL n bs).getD i 0 by omega)
  exact ⟨s, hs, by omega, by omega⟩
theorem metb_len {N : Nat} {bs : List Int} (hok : RhOk N bs) : bs.length ≤ N := by have := hok.len; omega

set_option maxRecDepth 100000 in
set_option maxHeartbeats 2000000 in
theorem impl_SyncopationOf_any (N : Nat) (A A2 : Option Addr) (cap c2 : Nat) (bs xs : List Int) (w : World) (hA : Ints w w.heap.size A bs) (hX : Ints w w.heap.size A2 xs) (hok : RhOk N bs) (hm : MetOk xs) (hp : prd xs = N) (hc2 : xs.length ≤ c2) :
    Calls Tryd.prog 18 #[.agg #[.int .i64 N, .slice A bs.length cap], .slice A2 xs.length c2] w fun e w' => e = .returned (.int .i64 (syncV N bs xs)) ∧ Below w.heap.size w w' := by
  have hn1 : 1 ≤ N := by have := hok.1; omega
  have hn2 : N ≤ 24 := by have := hok.2.1; omega
  have hfN : Fits (N : Int) := by unfold Fits; omega
  have hbl : bs.length ≤ 24 := Nat.le_trans (metb_len hok) hn2
  have hr : rhB N bs = true := rhB_iff.2 hok
  have HFT := Lib.hid (fun V h1 h2 => impl_fitsMeter_any N A A2 cap c2 bs xs V h1 h2 hok hm hp)
  have HWG := Lib.hid (fun V h => impl_weights_any A2 c2 xs N V h hm hp hc2)
  have HST := Lib.hid (fun V h => stepsOf_ok hr ▸ impl_StepsOf_any N A cap bs V hfN h)
  have HSR := Lib.hid (fun i (hi : i < bs.length) => met_step hr hi)
  have hsl : (stepsL N bs).length = bs.length := stepsL_len _ _
  have HWR := Lib.hid (wgtL_rng hm)
  have hwl : (wgtL xs).length = N := by rw [wgtL_len, hp, Int.toNat_natCast]
  have HV := Lib.hid (show syncV N bs xs = synV (wgtL xs) N bs (stepsL N bs) bs.length from rfl)
  have HBR := Lib.hid (fun i (hi : i < bs.length) => hok.2.2.1 i hi)
  have HGR := Lib.hid (fun p m => grtV_rng (wgtL_rng hm) N p m)
  have HYR := Lib.hid (fun i => synV_rng (wgtL_rng hm) N bs (stepsL N bs) i)
  have HGS := Lib.hid (fun (p : Int) (m : Nat) => show grtV (wgtL xs) N p (m + 1) = max (grtV (wgtL xs) N p m) ((wgtL xs).getD ((p + (m + 1 : Nat)) % N).toNat 0) from rfl)
  have HYS := Lib.hid (fun (i : Nat) => show synV (wgtL xs) N bs (stepsL N bs) (i + 1) = synV (wgtL xs) N bs (stepsL N bs) i + max 0 (grtV (wgtL xs) N (bs.getD i 0) (((stepsL N bs).getD i 0).toNat - 1) - (wgtL xs).getD (bs.getD i 0).toNat 0) from rfl)
  have HBW := Lib.hid ((Below.refl w.heap.size w).alloc (Nat.le_refl _) (.cells #[.int .i64 N, .slice A (bs).length cap] 27))
  have HVA := Lib.hid (Hav.boxed hA N cap)
  have HVX := Lib.hid (hX.lift HBW.out)
  generalize wgtL xs = WL at *
  generalize stepsL N bs = SL at *
  clear hA hX hok hm hr hp
  obtain ⟨⟨p0, p1, _, _, _⟩, _⟩ := HVA.out
  go_enter Tryd.func18, Tryd.ntmps18
  go_wp2_with fail
  generalize w.alloc (.cells #[.int .i64 N, .slice A (bs).length cap] 27) = W at *
  refine (HFT.out _ HVA.out.2 HVX.out).mono ?_
  rintro e w1 ⟨rfl, hb⟩
  have HBW := Lib.hid (HBW.out.trans (hb.mono HBW.out.size))
  try have HVA := Lib.hid (HVA.out.lift hb)
  try have HVB := Lib.hid (HVB.out.lift hb)
  try have HVC := Lib.hid (HVC.out.lift hb)
  try have HVT := Lib.hid (HVT.out.lift hb)
  try have HVX := Lib.hid (HVX.out.lift hb)
  try have HVM := Lib.hid (HVM.out.lift hb)
  try have HVF := Lib.hid (HVF.out.lift hb)
  try have HVP := Lib.hid (HVP.out.lift hb)
  try have HVQ := Lib.hid (HVQ.out.lift hb)
  try have HLA := Lib.hid (HLA.out.lift hb)
  try have HLW := Lib.hid (HLW.out.lift hb)
  try have HI := Lib.hid (HI.out.lift hb)
  try have HRB := Lib.hid (HRB.out.trans (hb.mono HRB.out.size))
  try have HWW := Lib.hid (HWW.out.trans (hb.mono HWW.out.size))
  clear hb
  clear p0 p1
  obtain ⟨⟨p0, p1, _, _, _⟩, _⟩ := HVA.out
  go_wp2_with fail
  refine (HWG.out _ HVX.out).mono ?_
  rintro e w2 ⟨AW, cW, rfl, hIW, hb⟩
  have HBW := Lib.hid (HBW.out.trans (hb.mono HBW.out.size))
  try have HVA := Lib.hid (HVA.out.lift hb)
  try have HVB := Lib.hid (HVB.out.lift hb)
  try have HVC := Lib.hid (HVC.out.lift hb)
  try have HVT := Lib.hid (HVT.out.lift hb)
  try have HVX := Lib.hid (HVX.out.lift hb)
  try have HVM := Lib.hid (HVM.out.lift hb)
  try have HVF := Lib.hid (HVF.out.lift hb)
  try have HVP := Lib.hid (HVP.out.lift hb)
  try have HVQ := Lib.hid (HVQ.out.lift hb)
  try have HLA := Lib.hid (HLA.out.lift hb)
  try have HLW := Lib.hid (HLW.out.lift hb)
  try have HI := Lib.hid (HI.out.lift hb)
  try have HRB := Lib.hid (HRB.out.trans (hb.mono HRB.out.size))
  try have HWW := Lib.hid (HWW.out.trans (hb.mono HWW.out.size))
  clear hb
  have HVP := Lib.hid hIW
  clear hIW p0 p1
  obtain ⟨⟨p0, p1, _, _, _⟩, _⟩ := HVA.out
  go_wp2_with fail
  refine (HST.out _ HVA.out.2).mono ?_
  rintro e w3 ⟨AS, cS, rfl, hIS, hb⟩
  have HBW := Lib.hid (HBW.out.trans (hb.mono HBW.out.size))
  try have HVA := Lib.hid (HVA.out.lift hb)
  try have HVB := Lib.hid (HVB.out.lift hb)
  try have HVC := Lib.hid (HVC.out.lift hb)
  try have HVT := Lib.hid (HVT.out.lift hb)
  try have HVX := Lib.hid (HVX.out.lift hb)
  try have HVM := Lib.hid (HVM.out.lift hb)
  try have HVF := Lib.hid (HVF.out.lift hb)
  try have HVP := Lib.hid (HVP.out.lift hb)
  try have HVQ := Lib.hid (HVQ.out.lift hb)
  try have HLA := Lib.hid (HLA.out.lift hb)
  try have HLW := Lib.hid (HLW.out.lift hb)
  try have HI := Lib.hid (HI.out.lift hb)
  try have HRB := Lib.hid (HRB.out.trans (hb.mono HRB.out.size))
  try have HWW := Lib.hid (HWW.out.trans (hb.mono HWW.out.size))
  clear hb
  have HVQ := Lib.hid hIS
  clear hIS p0 p1
  obtain ⟨⟨p0, p1, _, _, _⟩, _⟩ := HVA.out
  rw [hsl]
  go_wp2_with fail
  go_loop [6, 21] (fun s i => ∃ j : Nat, j ≤ bs.length ∧ i = .int .i64 j ∧ s = .int .i64 (synV WL N bs SL j)) (fun _ i => bs.length - (intOf i).toNat)
  case atStart => exact ⟨0, Nat.zero_le _, rfl, rfl⟩
  case round =>
    obtain ⟨j, hj, rfl, rfl⟩ := hrel
    by_cases hlt : j < bs.length
    · have hji : (j : Int) < (bs.length : Int) := by omega
      have hj0 : (0 : Int) ≤ (j : Int) := Int.natCast_nonneg _
      obtain ⟨bB, oB, hAB, hbB, hcB⟩ := HVA.out.2.2.2 (by omega)
      obtain ⟨bS, oS, hAS, hbS, hcS⟩ := HVQ.out.2.2 (by omega)
      obtain ⟨bW, oW, hAW, hbW, hcW⟩ := HVP.out.2.2 (by omega)
      subst hAB hAS hAW
      have hcb := hcB j hlt
      have hcs := hcS j (by omega)
      obtain ⟨s, hs, hs1, hs2⟩ := HSR.out j hlt
      have hpr := HBR.out j hlt
      have HYJ := Lib.hid (HYS.out j)
      have hyr := HYR.out j
      have hsn : SL.getD j 0 = (s : Int) := hs
      obtain ⟨p, hp⟩ : ∃ p, bs.getD j 0 = p := ⟨_, rfl⟩
      rw [hp] at hcb hpr HYJ
      rw [hsn] at hcs HYJ
      obtain ⟨p, rfl⟩ := Int.eq_ofNat_of_zero_le hpr.1
      have hcp := hcW p (by omega)
      obtain ⟨v, hv⟩ : ∃ v, WL.getD p 0 = v := ⟨_, rfl⟩
      have hvr := HWR.out p
      rw [hv] at hcp hvr
      rw [Int.toNat_natCast, Int.toNat_natCast, hv] at HYJ
      have HCW := Lib.hid hcW
      have hpl : (p : Int) < (N : Int) := by omega
      have hp0 : (0 : Int) ≤ (p : Int) := Int.natCast_nonneg _
      generalize synV WL N bs SL j = Y at *
      clear hp hv hs hsn hcB hcS hcW
      go_wp2_with fail
      go_loop [10, 11] (fun g d => ∃ m : Nat, m + 1 ≤ s ∧ d = .int .i64 ((m + 1 : Nat) : Int) ∧ g = .int .i64 (grtV WL N p m)) (fun _ d => s - (intOf d).toNat)
      case atStart => exact ⟨0, hs1, rfl, rfl⟩
      case round =>
        obtain ⟨m, hm, rfl, rfl⟩ := hrel
        have hgr := HGR.out p m
        by_cases hlm : m + 1 < s
        · have hmi : ((m + 1 : Nat) : Int) < (s : Int) := by omega
          obtain ⟨m1, hm1⟩ : ∃ m1, m + 1 = m1 := ⟨_, rfl⟩
          have hqN : (p + m1) % N < N := Nat.mod_lt _ hn1
          have HGJ := Lib.hid (show grtV WL N p (m + 1) = max (grtV WL N p m) (WL.getD ((p + m1) % N) 0) by
            rw [HGS.out, hm1, ← Int.natCast_add, ← Int.natCast_emod, Int.toNat_natCast])
          have hcq := HCW.out ((p + m1) % N) (by omega)
          rw [hm1] at hmi HGJ ⊢
          have hw1 : IntKind.i64.wrap ((p : Int) + (m1 : Int)) = (p : Int) + (m1 : Int) := i64w (by omega)
          have hnz : ((N : Int) = 0) = False := eq_false (by omega)
          have hnz2 : (N = 0) = False := eq_false (by omega)
          have hrm : ((p : Int) + (m1 : Int)).tmod (N : Int) = ((p : Int) + (m1 : Int)) % (N : Int) := Int.tmod_eq_emod_of_nonneg (by omega)
          have hq0 : (0 : Int) ≤ ((p : Int) + (m1 : Int)) % (N : Int) := Int.emod_nonneg _ (by omega)
          have hql : ((p : Int) + (m1 : Int)) % (N : Int) < (N : Int) := Int.emod_lt_of_pos _ (by omega)
          have hw2 : IntKind.i64.wrap (((p : Int) + (m1 : Int)) % (N : Int)) = ((p : Int) + (m1 : Int)) % (N : Int) := i64w (by omega)
          have HM1 := Lib.hid hm1
          have hms : m1 < s := by omega
          generalize WL.getD ((p + m1) % N) 0 = u at *
          generalize grtV WL N p m = G at *
          clear hm1 hlm hm
          go_wp2_with fail
          go_round
          case rel => exact ⟨m1, by omega, by go_num, by rw [HGJ.out]⟩
          case measure => simp [intOf]; omega
        · have hme : s - 1 = m := by omega
          have hmi : ¬ ((m + 1 : Nat) : Int) < (s : Int) := by omega
          rw [hme] at HYJ
          generalize grtV WL N p m = G at *
          have hw1 : IntKind.i64.wrap (G - v) = G - v := i64w (by omega)
          have hw2 : IntKind.i64.wrap (Y + max 0 (G - v)) = Y + max 0 (G - v) := i64w (by omega)
          clear hme hm hlm
          go_wp2_with fail
          go_round
          case rel => exact ⟨j + 1, by omega, by go_num, by rw [HYJ.out]⟩
          case measure => simp [intOf]; omega
    · have hje : j = bs.length := by omega
      subst hje
      have hji : ¬ (bs.length : Int) < (bs.length : Int) := by omega
      generalize synV WL N bs SL bs.length = Y at *
      go_wp2_with fail
      go_ret
      exact ⟨ret_int HV.out.symm, HBW.out⟩

end Go.Proofs.YtjoeglekcnaebaaDoor
