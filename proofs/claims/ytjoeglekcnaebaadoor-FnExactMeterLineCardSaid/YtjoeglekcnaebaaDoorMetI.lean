/-
  Products, meters that are ones, layers and weights, by the program.
-/
import Derived.Test.YtjoeglekcnaebaaDoorMetT
import Derived.Test.YtjoeglekcnaebaaDoorHas
import Derived.Test.YtjoeglekcnaebaaDoorRw
import Derived.Test.YtjoeglekcnaebaaDoorHav
import Derived.Test.YtjoeglekcnaebaaDoorFrm
namespace Go.Proofs.YtjoeglekcnaebaaDoor
open Go.RowKit
set_option linter.unusedVariables false
set_option linter.unusedSimpArgs false

theorem Ints.takeM {w : World} {B : Nat} {A : Option Addr} {xs : List Int} (h : Ints w B A xs) (j : Nat) : Ints w B A (xs.take j) := by
  refine ⟨by have := h.1; rw [List.length_take]; omega, fun x hx => h.2.1 x (List.mem_of_mem_take hx), fun hn => ?_⟩
  rw [List.length_take] at hn
  obtain ⟨b, off, e, hb, hc⟩ := h.2.2 (by omega)
  refine ⟨b, off, e, hb, fun i hi => ?_⟩
  rw [List.length_take] at hi
  rw [hc i (by omega), List.getD_eq_getElem?_getD, List.getD_eq_getElem?_getD, List.getElem?_take, if_pos (by omega)]
theorem Ints.dropM {w : World} {B b off : Nat} {xs : List Int} (h : Ints w B (some ⟨b, off, none⟩) xs) (j : Nat) : Ints w B (some ⟨b, off + j, none⟩) (xs.drop j) := by
  refine ⟨by have := h.1; rw [List.length_drop]; omega, fun x hx => h.2.1 x (List.mem_of_mem_drop hx), fun hn => ?_⟩
  rw [List.length_drop] at hn
  obtain ⟨b', off', e, hb, hc⟩ := h.2.2 (by omega)
  injection e with e
  injection e with e1 e2
  subst e1 e2
  refine ⟨_, _, rfl, hb, fun i hi => ?_⟩
  rw [List.length_drop] at hi
  rw [Nat.add_assoc, hc (j + i) (by omega), List.getD_eq_getElem?_getD, List.getD_eq_getElem?_getD, List.getElem?_drop]
theorem Ints.none_ {w : World} {B : Nat} (A : Option Addr) : Ints w B A [] := ⟨Nat.zero_le _, (by intro x hx; cases hx), fun h => absurd h (Nat.lt_irrefl 0)⟩

set_option maxHeartbeats 400000 in
theorem impl_product_any (A : Option Addr) (cap : Nat) (xs : List Int) (w : World) (B : Nat) (hA : Ints w B A xs) (h27 : In27 xs) (hp : prd xs ≤ 100000) :
    Calls Tryd.prog 44 #[.slice A xs.length cap] w fun e w' => e = .returned (.int .i64 (prd xs)) ∧ w = w' := by
  have hlen := hA.1
  unfold maxLen at hlen
  have HC := Lib.hid hA.2.2
  have HP := Lib.hid (fun j => And.intro (prd_pos (h27.take j)) (prd_take_le h27 j))
  have HX := Lib.hid (fun j (hj : j < xs.length) => h27 (xs.getD j 0) (by rw [List.getD_eq_getElem?_getD, List.getElem?_eq_getElem hj]; exact List.getElem_mem hj))
  have HT := Lib.hid (fun j x (hj : j < xs.length) (hx : xs.getD j 0 = x) => prd_take hj hx)
  have HE := Lib.hid (show prd (xs.take xs.length) = prd xs by rw [List.take_length])
  have HZ := Lib.hid (show prd (xs.take 0) = 1 by rw [List.take_zero]; rfl)
  generalize prd xs = P at *
  clear hA h27
  go_enter Tryd.func44, Tryd.ntmps44
  go_wp2
  go_loop [3, 8] (fun s i => ∃ j : Nat, j ≤ xs.length ∧ i = .int .i64 j ∧ s = .int .i64 (prd (xs.take j))) (fun _ i => xs.length - (intOf i).toNat)
  case atStart => exact ⟨0, Nat.zero_le _, rfl, by rw [HZ.out]⟩
  case round =>
    obtain ⟨j, hj, rfl, rfl⟩ := hrel
    by_cases hlt : j < xs.length
    · obtain ⟨b, off, rfl, hB, hc⟩ := HC.out (by omega)
      have hcell := hc j hlt
      have hx := HX.out j hlt
      have hp1 := HP.out (j + 1)
      have hp0 := HP.out j
      obtain ⟨x, hxe⟩ : ∃ x, xs.getD j 0 = x := ⟨_, rfl⟩
      rw [hxe] at hcell hx
      have hs := HT.out j x hlt hxe
      rw [hs] at hp1
      have HS := Lib.hid hs
      generalize prd (xs.take j) = Q at *
      have hw : IntKind.i64.wrap (Q * x) = Q * x := i64w (by omega)
      clear hc hxe hs
      go_wp2
      go_round
      case rel => exact ⟨j + 1, by omega, by go_num, by rw [HS.out]⟩
      case measure => simp [intOf]; omega
    · have hjn : j = xs.length := by omega
      subst hjn
      rw [HE.out]
      go_wp2
      go_ret
      exact ⟨rfl, rfl⟩

set_option maxHeartbeats 400000 in
theorem impl_MeterOk_any (A : Option Addr) (cap : Nat) (xs : List Int) (w : World) (hA : Ints w w.heap.size A xs) (hm : MetOk xs) :
    Calls Tryd.prog 29 #[.slice A xs.length cap] w fun e w' => e = .returned (.bool true) ∧ Below w.heap.size w w' := by
  have hab : allB xs 2 7 = true := by
    unfold allB
    rw [List.all_eq_true]
    intro x hx
    have := hm.2.2.1 x hx
    exact inB_true ⟨by omega, by omega⟩
  have HAW := Lib.hid (hab ▸ impl_allWithin_any A cap xs 2 7 w hA)
  have HPR := Lib.hid (fun V h => impl_product_any A cap xs V w.heap.size h hm.2.2.1 (by have := hm.2.2.2; omega))
  have hin : inB (xs.length : Int) 1 5 = true := inB_true ⟨by have := hm.1; omega, by have := hm.2.1; omega⟩
  have hle : prd xs ≤ 24 := hm.2.2.2
  generalize prd xs = p at *
  have HA := Lib.hid hA
  clear hA hm hab
  go_enter Tryd.func29, Tryd.ntmps29
  go_wp2_with (go_at_call 41; refine (within_any _ _ _ _).mono ?_; rintro e w' ⟨rfl, rfl⟩)
  refine HAW.out.mono ?_
  rintro e w1 ⟨rfl, hb⟩
  have HB := Lib.hid hb
  clear hb
  go_wp2_with fail
  refine (HPR.out _ (HA.out.below HB.out)).mono ?_
  rintro e w2 ⟨rfl, rfl⟩
  go_wp2_with fail
  go_ret
  exact ⟨by simp [hle], HB.out⟩

set_option maxRecDepth 100000 in
set_option maxHeartbeats 1000000 in
theorem impl_fitsMeter_any (N : Nat) (A A2 : Option Addr) (cap c2 : Nat) (bs xs : List Int) (w : World) (hA : Ints w w.heap.size A bs) (hX : Ints w w.heap.size A2 xs) (hok : RhOk N bs) (hm : MetOk xs) (hp : prd xs = N) :
    Calls Tryd.prog 33 #[.agg #[.int .i64 N, .slice A bs.length cap], .slice A2 xs.length c2] w fun e w' => e = .returned (.bool true) ∧ Below w.heap.size w w' := by
  have hn2 : N ≤ 24 := by have := hok.2.1; omega
  have hfN : Fits (N : Int) := by unfold Fits; omega
  have hr : rhB N bs = true := rhB_iff.2 hok
  have HRO := Lib.hid (fun V h => hr ▸ impl_RhythmOk_any N A cap bs V hfN h)
  have HMO := Lib.hid (fun V h => impl_MeterOk_any A2 c2 xs V h hm)
  have HPR := Lib.hid (fun V h => hp ▸ impl_product_any A2 c2 xs V V.heap.size h hm.2.2.1 (by have := hm.2.2.2; omega))
  have HBW := Lib.hid ((Below.refl w.heap.size w).alloc (Nat.le_refl _) (.cells #[.int .i64 N, .slice A (bs).length cap] 27))
  have HVA := Lib.hid (Hav.boxed hA N cap)
  have HVX := Lib.hid (hX.lift HBW.out)
  clear hA hX hok hm hr
  obtain ⟨⟨p0, p1, _, _, _⟩, _⟩ := HVA.out
  go_enter Tryd.func33, Tryd.ntmps33
  go_wp2_with fail
  generalize w.alloc (.cells #[.int .i64 N, .slice A (bs).length cap] 27) = W at *
  have HBW := Lib.hid (Below.drewH_ HBW.out)
  have HVA := Lib.hid HVA.out.drew
  have HVX := Lib.hid (show Ints W.drew W.drew.heap.size A2 xs from HVX.out)
  (refine wp_region_held_drew (S := (fun w' => w'.cell? ⟨w.heap.size, 0, none⟩ = some (.int .i64 N) ∧ w'.cell? ⟨w.heap.size, 1, none⟩ = some (.slice A bs.length cap))) (by kernel_rfl) ?_ (fun hHeld => ?_); (focus ((try dsimp only); exact ⟨p0, p1⟩)))
  (refine wpAnyH_take (i := 0) (v := ?_) rfl (by kernel_rfl) (by kernel_rfl) (by kernel_rfl) (fun _ _ _ h => h) (Or.inl ⟨by rfl, ?_⟩) (by assumption) ?_; rotate_left; (focus (intro wS hSw; (try dsimp only at hSw); go_simp; (try with_reducible rfl))); (try simp only [Act.put, List.getElem_toArray, List.getElem_cons_zero, List.getElem_cons_succ, List.setIfInBounds_toArray, List.set_cons_zero, List.set_cons_succ]))
  (refine wpAnyH_ready (rs := [1]) (by kernel_rfl) (by simp) ?_; refine AllReadyH.cons rfl (fun K hK => ?_) AllReadyH.nil; go_simp)
  go_at_call 27
  refine (HRO.out _ HVA.out.2).mono ?_
  rintro e w1 ⟨rfl, hb⟩
  have HBW := Lib.hid (HBW.out.trans (hb.mono HBW.out.size))
  try have HVA := Lib.hid (HVA.out.lift hb)
  try have HVB := Lib.hid (HVB.out.lift hb)
  try have HVC := Lib.hid (HVC.out.lift hb)
  try have HVT := Lib.hid (HVT.out.lift hb)
  try have HVX := Lib.hid (HVX.out.lift hb)
  try have HVM := Lib.hid (HVM.out.lift hb)
  try have HVF := Lib.hid (HVF.out.lift hb)
  try have HVP := Lib.hid (HVP.out.lift hb)
  try have HVQ := Lib.hid (HVQ.out.lift hb)
  try have HLA := Lib.hid (HLA.out.lift hb)
  try have HLW := Lib.hid (HLW.out.lift hb)
  try have HI := Lib.hid (HI.out.lift hb)
  try have HRB := Lib.hid (HRB.out.trans (hb.mono HRB.out.size))
  try have HWW := Lib.hid (HWW.out.trans (hb.mono HWW.out.size))
  clear hb
  clear p0 p1
  obtain ⟨⟨p0, p1, _, _, _⟩, _⟩ := HVA.out
  go_wp2_with fail
  (refine hK.out _ _ ?_ (fun hHeld2 => ?_); (focus ((try dsimp only); exact ⟨p0, p1⟩)); (clear hK K); (try simp only [Act.put, List.getElem_toArray, List.getElem_cons_zero, List.getElem_cons_succ, List.setIfInBounds_toArray, List.set_cons_zero, List.set_cons_succ]))
  ((refine wpAnyH_take (i := 2) (v := ?_) rfl (by kernel_rfl) (by kernel_rfl) (by kernel_rfl) (fun _ _ _ h => h) (Or.inl ⟨by rfl, ?_⟩) (by assumption) ?_; rotate_left; (focus (intro wS hSw; (try dsimp only at hSw); go_simp; (try with_reducible rfl))); (try simp only [Act.put, List.getElem_toArray, List.getElem_cons_zero, List.getElem_cons_succ, List.setIfInBounds_toArray, List.set_cons_zero, List.set_cons_succ])); (refine wpAnyH_take (i := 3) (v := ?_) rfl (by kernel_rfl) (by kernel_rfl) (by kernel_rfl) (fun _ _ _ h => h) (Or.inl ⟨by rfl, ?_⟩) (by assumption) ?_; rotate_left; (focus (intro wS hSw; (try dsimp only at hSw); go_simp; (try with_reducible rfl))); (try simp only [Act.put, List.getElem_toArray, List.getElem_cons_zero, List.getElem_cons_succ, List.setIfInBounds_toArray, List.set_cons_zero, List.set_cons_succ])))
  (refine wpAnyH_ready (rs := [4]) (by kernel_rfl) (by simp) ?_; refine AllReadyH.cons rfl (fun K hK => ?_) AllReadyH.nil; go_simp)
  go_at_call 29
  refine (HMO.out _ HVX.out).mono ?_
  rintro e w2 ⟨rfl, hb⟩
  have HBW := Lib.hid (HBW.out.trans (hb.mono HBW.out.size))
  try have HVA := Lib.hid (HVA.out.lift hb)
  try have HVB := Lib.hid (HVB.out.lift hb)
  try have HVC := Lib.hid (HVC.out.lift hb)
  try have HVT := Lib.hid (HVT.out.lift hb)
  try have HVX := Lib.hid (HVX.out.lift hb)
  try have HVM := Lib.hid (HVM.out.lift hb)
  try have HVF := Lib.hid (HVF.out.lift hb)
  try have HVP := Lib.hid (HVP.out.lift hb)
  try have HVQ := Lib.hid (HVQ.out.lift hb)
  try have HLA := Lib.hid (HLA.out.lift hb)
  try have HLW := Lib.hid (HLW.out.lift hb)
  try have HI := Lib.hid (HI.out.lift hb)
  try have HRB := Lib.hid (HRB.out.trans (hb.mono HRB.out.size))
  try have HWW := Lib.hid (HWW.out.trans (hb.mono HWW.out.size))
  clear hb
  clear p0 p1
  obtain ⟨⟨p0, p1, _, _, _⟩, _⟩ := HVA.out
  go_wp2_with fail
  (refine hK.out _ _ ?_ (fun hHeld2 => ?_); (focus ((try dsimp only); exact ⟨p0, p1⟩)); (clear hK K); (try simp only [Act.put, List.getElem_toArray, List.getElem_cons_zero, List.getElem_cons_succ, List.setIfInBounds_toArray, List.set_cons_zero, List.set_cons_succ]))
  ((refine wpAnyH_take (i := 5) (v := ?_) rfl (by kernel_rfl) (by kernel_rfl) (by kernel_rfl) (fun _ _ _ h => h) (Or.inl ⟨by rfl, ?_⟩) (by assumption) ?_; rotate_left; (focus (intro wS hSw; (try dsimp only at hSw); go_simp; (try with_reducible rfl))); (try simp only [Act.put, List.getElem_toArray, List.getElem_cons_zero, List.getElem_cons_succ, List.setIfInBounds_toArray, List.set_cons_zero, List.set_cons_succ])); (refine wpAnyH_take (i := 6) (v := ?_) rfl (by kernel_rfl) (by kernel_rfl) (by kernel_rfl) (fun _ _ _ h => h) (Or.inl ⟨by rfl, ?_⟩) (by assumption) ?_; rotate_left; (focus (intro wS hSw; (try dsimp only at hSw); go_simp; (try with_reducible rfl))); (try simp only [Act.put, List.getElem_toArray, List.getElem_cons_zero, List.getElem_cons_succ, List.setIfInBounds_toArray, List.set_cons_zero, List.set_cons_succ])); (refine wpAnyH_take (i := 7) (v := ?_) rfl (by kernel_rfl) (by kernel_rfl) (by kernel_rfl) (fun _ _ _ h => h) (Or.inl ⟨by rfl, ?_⟩) (by assumption) ?_; rotate_left; (focus (intro wS hSw; (try dsimp only at hSw); go_simp; (try with_reducible rfl))); (try simp only [Act.put, List.getElem_toArray, List.getElem_cons_zero, List.getElem_cons_succ, List.setIfInBounds_toArray, List.set_cons_zero, List.set_cons_succ])); (refine wpAnyH_take (i := 8) (v := ?_) rfl (by kernel_rfl) (by kernel_rfl) (by kernel_rfl) (fun _ _ _ h => h) (Or.inl ⟨by rfl, ?_⟩) (by assumption) ?_; rotate_left; (focus (intro wS hSw; (try dsimp only at hSw); go_simp; (try with_reducible rfl))); (try simp only [Act.put, List.getElem_toArray, List.getElem_cons_zero, List.getElem_cons_succ, List.setIfInBounds_toArray, List.set_cons_zero, List.set_cons_succ])); (refine wpAnyH_take (i := 9) (v := ?_) rfl (by kernel_rfl) (by kernel_rfl) (by kernel_rfl) (fun _ _ _ h => h) (Or.inl ⟨by rfl, ?_⟩) (by assumption) ?_; rotate_left; (focus (intro wS hSw; (try dsimp only at hSw); go_simp; (try with_reducible rfl))); (try simp only [Act.put, List.getElem_toArray, List.getElem_cons_zero, List.getElem_cons_succ, List.setIfInBounds_toArray, List.set_cons_zero, List.set_cons_succ])))
  (refine wpAnyH_ready (rs := [10]) (by kernel_rfl) (by simp) ?_; refine AllReadyH.cons rfl (fun K hK => ?_) AllReadyH.nil; go_simp)
  go_at_call 44
  refine (HPR.out _ HVX.out).mono ?_
  rintro e w3 ⟨rfl, rfl⟩
  go_wp2_with fail
  (refine hK.out _ _ ?_ (fun hHeld2 => ?_); (focus ((try dsimp only); exact ⟨p0, p1⟩)); (clear hK K); (try simp only [Act.put, List.getElem_toArray, List.getElem_cons_zero, List.getElem_cons_succ, List.setIfInBounds_toArray, List.set_cons_zero, List.set_cons_succ]))
  ((refine wpAnyH_take (i := 11) (v := ?_) rfl (by kernel_rfl) (by kernel_rfl) (by kernel_rfl) (fun _ _ _ h => h) (Or.inl ⟨by rfl, ?_⟩) (by assumption) ?_; rotate_left; (focus (intro wS hSw; (try dsimp only at hSw); go_simp; (try with_reducible rfl))); (try simp only [Act.put, List.getElem_toArray, List.getElem_cons_zero, List.getElem_cons_succ, List.setIfInBounds_toArray, List.set_cons_zero, List.set_cons_succ])); (refine wpAnyH_take (i := 12) (v := ?_) rfl (by kernel_rfl) (by kernel_rfl) (by kernel_rfl) (fun _ _ _ h => h) (Or.inl ⟨by rfl, ?_⟩) (by assumption) ?_; rotate_left; (focus (intro wS hSw; (try dsimp only at hSw); go_simp; (try with_reducible rfl))); (try simp only [Act.put, List.getElem_toArray, List.getElem_cons_zero, List.getElem_cons_succ, List.setIfInBounds_toArray, List.set_cons_zero, List.set_cons_succ])); (refine wpAnyH_take (i := 13) (v := ?_) rfl (by kernel_rfl) (by kernel_rfl) (by kernel_rfl) (fun _ _ _ h => h) (Or.inl ⟨by rfl, ?_⟩) (by assumption) ?_; rotate_left; (focus (intro wS hSw; (try dsimp only at hSw); go_simp; (try with_reducible rfl))); (try simp only [Act.put, List.getElem_toArray, List.getElem_cons_zero, List.getElem_cons_succ, List.setIfInBounds_toArray, List.set_cons_zero, List.set_cons_succ])))
  refine wpAnyH_done (by kernel_rfl) ?_ _
  go_wp2_with fail
  go_ret
  exact ⟨by simp, HBW.out⟩

def layL (U m : Nat) : List Int := (List.range m).map fun i => ((i * U : Nat) : Int)
theorem layL_succ (U m : Nat) : layL U (m + 1) = layL U m ++ [((m * U : Nat) : Int)] := by simp [layL, List.range_succ]
theorem layL_len (U m : Nat) : (layL U m).length = m := by simp [layL]
theorem layL_at (U : Nat) {m i : Nat} (hi : i < m) : (layL U m).getD i 0 = ((i * U : Nat) : Int) := by
  unfold layL
  rw [List.getD_eq_getElem?_getD, List.getElem?_eq_getElem (by simpa using hi)]
  simp

set_option maxRecDepth 100000 in
set_option maxHeartbeats 1000000 in
theorem impl_layer_any (k U n : Nat) (w : World) (hk : 1 ≤ k) (hU : 1 ≤ U) (hn : k * U = n) (hn2 : n ≤ 24) :
    Calls Tryd.prog 48 #[.int .i64 k, .int .i64 n] w (RetRh1 w n (layL U k)) := by
  have hk24 : k ≤ 24 := by
    have := Nat.mul_le_mul_left k hU
    omega
  have hk0 : ((k : Int) = 0) = False := eq_false (by omega)
  have hk00 : (k = 0) = False := eq_false (by omega)
  have hkz : ((k : Int) == 0) = false := beq_eq_false_iff_ne.2 (by omega)
  have HKU := Lib.hid hn
  clear hn
  go_enter Tryd.func48, Tryd.ntmps48
  go_wp2_with fail
  go_loopw [10] (fun i wr => ∃ (q : Nat) (v : Value), q ≤ k ∧ i = .int .i64 q ∧ Cells2 wr (w.heap.size + 1) (.int .i64 n) v ∧ OwnI wr (w.heap.size + 2) v (layL U q) ∧ (∃ u1 u2, Cells2 wr w.heap.size u1 u2) ∧ Below w.heap.size w wr ∧ w.heap.size + 2 ≤ wr.heap.size) (fun i _ => k - (intOf i).toNat)
  case atStart =>
    refine ⟨0, .slice none 0 0, Nat.zero_le _, rfl, Cells2.new_at _ _ _ _ _ (by simp), OwnI.nil _ _, ⟨_, _, (Cells2.new w _ _ _).alloc _⟩, ?_, by simp⟩
    exact ((Below.refl _ _).alloc (Nat.le_refl _) _).alloc (by first | exact Nat.le_refl _ | (simp; done) | (simp; omega) | omega) _
  case round =>
    obtain ⟨q, v, hq, rfl, hc2, hown, ⟨u1, u2, hc1⟩, hbel, hsz⟩ := hrel
    obtain ⟨wo, rfl⟩ : ∃ wo : World, wo = wr := ⟨_, rfl⟩
    have HC2 := Lib.hid hc2
    have HC1 := Lib.hid hc1
    have HOW := Lib.hid hown
    have HBE := Lib.hid hbel
    obtain ⟨g0, g1, g2, g3, g4⟩ := HC2.out
    obtain ⟨A1, c1, rfl⟩ := hown.form
    rw [layL_len] at HC2 g1
    clear hc2 hown hbel hc1
    by_cases hlt : q < k
    · have hqn : q * n ≤ 576 := Nat.le_trans (Nat.mul_le_mul (show q ≤ 24 by omega) hn2) (by decide)
      have HSU := Lib.hid (layL_succ U q)
      have hp0 : (q : Int) * (n : Int) = ((q * n : Nat) : Int) := by push_cast; rfl
      obtain ⟨D, hD⟩ : ∃ D, q * U = D := ⟨_, rfl⟩
      have hpd : q * n / k = D := by
        rw [← HKU.out, ← hD, show q * (k * U) = q * U * k by rw [Nat.mul_comm k U, Nat.mul_assoc], Nat.mul_div_cancel _ hk]
      obtain ⟨P, hP⟩ : ∃ P, q * n = P := ⟨_, rfl⟩
      rw [hP] at hp0 hqn hpd
      rw [hD] at HSU
      have hDl : D ≤ 2000 := by rw [← hpd]; exact Nat.le_trans (Nat.div_le_self _ _) (by omega)
      have hw1 : IntKind.i64.wrap ((q : Int) * (n : Int)) = P := by rw [hp0]; exact i64w (by omega)
      have hw2b : IntKind.i64.wrap (P : Int) = (P : Int) := i64w (by omega)
      have hdv : Int.tdiv (P : Int) k = (D : Int) := by rw [Int.tdiv_eq_ediv_of_nonneg (by omega), ← hpd, Int.natCast_ediv]
      have hw3 : IntKind.i64.wrap (D : Int) = D := i64w (by omega)
      have hll : (layL U q).length ≤ 1048576 := by rw [layL_len]; omega
      clear hP hD hpd
      go_wp2_with fail
      have hal := (Below.refl wo.drew.heap.size wo.drew).alloc (Nat.le_refl _) (.cells #[.int .i64 D] 3)
      have HC3 := Lib.hid ((show Cells2 wo.drew (w.heap.size + 1) (.int .i64 n) (.slice A1 q c1) from HC2.out).below hal g4)
      have HC4 := Lib.hid ((show Cells2 wo.drew w.heap.size u1 u2 from HC1.out).below hal (by show w.heap.size < wo.heap.size; omega))
      have HOW3 := Lib.hid ((OwnI.alloc (show OwnI wo.drew (w.heap.size + 2) (.slice A1 (layL U q).length c1) (layL U q) from HOW.out)) (.cells #[.int .i64 D] 3))
      have HBE3 := Lib.hid ((Below.drew5_ HBE.out).trans (hal.mono (show w.heap.size ≤ wo.heap.size by omega)))
      have HNW := Lib.hid (cell_new1 wo.drew (.int .i64 D) 3)
      have hsd : w.heap.size + 2 ≤ wo.drew.heap.size := hsz
      have hzz : w.heap.size + 2 ≤ (wo.drew.alloc (.cells #[.int .i64 D] 3)).heap.size := by rw [World.size_alloc]; omega
      rw [layL_len] at HOW3
      clear hal
      obtain ⟨r0, r1, r2, r3, _⟩ := HC3.out
      go_region_law (refine step_append_int (by rfl) _ _ (by rfl) (w.heap.size + 2) _ (layL U q) (by rfl) HOW3.out _ D (by rfl) HNW.out hll hzz ?_; intro v' w4 hown4 hb4; obtain ⟨A2, c2, rfl⟩ := hown4.form; obtain ⟨s0, s1, s2, s3, _⟩ := HC3.out.below hb4 (by omega))
      all_goals
        have hl4 : (layL U q ++ [(D : Int)]).length = (layL U q).length + 1 := by simp
        rw [hl4] at hown4
        have hz4 := hb4.size
        have HX := Lib.hid ((HC3.out.below hb4 (by omega)).set1 (.slice A2 ((layL U q).length + 1) c2))
        have HY := Lib.hid ((HC4.out.below hb4 (by omega)).far (p := ⟨w.heap.size + 1, 1, none⟩) (by simp) (.slice A2 ((layL U q).length + 1) c2))
        have HOW6 := Lib.hid (hown4.far (p := ⟨w.heap.size + 1, 1, none⟩) (by simp) (.slice A2 ((layL U q).length + 1) c2))
        have HBE6 := Lib.hid ((HBE3.out.trans (hb4.mono (by omega))).setCell (p := ⟨w.heap.size + 1, 1, none⟩) (by simp) (.slice A2 ((layL U q).length + 1) c2))
        have hz6 : w.heap.size + 2 ≤ (w4.setCell ⟨w.heap.size + 1, 1, none⟩ (.slice A2 ((layL U q).length + 1) c2)).heap.size := by simp [World.setCell]; omega
        clear hown4 hb4 hl4 r0 r1 r2 r3 s0 s1 s2 s3 g0 g1 g2 g3
        go_wp2_with fail
        go_roundw
        case rel => exact ⟨q + 1, _, by omega, by go_num, HX.out, by rw [HSU.out]; exact HOW6.out, ⟨u1, u2, HY.out⟩, HBE6.out, hz6⟩
        case measure => simp [intOf]; omega
    · have hqe : q = k := by omega
      subst hqe
      obtain ⟨f0, f1, f2, f3, f4⟩ := HC1.out
      rw [layL_len] at HOW
      go_wp2_with fail
      refine bodyPost_ret (v := .agg #[.int .i64 n, .slice A1 q c1]) (by simp [results, Tryd.results48, go_sem, f0, f1]) rfl ?_
      refine ⟨A1, c1, by rw [layL_len], ?_, ?_⟩
      · have hr := ((HOW.out.far (p := ⟨w.heap.size, 0, none⟩) (by simp) (.int .i64 n)).far (p := ⟨w.heap.size, 1, none⟩) (by simp) (.slice A1 q c1))
        have hr2 := OwnI.rw_ (xs := layL U q) (cap := c1) (A := A1) (by rw [layL_len]; exact hr) (by rw [layL_len]; omega)
        exact hr2.mono (by omega)
      · exact (HBE.out.setCell (Nat.le_refl _) _).setCell (Nat.le_refl _) _

set_option maxRecDepth 100000 in
set_option maxHeartbeats 1000000 in
theorem impl_weights_any (A : Option Addr) (cap : Nat) (xs : List Int) (N : Nat) (w : World) (hA : Ints w w.heap.size A xs) (hm : MetOk xs) (hN : prd xs = N) (hcap : xs.length ≤ cap) :
    Calls Tryd.prog 34 #[.slice A xs.length cap] w fun e w' => ∃ A' c, e = .returned (.slice A' N c) ∧ Ints w' w'.heap.size A' (wgtL xs) ∧ Below w.heap.size w w' := by
  have hn24 : N ≤ 24 := by have := hm.2.2.2; omega
  have hx5 := hm.2.1
  obtain ⟨bx, ox, rfl, hbx, hxc⟩ := hA.2.2 (show 0 < xs.length by have := hm.1; omega)
  have HPR := Lib.hid (fun V h => hN ▸ impl_product_any (some ⟨bx, ox, none⟩) cap xs V w.heap.size h hm.2.2.1 (by have := hm.2.2.2; omega))
  have HPT := Lib.hid (fun (i : Nat) K V (hK : prd (xs.take (i + 1)) = K) h => hK ▸ impl_product_any (some ⟨bx, ox, none⟩) cap (xs.take (i + 1)) V w.heap.size h (hm.2.2.1.take _) (by have := prd_take_le hm.2.2.1 (i + 1); have := hm.2.2.2; omega))
  have HMP := Lib.hid (fun i (hi : i < xs.length) => met_parts hm hi)
  have HWL := Lib.hid (show wgtL xs = wgtF xs N by unfold wgtL; rw [hN, Int.toNat_natCast])
  have HA := Lib.hid hA
  have HN := Lib.hid hN
  have hmk := fun V : World => run_make_int N (by omega) V
  clear hA hm hN hxc
  go_enter Tryd.func34, Tryd.ntmps34
  go_wp2_with fail
  refine (HPR.out _ HA.out).mono ?_
  rintro e w1 ⟨rfl, rfl⟩
  go_wp2_with fail
  have HT0 := Lib.hid (tab_made w N 3)
  have HB0 := Lib.hid ((Below.refl w.heap.size w).alloc (Nat.le_refl _) (.cells (madeCells #[.int .i64 0] N) 3))
  generalize w.alloc (.cells (madeCells #[.int .i64 0] N) 3) = W at *
  go_loopw [12] (fun i wr => ∃ j : Nat, j ≤ xs.length ∧ i = .int .i64 j ∧ Tab wr w.heap.size N (fun p => cntW xs p j) ∧ Below w.heap.size w wr) (fun i _ => xs.length - (intOf i).toNat)
  case atStart => exact ⟨0, Nat.zero_le _, rfl, HT0.out, HB0.out⟩
  case round =>
    obtain ⟨j, hj, rfl, htab, hbel⟩ := hrel
    obtain ⟨wo, rfl⟩ : ∃ wo : World, wo = wr := ⟨_, rfl⟩
    have HT := Lib.hid htab
    have HB := Lib.hid hbel
    have hws : w.heap.size < wo.heap.size := htab.1
    clear htab hbel
    by_cases hlt : j < xs.length
    · obtain ⟨K, U, hK, hU, hK1, hU1, hKU⟩ := HMP.out j hlt
      have hKN : K * U = N := by have := HN.out; omega
      have hK24 : K ≤ 24 := by have := Nat.le_mul_of_pos_right K hU1; omega
      have HPJ := Lib.hid (fun V h => HPT.out j K V hK h)
      have HLY := Lib.hid (fun V => impl_layer_any K U N V hK1 hU1 hKN hn24)
      have HIT := Lib.hid ((HA.out.below HB.out).takeM (j + 1))
      have hji : (j : Int) < (xs.length : Int) := by omega
      have htl : (xs.take (j + 1)).length = j + 1 := by rw [List.length_take]; omega
      rw [htl] at HPJ
      have hw1 : IntKind.i64.wrap ((j : Int) + 1) = ((j + 1 : Nat) : Int) := by rw [i64w (by omega)]; omega
      have HUN := Lib.hid hU
      have HKN := Lib.hid hKN
      have hj0 : (0 : Int) ≤ ((j + 1 : Nat) : Int) := Int.natCast_nonneg _
      have hjc : ((j + 1 : Nat) : Int) ≤ (cap : Int) := by omega
      clear hK hU hKU hKN htl
      go_wp2_with fail
      refine (HPJ.out _ HIT.out).mono ?_
      rintro e w2 ⟨rfl, rfl⟩
      have hfd : ∀ (V : World) A' c', (Instr.field 27 (.agg #[.int .i64 N, .slice A' K c']) 1).run Tryd.prog V = .ok (.slice A' K c') V := fun _ _ _ => by kernel_rfl
      go_wp2_with fail
      refine (HLY.out _).mono ?_
      rintro e w3 ⟨AL, cL, rfl, hrw, hb⟩
      rw [layL_len]
      have hz3 := hb.size
      obtain ⟨bl, hAL, hbl, htl⟩ := hrw.2 (by rw [layL_len]; omega)
      subst hAL
      rw [layL_len] at htl
      have HL3 := Lib.hid htl
      have HT3 := Lib.hid (HT.out.below hb hws)
      have HB3 := Lib.hid (HB.out.trans (hb.mono (by omega)))
      clear hrw hb htl
      go_wp2_with fail
      go_loopw [25] (fun i wr => ∃ t : Nat, t ≤ K ∧ i = .int .i64 t ∧ Tab wr w.heap.size N (fun p => cntP xs U j t p) ∧ Tab wr bl K (fun t => (layL U K).getD t 0) ∧ Below w.heap.size w wr) (fun i _ => K - (intOf i).toNat)
      case atStart => exact ⟨0, Nat.zero_le _, rfl, HT3.out.congr (fun p _ => (cntP_zero xs U j p).symm), HL3.out, HB3.out⟩
      case round =>
        obtain ⟨t, ht, rfl, htb, hlb, hbb⟩ := hrel
        obtain ⟨wi, rfl⟩ : ∃ wi : World, wi = wr := ⟨_, rfl⟩
        have HTI := Lib.hid htb
        have HLI := Lib.hid hlb
        have HBI := Lib.hid hbb
        clear htb hlb hbb
        by_cases hltt : t < K
        · have hlc := HLI.out.get hltt (layL_at U hltt)
          have hpN : t * U < N := by
            rw [← HKN.out]
            exact Nat.mul_lt_mul_of_pos_right hltt hU1
          obtain ⟨v, hv⟩ : ∃ v, cntP xs U j t (t * U) = v := ⟨_, rfl⟩
          have hvr := cntP_rng xs U j t (t * U)
          have hat := cntP_at xs hU1 j t
          rw [hv] at hvr hat
          have htc := HTI.out.get hpN hv
          have htf := HTI.out.frz hpN
          have HNE := Lib.hid (fun p (hp : p ≠ t * U) => cntP_ne xs hU1 j t hp)
          obtain ⟨q, hq⟩ : ∃ q, t * U = q := ⟨_, rfl⟩
          rw [hq] at hlc hpN hat htc htf HNE
          have hqi : ((q : Nat) : Int) < (N : Int) := by omega
          have hq0 : (0 : Int) ≤ (q : Int) := Int.natCast_nonneg _
          have hw2 : IntKind.i64.wrap (v + 1) = v + 1 := i64w (by omega)
          have hti : (t : Int) < (K : Int) := by omega
          have HAT := Lib.hid hat
          clear hv hq hat
          go_wp2_with fail
          have HT5 := Lib.hid (HTI.out.set_ (g := fun p => cntP xs U j (t + 1) p) q (v + 1) hpN HAT.out (fun p _ hp => HNE.out p hp))
          have HL5 := Lib.hid (HLI.out.far (p := ⟨w.heap.size, q, none⟩) (show bl ≠ w.heap.size by omega) (.int .i64 (v + 1)))
          have HB5 := Lib.hid (HBI.out.setCell (p := ⟨w.heap.size, q, none⟩) (Nat.le_refl _) (.int .i64 (v + 1)))
          go_roundw
          case rel => exact ⟨t + 1, by omega, by go_num, HT5.out, HL5.out, HB5.out⟩
          case measure => simp [intOf]; omega
        · have htK : t = K := by omega
          subst htK
          have hti : ¬ (t : Int) < (t : Int) := by omega
          have HT5 := Lib.hid (HTI.out.congr (g := fun p => cntW xs p (j + 1)) (fun p hp => cntP_end xs HUN.out hU1 (by rw [HKN.out]; exact hp)))
          go_wp2_with fail
          go_roundw
          case rel => exact ⟨j + 1, by omega, by go_num, HT5.out, HBI.out⟩
          case measure => simp [intOf]; omega
    · have hje : j = xs.length := by omega
      subst hje
      have HI := Lib.hid (show Ints wo wo.heap.size (some ⟨w.heap.size, 0, none⟩) (wgtL xs) by
        rw [HWL.out]
        refine ⟨by rw [wgtF_len]; unfold maxLen; omega, fun x hx => ?_, fun _ => ⟨w.heap.size, 0, rfl, hws, fun i hi => ?_⟩⟩
        · unfold wgtF at hx
          rw [List.mem_map] at hx
          obtain ⟨p, _, rfl⟩ := hx
          have := cntW_rng xs p xs.length
          unfold Fits; omega
        · rw [wgtF_len] at hi
          rw [Nat.zero_add, wgtF_at xs hi]
          exact (HT.out.2 i hi).1)
      go_wp2_with fail
      go_ret
      exact ⟨_, N, rfl, HI.out, HB.out⟩

end Go.Proofs.YtjoeglekcnaebaaDoor
