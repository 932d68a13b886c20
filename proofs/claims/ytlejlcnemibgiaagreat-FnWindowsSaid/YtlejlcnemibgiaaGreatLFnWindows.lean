/-
  The law FnWindows: the walk.
-/
import Derived.Test.YtlejlcnemibgiaaGreatHav
import Derived.Deep.CutRange
import Derived.Test.YtlejlcnemibgiaaGreatWzA
import Derived.Test.YtlejlcnemibgiaaGreatWdF
import Derived.Test.YtlejlcnemibgiaaGreatDraw
import Derived.Test.YtlejlcnemibgiaaGreatLFnExactLeastWindow
import Derived.Test.YtlejlcnemibgiaaGreatLFnExactWindowsOf
import Derived.Test.YtlejlcnemibgiaaGreatLFnExactHasWindow
import Derived.Test.YtlejlcnemibgiaaGreatLFnExactCountWindows
import Derived.Test.YtlejlcnemibgiaaGreatLFnExactIsBalanced
import Derived.Test.YtlejlcnemibgiaaGreatLFnExactWindowAt
import Derived.Test.YtlejlcnemibgiaaGreatCountF
namespace Go.Proofs.YtlejlcnemibgiaaGreat
open Go.RowKit
set_option linter.unusedVariables false
set_option linter.unusedSimpArgs false

theorem winsV_at {N : Nat} {bs : List Int} (h : RhOk N bs) {k : Nat} (hk : k ≤ N) : winsV N bs k = allD N bs k N := by
  have := h.2.1
  rw [winsV_yes (rhB_iff.2 h) (by unfold inB; simp; omega), Int.toNat_natCast, Int.toNat_natCast]
theorem cntW_at {N : Nat} {bs : List Int} (h : RhOk N bs) {k : Nat} (hk : k ≤ N) : cntW N bs k = cwN N bs k := by
  have := h.2.1
  rw [cntW_yes (rhB_iff.2 h) (by unfold inB; simp; omega), Int.toNat_natCast, Int.toNat_natCast]; rfl
theorem lwV_at {N : Nat} {bs : List Int} (h : RhOk N bs) : ∃ k : Nat, k < N ∧ lwV N bs = k ∧ cwN N bs k = perV N bs ∧ (0 < k → cwN N bs (k - 1) < perV N bs) := by
  have hn : 1 ≤ N := by have := h.1; omega
  have hp := (perV_is h).2.1
  have hlast : perV N bs ≤ cwN N bs (N - 1) := by
    have := cw_grow h (N - 1) (by omega)
    omega
  have hfirst : ∀ m, m < N → perV N bs ≤ cwN N bs m → ∃ k, k ≤ m ∧ perV N bs ≤ cwN N bs k ∧ ∀ j, j < k → cwN N bs j < perV N bs := by
    intro m
    induction m with
    | zero => intro _ h0; exact ⟨0, Nat.le_refl _, h0, fun j hj => by omega⟩
    | succ m ih =>
      intro hm hc
      by_cases h1 : perV N bs ≤ cwN N bs m
      · obtain ⟨k, a, b, c⟩ := ih (by omega) h1
        exact ⟨k, by omega, b, c⟩
      · have hmono : ∀ j, j ≤ m → cwN N bs j ≤ cwN N bs m := fun j hj => by
          have : ∀ d, cwN N bs j ≤ cwN N bs (j + d) := by
            intro d
            induction d with
            | zero => exact Nat.le_refl _
            | succ d ihd => exact Nat.le_trans ihd (cw_mono hn (j + d))
          have := this (m - j)
          rwa [show j + (m - j) = m by omega] at this
        exact ⟨m + 1, Nat.le_refl _, hc, fun j hj => by
          have := hmono j (by omega); omega⟩
  obtain ⟨k, a, b, c⟩ := hfirst (N - 1) (by omega) hlast
  refine ⟨k, by omega, ?_, Nat.le_antisymm (cw_le_per h k) b, fun h0 => c _ (by omega)⟩
  exact lwV_is h (by omega) (lwB_yes (by unfold cwN at b; omega)) (fun j hj => lwB_no (c j hj))
theorem win_cut {N : Nat} (bs : List Int) (r : Nat) : (mkS (winL N bs r (N + 1))).extract 0 N = mkS (winL N bs r N) := by
  refine Str.eq ?_
  unfold Str
  rw [Lib.extract_data, show (mkS (winL N bs r (N + 1))).data.toList = winL N bs r (N + 1) from str_mk _, List.drop_zero, Nat.sub_zero]
  exact win_take r N (N + 1) (by omega)
theorem ff3_full : isFullW ((8 : Nat) : Int) (bitsB 8 232 8) 3 = true := by
  unfold isFullW
  rw [if_neg (by decide), if_neg (by decide), if_pos rfl]
  unfold isFullV
  rw [rhB_iff.2 ff3_ok]
  decide +kernel
theorem ff3_rot : ∀ q : Nat, q < 12 → isFullW ((8 : Nat) : Int) (rotL 8 (bitsB 8 232 8) q) 3 = true := by
  intro q hq
  unfold isFullW
  rw [if_neg (by decide), if_neg (by decide), if_pos rfl]
  unfold isFullV
  rw [rhB_iff.2 (rotL_ok ff3_ok (q : Int)).1]
  have h : ∀ q : Nat, q < 12 → (decide (((8 : Nat) : Int) = ((8 : Nat) : Int)) && decide ((allD ((8 : Nat) : Int) (rotL 8 (bitsB 8 232 8) q) 3 8).length = 8)) = true := by decide +kernel
  rw [Bool.true_and]
  exact h q hq

set_option maxRecDepth 100000 in
set_option maxHeartbeats 16000000 in
theorem law_FnWindows {w : World} (A : Option Addr) (cap : Nat) (xs : List Int) (hA : Byt w w.heap.size A xs) :
    Calls Tryz.prog 3 #[.slice A xs.length cap] w fun e w' => e = .returned (.bool true) ∧ Below w.heap.size w w' := by
  have HA := Lib.hid hA
  have hml := hA.1
  unfold maxLen at hml
  clear hA
  by_cases hbig : 1048576 < xs.length
  · go_enter Tryz.func3, Tryz.ntmps3
    go_wp2_with fail
    go_ret
    exact ⟨rfl, Below.refl _ _⟩
  go_enter Tryz.func3, Tryz.ntmps3
  go_wp2_with fail
  refine (spec_MakeRhythm_any A cap xs 0 12 w HA.out (by decide) (by decide) (by decide)).mono ?_
  rintro e wz ⟨⟨v, rfl, N, b0, Ab, cb, rfl, hok, hN12, hrw, _⟩, hb⟩
  have hn1 : 1 ≤ N := by have := hok.1; omega
  have hn24 : N ≤ 12 := by omega
  have hfN : Fits (N : Int) := by unfold Fits; omega
  have HO0 := Lib.hid hok
  have hqz := hb.size
  have HBW := Lib.hid (Below.refl w.heap.size w)
  have hI0 := hrw.ints (rh_fits hok)
  have hb := hb.trans (((Below.refl wz.heap.size wz).alloc (Nat.le_refl _) (.cells #[.int .i64 N, .slice Ab (b0).length cb] 25)).mono hb.size)
  have HBW := Lib.hid (HBW.out.trans (hb.mono HBW.out.size))
  try have HVA := Lib.hid (HVA.out.lift hb)
  try have HVB := Lib.hid (HVB.out.lift hb)
  try have HVC := Lib.hid (HVC.out.lift hb)
  try have HVT := Lib.hid (HVT.out.lift hb)
  try have HVX := Lib.hid (HVX.out.lift hb)
  try have HVM := Lib.hid (HVM.out.lift hb)
  try have HVF := Lib.hid (HVF.out.lift hb)
  try have HVP := Lib.hid (HVP.out.lift hb)
  try have HVQ := Lib.hid (HVQ.out.lift hb)
  try have HLA := Lib.hid (HLA.out.lift hb)
  try have HLW := Lib.hid (HLW.out.lift hb)
  try have HI := Lib.hid (HI.out.lift hb)
  try have HRB := Lib.hid (HRB.out.trans (hb.mono HRB.out.size))
  try have HWW := Lib.hid (HWW.out.trans (hb.mono HWW.out.size))
  clear hb
  have HVA := Lib.hid (Hav.boxed hI0 N cb)
  clear hI0
  clear hrw hok hN12
  obtain ⟨⟨c0, c1, _, _, _⟩, _⟩ := HVA.out
  go_wp2_with fail
  generalize wz.alloc (.cells #[.int .i64 N, .slice Ab b0.length cb] 25) = w1 at *
  have hqw : w.heap.size ≤ wz.heap.size := hqz
  generalize wz.heap.size = qa at *
  refine (spec_MakeNum_any A cap xs 30 w1 (HA.out.lift HBW.out) (by decide)).mono ?_
  rintro e w2 ⟨⟨x, rfl, hx0, hx1⟩, hb⟩
  obtain ⟨x, rfl⟩ := Int.eq_ofNat_of_zero_le hx0
  have HBW := Lib.hid (HBW.out.trans (hb.mono HBW.out.size))
  try have HVA := Lib.hid (HVA.out.lift hb)
  try have HVB := Lib.hid (HVB.out.lift hb)
  try have HVC := Lib.hid (HVC.out.lift hb)
  try have HVT := Lib.hid (HVT.out.lift hb)
  try have HVX := Lib.hid (HVX.out.lift hb)
  try have HVM := Lib.hid (HVM.out.lift hb)
  try have HVF := Lib.hid (HVF.out.lift hb)
  try have HVP := Lib.hid (HVP.out.lift hb)
  try have HVQ := Lib.hid (HVQ.out.lift hb)
  try have HLA := Lib.hid (HLA.out.lift hb)
  try have HLW := Lib.hid (HLW.out.lift hb)
  try have HI := Lib.hid (HI.out.lift hb)
  try have HRB := Lib.hid (HRB.out.trans (hb.mono HRB.out.size))
  try have HWW := Lib.hid (HWW.out.trans (hb.mono HWW.out.size))
  clear hb
  clear c0 c1
  obtain ⟨⟨c0, c1, _, _, _⟩, _⟩ := HVA.out
  clear hx0 hx1
  go_upto_if 27 with fail
  go_cut [26, 27, 39] from 28 to 39 (fun _ _ _ wx => ∃ (bs : List Int) (Aa : Option Addr) (ca : Nat), RhOk N bs ∧ Hav wx N qa Aa ca bs ∧ Below w.heap.size w wx)
  case first =>
    as_aux_lemma =>
    by_cases hx : (x : Int) % 3 = 0
    · go_wp2_with fail
      have hnz : ((N : Int) + 1 = 0) = False := eq_false (by omega)
      have hw1 : IntKind.i64.wrap ((N : Int) + 1) = (N : Int) + 1 := i64w (by omega)
      have hfl : ∀ z : Int, 0 ≤ z → ∃ r : Nat, z % ((N : Int) + 1) = r ∧ r ≤ N := fun z _ => by
        have h0 := Int.emod_nonneg z (show (N : Int) + 1 ≠ 0 by omega)
        have h1 := Int.emod_lt_of_pos z (show (0 : Int) < (N : Int) + 1 by omega)
        obtain ⟨r, hr⟩ := Int.eq_ofNat_of_zero_le h0
        exact ⟨r, hr, by omega⟩
      have HFL := Lib.hid hfl
      clear hfl
      have HBW := Lib.hid (Below.drewH_ HBW.out)
      try have HRB := Lib.hid (Below.drewH_ HRB.out)
      try have HWW := Lib.hid (Below.drewH_ HWW.out)
      try have HVA := Lib.hid HVA.out.drew
      try have HVB := Lib.hid HVB.out.drew
      try have HVC := Lib.hid HVC.out.drew
      try have HVT := Lib.hid HVT.out.drew
      try have HVX := Lib.hid HVX.out.drew
      try have HVM := Lib.hid HVM.out.drew
      try have HVF := Lib.hid HVF.out.drew
      try have HVP := Lib.hid HVP.out.drew
      try have HVQ := Lib.hid HVQ.out.drew
      try have HLA := Lib.hid HLA.out.drewR_
      try have HLW := Lib.hid HLW.out.drewR_
      (refine wp_region_held_drew (S := (fun w' => w'.cell? ⟨qa, 0, none⟩ = some (.int .i64 N))) (by kernel_rfl) ?_ (fun hHeld => ?_); (focus ((try dsimp only); exact c0)))
      ((refine wpAnyH_take (i := 0) (v := ?_) rfl (by kernel_rfl) (by kernel_rfl) (by kernel_rfl) (fun _ _ _ h => h) (Or.inl ⟨by rfl, ?_⟩) (by assumption) ?_; rotate_left; (focus (intro wS hSw; (try dsimp only at hSw); go_simp; (try with_reducible rfl))); (try simp only [Act.put, List.getElem_toArray, List.getElem_cons_zero, List.getElem_cons_succ, List.setIfInBounds_toArray, List.set_cons_zero, List.set_cons_succ])); (refine wpAnyH_take (i := 2) (v := ?_) rfl (by kernel_rfl) (by kernel_rfl) (by kernel_rfl) (fun _ _ _ h => h) (Or.inl ⟨by rfl, ?_⟩) (by assumption) ?_; rotate_left; (focus (intro wS hSw; (try dsimp only at hSw); go_simp; (try with_reducible rfl))); (try simp only [Act.put, List.getElem_toArray, List.getElem_cons_zero, List.getElem_cons_succ, List.setIfInBounds_toArray, List.set_cons_zero, List.set_cons_succ])); (refine wpAnyH_take (i := 3) (v := ?_) rfl (by kernel_rfl) (by kernel_rfl) (by kernel_rfl) (fun _ _ _ h => h) (Or.inl ⟨by rfl, ?_⟩) (by assumption) ?_; rotate_left; (focus (intro wS hSw; (try dsimp only at hSw); go_simp; (try with_reducible rfl))); (try simp only [Act.put, List.getElem_toArray, List.getElem_cons_zero, List.getElem_cons_succ, List.setIfInBounds_toArray, List.set_cons_zero, List.set_cons_succ])); (refine wpAnyH_take (i := 4) (v := ?_) rfl (by kernel_rfl) (by kernel_rfl) (by kernel_rfl) (fun _ _ _ h => h) (Or.inl ⟨by rfl, ?_⟩) (by assumption) ?_; rotate_left; (focus (intro wS hSw; (try dsimp only at hSw); go_simp; (try with_reducible rfl))); (try simp only [Act.put, List.getElem_toArray, List.getElem_cons_zero, List.getElem_cons_succ, List.setIfInBounds_toArray, List.set_cons_zero, List.set_cons_succ])); (refine wpAnyH_take (i := 6) (v := ?_) rfl (by kernel_rfl) (by kernel_rfl) (by kernel_rfl) (fun _ _ _ h => h) (Or.inl ⟨by rfl, ?_⟩) (by assumption) ?_; rotate_left; (focus (intro wS hSw; (try dsimp only at hSw); go_simp; (try with_reducible rfl))); (try simp only [Act.put, List.getElem_toArray, List.getElem_cons_zero, List.getElem_cons_succ, List.setIfInBounds_toArray, List.set_cons_zero, List.set_cons_succ])); (refine wpAnyH_take (i := 7) (v := ?_) rfl (by kernel_rfl) (by kernel_rfl) (by kernel_rfl) (fun _ _ _ h => h) (Or.inl ⟨by rfl, ?_⟩) (by assumption) ?_; rotate_left; (focus (intro wS hSw; (try dsimp only at hSw); go_simp; (try with_reducible rfl))); (try simp only [Act.put, List.getElem_toArray, List.getElem_cons_zero, List.getElem_cons_succ, List.setIfInBounds_toArray, List.set_cons_zero, List.set_cons_succ])))
      (refine wpAnyH_ready (rs := [1]) (by kernel_rfl) (by simp) ?_; refine AllReadyH.cons rfl (fun K hK => ?_) AllReadyH.nil; go_simp)
      go_at_call 5
      refine (spec_MakeNum_any A cap xs 32 _ (HA.out.lift HBW.out) (by decide)).mono ?_
      rintro e wn ⟨⟨z, rfl, hz0, hz1⟩, hb⟩
      have HBW := Lib.hid (HBW.out.trans (hb.mono HBW.out.size))
      try have HVA := Lib.hid (HVA.out.lift hb)
      try have HVB := Lib.hid (HVB.out.lift hb)
      try have HVC := Lib.hid (HVC.out.lift hb)
      try have HVT := Lib.hid (HVT.out.lift hb)
      try have HVX := Lib.hid (HVX.out.lift hb)
      try have HVM := Lib.hid (HVM.out.lift hb)
      try have HVF := Lib.hid (HVF.out.lift hb)
      try have HVP := Lib.hid (HVP.out.lift hb)
      try have HVQ := Lib.hid (HVQ.out.lift hb)
      try have HLA := Lib.hid (HLA.out.lift hb)
      try have HLW := Lib.hid (HLW.out.lift hb)
      try have HI := Lib.hid (HI.out.lift hb)
      try have HRB := Lib.hid (HRB.out.trans (hb.mono HRB.out.size))
      try have HWW := Lib.hid (HWW.out.trans (hb.mono HWW.out.size))
      clear hb
      clear c0 c1
      obtain ⟨⟨c0, c1, _, _, _⟩, _⟩ := HVA.out
      obtain ⟨r, hr1, hr2⟩ := HFL.out z hz0
      have hrt : z.tmod ((N : Int) + 1) = r := by rw [Int.tmod_eq_emod_of_nonneg hz0]; exact hr1
      go_wp2_with fail
      (refine hK.out _ _ ?_ (fun hHeld2 => ?_); (focus ((try dsimp only); exact c0)); (clear hK K); (try simp only [Act.put, List.getElem_toArray, List.getElem_cons_zero, List.getElem_cons_succ, List.setIfInBounds_toArray, List.set_cons_zero, List.set_cons_succ]))
      (refine wpAnyH_take (i := 5) (v := ?_) rfl (by kernel_rfl) (by kernel_rfl) (by kernel_rfl) (fun _ _ _ h => h) (Or.inl ⟨by rfl, ?_⟩) (by assumption) ?_; rotate_left; (focus (intro wS hSw; (try dsimp only at hSw); go_simp; (try with_reducible rfl))); (try simp only [Act.put, List.getElem_toArray, List.getElem_cons_zero, List.getElem_cons_succ, List.setIfInBounds_toArray, List.set_cons_zero, List.set_cons_succ]))
      (refine wpAnyH_ready (rs := [8]) (by kernel_rfl) (by simp) ?_; refine AllReadyH.cons rfl (fun K hK => ?_) AllReadyH.nil; go_simp)
      go_at_call 6
      refine (spec_EvenRhythm_ok N r _ hn1 (by omega) hr2).mono ?_
      rintro e wn ⟨At, ct, rfl, hrt, hb⟩
      have HRW := Lib.hid hrt
      have hqb := HVA.out.1.2.2.2.2
      clear hrt
      have HBW := Lib.hid (HBW.out.trans (hb.mono HBW.out.size))
      try have HVA := Lib.hid (HVA.out.lift hb)
      try have HVB := Lib.hid (HVB.out.lift hb)
      try have HVC := Lib.hid (HVC.out.lift hb)
      try have HVT := Lib.hid (HVT.out.lift hb)
      try have HVX := Lib.hid (HVX.out.lift hb)
      try have HVM := Lib.hid (HVM.out.lift hb)
      try have HVF := Lib.hid (HVF.out.lift hb)
      try have HVP := Lib.hid (HVP.out.lift hb)
      try have HVQ := Lib.hid (HVQ.out.lift hb)
      try have HLA := Lib.hid (HLA.out.lift hb)
      try have HLW := Lib.hid (HLW.out.lift hb)
      try have HI := Lib.hid (HI.out.lift hb)
      try have HRB := Lib.hid (HRB.out.trans (hb.mono HRB.out.size))
      try have HWW := Lib.hid (HWW.out.trans (hb.mono HWW.out.size))
      clear hb
      clear c0 c1
      obtain ⟨⟨c0, c1, _, _, _⟩, _⟩ := HVA.out
      have HOE := Lib.hid (evB_ok hn1 (by omega) hr2)
      generalize evB N r = R at *
      go_wp2_with fail
      (refine hK.out _ _ ?_ (fun hHeld2 => ?_); (focus ((try dsimp only); exact c0)); (clear hK K); (try simp only [Act.put, List.getElem_toArray, List.getElem_cons_zero, List.getElem_cons_succ, List.setIfInBounds_toArray, List.set_cons_zero, List.set_cons_succ]))
      ((refine wpAnyH_take (i := 9) (v := ?_) rfl (by kernel_rfl) (by kernel_rfl) (by kernel_rfl) (fun _ _ _ h => h) (Or.inl ⟨by rfl, ?_⟩) (by assumption) ?_; rotate_left; (focus (intro wS hSw; (try dsimp only at hSw); go_simp; (try with_reducible rfl))); (try simp only [Act.put, List.getElem_toArray, List.getElem_cons_zero, List.getElem_cons_succ, List.setIfInBounds_toArray, List.set_cons_zero, List.set_cons_succ])); (refine wpAnyH_take (i := 10) (v := ?_) rfl (by kernel_rfl) (by kernel_rfl) (by kernel_rfl) (fun _ _ _ h => h) (Or.inl ⟨by rfl, ?_⟩) (by assumption) ?_; rotate_left; (focus (intro wS hSw; (try dsimp only at hSw); go_simp; (try with_reducible rfl))); (try simp only [Act.put, List.getElem_toArray, List.getElem_cons_zero, List.getElem_cons_succ, List.setIfInBounds_toArray, List.set_cons_zero, List.set_cons_succ])); (refine wpAnyH_take (i := 11) (v := ?_) rfl (by kernel_rfl) (by kernel_rfl) (by kernel_rfl) (fun _ _ _ h => h) (Or.inl ⟨by rfl, ?_⟩) (by assumption) ?_; rotate_left; (focus (intro wS hSw; (try dsimp only at hSw); go_simp; (try with_reducible rfl))); (try simp only [Act.put, List.getElem_toArray, List.getElem_cons_zero, List.getElem_cons_succ, List.setIfInBounds_toArray, List.set_cons_zero, List.set_cons_succ])))
      obtain ⟨g0, g1, gf0, gf1, _⟩ := HVA.out.1
      (refine wpAnyH_ready (rs := [12]) (by kernel_rfl) (by simp) ?_; refine AllReadyH.cons rfl (fun K hK => ?_) AllReadyH.nil; go_simp)
      have HG9 := Lib.hid ((HVA.out.1.set0 (.int .i64 N)).set1 (.slice At R.length ct))
      have HI9 := Lib.hid (show Ints ((wn.setCell ⟨qa, 0, none⟩ (.int .i64 N)).setCell ⟨qa, 1, none⟩ (.slice At R.length ct)) ((wn.setCell ⟨qa, 0, none⟩ (.int .i64 N)).setCell ⟨qa, 1, none⟩ (.slice At R.length ct)).heap.size At R from ((HRW.out.far (p := ⟨qa, 0, none⟩) hqb _).far (p := ⟨qa, 1, none⟩) hqb _).ints (rh_fits HOE.out))
      have HB9 := Lib.hid ((HBW.out.setCell (p := ⟨qa, 0, none⟩) hqw (.int .i64 N)).setCell (p := ⟨qa, 1, none⟩) hqw (.slice At R.length ct))
      clear c0 c1 g0 g1 gf0 gf1
      obtain ⟨c0, c1, _, _, _⟩ := HG9.out
      (refine hK.out _ _ ?_ (fun hHeld2 => ?_); (focus ((try dsimp only); exact c0)); (clear hK K); (try simp only [Act.put, List.getElem_toArray, List.getElem_cons_zero, List.getElem_cons_succ, List.setIfInBounds_toArray, List.set_cons_zero, List.set_cons_succ]))
      refine wpAnyH_done (by kernel_rfl) ?_ _
      go_wp2_with fail
      go_meet
      exact ⟨R, At, ct, HOE.out, ⟨HG9.out, HI9.out⟩, HB9.out⟩
    · go_wp2_with fail
      go_meet
      exact ⟨b0, Ab, cb, HO0.out, HVA.out, HBW.out⟩
  case rest =>
    obtain ⟨bs, Aa, ca, hok, hva, hbw⟩ := hcut
    have HOK := Lib.hid hok
    have hHO := hva
    clear HVA HBW HO0 c0 c1
    have HVA := Lib.hid hHO
    have HBW := Lib.hid hbw
    clear hva hbw hHO
    obtain ⟨⟨c0, c1, _, _, _⟩, _⟩ := HVA.out
    obtain ⟨hp1, hp2, _, _⟩ := perV_is hok
    go_wp2_with fail
    refine (impl_PeriodW_ok N Aa ca bs _ HVA.out.2 HOK.out).mono ?_
    rintro e wn ⟨rfl, hb⟩
    have HBW := Lib.hid (HBW.out.trans (hb.mono HBW.out.size))
    try have HVA := Lib.hid (HVA.out.lift hb)
    try have HVB := Lib.hid (HVB.out.lift hb)
    try have HVC := Lib.hid (HVC.out.lift hb)
    try have HVT := Lib.hid (HVT.out.lift hb)
    try have HVX := Lib.hid (HVX.out.lift hb)
    try have HVM := Lib.hid (HVM.out.lift hb)
    try have HVF := Lib.hid (HVF.out.lift hb)
    try have HVP := Lib.hid (HVP.out.lift hb)
    try have HVQ := Lib.hid (HVQ.out.lift hb)
    try have HLA := Lib.hid (HLA.out.lift hb)
    try have HLW := Lib.hid (HLW.out.lift hb)
    try have HI := Lib.hid (HI.out.lift hb)
    try have HRB := Lib.hid (HRB.out.trans (hb.mono HRB.out.size))
    try have HWW := Lib.hid (HWW.out.trans (hb.mono HWW.out.size))
    clear hb
    clear c0 c1
    obtain ⟨⟨c0, c1, _, _, _⟩, _⟩ := HVA.out
    have HLW := Lib.hid (lwV_at hok)
    have HGR := Lib.hid (fun k hk => cw_grow hok k hk)
    have HLE := Lib.hid (fun k => cw_le_per hok k)
    have HMO := Lib.hid (fun k => cw_mono (bs := bs) hn1 k)
    have HSP := Lib.hid (fun k hk he => cw_same_per hok (k := k) hk he)
    have HBL := Lib.hid (fun hb k hk => cw_bal hok hb (k := k) hk)
    have HLL := Lib.hid (cw_last hok)
    obtain ⟨P, hP⟩ : ∃ P, perV N bs = P := ⟨_, rfl⟩
    rw [hP] at hp1 hp2 HLW HGR HLE HSP HBL HLL ⊢
    clear hP hok
    go_wp2_with fail
    go_loopw [6, 7] (fun l v wr => ∃ k c : Nat, k ≤ N + 1 ∧ v = .int .i64 k ∧ l = .int .i64 c ∧ (k = 0 → c = 0) ∧ (0 < k → c = cwN N bs (k - 1)) ∧ Below wn.heap.size wn wr) (fun _ v _ => N + 1 - (intOf v).toNat)
    case atStart => exact ⟨0, 0, Nat.zero_le _, rfl, rfl, fun _ => rfl, fun h => by omega, Below.refl _ _⟩
    case round =>
      obtain ⟨k, c, hk, rfl, rfl, hc0, hc1, hb⟩ := hrel
      have HRB := Lib.hid hb
      have HBW := Lib.hid (HBW.out.trans (hb.mono HBW.out.size))
      try have HVA := Lib.hid (HVA.out.lift hb)
      try have HVB := Lib.hid (HVB.out.lift hb)
      try have HVC := Lib.hid (HVC.out.lift hb)
      try have HVT := Lib.hid (HVT.out.lift hb)
      try have HVX := Lib.hid (HVX.out.lift hb)
      try have HVM := Lib.hid (HVM.out.lift hb)
      try have HVF := Lib.hid (HVF.out.lift hb)
      try have HVP := Lib.hid (HVP.out.lift hb)
      try have HVQ := Lib.hid (HVQ.out.lift hb)
      try have HLA := Lib.hid (HLA.out.lift hb)
      try have HLW := Lib.hid (HLW.out.lift hb)
      try have HI := Lib.hid (HI.out.lift hb)
      try have HRB := Lib.hid (HRB.out.trans (hb.mono HRB.out.size))
      try have HWW := Lib.hid (HWW.out.trans (hb.mono HWW.out.size))
      clear hb
      clear c0 c1
      obtain ⟨⟨c0, c1, _, _, _⟩, _⟩ := HVA.out
      by_cases hkN : k ≤ N
      · have hki : (k : Int) ≤ (N : Int) := by omega
        have hWO := impl_WindowsOf_any N Aa ca bs k wr hfN HVA.out.2
        rw [winsV_at HOK.out hkN] at hWO
        have HCW := Lib.hid (fun V h => impl_CountWindows_any N Aa ca bs k V hfN h)
        rw [cntW_at HOK.out hkN] at HCW
        have HWO := Lib.hid hWO
        clear hWO
        go_wp2_with fail
        refine HWO.out.mono ?_
        rintro e ww ⟨v, rfl, hown, hb⟩
        obtain ⟨Al, cl, rfl, _, _⟩ := hown.form
        have HSL := Lib.hid (hown.strs (by have := allD_len (N : Int) bs k N; omega))
        clear hown
        have HBW := Lib.hid (HBW.out.trans (hb.mono HBW.out.size))
        try have HVA := Lib.hid (HVA.out.lift hb)
        try have HVB := Lib.hid (HVB.out.lift hb)
        try have HVC := Lib.hid (HVC.out.lift hb)
        try have HVT := Lib.hid (HVT.out.lift hb)
        try have HVX := Lib.hid (HVX.out.lift hb)
        try have HVM := Lib.hid (HVM.out.lift hb)
        try have HVF := Lib.hid (HVF.out.lift hb)
        try have HVP := Lib.hid (HVP.out.lift hb)
        try have HVQ := Lib.hid (HVQ.out.lift hb)
        try have HLA := Lib.hid (HLA.out.lift hb)
        try have HLW := Lib.hid (HLW.out.lift hb)
        try have HI := Lib.hid (HI.out.lift hb)
        try have HRB := Lib.hid (HRB.out.trans (hb.mono HRB.out.size))
        try have HWW := Lib.hid (HWW.out.trans (hb.mono HWW.out.size))
        clear hb
        clear c0 c1
        obtain ⟨⟨c0, c1, _, _, _⟩, _⟩ := HVA.out
        go_wp2_with fail
        refine (HCW.out _ HVA.out.2).mono ?_
        rintro e wv ⟨rfl, hb⟩
        have HSL := Lib.hid (HSL.out.lift hb)
        have HBW := Lib.hid (HBW.out.trans (hb.mono HBW.out.size))
        try have HVA := Lib.hid (HVA.out.lift hb)
        try have HVB := Lib.hid (HVB.out.lift hb)
        try have HVC := Lib.hid (HVC.out.lift hb)
        try have HVT := Lib.hid (HVT.out.lift hb)
        try have HVX := Lib.hid (HVX.out.lift hb)
        try have HVM := Lib.hid (HVM.out.lift hb)
        try have HVF := Lib.hid (HVF.out.lift hb)
        try have HVP := Lib.hid (HVP.out.lift hb)
        try have HVQ := Lib.hid (HVQ.out.lift hb)
        try have HLA := Lib.hid (HLA.out.lift hb)
        try have HLW := Lib.hid (HLW.out.lift hb)
        try have HI := Lib.hid (HI.out.lift hb)
        try have HRB := Lib.hid (HRB.out.trans (hb.mono HRB.out.size))
        try have HWW := Lib.hid (HWW.out.trans (hb.mono HWW.out.size))
        clear hb
        clear c0 c1
        obtain ⟨⟨c0, c1, _, _, _⟩, _⟩ := HVA.out
        have hcl : (allD N bs k N).length = cwN N bs k := rfl
        rw [hcl]
        have hd1 := cw_pos (bs := bs) hn1 k
        have hd2 := HLE.out k
        have hd3 := HGR.out k hkN
        have HBV := Lib.hid (fun V h => impl_IsBalanced_ok N Aa ca bs V h (rhB_iff.2 HOK.out))
        have HB2 := Lib.hid (fun (h : balV N bs = true) => HBL.out h k hkN)
        have hd4 : 0 < k → c ≤ cwN N bs k ∧ (cwN N bs k = c → P ≤ cwN N bs k) := fun h0 => by
          have e := hc1 h0
          have := HMO.out (k - 1)
          rw [show k - 1 + 1 = k by omega] at this
          refine ⟨by omega, fun h => ?_⟩
          have := HSP.out (k - 1) (by omega) (by rw [show k - 1 + 1 = k by omega]; omega)
          omega
        have HD := Lib.hid hd4
        obtain ⟨C, hC⟩ : ∃ C, cwN N bs k = C := ⟨_, rfl⟩
        have HCC := Lib.hid hC
        rw [hC] at hd1 hd2 hd3 HD HB2 ⊢
        have hLL : (allD N bs k N).length = C := hC
        have HLN := Lib.hid hLL
        have hcle : c ≤ C := by
          by_cases h0 : k = 0
          · have := hc0 h0; omega
          · exact (HD.out (by omega)).1
        generalize balV N bs = bv at *
        clear hcl hd4 hC hLL hc0 hc1
        go_upto_region 14 with fail
        go_cut [102] from 55 to 102 (fun sc wx => sc = .bool false ∧ Below wv.heap.size wv wx)
        case first =>
          as_aux_lemma =>
          have hC1 : ¬ (C : Int) < 1 := by omega
          have hC2 : ¬ (P : Int) < (C : Int) := by omega
          have hC3 : ¬ (C : Int) < (c : Int) := by omega
          have hwk : IntKind.i64.wrap ((k : Int) + 1) = (k : Int) + 1 := i64w (by omega)
          have hPp : (0 : Int) < (P : Int) := by omega
          by_cases h0 : k = 0
          · subst h0
            cases bv
            · skip
              go_wp2_with fail
              refine (HBV.out _ HVA.out.2).mono ?_
              rintro e wm ⟨rfl, hb⟩
              have HRC := Lib.hid hb
              clear hb c0 c1
              go_wp2_with fail
              go_meet
              exact ⟨rfl, HRC.out⟩
            · have hmin : min (((0 : Nat) : Int) + 1) (P : Int) = (C : Int) := by have := HB2.out rfl; omega
              have hmin2 : min (1 : Int) (P : Int) = (C : Int) := by have := HB2.out rfl; omega
              go_wp2_with fail
              refine (HBV.out _ HVA.out.2).mono ?_
              rintro e wm ⟨rfl, hb⟩
              have HRC := Lib.hid hb
              clear hb c0 c1
              go_wp2_with fail
              go_meet
              exact ⟨rfl, HRC.out⟩
          · have hkp : (0 : Int) < (k : Int) := by omega
            by_cases hcC : C = c
            · have hPC : ¬ (C : Int) < (P : Int) := by have := (HD.out (by omega)).2 hcC; omega
              subst hcC
              cases bv
              · skip
                go_wp2_with fail
                refine (HBV.out _ HVA.out.2).mono ?_
                rintro e wm ⟨rfl, hb⟩
                have HRC := Lib.hid hb
                clear hb c0 c1
                go_wp2_with fail
                go_meet
                exact ⟨rfl, HRC.out⟩
              · have hmin : min ((k : Int) + 1) (P : Int) = (C : Int) := by have := HB2.out rfl; omega
                go_wp2_with fail
                refine (HBV.out _ HVA.out.2).mono ?_
                rintro e wm ⟨rfl, hb⟩
                have HRC := Lib.hid hb
                clear hb c0 c1
                go_wp2_with fail
                go_meet
                exact ⟨rfl, HRC.out⟩
            · have hcC2 : ((C : Int) == (c : Int)) = false := beq_eq_false_iff_ne.2 (by omega)
              cases bv
              · skip
                go_wp2_with fail
                refine (HBV.out _ HVA.out.2).mono ?_
                rintro e wm ⟨rfl, hb⟩
                have HRC := Lib.hid hb
                clear hb c0 c1
                go_wp2_with fail
                go_meet
                exact ⟨rfl, HRC.out⟩
              · have hmin : min ((k : Int) + 1) (P : Int) = (C : Int) := by have := HB2.out rfl; omega
                go_wp2_with fail
                refine (HBV.out _ HVA.out.2).mono ?_
                rintro e wm ⟨rfl, hb⟩
                have HRC := Lib.hid hb
                clear hb c0 c1
                go_wp2_with fail
                go_meet
                exact ⟨rfl, HRC.out⟩
        case rest =>
          obtain ⟨rfl, hb⟩ := hcut
          have HSL := Lib.hid (HSL.out.lift hb)
          have HBW := Lib.hid (HBW.out.trans (hb.mono HBW.out.size))
          try have HVA := Lib.hid (HVA.out.lift hb)
          try have HVB := Lib.hid (HVB.out.lift hb)
          try have HVC := Lib.hid (HVC.out.lift hb)
          try have HVT := Lib.hid (HVT.out.lift hb)
          try have HVX := Lib.hid (HVX.out.lift hb)
          try have HVM := Lib.hid (HVM.out.lift hb)
          try have HVF := Lib.hid (HVF.out.lift hb)
          try have HVP := Lib.hid (HVP.out.lift hb)
          try have HVQ := Lib.hid (HVQ.out.lift hb)
          try have HLA := Lib.hid (HLA.out.lift hb)
          try have HLW := Lib.hid (HLW.out.lift hb)
          try have HI := Lib.hid (HI.out.lift hb)
          try have HRB := Lib.hid (HRB.out.trans (hb.mono HRB.out.size))
          try have HWW := Lib.hid (HWW.out.trans (hb.mono HWW.out.size))
          clear hb
          clear c0 c1
          obtain ⟨⟨c0, c1, _, _, _⟩, _⟩ := HVA.out
          have hC24 : C ≤ 24 := by omega
          clear hd1 hd2 hd3 hcle HBV HB2 HD HCW HWO
          go_wp2_with fail
          go_loopw [106] (fun v wr => ∃ i : Nat, i ≤ C ∧ v = .int .i64 i ∧ Below wc.heap.size wc wr) (fun v _ => C - (intOf v).toNat)
          case atStart => exact ⟨0, Nat.zero_le _, rfl, Below.refl _ _⟩
          case round =>
            obtain ⟨i, hi, rfl, hb⟩ := hrel
            have HRC := Lib.hid hb
            have HSL := Lib.hid (HSL.out.lift hb)
            have HBW := Lib.hid (HBW.out.trans (hb.mono HBW.out.size))
            try have HVA := Lib.hid (HVA.out.lift hb)
            try have HVB := Lib.hid (HVB.out.lift hb)
            try have HVC := Lib.hid (HVC.out.lift hb)
            try have HVT := Lib.hid (HVT.out.lift hb)
            try have HVX := Lib.hid (HVX.out.lift hb)
            try have HVM := Lib.hid (HVM.out.lift hb)
            try have HVF := Lib.hid (HVF.out.lift hb)
            try have HVP := Lib.hid (HVP.out.lift hb)
            try have HVQ := Lib.hid (HVQ.out.lift hb)
            try have HLA := Lib.hid (HLA.out.lift hb)
            try have HLW := Lib.hid (HLW.out.lift hb)
            try have HI := Lib.hid (HI.out.lift hb)
            try have HRB := Lib.hid (HRB.out.trans (hb.mono HRB.out.size))
            try have HWW := Lib.hid (HWW.out.trans (hb.mono HWW.out.size))
            clear hb
            clear c0 c1
            obtain ⟨⟨c0, c1, _, _, _⟩, _⟩ := HVA.out
            by_cases hiC : i < C
            · as_aux_lemma =>
              have hii : (i : Int) < (C : Int) := by omega
              have hi0 : (0 : Int) ≤ (i : Int) := Int.natCast_nonneg _
              obtain ⟨bl, ol, rfl, hbl, hcl⟩ := HSL.out.2 (by rw [HLN.out]; omega)
              have hcx := hcl i (by rw [HLN.out]; exact hiC)
              have hmx : (allD (N : Int) bs k N).getD i [] ∈ allD (N : Int) bs k N := by
                rw [List.getD_eq_getElem?_getD, List.getElem?_eq_getElem (by rw [HLN.out]; exact hiC)]; exact List.getElem_mem _
              have hlx : ((allD (N : Int) bs k N).getD i []).length = k := by
                obtain ⟨p, _, e⟩ := (allD_mem _ _ _ _ _).1 hmx
                rw [← e, winL_len]
              have hyx : 0 < i → ltL ((allD (N : Int) bs k N).getD i []) ((allD (N : Int) bs k N).getD (i - 1) []) = true := fun h0 => by
                have := List.pairwise_iff_getElem.1 (allD_desc (N : Int) bs k N) (i - 1) i (by rw [HLN.out]; omega) (by rw [HLN.out]; exact hiC) (by omega)
                rw [List.getD_eq_getElem?_getD, List.getElem?_eq_getElem (by rw [HLN.out]; exact hiC), List.getD_eq_getElem?_getD, List.getElem?_eq_getElem (by rw [HLN.out]; omega : i - 1 < _)]
                exact this
              have hcy := fun (h0 : 0 < i) => hcl (i - 1) (by rw [HLN.out]; omega)
              have hHW : hasWV N bs (mkS ((allD (N : Int) bs k N).getD i [])) = true := by
                unfold hasWV
                rw [rhB_iff.2 HOK.out, mkS_size, hlx, str_mk]
                unfold hasS
                simp
                exact ⟨by omega, hmx⟩
              generalize (allD (N : Int) bs k N).getD i [] = X at *
              generalize (allD (N : Int) bs k N).getD (i - 1) [] = Y at *
              have HHW := Lib.hid (fun V h => impl_HasWindow_any N Aa ca bs (mkS X) V hfN (by unfold maxLen; rw [mkS_size, hlx]; omega) h)
              rw [hHW] at HHW
              have hsz : (mkS X).size = k := by rw [mkS_size]; exact hlx
              unfold emS at hcx hcy
              clear hcl hmx hlx hHW
              by_cases h0 : i = 0
              · subst h0
                rw [Nat.add_zero] at hcx
                clear hyx hcy
                go_wp2_with fail
                refine (HHW.out _ HVA.out.2).mono ?_
                rintro e wm ⟨rfl, hb⟩
                have HRC := Lib.hid (HRC.out.trans (hb.mono HRC.out.size))
                clear hb c0 c1
                go_wp2_with fail
                go_roundw
                case rel => exact ⟨0 + 1, by omega, by go_num, HRC.out⟩
                case measure => simp [intOf] <;> omega
              · have hcy2 := hcy (by omega)
                have hyx2 := hyx (by omega)
                have hip : (0 : Int) < (i : Int) := by omega
                obtain ⟨hg1, hg2, _⟩ := gtr_yes (X := mkS Y) (W := mkS X) rfl rfl hyx2
                have hw1 : IntKind.i64.wrap ((i : Int) - 1) = ((i - 1 : Nat) : Int) := by rw [Int.natCast_sub (by omega)]; exact i64w (by omega)
                have hw2 : (0 : Int) ≤ ((i - 1 : Nat) : Int) := Int.natCast_nonneg _
                have hw3 : ((i - 1 : Nat) : Int) < (C : Int) := by omega
                clear hyx hcy
                go_wp2_with fail
                refine (HHW.out _ HVA.out.2).mono ?_
                rintro e wm ⟨rfl, hb⟩
                have hcy3 := (hb.cell (p := ⟨bl, ol + (i - 1), none⟩) hbl).trans hcy2
                have HRC := Lib.hid (HRC.out.trans (hb.mono HRC.out.size))
                clear hb c0 c1 hcy2
                go_wp2_with fail
                go_roundw
                case rel => exact ⟨i + 1, by omega, by go_num, HRC.out⟩
                case measure => simp [intOf] <;> omega
            · have hki : ¬ (i : Int) < (C : Int) := by omega
              clear HSL HLN
              go_wp2_with fail
              go_roundw
              case rel => exact ⟨k + 1, C, by omega, by go_num, rfl, fun h => by omega, fun _ => by rw [show k + 1 - 1 = k by omega]; exact HCC.out.symm, HRB.out⟩
              case measure => simp [intOf] <;> omega
      · have hki : ¬ (k : Int) ≤ (N : Int) := by omega
        have hke : k = N + 1 := by omega
        have hcP : c = P := by rw [hc1 (by omega), hke, show N + 1 - 1 = N by omega]; exact HLL.out
        subst hcP
        clear hc0 hc1 HRB HMO HSP HLE HGR HBL HLL
        go_wp2_with fail
        as_aux_lemma =>
        obtain ⟨kk, hk1, hk2, hk3, hk4⟩ := HLW.out
        refine (impl_LeastWindow_any N Aa ca bs wr hfN HVA.out.2).mono ?_
        rintro e wm ⟨rfl, hb⟩
        rw [hk2]
        have HBW := Lib.hid (HBW.out.trans (hb.mono HBW.out.size))
        try have HVA := Lib.hid (HVA.out.lift hb)
        try have HVB := Lib.hid (HVB.out.lift hb)
        try have HVC := Lib.hid (HVC.out.lift hb)
        try have HVT := Lib.hid (HVT.out.lift hb)
        try have HVX := Lib.hid (HVX.out.lift hb)
        try have HVM := Lib.hid (HVM.out.lift hb)
        try have HVF := Lib.hid (HVF.out.lift hb)
        try have HVP := Lib.hid (HVP.out.lift hb)
        try have HVQ := Lib.hid (HVQ.out.lift hb)
        try have HLA := Lib.hid (HLA.out.lift hb)
        try have HLW := Lib.hid (HLW.out.lift hb)
        try have HI := Lib.hid (HI.out.lift hb)
        try have HRB := Lib.hid (HRB.out.trans (hb.mono HRB.out.size))
        try have HWW := Lib.hid (HWW.out.trans (hb.mono HWW.out.size))
        clear hb
        clear c0 c1
        obtain ⟨⟨c0, c1, _, _, _⟩, _⟩ := HVA.out
        obtain ⟨M, hM⟩ : ∃ M : Nat, M = 8 := ⟨_, rfl⟩
        obtain ⟨F, hF⟩ : ∃ F, bitsB 8 232 8 = F := ⟨_, rfl⟩
        have hFF : Calls Tryz.prog 13 #[.int .i64 3] wm (RetRh2 wm ((8 : Nat) : Int) (bitsB 8 232 8) true) := impl_FirstFull_3 wm
        rw [hF, ← hM] at hFF
        have hFO := ff3_ok
        rw [hF, ← hM] at hFO
        have hFT := ff3_text
        rw [hF] at hFT
        have HFU := Lib.hid (show isFullW M F 3 = true by rw [hM, ← hF]; exact ff3_full)
        have HFR := Lib.hid (show ∀ q : Nat, q < 12 → isFullW M (rotL M F q) 3 = true by rw [hM, ← hF]; exact ff3_rot)
        have HFT := Lib.hid (show textF M F (fun _ => 120) = [120, 120, 120, 46, 120, 46, 46, 46] by rw [hM]; exact hFT)
        have HFO := Lib.hid hFO
        have hfM : Fits (M : Int) := by rw [hM]; unfold Fits; omega
        have HFF := Lib.hid hFF
        clear hM hF hFF hFO hFT hk2
        go_wp2_with fail
        refine HFF.out.mono ?_
        rintro e wz ⟨Af, cf, rfl, hr, hb⟩
        have hI0 := hr.ints (rh_fits HFO.out)
        have hb := hb.trans (((Below.refl wz.heap.size wz).alloc (Nat.le_refl _) (.cells #[.int .i64 M, .slice Af F.length cf] 25)).mono hb.size)
        have HBW := Lib.hid (HBW.out.trans (hb.mono HBW.out.size))
        try have HVA := Lib.hid (HVA.out.lift hb)
        try have HVB := Lib.hid (HVB.out.lift hb)
        try have HVC := Lib.hid (HVC.out.lift hb)
        try have HVT := Lib.hid (HVT.out.lift hb)
        try have HVX := Lib.hid (HVX.out.lift hb)
        try have HVM := Lib.hid (HVM.out.lift hb)
        try have HVF := Lib.hid (HVF.out.lift hb)
        try have HVP := Lib.hid (HVP.out.lift hb)
        try have HVQ := Lib.hid (HVQ.out.lift hb)
        try have HLA := Lib.hid (HLA.out.lift hb)
        try have HLW := Lib.hid (HLW.out.lift hb)
        try have HI := Lib.hid (HI.out.lift hb)
        try have HRB := Lib.hid (HRB.out.trans (hb.mono HRB.out.size))
        try have HWW := Lib.hid (HWW.out.trans (hb.mono HWW.out.size))
        clear hb
        have HVF := Lib.hid (Hav.boxed hI0 M cf)
        clear hI0 hr
        clear c0 c1
        obtain ⟨⟨c0, c1, _, _, _⟩, _⟩ := HVA.out
        obtain ⟨⟨d0, d1, _, _, _⟩, _⟩ := HVF.out
        go_wp2_with fail
        generalize wz.alloc (.cells #[.int .i64 M, .slice Af F.length cf] 25) = wf at *
        generalize wz.heap.size = qf at *
        refine (spec_MakeNum_any A cap xs 34 _ (HA.out.lift HBW.out) (by decide)).mono ?_
        rintro e wm ⟨⟨z, rfl, hz0, hz1⟩, hb⟩
        have HBW := Lib.hid (HBW.out.trans (hb.mono HBW.out.size))
        try have HVA := Lib.hid (HVA.out.lift hb)
        try have HVB := Lib.hid (HVB.out.lift hb)
        try have HVC := Lib.hid (HVC.out.lift hb)
        try have HVT := Lib.hid (HVT.out.lift hb)
        try have HVX := Lib.hid (HVX.out.lift hb)
        try have HVM := Lib.hid (HVM.out.lift hb)
        try have HVF := Lib.hid (HVF.out.lift hb)
        try have HVP := Lib.hid (HVP.out.lift hb)
        try have HVQ := Lib.hid (HVQ.out.lift hb)
        try have HLA := Lib.hid (HLA.out.lift hb)
        try have HLW := Lib.hid (HLW.out.lift hb)
        try have HI := Lib.hid (HI.out.lift hb)
        try have HRB := Lib.hid (HRB.out.trans (hb.mono HRB.out.size))
        try have HWW := Lib.hid (HWW.out.trans (hb.mono HWW.out.size))
        clear hb
        clear c0 c1 d0 d1
        obtain ⟨⟨c0, c1, _, _, _⟩, _⟩ := HVA.out
        obtain ⟨⟨d0, d1, _, _, _⟩, _⟩ := HVF.out
        obtain ⟨r, hr1, hr2⟩ : ∃ r : Nat, z % (N : Int) = r ∧ r < N := by
          have h0 := Int.emod_nonneg z (show (N : Int) ≠ 0 by omega)
          have h1 := Int.emod_lt_of_pos z (show (0 : Int) < N by omega)
          obtain ⟨r, hr⟩ := Int.eq_ofNat_of_zero_le h0
          exact ⟨r, hr, by omega⟩
        have hrt : z.tmod N = r := by rw [Int.tmod_eq_emod_of_nonneg hz0]; exact hr1
        have hnz : (N = 0) = False := eq_false (by omega)
        have HRO := Lib.hid (fun V h => impl_RotateRhythm_ok M Af cf F r V h HFO.out (by omega))
        have HOT := Lib.hid (rotL_ok HFO.out (r : Int)).1
        have HTU := Lib.hid (HFR.out r (by omega))
        generalize rotL M F r = T at *
        go_wp2_with fail
        refine (HRO.out _ HVF.out.2).mono ?_
        rintro e wz ⟨At, ct, rfl, hr, hb⟩
        have hI0 := hr.ints (rh_fits HOT.out)
        have hb := hb.trans (((Below.refl wz.heap.size wz).alloc (Nat.le_refl _) (.cells #[.int .i64 M, .slice At T.length ct] 25)).mono hb.size)
        have HBW := Lib.hid (HBW.out.trans (hb.mono HBW.out.size))
        try have HVA := Lib.hid (HVA.out.lift hb)
        try have HVB := Lib.hid (HVB.out.lift hb)
        try have HVC := Lib.hid (HVC.out.lift hb)
        try have HVT := Lib.hid (HVT.out.lift hb)
        try have HVX := Lib.hid (HVX.out.lift hb)
        try have HVM := Lib.hid (HVM.out.lift hb)
        try have HVF := Lib.hid (HVF.out.lift hb)
        try have HVP := Lib.hid (HVP.out.lift hb)
        try have HVQ := Lib.hid (HVQ.out.lift hb)
        try have HLA := Lib.hid (HLA.out.lift hb)
        try have HLW := Lib.hid (HLW.out.lift hb)
        try have HI := Lib.hid (HI.out.lift hb)
        try have HRB := Lib.hid (HRB.out.trans (hb.mono HRB.out.size))
        try have HWW := Lib.hid (HWW.out.trans (hb.mono HWW.out.size))
        clear hb
        have HVT := Lib.hid (Hav.boxed hI0 M ct)
        clear hI0 hr c0 c1 d0 d1
        obtain ⟨⟨c0, c1, _, _, _⟩, _⟩ := HVA.out
        obtain ⟨⟨d0, d1, _, _, _⟩, _⟩ := HVF.out
        obtain ⟨⟨e0, e1, _, _, _⟩, _⟩ := HVT.out
        have hw1 : IntKind.i64.wrap ((N : Int) + 1) = (N : Int) + 1 := i64w (by omega)
        have HW1 := Lib.hid (fun V h => impl_WindowAt_any N Aa ca bs r ((N + 1 : Nat) : Int) V hfN h)
        have HW2 := Lib.hid (fun V h => impl_WindowAt_any N Aa ca bs r (N : Int) V hfN h)
        have hok := HOK.out
        rw [winAV_yes (rhB_iff.2 hok) (by unfold inB; simp; omega) (by unfold inB; simp; omega), Int.toNat_natCast, Int.toNat_natCast] at HW1
        rw [winAV_yes (rhB_iff.2 hok) (by unfold inB; simp; omega) (by unfold inB; simp; omega), Int.toNat_natCast, Int.toNat_natCast] at HW2
        rw [show ((N + 1 : Nat) : Int) = (N : Int) + 1 by omega] at HW1
        have hsz1 : (mkS (winL N bs r (N + 1))).size = N + 1 := by rw [mkS_size, winL_len]
        have hex : (mkS (winL N bs r (N + 1))).extract 0 N = mkS (winL N bs r N) := win_cut bs r
        generalize mkS (winL N bs r (N + 1)) = S1 at *
        generalize mkS (winL N bs r N) = S2 at *
        have hss : (S2.toList == S2.toList) = true := beq_self_eq_true _
        go_wp2_with fail
        generalize wz.alloc (.cells #[.int .i64 M, .slice At T.length ct] 25) = wt at *
        generalize wz.heap.size = qt at *
        refine (HW1.out _ HVA.out.2).mono ?_
        rintro e wm ⟨rfl, hb⟩
        have HBW := Lib.hid (HBW.out.trans (hb.mono HBW.out.size))
        try have HVA := Lib.hid (HVA.out.lift hb)
        try have HVB := Lib.hid (HVB.out.lift hb)
        try have HVC := Lib.hid (HVC.out.lift hb)
        try have HVT := Lib.hid (HVT.out.lift hb)
        try have HVX := Lib.hid (HVX.out.lift hb)
        try have HVM := Lib.hid (HVM.out.lift hb)
        try have HVF := Lib.hid (HVF.out.lift hb)
        try have HVP := Lib.hid (HVP.out.lift hb)
        try have HVQ := Lib.hid (HVQ.out.lift hb)
        try have HLA := Lib.hid (HLA.out.lift hb)
        try have HLW := Lib.hid (HLW.out.lift hb)
        try have HI := Lib.hid (HI.out.lift hb)
        try have HRB := Lib.hid (HRB.out.trans (hb.mono HRB.out.size))
        try have HWW := Lib.hid (HWW.out.trans (hb.mono HWW.out.size))
        clear hb
        clear c0 c1 d0 d1 e0 e1
        obtain ⟨⟨c0, c1, _, _, _⟩, _⟩ := HVA.out
        obtain ⟨⟨d0, d1, _, _, _⟩, _⟩ := HVF.out
        obtain ⟨⟨e0, e1, _, _, _⟩, _⟩ := HVT.out
        go_wp2_with fail
        have HCW := Lib.hid (fun V h => impl_CountWindows_any N Aa ca bs kk V hfN h)
        rw [cntW_at HOK.out (by omega), hk3] at HCW
        have HFW := fun V h => impl_FormatW_ok M Af cf F V h HFO.out
        rw [HFT.out, show mkS [120, 120, 120, 46, 120, 46, 46, 46] = ⟨#[120, 120, 120, 46, 120, 46, 46, 46]⟩ from rfl] at HFW
        have HFW := Lib.hid HFW
        have HF1 := fun V h => impl_IsFull_any M Af cf F 3 V hfM h
        rw [HFU.out] at HF1
        have HF1 := Lib.hid HF1
        have HF2 := fun V h => impl_IsFull_any M At ct T 3 V hfM h
        rw [HTU.out] at HF2
        have HF2 := Lib.hid HF2
        have hcc : ((c : Int) == (c : Int)) = true := beq_self_eq_true _
        have hkl : (kk : Int) < (N : Int) := by omega
        have hk0 : (0 : Int) ≤ (kk : Int) := Int.natCast_nonneg _
        have hsl1 : (N : Int) ≤ (S1.size : Int) := by omega
        have hsl2 : (N : Int) ≤ (N : Int) + 1 := by omega
        have hNN : (((N : Int) + 1) == ((N : Int) + 1)) = true := beq_self_eq_true _
        have hsz2 : (S1.size : Int) = (N : Int) + 1 := by omega
        simp only [List.append_eq, List.cons_append, List.nil_append]
        have HBW := Lib.hid (Below.drewH_ HBW.out)
        try have HRB := Lib.hid (Below.drewH_ HRB.out)
        try have HWW := Lib.hid (Below.drewH_ HWW.out)
        try have HVA := Lib.hid HVA.out.drew
        try have HVB := Lib.hid HVB.out.drew
        try have HVC := Lib.hid HVC.out.drew
        try have HVT := Lib.hid HVT.out.drew
        try have HVX := Lib.hid HVX.out.drew
        try have HVM := Lib.hid HVM.out.drew
        try have HVF := Lib.hid HVF.out.drew
        try have HVP := Lib.hid HVP.out.drew
        try have HVQ := Lib.hid HVQ.out.drew
        try have HLA := Lib.hid HLA.out.drewR_
        try have HLW := Lib.hid HLW.out.drewR_
        (refine wp_region_held_drew (S := (fun w' => w'.cell? ⟨qa, 0, none⟩ = some (.int .i64 N) ∧ w'.cell? ⟨qa, 1, none⟩ = some (.slice Aa bs.length ca) ∧ w'.cell? ⟨qf, 0, none⟩ = some (.int .i64 M) ∧ w'.cell? ⟨qf, 1, none⟩ = some (.slice Af F.length cf) ∧ w'.cell? ⟨qt, 0, none⟩ = some (.int .i64 M) ∧ w'.cell? ⟨qt, 1, none⟩ = some (.slice At T.length ct))) (by kernel_rfl) ?_ (fun hHeld => ?_); (focus ((try dsimp only); exact ⟨c0, c1, d0, d1, e0, e1⟩)))
        ((refine wpAnyH_take (i := 0) (v := ?_) rfl (by kernel_rfl) (by kernel_rfl) (by kernel_rfl) (fun _ _ _ h => h) (Or.inl ⟨by rfl, ?_⟩) (by assumption) ?_; rotate_left; (focus (intro wS hSw; (try dsimp only at hSw); go_simp; (try with_reducible rfl))); (try simp only [Act.put, List.getElem_toArray, List.getElem_cons_zero, List.getElem_cons_succ, List.setIfInBounds_toArray, List.set_cons_zero, List.set_cons_succ])); (refine wpAnyH_take (i := 1) (v := ?_) rfl (by kernel_rfl) (by kernel_rfl) (by kernel_rfl) (fun _ _ _ h => h) (Or.inl ⟨by rfl, ?_⟩) (by assumption) ?_; rotate_left; (focus (intro wS hSw; (try dsimp only at hSw); go_simp; (try with_reducible rfl))); (try simp only [Act.put, List.getElem_toArray, List.getElem_cons_zero, List.getElem_cons_succ, List.setIfInBounds_toArray, List.set_cons_zero, List.set_cons_succ])); (refine wpAnyH_take (i := 2) (v := ?_) rfl (by kernel_rfl) (by kernel_rfl) (by kernel_rfl) (fun _ _ _ h => h) (Or.inl ⟨by rfl, ?_⟩) (by assumption) ?_; rotate_left; (focus (intro wS hSw; (try dsimp only at hSw); go_simp; (try with_reducible rfl))); (try simp only [Act.put, List.getElem_toArray, List.getElem_cons_zero, List.getElem_cons_succ, List.setIfInBounds_toArray, List.set_cons_zero, List.set_cons_succ])); (refine wpAnyH_take (i := 3) (v := ?_) rfl (by kernel_rfl) (by kernel_rfl) (by kernel_rfl) (fun _ _ _ h => h) (Or.inl ⟨by rfl, ?_⟩) (by assumption) ?_; rotate_left; (focus (intro wS hSw; (try dsimp only at hSw); go_simp; (try with_reducible rfl))); (try simp only [Act.put, List.getElem_toArray, List.getElem_cons_zero, List.getElem_cons_succ, List.setIfInBounds_toArray, List.set_cons_zero, List.set_cons_succ])); (refine wpAnyH_take (i := 4) (v := ?_) rfl (by kernel_rfl) (by kernel_rfl) (by kernel_rfl) (fun _ _ _ h => h) (Or.inl ⟨by rfl, ?_⟩) (by assumption) ?_; rotate_left; (focus (intro wS hSw; (try dsimp only at hSw); go_simp; (try with_reducible rfl))); (try simp only [Act.put, List.getElem_toArray, List.getElem_cons_zero, List.getElem_cons_succ, List.setIfInBounds_toArray, List.set_cons_zero, List.set_cons_succ])); (refine wpAnyH_take (i := 5) (v := ?_) rfl (by kernel_rfl) (by kernel_rfl) (by kernel_rfl) (fun _ _ _ h => h) (Or.inl ⟨by rfl, ?_⟩) (by assumption) ?_; rotate_left; (focus (intro wS hSw; (try dsimp only at hSw); go_simp; (try with_reducible rfl))); (try simp only [Act.put, List.getElem_toArray, List.getElem_cons_zero, List.getElem_cons_succ, List.setIfInBounds_toArray, List.set_cons_zero, List.set_cons_succ])); (refine wpAnyH_take (i := 6) (v := ?_) rfl (by kernel_rfl) (by kernel_rfl) (by kernel_rfl) (fun _ _ _ h => h) (Or.inl ⟨by rfl, ?_⟩) (by assumption) ?_; rotate_left; (focus (intro wS hSw; (try dsimp only at hSw); go_simp; (try with_reducible rfl))); (try simp only [Act.put, List.getElem_toArray, List.getElem_cons_zero, List.getElem_cons_succ, List.setIfInBounds_toArray, List.set_cons_zero, List.set_cons_succ])); (refine wpAnyH_take (i := 7) (v := ?_) rfl (by kernel_rfl) (by kernel_rfl) (by kernel_rfl) (fun _ _ _ h => h) (Or.inl ⟨by rfl, ?_⟩) (by assumption) ?_; rotate_left; (focus (intro wS hSw; (try dsimp only at hSw); go_simp; (try with_reducible rfl))); (try simp only [Act.put, List.getElem_toArray, List.getElem_cons_zero, List.getElem_cons_succ, List.setIfInBounds_toArray, List.set_cons_zero, List.set_cons_succ])); (refine wpAnyH_take (i := 8) (v := ?_) rfl (by kernel_rfl) (by kernel_rfl) (by kernel_rfl) (fun _ _ _ h => h) (Or.inl ⟨by rfl, ?_⟩) (by assumption) ?_; rotate_left; (focus (intro wS hSw; (try dsimp only at hSw); go_simp; (try with_reducible rfl))); (try simp only [Act.put, List.getElem_toArray, List.getElem_cons_zero, List.getElem_cons_succ, List.setIfInBounds_toArray, List.set_cons_zero, List.set_cons_succ])); (refine wpAnyH_take (i := 9) (v := ?_) rfl (by kernel_rfl) (by kernel_rfl) (by kernel_rfl) (fun _ _ _ h => h) (Or.inl ⟨by rfl, ?_⟩) (by assumption) ?_; rotate_left; (focus (intro wS hSw; (try dsimp only at hSw); go_simp; (try with_reducible rfl))); (try simp only [Act.put, List.getElem_toArray, List.getElem_cons_zero, List.getElem_cons_succ, List.setIfInBounds_toArray, List.set_cons_zero, List.set_cons_succ])); (refine wpAnyH_take (i := 10) (v := ?_) rfl (by kernel_rfl) (by kernel_rfl) (by kernel_rfl) (fun _ _ _ h => h) (Or.inl ⟨by rfl, ?_⟩) (by assumption) ?_; rotate_left; (focus (intro wS hSw; (try dsimp only at hSw); go_simp; (try with_reducible rfl))); (try simp only [Act.put, List.getElem_toArray, List.getElem_cons_zero, List.getElem_cons_succ, List.setIfInBounds_toArray, List.set_cons_zero, List.set_cons_succ])); (refine wpAnyH_take (i := 11) (v := ?_) rfl (by kernel_rfl) (by kernel_rfl) (by kernel_rfl) (fun _ _ _ h => h) (Or.inl ⟨by rfl, ?_⟩) (by assumption) ?_; rotate_left; (focus (intro wS hSw; (try dsimp only at hSw); go_simp; (try with_reducible rfl))); (try simp only [Act.put, List.getElem_toArray, List.getElem_cons_zero, List.getElem_cons_succ, List.setIfInBounds_toArray, List.set_cons_zero, List.set_cons_succ])); (refine wpAnyH_take (i := 12) (v := ?_) rfl (by kernel_rfl) (by kernel_rfl) (by kernel_rfl) (fun _ _ _ h => h) (Or.inl ⟨by rfl, ?_⟩) (by assumption) ?_; rotate_left; (focus (intro wS hSw; (try dsimp only at hSw); go_simp; (try with_reducible rfl))); (try simp only [Act.put, List.getElem_toArray, List.getElem_cons_zero, List.getElem_cons_succ, List.setIfInBounds_toArray, List.set_cons_zero, List.set_cons_succ])); (refine wpAnyH_take (i := 13) (v := ?_) rfl (by kernel_rfl) (by kernel_rfl) (by kernel_rfl) (fun _ _ _ h => h) (Or.inl ⟨by rfl, ?_⟩) (by assumption) ?_; rotate_left; (focus (intro wS hSw; (try dsimp only at hSw); go_simp; (try with_reducible rfl))); (try simp only [Act.put, List.getElem_toArray, List.getElem_cons_zero, List.getElem_cons_succ, List.setIfInBounds_toArray, List.set_cons_zero, List.set_cons_succ])); (refine wpAnyH_take (i := 14) (v := ?_) rfl (by kernel_rfl) (by kernel_rfl) (by kernel_rfl) (fun _ _ _ h => h) (Or.inl ⟨by rfl, ?_⟩) (by assumption) ?_; rotate_left; (focus (intro wS hSw; (try dsimp only at hSw); go_simp; (try with_reducible rfl))); (try simp only [Act.put, List.getElem_toArray, List.getElem_cons_zero, List.getElem_cons_succ, List.setIfInBounds_toArray, List.set_cons_zero, List.set_cons_succ])); (refine wpAnyH_take (i := 16) (v := ?_) rfl (by kernel_rfl) (by kernel_rfl) (by kernel_rfl) (fun _ _ _ h => h) (Or.inl ⟨by rfl, ?_⟩) (by assumption) ?_; rotate_left; (focus (intro wS hSw; (try dsimp only at hSw); go_simp; (try with_reducible rfl))); (try simp only [Act.put, List.getElem_toArray, List.getElem_cons_zero, List.getElem_cons_succ, List.setIfInBounds_toArray, List.set_cons_zero, List.set_cons_succ])))
        (refine wpAnyH_ready (rs := [15]) (by kernel_rfl) (by simp) ?_; refine AllReadyH.cons rfl (fun K hK => ?_) AllReadyH.nil; go_simp)
        go_at_call 9
        refine (HCW.out _ HVA.out.2).mono ?_
        rintro e wn ⟨rfl, hb⟩
        have HBW := Lib.hid (HBW.out.trans (hb.mono HBW.out.size))
        try have HVA := Lib.hid (HVA.out.lift hb)
        try have HVB := Lib.hid (HVB.out.lift hb)
        try have HVC := Lib.hid (HVC.out.lift hb)
        try have HVT := Lib.hid (HVT.out.lift hb)
        try have HVX := Lib.hid (HVX.out.lift hb)
        try have HVM := Lib.hid (HVM.out.lift hb)
        try have HVF := Lib.hid (HVF.out.lift hb)
        try have HVP := Lib.hid (HVP.out.lift hb)
        try have HVQ := Lib.hid (HVQ.out.lift hb)
        try have HLA := Lib.hid (HLA.out.lift hb)
        try have HLW := Lib.hid (HLW.out.lift hb)
        try have HI := Lib.hid (HI.out.lift hb)
        try have HRB := Lib.hid (HRB.out.trans (hb.mono HRB.out.size))
        try have HWW := Lib.hid (HWW.out.trans (hb.mono HWW.out.size))
        clear hb
        clear c0 c1 d0 d1 e0 e1
        obtain ⟨⟨c0, c1, _, _, _⟩, _⟩ := HVA.out
        obtain ⟨⟨d0, d1, _, _, _⟩, _⟩ := HVF.out
        obtain ⟨⟨e0, e1, _, _, _⟩, _⟩ := HVT.out
        go_wp2_with fail
        (refine hK.out _ _ ?_ (fun hHeld2 => ?_); (focus ((try dsimp only); exact ⟨c0, c1, d0, d1, e0, e1⟩)); (clear hK K); (try simp only [Act.put, List.getElem_toArray, List.getElem_cons_zero, List.getElem_cons_succ, List.setIfInBounds_toArray, List.set_cons_zero, List.set_cons_succ]))
        by_cases hkz : kk = 0
        · as_aux_lemma =>
          subst hkz
          ((refine wpAnyH_take (i := 17) (v := ?_) rfl (by kernel_rfl) (by kernel_rfl) (by kernel_rfl) (fun _ _ _ h => h) (Or.inl ⟨by rfl, ?_⟩) (by assumption) ?_; rotate_left; (focus (intro wS hSw; (try dsimp only at hSw); go_simp; (try with_reducible rfl))); (try simp only [Act.put, List.getElem_toArray, List.getElem_cons_zero, List.getElem_cons_succ, List.setIfInBounds_toArray, List.set_cons_zero, List.set_cons_succ])); (refine wpAnyH_take (i := 18) (v := ?_) rfl (by kernel_rfl) (by kernel_rfl) (by kernel_rfl) (fun _ _ _ h => h) (Or.inl ⟨by rfl, ?_⟩) (by assumption) ?_; rotate_left; (focus (intro wS hSw; (try dsimp only at hSw); go_simp; (try with_reducible rfl))); (try simp only [Act.put, List.getElem_toArray, List.getElem_cons_zero, List.getElem_cons_succ, List.setIfInBounds_toArray, List.set_cons_zero, List.set_cons_succ])); (refine wpAnyH_take (i := 19) (v := ?_) rfl (by kernel_rfl) (by kernel_rfl) (by kernel_rfl) (fun _ _ _ h => h) (Or.inl ⟨by rfl, ?_⟩) (by assumption) ?_; rotate_left; (focus (intro wS hSw; (try dsimp only at hSw); go_simp; (try with_reducible rfl))); (try simp only [Act.put, List.getElem_toArray, List.getElem_cons_zero, List.getElem_cons_succ, List.setIfInBounds_toArray, List.set_cons_zero, List.set_cons_succ])); (refine wpAnyH_take (i := 20) (v := ?_) rfl (by kernel_rfl) (by kernel_rfl) (by kernel_rfl) (fun _ _ _ h => h) (Or.inl ⟨by rfl, ?_⟩) (by assumption) ?_; rotate_left; (focus (intro wS hSw; (try dsimp only at hSw); go_simp; (try with_reducible rfl))); (try simp only [Act.put, List.getElem_toArray, List.getElem_cons_zero, List.getElem_cons_succ, List.setIfInBounds_toArray, List.set_cons_zero, List.set_cons_succ])); (refine wpAnyH_take (i := 21) (v := ?_) rfl (by kernel_rfl) (by kernel_rfl) (by kernel_rfl) (fun _ _ _ h => h) (Or.inl ⟨by rfl, ?_⟩) (by assumption) ?_; rotate_left; (focus (intro wS hSw; (try dsimp only at hSw); go_simp; (try with_reducible rfl))); (try simp only [Act.put, List.getElem_toArray, List.getElem_cons_zero, List.getElem_cons_succ, List.setIfInBounds_toArray, List.set_cons_zero, List.set_cons_succ])); (refine wpAnyH_take (i := 22) (v := ?_) rfl (by kernel_rfl) (by kernel_rfl) (by kernel_rfl) (fun _ _ _ h => h) (Or.inl ⟨by rfl, ?_⟩) (by assumption) ?_; rotate_left; (focus (intro wS hSw; (try dsimp only at hSw); go_simp; (try with_reducible rfl))); (try simp only [Act.put, List.getElem_toArray, List.getElem_cons_zero, List.getElem_cons_succ, List.setIfInBounds_toArray, List.set_cons_zero, List.set_cons_succ])))
          ((refine wpAnyH_take (i := 23) (v := undef) rfl (by kernel_rfl) (by kernel_rfl) (by kernel_rfl) (fun _ _ _ h => h) (Or.inr ⟨by rfl, rfl⟩) (by assumption) ?_; (try simp only [Act.put, List.getElem_toArray, List.getElem_cons_zero, List.getElem_cons_succ, List.setIfInBounds_toArray, List.set_cons_zero, List.set_cons_succ])); (refine wpAnyH_take (i := 24) (v := undef) rfl (by kernel_rfl) (by kernel_rfl) (by kernel_rfl) (fun _ _ _ h => h) (Or.inr ⟨by rfl, rfl⟩) (by assumption) ?_; (try simp only [Act.put, List.getElem_toArray, List.getElem_cons_zero, List.getElem_cons_succ, List.setIfInBounds_toArray, List.set_cons_zero, List.set_cons_succ])); (refine wpAnyH_take (i := 25) (v := undef) rfl (by kernel_rfl) (by kernel_rfl) (by kernel_rfl) (fun _ _ _ h => h) (Or.inr ⟨by rfl, rfl⟩) (by assumption) ?_; (try simp only [Act.put, List.getElem_toArray, List.getElem_cons_zero, List.getElem_cons_succ, List.setIfInBounds_toArray, List.set_cons_zero, List.set_cons_succ])); (refine wpAnyH_take (i := 26) (v := undef) rfl (by kernel_rfl) (by kernel_rfl) (by kernel_rfl) (fun _ _ _ h => h) (Or.inr ⟨by rfl, rfl⟩) (by assumption) ?_; (try simp only [Act.put, List.getElem_toArray, List.getElem_cons_zero, List.getElem_cons_succ, List.setIfInBounds_toArray, List.set_cons_zero, List.set_cons_succ])); (refine wpAnyH_take (i := 27) (v := undef) rfl (by kernel_rfl) (by kernel_rfl) (by kernel_rfl) (fun _ _ _ h => h) (Or.inr ⟨by rfl, rfl⟩) (by assumption) ?_; (try simp only [Act.put, List.getElem_toArray, List.getElem_cons_zero, List.getElem_cons_succ, List.setIfInBounds_toArray, List.set_cons_zero, List.set_cons_succ])); (refine wpAnyH_take (i := 28) (v := undef) rfl (by kernel_rfl) (by kernel_rfl) (by kernel_rfl) (fun _ _ _ h => h) (Or.inr ⟨by rfl, rfl⟩) (by assumption) ?_; (try simp only [Act.put, List.getElem_toArray, List.getElem_cons_zero, List.getElem_cons_succ, List.setIfInBounds_toArray, List.set_cons_zero, List.set_cons_succ])))
          ((refine wpAnyH_take (i := 29) (v := ?_) rfl (by kernel_rfl) (by kernel_rfl) (by kernel_rfl) (fun _ _ _ h => h) (Or.inl ⟨by rfl, ?_⟩) (by assumption) ?_; rotate_left; (focus (intro wS hSw; (try dsimp only at hSw); go_simp; (try with_reducible rfl))); (try simp only [Act.put, List.getElem_toArray, List.getElem_cons_zero, List.getElem_cons_succ, List.setIfInBounds_toArray, List.set_cons_zero, List.set_cons_succ])); (refine wpAnyH_take (i := 30) (v := ?_) rfl (by kernel_rfl) (by kernel_rfl) (by kernel_rfl) (fun _ _ _ h => h) (Or.inl ⟨by rfl, ?_⟩) (by assumption) ?_; rotate_left; (focus (intro wS hSw; (try dsimp only at hSw); go_simp; (try with_reducible rfl))); (try simp only [Act.put, List.getElem_toArray, List.getElem_cons_zero, List.getElem_cons_succ, List.setIfInBounds_toArray, List.set_cons_zero, List.set_cons_succ])); (refine wpAnyH_take (i := 31) (v := ?_) rfl (by kernel_rfl) (by kernel_rfl) (by kernel_rfl) (fun _ _ _ h => h) (Or.inl ⟨by rfl, ?_⟩) (by assumption) ?_; rotate_left; (focus (intro wS hSw; (try dsimp only at hSw); go_simp; (try with_reducible rfl))); (try simp only [Act.put, List.getElem_toArray, List.getElem_cons_zero, List.getElem_cons_succ, List.setIfInBounds_toArray, List.set_cons_zero, List.set_cons_succ])); (refine wpAnyH_take (i := 32) (v := ?_) rfl (by kernel_rfl) (by kernel_rfl) (by kernel_rfl) (fun _ _ _ h => h) (Or.inl ⟨by rfl, ?_⟩) (by assumption) ?_; rotate_left; (focus (intro wS hSw; (try dsimp only at hSw); go_simp; (try with_reducible rfl))); (try simp only [Act.put, List.getElem_toArray, List.getElem_cons_zero, List.getElem_cons_succ, List.setIfInBounds_toArray, List.set_cons_zero, List.set_cons_succ])); (refine wpAnyH_take (i := 33) (v := ?_) rfl (by kernel_rfl) (by kernel_rfl) (by kernel_rfl) (fun _ _ _ h => h) (Or.inl ⟨by rfl, ?_⟩) (by assumption) ?_; rotate_left; (focus (intro wS hSw; (try dsimp only at hSw); go_simp; (try with_reducible rfl))); (try simp only [Act.put, List.getElem_toArray, List.getElem_cons_zero, List.getElem_cons_succ, List.setIfInBounds_toArray, List.set_cons_zero, List.set_cons_succ])); (refine wpAnyH_take (i := 34) (v := ?_) rfl (by kernel_rfl) (by kernel_rfl) (by kernel_rfl) (fun _ _ _ h => h) (Or.inl ⟨by rfl, ?_⟩) (by assumption) ?_; rotate_left; (focus (intro wS hSw; (try dsimp only at hSw); go_simp; (try with_reducible rfl))); (try simp only [Act.put, List.getElem_toArray, List.getElem_cons_zero, List.getElem_cons_succ, List.setIfInBounds_toArray, List.set_cons_zero, List.set_cons_succ])); (refine wpAnyH_take (i := 35) (v := ?_) rfl (by kernel_rfl) (by kernel_rfl) (by kernel_rfl) (fun _ _ _ h => h) (Or.inl ⟨by rfl, ?_⟩) (by assumption) ?_; rotate_left; (focus (intro wS hSw; (try dsimp only at hSw); go_simp; (try with_reducible rfl))); (try simp only [Act.put, List.getElem_toArray, List.getElem_cons_zero, List.getElem_cons_succ, List.setIfInBounds_toArray, List.set_cons_zero, List.set_cons_succ])))
          (refine wpAnyH_ready (rs := [36]) (by kernel_rfl) (by simp) ?_; refine AllReadyH.cons rfl (fun K hK => ?_) AllReadyH.nil; go_simp)
          go_at_call 16
          refine (HFW.out _ HVF.out.2).mono ?_
          rintro e wn ⟨rfl, hb⟩
          have HBW := Lib.hid (HBW.out.trans (hb.mono HBW.out.size))
          try have HVA := Lib.hid (HVA.out.lift hb)
          try have HVB := Lib.hid (HVB.out.lift hb)
          try have HVC := Lib.hid (HVC.out.lift hb)
          try have HVT := Lib.hid (HVT.out.lift hb)
          try have HVX := Lib.hid (HVX.out.lift hb)
          try have HVM := Lib.hid (HVM.out.lift hb)
          try have HVF := Lib.hid (HVF.out.lift hb)
          try have HVP := Lib.hid (HVP.out.lift hb)
          try have HVQ := Lib.hid (HVQ.out.lift hb)
          try have HLA := Lib.hid (HLA.out.lift hb)
          try have HLW := Lib.hid (HLW.out.lift hb)
          try have HI := Lib.hid (HI.out.lift hb)
          try have HRB := Lib.hid (HRB.out.trans (hb.mono HRB.out.size))
          try have HWW := Lib.hid (HWW.out.trans (hb.mono HWW.out.size))
          clear hb
          clear c0 c1 d0 d1 e0 e1
          obtain ⟨⟨c0, c1, _, _, _⟩, _⟩ := HVA.out
          obtain ⟨⟨d0, d1, _, _, _⟩, _⟩ := HVF.out
          obtain ⟨⟨e0, e1, _, _, _⟩, _⟩ := HVT.out
          go_wp2_with fail
          (refine hK.out _ _ ?_ (fun hHeld2 => ?_); (focus ((try dsimp only); exact ⟨c0, c1, d0, d1, e0, e1⟩)); (clear hK K); (try simp only [Act.put, List.getElem_toArray, List.getElem_cons_zero, List.getElem_cons_succ, List.setIfInBounds_toArray, List.set_cons_zero, List.set_cons_succ]))
          ((refine wpAnyH_take (i := 37) (v := ?_) rfl (by kernel_rfl) (by kernel_rfl) (by kernel_rfl) (fun _ _ _ h => h) (Or.inl ⟨by rfl, ?_⟩) (by assumption) ?_; rotate_left; (focus (intro wS hSw; (try dsimp only at hSw); go_simp; (try with_reducible rfl))); (try simp only [Act.put, List.getElem_toArray, List.getElem_cons_zero, List.getElem_cons_succ, List.setIfInBounds_toArray, List.set_cons_zero, List.set_cons_succ])); (refine wpAnyH_take (i := 38) (v := ?_) rfl (by kernel_rfl) (by kernel_rfl) (by kernel_rfl) (fun _ _ _ h => h) (Or.inl ⟨by rfl, ?_⟩) (by assumption) ?_; rotate_left; (focus (intro wS hSw; (try dsimp only at hSw); go_simp; (try with_reducible rfl))); (try simp only [Act.put, List.getElem_toArray, List.getElem_cons_zero, List.getElem_cons_succ, List.setIfInBounds_toArray, List.set_cons_zero, List.set_cons_succ])); (refine wpAnyH_take (i := 39) (v := ?_) rfl (by kernel_rfl) (by kernel_rfl) (by kernel_rfl) (fun _ _ _ h => h) (Or.inl ⟨by rfl, ?_⟩) (by assumption) ?_; rotate_left; (focus (intro wS hSw; (try dsimp only at hSw); go_simp; (try with_reducible rfl))); (try simp only [Act.put, List.getElem_toArray, List.getElem_cons_zero, List.getElem_cons_succ, List.setIfInBounds_toArray, List.set_cons_zero, List.set_cons_succ])); (refine wpAnyH_take (i := 40) (v := ?_) rfl (by kernel_rfl) (by kernel_rfl) (by kernel_rfl) (fun _ _ _ h => h) (Or.inl ⟨by rfl, ?_⟩) (by assumption) ?_; rotate_left; (focus (intro wS hSw; (try dsimp only at hSw); go_simp; (try with_reducible rfl))); (try simp only [Act.put, List.getElem_toArray, List.getElem_cons_zero, List.getElem_cons_succ, List.setIfInBounds_toArray, List.set_cons_zero, List.set_cons_succ])))
          (refine wpAnyH_ready (rs := [41]) (by kernel_rfl) (by simp) ?_; refine AllReadyH.cons rfl (fun K hK => ?_) AllReadyH.nil; go_simp)
          go_at_call 17
          refine (HF1.out _ HVF.out.2).mono ?_
          rintro e wn ⟨rfl, hb⟩
          have HBW := Lib.hid (HBW.out.trans (hb.mono HBW.out.size))
          try have HVA := Lib.hid (HVA.out.lift hb)
          try have HVB := Lib.hid (HVB.out.lift hb)
          try have HVC := Lib.hid (HVC.out.lift hb)
          try have HVT := Lib.hid (HVT.out.lift hb)
          try have HVX := Lib.hid (HVX.out.lift hb)
          try have HVM := Lib.hid (HVM.out.lift hb)
          try have HVF := Lib.hid (HVF.out.lift hb)
          try have HVP := Lib.hid (HVP.out.lift hb)
          try have HVQ := Lib.hid (HVQ.out.lift hb)
          try have HLA := Lib.hid (HLA.out.lift hb)
          try have HLW := Lib.hid (HLW.out.lift hb)
          try have HI := Lib.hid (HI.out.lift hb)
          try have HRB := Lib.hid (HRB.out.trans (hb.mono HRB.out.size))
          try have HWW := Lib.hid (HWW.out.trans (hb.mono HWW.out.size))
          clear hb
          clear c0 c1 d0 d1 e0 e1
          obtain ⟨⟨c0, c1, _, _, _⟩, _⟩ := HVA.out
          obtain ⟨⟨d0, d1, _, _, _⟩, _⟩ := HVF.out
          obtain ⟨⟨e0, e1, _, _, _⟩, _⟩ := HVT.out
          go_wp2_with fail
          (refine hK.out _ _ ?_ (fun hHeld2 => ?_); (focus ((try dsimp only); exact ⟨c0, c1, d0, d1, e0, e1⟩)); (clear hK K); (try simp only [Act.put, List.getElem_toArray, List.getElem_cons_zero, List.getElem_cons_succ, List.setIfInBounds_toArray, List.set_cons_zero, List.set_cons_succ]))
          ((refine wpAnyH_take (i := 42) (v := ?_) rfl (by kernel_rfl) (by kernel_rfl) (by kernel_rfl) (fun _ _ _ h => h) (Or.inl ⟨by rfl, ?_⟩) (by assumption) ?_; rotate_left; (focus (intro wS hSw; (try dsimp only at hSw); go_simp; (try with_reducible rfl))); (try simp only [Act.put, List.getElem_toArray, List.getElem_cons_zero, List.getElem_cons_succ, List.setIfInBounds_toArray, List.set_cons_zero, List.set_cons_succ])); (refine wpAnyH_take (i := 43) (v := ?_) rfl (by kernel_rfl) (by kernel_rfl) (by kernel_rfl) (fun _ _ _ h => h) (Or.inl ⟨by rfl, ?_⟩) (by assumption) ?_; rotate_left; (focus (intro wS hSw; (try dsimp only at hSw); go_simp; (try with_reducible rfl))); (try simp only [Act.put, List.getElem_toArray, List.getElem_cons_zero, List.getElem_cons_succ, List.setIfInBounds_toArray, List.set_cons_zero, List.set_cons_succ])); (refine wpAnyH_take (i := 44) (v := ?_) rfl (by kernel_rfl) (by kernel_rfl) (by kernel_rfl) (fun _ _ _ h => h) (Or.inl ⟨by rfl, ?_⟩) (by assumption) ?_; rotate_left; (focus (intro wS hSw; (try dsimp only at hSw); go_simp; (try with_reducible rfl))); (try simp only [Act.put, List.getElem_toArray, List.getElem_cons_zero, List.getElem_cons_succ, List.setIfInBounds_toArray, List.set_cons_zero, List.set_cons_succ])))
          (refine wpAnyH_ready (rs := [45]) (by kernel_rfl) (by simp) ?_; refine AllReadyH.cons rfl (fun K hK => ?_) AllReadyH.nil; go_simp)
          go_at_call 17
          refine (HF2.out _ HVT.out.2).mono ?_
          rintro e wn ⟨rfl, hb⟩
          have HBW := Lib.hid (HBW.out.trans (hb.mono HBW.out.size))
          try have HVA := Lib.hid (HVA.out.lift hb)
          try have HVB := Lib.hid (HVB.out.lift hb)
          try have HVC := Lib.hid (HVC.out.lift hb)
          try have HVT := Lib.hid (HVT.out.lift hb)
          try have HVX := Lib.hid (HVX.out.lift hb)
          try have HVM := Lib.hid (HVM.out.lift hb)
          try have HVF := Lib.hid (HVF.out.lift hb)
          try have HVP := Lib.hid (HVP.out.lift hb)
          try have HVQ := Lib.hid (HVQ.out.lift hb)
          try have HLA := Lib.hid (HLA.out.lift hb)
          try have HLW := Lib.hid (HLW.out.lift hb)
          try have HI := Lib.hid (HI.out.lift hb)
          try have HRB := Lib.hid (HRB.out.trans (hb.mono HRB.out.size))
          try have HWW := Lib.hid (HWW.out.trans (hb.mono HWW.out.size))
          clear hb
          clear c0 c1 d0 d1 e0 e1
          obtain ⟨⟨c0, c1, _, _, _⟩, _⟩ := HVA.out
          obtain ⟨⟨d0, d1, _, _, _⟩, _⟩ := HVF.out
          obtain ⟨⟨e0, e1, _, _, _⟩, _⟩ := HVT.out
          go_wp2_with fail
          (refine hK.out _ _ ?_ (fun hHeld2 => ?_); (focus ((try dsimp only); exact ⟨c0, c1, d0, d1, e0, e1⟩)); (clear hK K); (try simp only [Act.put, List.getElem_toArray, List.getElem_cons_zero, List.getElem_cons_succ, List.setIfInBounds_toArray, List.set_cons_zero, List.set_cons_succ]))
          ((refine wpAnyH_take (i := 46) (v := ?_) rfl (by kernel_rfl) (by kernel_rfl) (by kernel_rfl) (fun _ _ _ h => h) (Or.inl ⟨by rfl, ?_⟩) (by assumption) ?_; rotate_left; (focus (intro wS hSw; (try dsimp only at hSw); go_simp; (try with_reducible rfl))); (try simp only [Act.put, List.getElem_toArray, List.getElem_cons_zero, List.getElem_cons_succ, List.setIfInBounds_toArray, List.set_cons_zero, List.set_cons_succ])); (refine wpAnyH_take (i := 47) (v := ?_) rfl (by kernel_rfl) (by kernel_rfl) (by kernel_rfl) (fun _ _ _ h => h) (Or.inl ⟨by rfl, ?_⟩) (by assumption) ?_; rotate_left; (focus (intro wS hSw; (try dsimp only at hSw); go_simp; (try with_reducible rfl))); (try simp only [Act.put, List.getElem_toArray, List.getElem_cons_zero, List.getElem_cons_succ, List.setIfInBounds_toArray, List.set_cons_zero, List.set_cons_succ])))
          (refine wpAnyH_ready (rs := [48]) (by kernel_rfl) (by simp) ?_; refine AllReadyH.cons rfl (fun K hK => ?_) AllReadyH.nil; go_simp)
          go_at_call 18
          refine (impl_CountFull_3 _).mono ?_
          rintro e wn ⟨rfl, rfl⟩
          go_wp2_with fail
          (refine hK.out _ _ ?_ (fun hHeld2 => ?_); (focus ((try dsimp only); exact ⟨c0, c1, d0, d1, e0, e1⟩)); (clear hK K); (try simp only [Act.put, List.getElem_toArray, List.getElem_cons_zero, List.getElem_cons_succ, List.setIfInBounds_toArray, List.set_cons_zero, List.set_cons_succ]))
          ((refine wpAnyH_take (i := 49) (v := ?_) rfl (by kernel_rfl) (by kernel_rfl) (by kernel_rfl) (fun _ _ _ h => h) (Or.inl ⟨by rfl, ?_⟩) (by assumption) ?_; rotate_left; (focus (intro wS hSw; (try dsimp only at hSw); go_simp; (try with_reducible rfl))); (try simp only [Act.put, List.getElem_toArray, List.getElem_cons_zero, List.getElem_cons_succ, List.setIfInBounds_toArray, List.set_cons_zero, List.set_cons_succ])); (refine wpAnyH_take (i := 50) (v := ?_) rfl (by kernel_rfl) (by kernel_rfl) (by kernel_rfl) (fun _ _ _ h => h) (Or.inl ⟨by rfl, ?_⟩) (by assumption) ?_; rotate_left; (focus (intro wS hSw; (try dsimp only at hSw); go_simp; (try with_reducible rfl))); (try simp only [Act.put, List.getElem_toArray, List.getElem_cons_zero, List.getElem_cons_succ, List.setIfInBounds_toArray, List.set_cons_zero, List.set_cons_succ])); (refine wpAnyH_take (i := 51) (v := ?_) rfl (by kernel_rfl) (by kernel_rfl) (by kernel_rfl) (fun _ _ _ h => h) (Or.inl ⟨by rfl, ?_⟩) (by assumption) ?_; rotate_left; (focus (intro wS hSw; (try dsimp only at hSw); go_simp; (try with_reducible rfl))); (try simp only [Act.put, List.getElem_toArray, List.getElem_cons_zero, List.getElem_cons_succ, List.setIfInBounds_toArray, List.set_cons_zero, List.set_cons_succ])); (refine wpAnyH_take (i := 52) (v := ?_) rfl (by kernel_rfl) (by kernel_rfl) (by kernel_rfl) (fun _ _ _ h => h) (Or.inl ⟨by rfl, ?_⟩) (by assumption) ?_; rotate_left; (focus (intro wS hSw; (try dsimp only at hSw); go_simp; (try with_reducible rfl))); (try simp only [Act.put, List.getElem_toArray, List.getElem_cons_zero, List.getElem_cons_succ, List.setIfInBounds_toArray, List.set_cons_zero, List.set_cons_succ])); (refine wpAnyH_take (i := 53) (v := ?_) rfl (by kernel_rfl) (by kernel_rfl) (by kernel_rfl) (fun _ _ _ h => h) (Or.inl ⟨by rfl, ?_⟩) (by assumption) ?_; rotate_left; (focus (intro wS hSw; (try dsimp only at hSw); go_simp; (try with_reducible rfl))); (try simp only [Act.put, List.getElem_toArray, List.getElem_cons_zero, List.getElem_cons_succ, List.setIfInBounds_toArray, List.set_cons_zero, List.set_cons_succ])); (refine wpAnyH_take (i := 54) (v := ?_) rfl (by kernel_rfl) (by kernel_rfl) (by kernel_rfl) (fun _ _ _ h => h) (Or.inl ⟨by rfl, ?_⟩) (by assumption) ?_; rotate_left; (focus (intro wS hSw; (try dsimp only at hSw); go_simp; (try with_reducible rfl))); (try simp only [Act.put, List.getElem_toArray, List.getElem_cons_zero, List.getElem_cons_succ, List.setIfInBounds_toArray, List.set_cons_zero, List.set_cons_succ])); (refine wpAnyH_take (i := 55) (v := ?_) rfl (by kernel_rfl) (by kernel_rfl) (by kernel_rfl) (fun _ _ _ h => h) (Or.inl ⟨by rfl, ?_⟩) (by assumption) ?_; rotate_left; (focus (intro wS hSw; (try dsimp only at hSw); go_simp; (try with_reducible rfl))); (try simp only [Act.put, List.getElem_toArray, List.getElem_cons_zero, List.getElem_cons_succ, List.setIfInBounds_toArray, List.set_cons_zero, List.set_cons_succ])); (refine wpAnyH_take (i := 56) (v := ?_) rfl (by kernel_rfl) (by kernel_rfl) (by kernel_rfl) (fun _ _ _ h => h) (Or.inl ⟨by rfl, ?_⟩) (by assumption) ?_; rotate_left; (focus (intro wS hSw; (try dsimp only at hSw); go_simp; (try with_reducible rfl))); (try simp only [Act.put, List.getElem_toArray, List.getElem_cons_zero, List.getElem_cons_succ, List.setIfInBounds_toArray, List.set_cons_zero, List.set_cons_succ])); (refine wpAnyH_take (i := 57) (v := ?_) rfl (by kernel_rfl) (by kernel_rfl) (by kernel_rfl) (fun _ _ _ h => h) (Or.inl ⟨by rfl, ?_⟩) (by assumption) ?_; rotate_left; (focus (intro wS hSw; (try dsimp only at hSw); go_simp; (try with_reducible rfl))); (try simp only [Act.put, List.getElem_toArray, List.getElem_cons_zero, List.getElem_cons_succ, List.setIfInBounds_toArray, List.set_cons_zero, List.set_cons_succ])); (refine wpAnyH_take (i := 58) (v := ?_) rfl (by kernel_rfl) (by kernel_rfl) (by kernel_rfl) (fun _ _ _ h => h) (Or.inl ⟨by rfl, ?_⟩) (by assumption) ?_; rotate_left; (focus (intro wS hSw; (try dsimp only at hSw); go_simp; (try with_reducible rfl))); (try simp only [Act.put, List.getElem_toArray, List.getElem_cons_zero, List.getElem_cons_succ, List.setIfInBounds_toArray, List.set_cons_zero, List.set_cons_succ])); (refine wpAnyH_take (i := 59) (v := ?_) rfl (by kernel_rfl) (by kernel_rfl) (by kernel_rfl) (fun _ _ _ h => h) (Or.inl ⟨by rfl, ?_⟩) (by assumption) ?_; rotate_left; (focus (intro wS hSw; (try dsimp only at hSw); go_simp; (try with_reducible rfl))); (try simp only [Act.put, List.getElem_toArray, List.getElem_cons_zero, List.getElem_cons_succ, List.setIfInBounds_toArray, List.set_cons_zero, List.set_cons_succ])); (refine wpAnyH_take (i := 60) (v := ?_) rfl (by kernel_rfl) (by kernel_rfl) (by kernel_rfl) (fun _ _ _ h => h) (Or.inl ⟨by rfl, ?_⟩) (by assumption) ?_; rotate_left; (focus (intro wS hSw; (try dsimp only at hSw); go_simp; (try with_reducible rfl))); (try simp only [Act.put, List.getElem_toArray, List.getElem_cons_zero, List.getElem_cons_succ, List.setIfInBounds_toArray, List.set_cons_zero, List.set_cons_succ])); (refine wpAnyH_take (i := 61) (v := ?_) rfl (by kernel_rfl) (by kernel_rfl) (by kernel_rfl) (fun _ _ _ h => h) (Or.inl ⟨by rfl, ?_⟩) (by assumption) ?_; rotate_left; (focus (intro wS hSw; (try dsimp only at hSw); go_simp; (try with_reducible rfl))); (try simp only [Act.put, List.getElem_toArray, List.getElem_cons_zero, List.getElem_cons_succ, List.setIfInBounds_toArray, List.set_cons_zero, List.set_cons_succ])); (refine wpAnyH_take (i := 62) (v := ?_) rfl (by kernel_rfl) (by kernel_rfl) (by kernel_rfl) (fun _ _ _ h => h) (Or.inl ⟨by rfl, ?_⟩) (by assumption) ?_; rotate_left; (focus (intro wS hSw; (try dsimp only at hSw); go_simp; (try with_reducible rfl))); (try simp only [Act.put, List.getElem_toArray, List.getElem_cons_zero, List.getElem_cons_succ, List.setIfInBounds_toArray, List.set_cons_zero, List.set_cons_succ])); (refine wpAnyH_take (i := 63) (v := ?_) rfl (by kernel_rfl) (by kernel_rfl) (by kernel_rfl) (fun _ _ _ h => h) (Or.inl ⟨by rfl, ?_⟩) (by assumption) ?_; rotate_left; (focus (intro wS hSw; (try dsimp only at hSw); go_simp; (try with_reducible rfl))); (try simp only [Act.put, List.getElem_toArray, List.getElem_cons_zero, List.getElem_cons_succ, List.setIfInBounds_toArray, List.set_cons_zero, List.set_cons_succ])); (refine wpAnyH_take (i := 64) (v := ?_) rfl (by kernel_rfl) (by kernel_rfl) (by kernel_rfl) (fun _ _ _ h => h) (Or.inl ⟨by rfl, ?_⟩) (by assumption) ?_; rotate_left; (focus (intro wS hSw; (try dsimp only at hSw); go_simp; (try with_reducible rfl))); (try simp only [Act.put, List.getElem_toArray, List.getElem_cons_zero, List.getElem_cons_succ, List.setIfInBounds_toArray, List.set_cons_zero, List.set_cons_succ])))
          (refine wpAnyH_ready (rs := [65]) (by kernel_rfl) (by simp) ?_; refine AllReadyH.cons rfl (fun K hK => ?_) AllReadyH.nil; go_simp)
          go_at_call 15
          refine (HW2.out _ HVA.out.2).mono ?_
          rintro e wn ⟨rfl, hb⟩
          have HBW := Lib.hid (HBW.out.trans (hb.mono HBW.out.size))
          try have HVA := Lib.hid (HVA.out.lift hb)
          try have HVB := Lib.hid (HVB.out.lift hb)
          try have HVC := Lib.hid (HVC.out.lift hb)
          try have HVT := Lib.hid (HVT.out.lift hb)
          try have HVX := Lib.hid (HVX.out.lift hb)
          try have HVM := Lib.hid (HVM.out.lift hb)
          try have HVF := Lib.hid (HVF.out.lift hb)
          try have HVP := Lib.hid (HVP.out.lift hb)
          try have HVQ := Lib.hid (HVQ.out.lift hb)
          try have HLA := Lib.hid (HLA.out.lift hb)
          try have HLW := Lib.hid (HLW.out.lift hb)
          try have HI := Lib.hid (HI.out.lift hb)
          try have HRB := Lib.hid (HRB.out.trans (hb.mono HRB.out.size))
          try have HWW := Lib.hid (HWW.out.trans (hb.mono HWW.out.size))
          clear hb
          clear c0 c1 d0 d1 e0 e1
          obtain ⟨⟨c0, c1, _, _, _⟩, _⟩ := HVA.out
          obtain ⟨⟨d0, d1, _, _, _⟩, _⟩ := HVF.out
          obtain ⟨⟨e0, e1, _, _, _⟩, _⟩ := HVT.out
          go_wp2_with fail
          (refine hK.out _ _ ?_ (fun hHeld2 => ?_); (focus ((try dsimp only); exact ⟨c0, c1, d0, d1, e0, e1⟩)); (clear hK K); (try simp only [Act.put, List.getElem_toArray, List.getElem_cons_zero, List.getElem_cons_succ, List.setIfInBounds_toArray, List.set_cons_zero, List.set_cons_succ]))
          ((refine wpAnyH_take (i := 66) (v := ?_) rfl (by kernel_rfl) (by kernel_rfl) (by kernel_rfl) (fun _ _ _ h => h) (Or.inl ⟨by rfl, ?_⟩) (by assumption) ?_; rotate_left; (focus (intro wS hSw; (try dsimp only at hSw); go_simp; (try with_reducible rfl))); (try simp only [Act.put, List.getElem_toArray, List.getElem_cons_zero, List.getElem_cons_succ, List.setIfInBounds_toArray, List.set_cons_zero, List.set_cons_succ])); (refine wpAnyH_take (i := 67) (v := ?_) rfl (by kernel_rfl) (by kernel_rfl) (by kernel_rfl) (fun _ _ _ h => h) (Or.inl ⟨by rfl, ?_⟩) (by assumption) ?_; rotate_left; (focus (intro wS hSw; (try dsimp only at hSw); go_simp; (try with_reducible rfl))); (try simp only [Act.put, List.getElem_toArray, List.getElem_cons_zero, List.getElem_cons_succ, List.setIfInBounds_toArray, List.set_cons_zero, List.set_cons_succ])); (refine wpAnyH_take (i := 68) (v := ?_) rfl (by kernel_rfl) (by kernel_rfl) (by kernel_rfl) (fun _ _ _ h => h) (Or.inl ⟨by rfl, ?_⟩) (by assumption) ?_; rotate_left; (focus (intro wS hSw; (try dsimp only at hSw); go_simp; (try with_reducible rfl))); (try simp only [Act.put, List.getElem_toArray, List.getElem_cons_zero, List.getElem_cons_succ, List.setIfInBounds_toArray, List.set_cons_zero, List.set_cons_succ])))
          refine wpAnyH_done (by kernel_rfl) ?_ _
          clear c0 c1 d0 d1 e0 e1
          go_wp2_with fail
          go_ret
          exact ⟨rfl, HBW.out⟩
        · as_aux_lemma =>
          have hkz2 : ((kk : Int) == 0) = false := beq_eq_false_iff_ne.2 (by omega)
          have hw3 : IntKind.i64.wrap ((kk : Int) - 1) = ((kk - 1 : Nat) : Int) := by rw [Int.natCast_sub (by omega)]; exact i64w (by omega)
          have HCX := Lib.hid (fun V h => impl_CountWindows_any N Aa ca bs ((kk - 1 : Nat) : Int) V hfN h)
          rw [cntW_at HOK.out (by omega)] at HCX
          have hlt := hk4 (by omega)
          obtain ⟨C2, hC2⟩ : ∃ C2, cwN N bs (kk - 1) = C2 := ⟨_, rfl⟩
          rw [hC2] at HCX hlt
          have hlt2 : decide ((C2 : Int) < (c : Int)) = true := decide_eq_true (by omega)
          clear hC2
          ((refine wpAnyH_take (i := 17) (v := ?_) rfl (by kernel_rfl) (by kernel_rfl) (by kernel_rfl) (fun _ _ _ h => h) (Or.inl ⟨by rfl, ?_⟩) (by assumption) ?_; rotate_left; (focus (intro wS hSw; (try dsimp only at hSw); go_simp; (try with_reducible rfl))); (try simp only [Act.put, List.getElem_toArray, List.getElem_cons_zero, List.getElem_cons_succ, List.setIfInBounds_toArray, List.set_cons_zero, List.set_cons_succ])); (refine wpAnyH_take (i := 18) (v := ?_) rfl (by kernel_rfl) (by kernel_rfl) (by kernel_rfl) (fun _ _ _ h => h) (Or.inl ⟨by rfl, ?_⟩) (by assumption) ?_; rotate_left; (focus (intro wS hSw; (try dsimp only at hSw); go_simp; (try with_reducible rfl))); (try simp only [Act.put, List.getElem_toArray, List.getElem_cons_zero, List.getElem_cons_succ, List.setIfInBounds_toArray, List.set_cons_zero, List.set_cons_succ])); (refine wpAnyH_take (i := 19) (v := ?_) rfl (by kernel_rfl) (by kernel_rfl) (by kernel_rfl) (fun _ _ _ h => h) (Or.inl ⟨by rfl, ?_⟩) (by assumption) ?_; rotate_left; (focus (intro wS hSw; (try dsimp only at hSw); go_simp; (try with_reducible rfl))); (try simp only [Act.put, List.getElem_toArray, List.getElem_cons_zero, List.getElem_cons_succ, List.setIfInBounds_toArray, List.set_cons_zero, List.set_cons_succ])); (refine wpAnyH_take (i := 20) (v := ?_) rfl (by kernel_rfl) (by kernel_rfl) (by kernel_rfl) (fun _ _ _ h => h) (Or.inl ⟨by rfl, ?_⟩) (by assumption) ?_; rotate_left; (focus (intro wS hSw; (try dsimp only at hSw); go_simp; (try with_reducible rfl))); (try simp only [Act.put, List.getElem_toArray, List.getElem_cons_zero, List.getElem_cons_succ, List.setIfInBounds_toArray, List.set_cons_zero, List.set_cons_succ])); (refine wpAnyH_take (i := 21) (v := ?_) rfl (by kernel_rfl) (by kernel_rfl) (by kernel_rfl) (fun _ _ _ h => h) (Or.inl ⟨by rfl, ?_⟩) (by assumption) ?_; rotate_left; (focus (intro wS hSw; (try dsimp only at hSw); go_simp; (try with_reducible rfl))); (try simp only [Act.put, List.getElem_toArray, List.getElem_cons_zero, List.getElem_cons_succ, List.setIfInBounds_toArray, List.set_cons_zero, List.set_cons_succ])); (refine wpAnyH_take (i := 22) (v := ?_) rfl (by kernel_rfl) (by kernel_rfl) (by kernel_rfl) (fun _ _ _ h => h) (Or.inl ⟨by rfl, ?_⟩) (by assumption) ?_; rotate_left; (focus (intro wS hSw; (try dsimp only at hSw); go_simp; (try with_reducible rfl))); (try simp only [Act.put, List.getElem_toArray, List.getElem_cons_zero, List.getElem_cons_succ, List.setIfInBounds_toArray, List.set_cons_zero, List.set_cons_succ])); (refine wpAnyH_take (i := 23) (v := ?_) rfl (by kernel_rfl) (by kernel_rfl) (by kernel_rfl) (fun _ _ _ h => h) (Or.inl ⟨by rfl, ?_⟩) (by assumption) ?_; rotate_left; (focus (intro wS hSw; (try dsimp only at hSw); go_simp; (try with_reducible rfl))); (try simp only [Act.put, List.getElem_toArray, List.getElem_cons_zero, List.getElem_cons_succ, List.setIfInBounds_toArray, List.set_cons_zero, List.set_cons_succ])); (refine wpAnyH_take (i := 24) (v := ?_) rfl (by kernel_rfl) (by kernel_rfl) (by kernel_rfl) (fun _ _ _ h => h) (Or.inl ⟨by rfl, ?_⟩) (by assumption) ?_; rotate_left; (focus (intro wS hSw; (try dsimp only at hSw); go_simp; (try with_reducible rfl))); (try simp only [Act.put, List.getElem_toArray, List.getElem_cons_zero, List.getElem_cons_succ, List.setIfInBounds_toArray, List.set_cons_zero, List.set_cons_succ])); (refine wpAnyH_take (i := 25) (v := ?_) rfl (by kernel_rfl) (by kernel_rfl) (by kernel_rfl) (fun _ _ _ h => h) (Or.inl ⟨by rfl, ?_⟩) (by assumption) ?_; rotate_left; (focus (intro wS hSw; (try dsimp only at hSw); go_simp; (try with_reducible rfl))); (try simp only [Act.put, List.getElem_toArray, List.getElem_cons_zero, List.getElem_cons_succ, List.setIfInBounds_toArray, List.set_cons_zero, List.set_cons_succ])); (refine wpAnyH_take (i := 27) (v := ?_) rfl (by kernel_rfl) (by kernel_rfl) (by kernel_rfl) (fun _ _ _ h => h) (Or.inl ⟨by rfl, ?_⟩) (by assumption) ?_; rotate_left; (focus (intro wS hSw; (try dsimp only at hSw); go_simp; (try with_reducible rfl))); (try simp only [Act.put, List.getElem_toArray, List.getElem_cons_zero, List.getElem_cons_succ, List.setIfInBounds_toArray, List.set_cons_zero, List.set_cons_succ])))
          (refine wpAnyH_ready (rs := [26]) (by kernel_rfl) (by simp) ?_; refine AllReadyH.cons rfl (fun K hK => ?_) AllReadyH.nil; go_simp)
          go_at_call 9
          refine (HCX.out _ HVA.out.2).mono ?_
          rintro e wn ⟨rfl, hb⟩
          have HBW := Lib.hid (HBW.out.trans (hb.mono HBW.out.size))
          try have HVA := Lib.hid (HVA.out.lift hb)
          try have HVB := Lib.hid (HVB.out.lift hb)
          try have HVC := Lib.hid (HVC.out.lift hb)
          try have HVT := Lib.hid (HVT.out.lift hb)
          try have HVX := Lib.hid (HVX.out.lift hb)
          try have HVM := Lib.hid (HVM.out.lift hb)
          try have HVF := Lib.hid (HVF.out.lift hb)
          try have HVP := Lib.hid (HVP.out.lift hb)
          try have HVQ := Lib.hid (HVQ.out.lift hb)
          try have HLA := Lib.hid (HLA.out.lift hb)
          try have HLW := Lib.hid (HLW.out.lift hb)
          try have HI := Lib.hid (HI.out.lift hb)
          try have HRB := Lib.hid (HRB.out.trans (hb.mono HRB.out.size))
          try have HWW := Lib.hid (HWW.out.trans (hb.mono HWW.out.size))
          clear hb
          clear c0 c1 d0 d1 e0 e1
          obtain ⟨⟨c0, c1, _, _, _⟩, _⟩ := HVA.out
          obtain ⟨⟨d0, d1, _, _, _⟩, _⟩ := HVF.out
          obtain ⟨⟨e0, e1, _, _, _⟩, _⟩ := HVT.out
          go_wp2_with fail
          (refine hK.out _ _ ?_ (fun hHeld2 => ?_); (focus ((try dsimp only); exact ⟨c0, c1, d0, d1, e0, e1⟩)); (clear hK K); (try simp only [Act.put, List.getElem_toArray, List.getElem_cons_zero, List.getElem_cons_succ, List.setIfInBounds_toArray, List.set_cons_zero, List.set_cons_succ]))
          (refine wpAnyH_take (i := 28) (v := ?_) rfl (by kernel_rfl) (by kernel_rfl) (by kernel_rfl) (fun _ _ _ h => h) (Or.inl ⟨by rfl, ?_⟩) (by assumption) ?_; rotate_left; (focus (intro wS hSw; (try dsimp only at hSw); go_simp; (try with_reducible rfl))); (try simp only [Act.put, List.getElem_toArray, List.getElem_cons_zero, List.getElem_cons_succ, List.setIfInBounds_toArray, List.set_cons_zero, List.set_cons_succ]))
          ((refine wpAnyH_take (i := 29) (v := ?_) rfl (by kernel_rfl) (by kernel_rfl) (by kernel_rfl) (fun _ _ _ h => h) (Or.inl ⟨by rfl, ?_⟩) (by assumption) ?_; rotate_left; (focus (intro wS hSw; (try dsimp only at hSw); go_simp; (try with_reducible rfl))); (try simp only [Act.put, List.getElem_toArray, List.getElem_cons_zero, List.getElem_cons_succ, List.setIfInBounds_toArray, List.set_cons_zero, List.set_cons_succ])); (refine wpAnyH_take (i := 30) (v := ?_) rfl (by kernel_rfl) (by kernel_rfl) (by kernel_rfl) (fun _ _ _ h => h) (Or.inl ⟨by rfl, ?_⟩) (by assumption) ?_; rotate_left; (focus (intro wS hSw; (try dsimp only at hSw); go_simp; (try with_reducible rfl))); (try simp only [Act.put, List.getElem_toArray, List.getElem_cons_zero, List.getElem_cons_succ, List.setIfInBounds_toArray, List.set_cons_zero, List.set_cons_succ])); (refine wpAnyH_take (i := 31) (v := ?_) rfl (by kernel_rfl) (by kernel_rfl) (by kernel_rfl) (fun _ _ _ h => h) (Or.inl ⟨by rfl, ?_⟩) (by assumption) ?_; rotate_left; (focus (intro wS hSw; (try dsimp only at hSw); go_simp; (try with_reducible rfl))); (try simp only [Act.put, List.getElem_toArray, List.getElem_cons_zero, List.getElem_cons_succ, List.setIfInBounds_toArray, List.set_cons_zero, List.set_cons_succ])); (refine wpAnyH_take (i := 32) (v := ?_) rfl (by kernel_rfl) (by kernel_rfl) (by kernel_rfl) (fun _ _ _ h => h) (Or.inl ⟨by rfl, ?_⟩) (by assumption) ?_; rotate_left; (focus (intro wS hSw; (try dsimp only at hSw); go_simp; (try with_reducible rfl))); (try simp only [Act.put, List.getElem_toArray, List.getElem_cons_zero, List.getElem_cons_succ, List.setIfInBounds_toArray, List.set_cons_zero, List.set_cons_succ])); (refine wpAnyH_take (i := 33) (v := ?_) rfl (by kernel_rfl) (by kernel_rfl) (by kernel_rfl) (fun _ _ _ h => h) (Or.inl ⟨by rfl, ?_⟩) (by assumption) ?_; rotate_left; (focus (intro wS hSw; (try dsimp only at hSw); go_simp; (try with_reducible rfl))); (try simp only [Act.put, List.getElem_toArray, List.getElem_cons_zero, List.getElem_cons_succ, List.setIfInBounds_toArray, List.set_cons_zero, List.set_cons_succ])); (refine wpAnyH_take (i := 34) (v := ?_) rfl (by kernel_rfl) (by kernel_rfl) (by kernel_rfl) (fun _ _ _ h => h) (Or.inl ⟨by rfl, ?_⟩) (by assumption) ?_; rotate_left; (focus (intro wS hSw; (try dsimp only at hSw); go_simp; (try with_reducible rfl))); (try simp only [Act.put, List.getElem_toArray, List.getElem_cons_zero, List.getElem_cons_succ, List.setIfInBounds_toArray, List.set_cons_zero, List.set_cons_succ])); (refine wpAnyH_take (i := 35) (v := ?_) rfl (by kernel_rfl) (by kernel_rfl) (by kernel_rfl) (fun _ _ _ h => h) (Or.inl ⟨by rfl, ?_⟩) (by assumption) ?_; rotate_left; (focus (intro wS hSw; (try dsimp only at hSw); go_simp; (try with_reducible rfl))); (try simp only [Act.put, List.getElem_toArray, List.getElem_cons_zero, List.getElem_cons_succ, List.setIfInBounds_toArray, List.set_cons_zero, List.set_cons_succ])))
          (refine wpAnyH_ready (rs := [36]) (by kernel_rfl) (by simp) ?_; refine AllReadyH.cons rfl (fun K hK => ?_) AllReadyH.nil; go_simp)
          go_at_call 16
          refine (HFW.out _ HVF.out.2).mono ?_
          rintro e wn ⟨rfl, hb⟩
          have HBW := Lib.hid (HBW.out.trans (hb.mono HBW.out.size))
          try have HVA := Lib.hid (HVA.out.lift hb)
          try have HVB := Lib.hid (HVB.out.lift hb)
          try have HVC := Lib.hid (HVC.out.lift hb)
          try have HVT := Lib.hid (HVT.out.lift hb)
          try have HVX := Lib.hid (HVX.out.lift hb)
          try have HVM := Lib.hid (HVM.out.lift hb)
          try have HVF := Lib.hid (HVF.out.lift hb)
          try have HVP := Lib.hid (HVP.out.lift hb)
          try have HVQ := Lib.hid (HVQ.out.lift hb)
          try have HLA := Lib.hid (HLA.out.lift hb)
          try have HLW := Lib.hid (HLW.out.lift hb)
          try have HI := Lib.hid (HI.out.lift hb)
          try have HRB := Lib.hid (HRB.out.trans (hb.mono HRB.out.size))
          try have HWW := Lib.hid (HWW.out.trans (hb.mono HWW.out.size))
          clear hb
          clear c0 c1 d0 d1 e0 e1
          obtain ⟨⟨c0, c1, _, _, _⟩, _⟩ := HVA.out
          obtain ⟨⟨d0, d1, _, _, _⟩, _⟩ := HVF.out
          obtain ⟨⟨e0, e1, _, _, _⟩, _⟩ := HVT.out
          go_wp2_with fail
          (refine hK.out _ _ ?_ (fun hHeld2 => ?_); (focus ((try dsimp only); exact ⟨c0, c1, d0, d1, e0, e1⟩)); (clear hK K); (try simp only [Act.put, List.getElem_toArray, List.getElem_cons_zero, List.getElem_cons_succ, List.setIfInBounds_toArray, List.set_cons_zero, List.set_cons_succ]))
          ((refine wpAnyH_take (i := 37) (v := ?_) rfl (by kernel_rfl) (by kernel_rfl) (by kernel_rfl) (fun _ _ _ h => h) (Or.inl ⟨by rfl, ?_⟩) (by assumption) ?_; rotate_left; (focus (intro wS hSw; (try dsimp only at hSw); go_simp; (try with_reducible rfl))); (try simp only [Act.put, List.getElem_toArray, List.getElem_cons_zero, List.getElem_cons_succ, List.setIfInBounds_toArray, List.set_cons_zero, List.set_cons_succ])); (refine wpAnyH_take (i := 38) (v := ?_) rfl (by kernel_rfl) (by kernel_rfl) (by kernel_rfl) (fun _ _ _ h => h) (Or.inl ⟨by rfl, ?_⟩) (by assumption) ?_; rotate_left; (focus (intro wS hSw; (try dsimp only at hSw); go_simp; (try with_reducible rfl))); (try simp only [Act.put, List.getElem_toArray, List.getElem_cons_zero, List.getElem_cons_succ, List.setIfInBounds_toArray, List.set_cons_zero, List.set_cons_succ])); (refine wpAnyH_take (i := 39) (v := ?_) rfl (by kernel_rfl) (by kernel_rfl) (by kernel_rfl) (fun _ _ _ h => h) (Or.inl ⟨by rfl, ?_⟩) (by assumption) ?_; rotate_left; (focus (intro wS hSw; (try dsimp only at hSw); go_simp; (try with_reducible rfl))); (try simp only [Act.put, List.getElem_toArray, List.getElem_cons_zero, List.getElem_cons_succ, List.setIfInBounds_toArray, List.set_cons_zero, List.set_cons_succ])); (refine wpAnyH_take (i := 40) (v := ?_) rfl (by kernel_rfl) (by kernel_rfl) (by kernel_rfl) (fun _ _ _ h => h) (Or.inl ⟨by rfl, ?_⟩) (by assumption) ?_; rotate_left; (focus (intro wS hSw; (try dsimp only at hSw); go_simp; (try with_reducible rfl))); (try simp only [Act.put, List.getElem_toArray, List.getElem_cons_zero, List.getElem_cons_succ, List.setIfInBounds_toArray, List.set_cons_zero, List.set_cons_succ])))
          (refine wpAnyH_ready (rs := [41]) (by kernel_rfl) (by simp) ?_; refine AllReadyH.cons rfl (fun K hK => ?_) AllReadyH.nil; go_simp)
          go_at_call 17
          refine (HF1.out _ HVF.out.2).mono ?_
          rintro e wn ⟨rfl, hb⟩
          have HBW := Lib.hid (HBW.out.trans (hb.mono HBW.out.size))
          try have HVA := Lib.hid (HVA.out.lift hb)
          try have HVB := Lib.hid (HVB.out.lift hb)
          try have HVC := Lib.hid (HVC.out.lift hb)
          try have HVT := Lib.hid (HVT.out.lift hb)
          try have HVX := Lib.hid (HVX.out.lift hb)
          try have HVM := Lib.hid (HVM.out.lift hb)
          try have HVF := Lib.hid (HVF.out.lift hb)
          try have HVP := Lib.hid (HVP.out.lift hb)
          try have HVQ := Lib.hid (HVQ.out.lift hb)
          try have HLA := Lib.hid (HLA.out.lift hb)
          try have HLW := Lib.hid (HLW.out.lift hb)
          try have HI := Lib.hid (HI.out.lift hb)
          try have HRB := Lib.hid (HRB.out.trans (hb.mono HRB.out.size))
          try have HWW := Lib.hid (HWW.out.trans (hb.mono HWW.out.size))
          clear hb
          clear c0 c1 d0 d1 e0 e1
          obtain ⟨⟨c0, c1, _, _, _⟩, _⟩ := HVA.out
          obtain ⟨⟨d0, d1, _, _, _⟩, _⟩ := HVF.out
          obtain ⟨⟨e0, e1, _, _, _⟩, _⟩ := HVT.out
          go_wp2_with fail
          (refine hK.out _ _ ?_ (fun hHeld2 => ?_); (focus ((try dsimp only); exact ⟨c0, c1, d0, d1, e0, e1⟩)); (clear hK K); (try simp only [Act.put, List.getElem_toArray, List.getElem_cons_zero, List.getElem_cons_succ, List.setIfInBounds_toArray, List.set_cons_zero, List.set_cons_succ]))
          ((refine wpAnyH_take (i := 42) (v := ?_) rfl (by kernel_rfl) (by kernel_rfl) (by kernel_rfl) (fun _ _ _ h => h) (Or.inl ⟨by rfl, ?_⟩) (by assumption) ?_; rotate_left; (focus (intro wS hSw; (try dsimp only at hSw); go_simp; (try with_reducible rfl))); (try simp only [Act.put, List.getElem_toArray, List.getElem_cons_zero, List.getElem_cons_succ, List.setIfInBounds_toArray, List.set_cons_zero, List.set_cons_succ])); (refine wpAnyH_take (i := 43) (v := ?_) rfl (by kernel_rfl) (by kernel_rfl) (by kernel_rfl) (fun _ _ _ h => h) (Or.inl ⟨by rfl, ?_⟩) (by assumption) ?_; rotate_left; (focus (intro wS hSw; (try dsimp only at hSw); go_simp; (try with_reducible rfl))); (try simp only [Act.put, List.getElem_toArray, List.getElem_cons_zero, List.getElem_cons_succ, List.setIfInBounds_toArray, List.set_cons_zero, List.set_cons_succ])); (refine wpAnyH_take (i := 44) (v := ?_) rfl (by kernel_rfl) (by kernel_rfl) (by kernel_rfl) (fun _ _ _ h => h) (Or.inl ⟨by rfl, ?_⟩) (by assumption) ?_; rotate_left; (focus (intro wS hSw; (try dsimp only at hSw); go_simp; (try with_reducible rfl))); (try simp only [Act.put, List.getElem_toArray, List.getElem_cons_zero, List.getElem_cons_succ, List.setIfInBounds_toArray, List.set_cons_zero, List.set_cons_succ])))
          (refine wpAnyH_ready (rs := [45]) (by kernel_rfl) (by simp) ?_; refine AllReadyH.cons rfl (fun K hK => ?_) AllReadyH.nil; go_simp)
          go_at_call 17
          refine (HF2.out _ HVT.out.2).mono ?_
          rintro e wn ⟨rfl, hb⟩
          have HBW := Lib.hid (HBW.out.trans (hb.mono HBW.out.size))
          try have HVA := Lib.hid (HVA.out.lift hb)
          try have HVB := Lib.hid (HVB.out.lift hb)
          try have HVC := Lib.hid (HVC.out.lift hb)
          try have HVT := Lib.hid (HVT.out.lift hb)
          try have HVX := Lib.hid (HVX.out.lift hb)
          try have HVM := Lib.hid (HVM.out.lift hb)
          try have HVF := Lib.hid (HVF.out.lift hb)
          try have HVP := Lib.hid (HVP.out.lift hb)
          try have HVQ := Lib.hid (HVQ.out.lift hb)
          try have HLA := Lib.hid (HLA.out.lift hb)
          try have HLW := Lib.hid (HLW.out.lift hb)
          try have HI := Lib.hid (HI.out.lift hb)
          try have HRB := Lib.hid (HRB.out.trans (hb.mono HRB.out.size))
          try have HWW := Lib.hid (HWW.out.trans (hb.mono HWW.out.size))
          clear hb
          clear c0 c1 d0 d1 e0 e1
          obtain ⟨⟨c0, c1, _, _, _⟩, _⟩ := HVA.out
          obtain ⟨⟨d0, d1, _, _, _⟩, _⟩ := HVF.out
          obtain ⟨⟨e0, e1, _, _, _⟩, _⟩ := HVT.out
          go_wp2_with fail
          (refine hK.out _ _ ?_ (fun hHeld2 => ?_); (focus ((try dsimp only); exact ⟨c0, c1, d0, d1, e0, e1⟩)); (clear hK K); (try simp only [Act.put, List.getElem_toArray, List.getElem_cons_zero, List.getElem_cons_succ, List.setIfInBounds_toArray, List.set_cons_zero, List.set_cons_succ]))
          ((refine wpAnyH_take (i := 46) (v := ?_) rfl (by kernel_rfl) (by kernel_rfl) (by kernel_rfl) (fun _ _ _ h => h) (Or.inl ⟨by rfl, ?_⟩) (by assumption) ?_; rotate_left; (focus (intro wS hSw; (try dsimp only at hSw); go_simp; (try with_reducible rfl))); (try simp only [Act.put, List.getElem_toArray, List.getElem_cons_zero, List.getElem_cons_succ, List.setIfInBounds_toArray, List.set_cons_zero, List.set_cons_succ])); (refine wpAnyH_take (i := 47) (v := ?_) rfl (by kernel_rfl) (by kernel_rfl) (by kernel_rfl) (fun _ _ _ h => h) (Or.inl ⟨by rfl, ?_⟩) (by assumption) ?_; rotate_left; (focus (intro wS hSw; (try dsimp only at hSw); go_simp; (try with_reducible rfl))); (try simp only [Act.put, List.getElem_toArray, List.getElem_cons_zero, List.getElem_cons_succ, List.setIfInBounds_toArray, List.set_cons_zero, List.set_cons_succ])))
          (refine wpAnyH_ready (rs := [48]) (by kernel_rfl) (by simp) ?_; refine AllReadyH.cons rfl (fun K hK => ?_) AllReadyH.nil; go_simp)
          go_at_call 18
          refine (impl_CountFull_3 _).mono ?_
          rintro e wn ⟨rfl, rfl⟩
          go_wp2_with fail
          (refine hK.out _ _ ?_ (fun hHeld2 => ?_); (focus ((try dsimp only); exact ⟨c0, c1, d0, d1, e0, e1⟩)); (clear hK K); (try simp only [Act.put, List.getElem_toArray, List.getElem_cons_zero, List.getElem_cons_succ, List.setIfInBounds_toArray, List.set_cons_zero, List.set_cons_succ]))
          ((refine wpAnyH_take (i := 49) (v := ?_) rfl (by kernel_rfl) (by kernel_rfl) (by kernel_rfl) (fun _ _ _ h => h) (Or.inl ⟨by rfl, ?_⟩) (by assumption) ?_; rotate_left; (focus (intro wS hSw; (try dsimp only at hSw); go_simp; (try with_reducible rfl))); (try simp only [Act.put, List.getElem_toArray, List.getElem_cons_zero, List.getElem_cons_succ, List.setIfInBounds_toArray, List.set_cons_zero, List.set_cons_succ])); (refine wpAnyH_take (i := 50) (v := ?_) rfl (by kernel_rfl) (by kernel_rfl) (by kernel_rfl) (fun _ _ _ h => h) (Or.inl ⟨by rfl, ?_⟩) (by assumption) ?_; rotate_left; (focus (intro wS hSw; (try dsimp only at hSw); go_simp; (try with_reducible rfl))); (try simp only [Act.put, List.getElem_toArray, List.getElem_cons_zero, List.getElem_cons_succ, List.setIfInBounds_toArray, List.set_cons_zero, List.set_cons_succ])); (refine wpAnyH_take (i := 51) (v := ?_) rfl (by kernel_rfl) (by kernel_rfl) (by kernel_rfl) (fun _ _ _ h => h) (Or.inl ⟨by rfl, ?_⟩) (by assumption) ?_; rotate_left; (focus (intro wS hSw; (try dsimp only at hSw); go_simp; (try with_reducible rfl))); (try simp only [Act.put, List.getElem_toArray, List.getElem_cons_zero, List.getElem_cons_succ, List.setIfInBounds_toArray, List.set_cons_zero, List.set_cons_succ])); (refine wpAnyH_take (i := 52) (v := ?_) rfl (by kernel_rfl) (by kernel_rfl) (by kernel_rfl) (fun _ _ _ h => h) (Or.inl ⟨by rfl, ?_⟩) (by assumption) ?_; rotate_left; (focus (intro wS hSw; (try dsimp only at hSw); go_simp; (try with_reducible rfl))); (try simp only [Act.put, List.getElem_toArray, List.getElem_cons_zero, List.getElem_cons_succ, List.setIfInBounds_toArray, List.set_cons_zero, List.set_cons_succ])); (refine wpAnyH_take (i := 53) (v := ?_) rfl (by kernel_rfl) (by kernel_rfl) (by kernel_rfl) (fun _ _ _ h => h) (Or.inl ⟨by rfl, ?_⟩) (by assumption) ?_; rotate_left; (focus (intro wS hSw; (try dsimp only at hSw); go_simp; (try with_reducible rfl))); (try simp only [Act.put, List.getElem_toArray, List.getElem_cons_zero, List.getElem_cons_succ, List.setIfInBounds_toArray, List.set_cons_zero, List.set_cons_succ])); (refine wpAnyH_take (i := 54) (v := ?_) rfl (by kernel_rfl) (by kernel_rfl) (by kernel_rfl) (fun _ _ _ h => h) (Or.inl ⟨by rfl, ?_⟩) (by assumption) ?_; rotate_left; (focus (intro wS hSw; (try dsimp only at hSw); go_simp; (try with_reducible rfl))); (try simp only [Act.put, List.getElem_toArray, List.getElem_cons_zero, List.getElem_cons_succ, List.setIfInBounds_toArray, List.set_cons_zero, List.set_cons_succ])); (refine wpAnyH_take (i := 55) (v := ?_) rfl (by kernel_rfl) (by kernel_rfl) (by kernel_rfl) (fun _ _ _ h => h) (Or.inl ⟨by rfl, ?_⟩) (by assumption) ?_; rotate_left; (focus (intro wS hSw; (try dsimp only at hSw); go_simp; (try with_reducible rfl))); (try simp only [Act.put, List.getElem_toArray, List.getElem_cons_zero, List.getElem_cons_succ, List.setIfInBounds_toArray, List.set_cons_zero, List.set_cons_succ])); (refine wpAnyH_take (i := 56) (v := ?_) rfl (by kernel_rfl) (by kernel_rfl) (by kernel_rfl) (fun _ _ _ h => h) (Or.inl ⟨by rfl, ?_⟩) (by assumption) ?_; rotate_left; (focus (intro wS hSw; (try dsimp only at hSw); go_simp; (try with_reducible rfl))); (try simp only [Act.put, List.getElem_toArray, List.getElem_cons_zero, List.getElem_cons_succ, List.setIfInBounds_toArray, List.set_cons_zero, List.set_cons_succ])); (refine wpAnyH_take (i := 57) (v := ?_) rfl (by kernel_rfl) (by kernel_rfl) (by kernel_rfl) (fun _ _ _ h => h) (Or.inl ⟨by rfl, ?_⟩) (by assumption) ?_; rotate_left; (focus (intro wS hSw; (try dsimp only at hSw); go_simp; (try with_reducible rfl))); (try simp only [Act.put, List.getElem_toArray, List.getElem_cons_zero, List.getElem_cons_succ, List.setIfInBounds_toArray, List.set_cons_zero, List.set_cons_succ])); (refine wpAnyH_take (i := 58) (v := ?_) rfl (by kernel_rfl) (by kernel_rfl) (by kernel_rfl) (fun _ _ _ h => h) (Or.inl ⟨by rfl, ?_⟩) (by assumption) ?_; rotate_left; (focus (intro wS hSw; (try dsimp only at hSw); go_simp; (try with_reducible rfl))); (try simp only [Act.put, List.getElem_toArray, List.getElem_cons_zero, List.getElem_cons_succ, List.setIfInBounds_toArray, List.set_cons_zero, List.set_cons_succ])); (refine wpAnyH_take (i := 59) (v := ?_) rfl (by kernel_rfl) (by kernel_rfl) (by kernel_rfl) (fun _ _ _ h => h) (Or.inl ⟨by rfl, ?_⟩) (by assumption) ?_; rotate_left; (focus (intro wS hSw; (try dsimp only at hSw); go_simp; (try with_reducible rfl))); (try simp only [Act.put, List.getElem_toArray, List.getElem_cons_zero, List.getElem_cons_succ, List.setIfInBounds_toArray, List.set_cons_zero, List.set_cons_succ])); (refine wpAnyH_take (i := 60) (v := ?_) rfl (by kernel_rfl) (by kernel_rfl) (by kernel_rfl) (fun _ _ _ h => h) (Or.inl ⟨by rfl, ?_⟩) (by assumption) ?_; rotate_left; (focus (intro wS hSw; (try dsimp only at hSw); go_simp; (try with_reducible rfl))); (try simp only [Act.put, List.getElem_toArray, List.getElem_cons_zero, List.getElem_cons_succ, List.setIfInBounds_toArray, List.set_cons_zero, List.set_cons_succ])); (refine wpAnyH_take (i := 61) (v := ?_) rfl (by kernel_rfl) (by kernel_rfl) (by kernel_rfl) (fun _ _ _ h => h) (Or.inl ⟨by rfl, ?_⟩) (by assumption) ?_; rotate_left; (focus (intro wS hSw; (try dsimp only at hSw); go_simp; (try with_reducible rfl))); (try simp only [Act.put, List.getElem_toArray, List.getElem_cons_zero, List.getElem_cons_succ, List.setIfInBounds_toArray, List.set_cons_zero, List.set_cons_succ])); (refine wpAnyH_take (i := 62) (v := ?_) rfl (by kernel_rfl) (by kernel_rfl) (by kernel_rfl) (fun _ _ _ h => h) (Or.inl ⟨by rfl, ?_⟩) (by assumption) ?_; rotate_left; (focus (intro wS hSw; (try dsimp only at hSw); go_simp; (try with_reducible rfl))); (try simp only [Act.put, List.getElem_toArray, List.getElem_cons_zero, List.getElem_cons_succ, List.setIfInBounds_toArray, List.set_cons_zero, List.set_cons_succ])); (refine wpAnyH_take (i := 63) (v := ?_) rfl (by kernel_rfl) (by kernel_rfl) (by kernel_rfl) (fun _ _ _ h => h) (Or.inl ⟨by rfl, ?_⟩) (by assumption) ?_; rotate_left; (focus (intro wS hSw; (try dsimp only at hSw); go_simp; (try with_reducible rfl))); (try simp only [Act.put, List.getElem_toArray, List.getElem_cons_zero, List.getElem_cons_succ, List.setIfInBounds_toArray, List.set_cons_zero, List.set_cons_succ])); (refine wpAnyH_take (i := 64) (v := ?_) rfl (by kernel_rfl) (by kernel_rfl) (by kernel_rfl) (fun _ _ _ h => h) (Or.inl ⟨by rfl, ?_⟩) (by assumption) ?_; rotate_left; (focus (intro wS hSw; (try dsimp only at hSw); go_simp; (try with_reducible rfl))); (try simp only [Act.put, List.getElem_toArray, List.getElem_cons_zero, List.getElem_cons_succ, List.setIfInBounds_toArray, List.set_cons_zero, List.set_cons_succ])))
          (refine wpAnyH_ready (rs := [65]) (by kernel_rfl) (by simp) ?_; refine AllReadyH.cons rfl (fun K hK => ?_) AllReadyH.nil; go_simp)
          go_at_call 15
          refine (HW2.out _ HVA.out.2).mono ?_
          rintro e wn ⟨rfl, hb⟩
          have HBW := Lib.hid (HBW.out.trans (hb.mono HBW.out.size))
          try have HVA := Lib.hid (HVA.out.lift hb)
          try have HVB := Lib.hid (HVB.out.lift hb)
          try have HVC := Lib.hid (HVC.out.lift hb)
          try have HVT := Lib.hid (HVT.out.lift hb)
          try have HVX := Lib.hid (HVX.out.lift hb)
          try have HVM := Lib.hid (HVM.out.lift hb)
          try have HVF := Lib.hid (HVF.out.lift hb)
          try have HVP := Lib.hid (HVP.out.lift hb)
          try have HVQ := Lib.hid (HVQ.out.lift hb)
          try have HLA := Lib.hid (HLA.out.lift hb)
          try have HLW := Lib.hid (HLW.out.lift hb)
          try have HI := Lib.hid (HI.out.lift hb)
          try have HRB := Lib.hid (HRB.out.trans (hb.mono HRB.out.size))
          try have HWW := Lib.hid (HWW.out.trans (hb.mono HWW.out.size))
          clear hb
          clear c0 c1 d0 d1 e0 e1
          obtain ⟨⟨c0, c1, _, _, _⟩, _⟩ := HVA.out
          obtain ⟨⟨d0, d1, _, _, _⟩, _⟩ := HVF.out
          obtain ⟨⟨e0, e1, _, _, _⟩, _⟩ := HVT.out
          go_wp2_with fail
          (refine hK.out _ _ ?_ (fun hHeld2 => ?_); (focus ((try dsimp only); exact ⟨c0, c1, d0, d1, e0, e1⟩)); (clear hK K); (try simp only [Act.put, List.getElem_toArray, List.getElem_cons_zero, List.getElem_cons_succ, List.setIfInBounds_toArray, List.set_cons_zero, List.set_cons_succ]))
          ((refine wpAnyH_take (i := 66) (v := ?_) rfl (by kernel_rfl) (by kernel_rfl) (by kernel_rfl) (fun _ _ _ h => h) (Or.inl ⟨by rfl, ?_⟩) (by assumption) ?_; rotate_left; (focus (intro wS hSw; (try dsimp only at hSw); go_simp; (try with_reducible rfl))); (try simp only [Act.put, List.getElem_toArray, List.getElem_cons_zero, List.getElem_cons_succ, List.setIfInBounds_toArray, List.set_cons_zero, List.set_cons_succ])); (refine wpAnyH_take (i := 67) (v := ?_) rfl (by kernel_rfl) (by kernel_rfl) (by kernel_rfl) (fun _ _ _ h => h) (Or.inl ⟨by rfl, ?_⟩) (by assumption) ?_; rotate_left; (focus (intro wS hSw; (try dsimp only at hSw); go_simp; (try with_reducible rfl))); (try simp only [Act.put, List.getElem_toArray, List.getElem_cons_zero, List.getElem_cons_succ, List.setIfInBounds_toArray, List.set_cons_zero, List.set_cons_succ])); (refine wpAnyH_take (i := 68) (v := ?_) rfl (by kernel_rfl) (by kernel_rfl) (by kernel_rfl) (fun _ _ _ h => h) (Or.inl ⟨by rfl, ?_⟩) (by assumption) ?_; rotate_left; (focus (intro wS hSw; (try dsimp only at hSw); go_simp; (try with_reducible rfl))); (try simp only [Act.put, List.getElem_toArray, List.getElem_cons_zero, List.getElem_cons_succ, List.setIfInBounds_toArray, List.set_cons_zero, List.set_cons_succ])))
          refine wpAnyH_done (by kernel_rfl) ?_ _
          clear c0 c1 d0 d1 e0 e1
          go_wp2_with fail
          go_ret
          exact ⟨rfl, HBW.out⟩

end Go.Proofs.YtlejlcnemibgiaaGreat
