/-
  The law FnExactLeastWindow: LeastWindow of both; the walk.
-/
import Derived.Test.YtlejlcnemibgiaaGreatWzC
import Derived.Test.YtlejlcnemibgiaaGreatSpcP
import Derived.Test.YtlejlcnemibgiaaGreatWdws
import Derived.Test.YtlejlcnemibgiaaGreatRlaw
namespace Go.Proofs.YtlejlcnemibgiaaGreat
open Go.RowKit
set_option linter.unusedVariables false
set_option linter.unusedSimpArgs false

/-- The first number from k on that p holds of, within f steps. -/
def srch (p : Nat → Bool) : Nat → Nat → Nat
  | 0, k => k
  | f + 1, k => if p k then k else srch p f (k + 1)
theorem srch_unique (p : Nat → Bool) : ∀ (f k0 k : Nat), k0 ≤ k → k ≤ k0 + f → p k = true → (∀ j, k0 ≤ j → j < k → p j = false) → srch p f k0 = k
  | 0, k0, k, h1, h2, _, _ => by show k0 = k; omega
  | f + 1, k0, k, h1, h2, hp, hno => by
    unfold srch
    by_cases e : k0 = k
    · subst e; rw [if_pos hp]
    · rw [hno k0 (Nat.le_refl _) (by omega), if_neg (by simp)]
      exact srch_unique p f (k0 + 1) k (by omega) (by omega) hp (fun j a b => hno j (by omega) b)

def lwB (N : Nat) (bs : List Int) (k : Nat) : Bool := decide (perV N bs ≤ (allD N bs k N).length)
theorem lwB_yes {N : Nat} {bs : List Int} {k : Nat} (h : ¬ (allD N bs k N).length < perV N bs) : lwB N bs k = true := by unfold lwB; rw [decide_eq_true_eq]; omega
theorem lwB_no {N : Nat} {bs : List Int} {k : Nat} (h : (allD N bs k N).length < perV N bs) : lwB N bs k = false := by unfold lwB; rw [decide_eq_false_iff_not]; omega
noncomputable def lwV (n : Int) (bs : List Int) : Int := if rhB n bs = true then srch (lwB n.toNat bs) n.toNat 0 else -1
theorem lwV_bad {n : Int} {bs : List Int} (h : rhB n bs = false) : lwV n bs = -1 := by unfold lwV; rw [h]; rfl
theorem lwV_is {N : Nat} {bs : List Int} (h : RhOk N bs) {k : Nat} (hk : k ≤ N) (hp : lwB N bs k = true) (hno : ∀ j, j < k → lwB N bs j = false) : lwV N bs = k := by
  unfold lwV
  rw [if_pos (rhB_iff.2 h), Int.toNat_natCast, srch_unique (lwB N bs) N 0 k (by omega) (by omega) hp (fun j _ b => hno j b)]

set_option maxRecDepth 100000 in
set_option maxHeartbeats 2000000 in
theorem impl_LeastWindow_ok (N : Nat) (A : Option Addr) (cap : Nat) (bs : List Int) (w : World) (hA : Ints w w.heap.size A bs) (hok : RhOk N bs) :
    Calls Tryz.prog 12 #[.agg #[.int .i64 N, .slice A bs.length cap]] w fun e w' => e = .returned (.int .i64 (lwV N bs)) ∧ Below w.heap.size w w' := by
  have hn1 : 1 ≤ N := by have := hok.1; omega
  have hn2 : N ≤ 24 := by have := hok.2.1; omega
  have HOK := Lib.hid hok
  have HA := Lib.hid hA
  have hro := fun (V : World) (hV : Ints V V.heap.size A bs) => impl_RhythmOk_any N A cap bs V (by unfold Fits; omega) hV
  rw [rhB_iff.2 hok] at hro
  have HRO := Lib.hid hro
  clear hA hok hro
  have HW := Lib.hid ((Below.refl w.heap.size w).alloc (Nat.le_refl _) (.cells #[.int .i64 N, .slice A bs.length cap] 25))
  have HG := Lib.hid (Cells2.new w (.int .i64 N) (.slice A bs.length cap) 25)
  obtain ⟨g0, g1, _, _, _⟩ := HG.out
  go_enter Tryz.func12, Tryz.ntmps12
  go_wp2_with fail
  clear g0 g1
  refine (HRO.out _ (HA.out.lift HW.out)).mono ?_
  rintro e w1 ⟨rfl, hb0⟩
  have hwz : w.heap.size + 1 ≤ w1.heap.size := by have := hb0.size; simpa using this
  have HB0 := Lib.hid (show Below (w.heap.size + 1) (w.alloc (.cells #[.int .i64 N, .slice A bs.length cap] 25)) w1 from hb0.mono (by simp))
  clear hb0
  go_wp2_with fail
  go_loopw [3] (fun s wr => ∃ k : Nat, k ≤ N ∧ s = .int .i64 k ∧ (∀ j, j < k → lwB N bs j = false) ∧ Below (w.heap.size + 1) (w.alloc (.cells #[.int .i64 N, .slice A bs.length cap] 25)) wr) (fun s _ => N - (intOf s).toNat)
  case atStart => exact ⟨0, Nat.zero_le _, rfl, fun j h => by omega, HB0.out⟩
  case round =>
    obtain ⟨k, hk, rfl, hno, hbel⟩ := hrel
    obtain ⟨wo, rfl⟩ : ∃ wo : World, wo = wr := ⟨_, rfl⟩
    have hws : w.heap.size + 1 ≤ wo.heap.size := by have := hbel.size; simpa using this
    have HNO := Lib.hid hno
    have HBE := Lib.hid hbel
    have HWW := Lib.hid (HW.out.trans (HBE.out.mono (by omega)))
    obtain ⟨c0, c1, _, _, _⟩ := HG.out.below hbel (by simp)
    have hwd := fun (V : World) (hV : Ints V V.heap.size A bs) => impl_windows_any N A cap bs k V hV HOK.out (by omega)
    have HPD := Lib.hid (fun (V : World) (hV : Ints V V.heap.size A bs) => impl_period_any N A cap bs V hV HOK.out)
    have hll := allD_len (N : Int) bs k N
    have HYES := Lib.hid (lwB_yes (N := N) (bs := bs) (k := k))
    have HNOT := Lib.hid (lwB_no (N := N) (bs := bs) (k := k))
    have HPER := Lib.hid (allD_per HOK.out)
    have HK := Lib.hid (show k = N → (allD N bs k N).length = (allD N bs N N).length from fun e => by rw [e])
    have hpv := (perV_is HOK.out).2.1
    generalize perV N bs = PV at HPD HYES HNOT HPER hpv
    generalize (allD N bs N N).length = LN at HPER HK
    generalize allD N bs k N = L at hwd hll HYES HNOT HK
    have HWD := Lib.hid hwd
    clear hwd hno hbel
    by_cases hlt : L.length < PV
    · have HNEW := Lib.hid (HNOT.out hlt)
      have hkN : k < N := by
        apply Classical.byContradiction
        intro hh
        have h1 := HK.out (by omega)
        have h2 := HPER.out
        omega
      clear HYES HNOT
      go_wp2_with fail
      (refine wp_region_held_drew (S := (fun w' => w'.cell? ⟨w.heap.size, 0, none⟩ = some (.int .i64 N) ∧ w'.cell? ⟨w.heap.size, 1, none⟩ = some (.slice A bs.length cap))) (by kernel_rfl) ?_ (fun hHeld => ?_); (focus ((try dsimp only); exact ⟨c0, c1⟩)))
      (refine wpAnyH_take (i := 0) (v := ?_) rfl (by kernel_rfl) (by kernel_rfl) (by kernel_rfl) (fun _ _ _ h => h) (Or.inl ⟨by rfl, ?_⟩) (by assumption) ?_; rotate_left; (focus (intro wS hSw; (try dsimp only at hSw); go_simp; (try with_reducible rfl))); (try simp only [Act.put, List.getElem_toArray, List.getElem_cons_zero, List.getElem_cons_succ, List.setIfInBounds_toArray, List.set_cons_zero, List.set_cons_succ]))
      (refine wpAnyH_take (i := 1) (v := ?_) rfl (by kernel_rfl) (by kernel_rfl) (by kernel_rfl) (fun _ _ _ h => h) (Or.inl ⟨by rfl, ?_⟩) (by assumption) ?_; rotate_left; (focus (intro wS hSw; (try dsimp only at hSw); go_simp; (try with_reducible rfl))); (try simp only [Act.put, List.getElem_toArray, List.getElem_cons_zero, List.getElem_cons_succ, List.setIfInBounds_toArray, List.set_cons_zero, List.set_cons_succ]))
      (refine wpAnyH_take (i := 4) (v := ?_) rfl (by kernel_rfl) (by kernel_rfl) (by kernel_rfl) (fun _ _ _ h => h) (Or.inl ⟨by rfl, ?_⟩) (by assumption) ?_; rotate_left; (focus (intro wS hSw; (try dsimp only at hSw); go_simp; (try with_reducible rfl))); (try simp only [Act.put, List.getElem_toArray, List.getElem_cons_zero, List.getElem_cons_succ, List.setIfInBounds_toArray, List.set_cons_zero, List.set_cons_succ]))
      (refine wpAnyH_ready (rs := [2]) (by kernel_rfl) (by simp) ?_; refine AllReadyH.cons rfl (fun K hK => ?_) AllReadyH.nil; go_simp)
      go_at_call 27
      refine (HWD.out _ (HA.out.lift HWW.out).drew4_).mono ?_
      rintro e w2 ⟨v, rfl, hown, hb1⟩
      obtain ⟨A2, c2, rfl, _⟩ := hown.form
      have hz1 : wo.heap.size ≤ w2.heap.size := hb1.size
      have HB1 := Lib.hid (show Below wo.heap.size wo.drew w2 from hb1)
      have HWX := Lib.hid ((Below.drew4_ HWW.out).trans (HB1.out.mono (Nat.le_trans (Nat.le_succ _) hws)))
      clear hown hb1
      go_wp2_with fail
      have hcc := (bcellB HB1.out).1
      have d0 := (hcc w.heap.size 0 (by omega)).trans c0
      have d1 := (hcc w.heap.size 1 (by omega)).trans c1
      clear hcc c0 c1
      (refine hK.out _ _ ?_ (fun hHeld2 => ?_); (focus ((try dsimp only); exact ⟨d0, d1⟩)); (clear hK K); (try simp only [Act.put, List.getElem_toArray, List.getElem_cons_zero, List.getElem_cons_succ, List.setIfInBounds_toArray, List.set_cons_zero, List.set_cons_succ]))
      (refine wpAnyH_take (i := 3) (v := ?_) rfl (by kernel_rfl) (by kernel_rfl) (by kernel_rfl) (fun _ _ _ h => h) (Or.inl ⟨by rfl, ?_⟩) (by assumption) ?_; rotate_left; (focus (intro wS hSw; (try dsimp only at hSw); go_simp; (try with_reducible rfl))); (try simp only [Act.put, List.getElem_toArray, List.getElem_cons_zero, List.getElem_cons_succ, List.setIfInBounds_toArray, List.set_cons_zero, List.set_cons_succ]))
      (refine wpAnyH_ready (rs := [5]) (by kernel_rfl) (by simp) ?_; refine AllReadyH.cons rfl (fun K hK => ?_) AllReadyH.nil; go_simp)
      go_at_call 25
      refine (HPD.out _ (HA.out.lift HWX.out)).mono ?_
      rintro e w3 ⟨rfl, hb2⟩
      have hcc2 := (bcellB hb2).1
      have e0 := (hcc2 w.heap.size 0 (by omega)).trans d0
      have e1 := (hcc2 w.heap.size 1 (by omega)).trans d1
      have HBY := Lib.hid (((Below.drew4_ HBE.out).trans (HB1.out.mono hws)).trans (hb2.mono (Nat.le_trans hws hz1)))
      clear hb2 hcc2 d0 d1
      go_wp2_with fail
      (refine hK.out _ _ ?_ (fun hHeld2 => ?_); (focus ((try dsimp only); exact ⟨e0, e1⟩)); (clear hK K); (try simp only [Act.put, List.getElem_toArray, List.getElem_cons_zero, List.getElem_cons_succ, List.setIfInBounds_toArray, List.set_cons_zero, List.set_cons_succ]))
      (refine wpAnyH_take (i := 6) (v := ?_) rfl (by kernel_rfl) (by kernel_rfl) (by kernel_rfl) (fun _ _ _ h => h) (Or.inl ⟨by rfl, ?_⟩) (by assumption) ?_; rotate_left; (focus (intro wS hSw; (try dsimp only at hSw); go_simp; (try with_reducible rfl))); (try simp only [Act.put, List.getElem_toArray, List.getElem_cons_zero, List.getElem_cons_succ, List.setIfInBounds_toArray, List.set_cons_zero, List.set_cons_succ]))
      refine wpAnyH_done (by kernel_rfl) ?_ _
      go_wp2_with fail
      go_roundw
      case rel =>
        refine ⟨k + 1, by omega, by go_num, fun j h2 => ?_, HBY.out⟩
        by_cases e : j = k
        · subst e; exact HNEW.out
        · exact HNO.out j (by omega)
      case measure => simp [intOf]; omega
    · have HP := Lib.hid (lwV_is HOK.out hk (HYES.out hlt) HNO.out)
      clear HYES HNOT
      go_wp2_with fail
      (refine wp_region_held_drew (S := (fun w' => w'.cell? ⟨w.heap.size, 0, none⟩ = some (.int .i64 N) ∧ w'.cell? ⟨w.heap.size, 1, none⟩ = some (.slice A bs.length cap))) (by kernel_rfl) ?_ (fun hHeld => ?_); (focus ((try dsimp only); exact ⟨c0, c1⟩)))
      (refine wpAnyH_take (i := 0) (v := ?_) rfl (by kernel_rfl) (by kernel_rfl) (by kernel_rfl) (fun _ _ _ h => h) (Or.inl ⟨by rfl, ?_⟩) (by assumption) ?_; rotate_left; (focus (intro wS hSw; (try dsimp only at hSw); go_simp; (try with_reducible rfl))); (try simp only [Act.put, List.getElem_toArray, List.getElem_cons_zero, List.getElem_cons_succ, List.setIfInBounds_toArray, List.set_cons_zero, List.set_cons_succ]))
      (refine wpAnyH_take (i := 1) (v := ?_) rfl (by kernel_rfl) (by kernel_rfl) (by kernel_rfl) (fun _ _ _ h => h) (Or.inl ⟨by rfl, ?_⟩) (by assumption) ?_; rotate_left; (focus (intro wS hSw; (try dsimp only at hSw); go_simp; (try with_reducible rfl))); (try simp only [Act.put, List.getElem_toArray, List.getElem_cons_zero, List.getElem_cons_succ, List.setIfInBounds_toArray, List.set_cons_zero, List.set_cons_succ]))
      (refine wpAnyH_take (i := 4) (v := ?_) rfl (by kernel_rfl) (by kernel_rfl) (by kernel_rfl) (fun _ _ _ h => h) (Or.inl ⟨by rfl, ?_⟩) (by assumption) ?_; rotate_left; (focus (intro wS hSw; (try dsimp only at hSw); go_simp; (try with_reducible rfl))); (try simp only [Act.put, List.getElem_toArray, List.getElem_cons_zero, List.getElem_cons_succ, List.setIfInBounds_toArray, List.set_cons_zero, List.set_cons_succ]))
      (refine wpAnyH_ready (rs := [2]) (by kernel_rfl) (by simp) ?_; refine AllReadyH.cons rfl (fun K hK => ?_) AllReadyH.nil; go_simp)
      go_at_call 27
      refine (HWD.out _ (HA.out.lift HWW.out).drew4_).mono ?_
      rintro e w2 ⟨v, rfl, hown, hb1⟩
      obtain ⟨A2, c2, rfl, _⟩ := hown.form
      have hz1 : wo.heap.size ≤ w2.heap.size := hb1.size
      have HB1 := Lib.hid (show Below wo.heap.size wo.drew w2 from hb1)
      have HWX := Lib.hid ((Below.drew4_ HWW.out).trans (HB1.out.mono (Nat.le_trans (Nat.le_succ _) hws)))
      clear hown hb1
      go_wp2_with fail
      have hcc := (bcellB HB1.out).1
      have d0 := (hcc w.heap.size 0 (by omega)).trans c0
      have d1 := (hcc w.heap.size 1 (by omega)).trans c1
      clear hcc c0 c1
      (refine hK.out _ _ ?_ (fun hHeld2 => ?_); (focus ((try dsimp only); exact ⟨d0, d1⟩)); (clear hK K); (try simp only [Act.put, List.getElem_toArray, List.getElem_cons_zero, List.getElem_cons_succ, List.setIfInBounds_toArray, List.set_cons_zero, List.set_cons_succ]))
      (refine wpAnyH_take (i := 3) (v := ?_) rfl (by kernel_rfl) (by kernel_rfl) (by kernel_rfl) (fun _ _ _ h => h) (Or.inl ⟨by rfl, ?_⟩) (by assumption) ?_; rotate_left; (focus (intro wS hSw; (try dsimp only at hSw); go_simp; (try with_reducible rfl))); (try simp only [Act.put, List.getElem_toArray, List.getElem_cons_zero, List.getElem_cons_succ, List.setIfInBounds_toArray, List.set_cons_zero, List.set_cons_succ]))
      (refine wpAnyH_ready (rs := [5]) (by kernel_rfl) (by simp) ?_; refine AllReadyH.cons rfl (fun K hK => ?_) AllReadyH.nil; go_simp)
      go_at_call 25
      refine (HPD.out _ (HA.out.lift HWX.out)).mono ?_
      rintro e w3 ⟨rfl, hb2⟩
      have hcc2 := (bcellB hb2).1
      have e0 := (hcc2 w.heap.size 0 (by omega)).trans d0
      have e1 := (hcc2 w.heap.size 1 (by omega)).trans d1
      have HBY := Lib.hid (((Below.drew4_ HBE.out).trans (HB1.out.mono hws)).trans (hb2.mono (Nat.le_trans hws hz1)))
      clear hb2 hcc2 d0 d1
      go_wp2_with fail
      (refine hK.out _ _ ?_ (fun hHeld2 => ?_); (focus ((try dsimp only); exact ⟨e0, e1⟩)); (clear hK K); (try simp only [Act.put, List.getElem_toArray, List.getElem_cons_zero, List.getElem_cons_succ, List.setIfInBounds_toArray, List.set_cons_zero, List.set_cons_succ]))
      (refine wpAnyH_take (i := 6) (v := ?_) rfl (by kernel_rfl) (by kernel_rfl) (by kernel_rfl) (fun _ _ _ h => h) (Or.inl ⟨by rfl, ?_⟩) (by assumption) ?_; rotate_left; (focus (intro wS hSw; (try dsimp only at hSw); go_simp; (try with_reducible rfl))); (try simp only [Act.put, List.getElem_toArray, List.getElem_cons_zero, List.getElem_cons_succ, List.setIfInBounds_toArray, List.set_cons_zero, List.set_cons_succ]))
      refine wpAnyH_done (by kernel_rfl) ?_ _
      go_wp2_with fail
      go_ret
      exact ⟨ret_int HP.out.symm, HW.out.trans (HBY.out.mono (by omega))⟩

set_option maxRecDepth 100000 in
set_option maxHeartbeats 400000 in
theorem impl_LeastWindow_any (n : Int) (A : Option Addr) (cap : Nat) (bs : List Int) (w : World) (hn : Fits n) (hA : Ints w w.heap.size A bs) :
    Calls Tryz.prog 12 #[.agg #[.int .i64 n, .slice A bs.length cap]] w fun e w' => e = .returned (.int .i64 (lwV n bs)) ∧ Below w.heap.size w w' := by
  cases h : rhB n bs
  · rw [lwV_bad h]
    have hro := fun (V : World) (hV : Ints V V.heap.size A bs) => impl_RhythmOk_any n A cap bs V hn hV
    rw [h] at hro
    have HRO := Lib.hid hro
    have HA := Lib.hid hA
    clear hA hro
    go_enter Tryz.func12, Tryz.ntmps12
    go_wp2_with fail
    refine (HRO.out _ (HA.out.lift (by repeat (first | exact Below.refl _ _ | assumption | (refine Below.alloc ?_ (by first | exact Nat.le_refl _ | (simp; done) | (simp; omega) | omega) _) | (refine Below.drew ?_) | (refine Below.setCell ?_ (by first | exact Nat.le_refl _ | (simp; done) | (simp; omega) | omega) _))))).mono ?_
    rintro e w1 ⟨rfl, hb⟩
    go_wp2_with fail
    go_ret
    exact ⟨rfl, ((Below.refl w.heap.size w).alloc (Nat.le_refl _) _).trans (hb.mono (by first | exact Nat.le_refl _ | (simp; done) | (simp; omega) | omega))⟩
  · have hok := rhB_iff.1 h
    obtain ⟨N, rfl⟩ := Int.eq_ofNat_of_zero_le (show 0 ≤ n by have := hok.1; omega)
    exact impl_LeastWindow_ok N A cap bs w hA hok

end Go.Proofs.YtlejlcnemibgiaaGreat
