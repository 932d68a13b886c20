/-
  The reference's sameness of beats and its period.
-/
import Derived.Test.YtjoeglekcnaebaaGreatDoorSpcR
namespace Go.Proofs.YtjoeglekcnaebaaGreatDoor
open Go.RowKit
set_option linter.unusedVariables false
set_option linter.unusedSimpArgs false

theorem eqB_no {xs ys : List Int} {i : Nat} (h : xs.getD i 0 ≠ ys.getD i 0) : eqB xs ys = false := by
  unfold eqB
  rw [decide_eq_false_iff_not]
  intro e
  exact h (by rw [e])
theorem eqB_yes {xs ys : List Int} (hl : xs.length = ys.length) (h : ∀ i, i < xs.length → xs.getD i 0 = ys.getD i 0) : eqB xs ys = true := by
  unfold eqB
  rw [decide_eq_true_eq]
  refine List.ext_getElem hl fun i h1 h2 => ?_
  have := h i h1
  rw [List.getD_eq_getElem?_getD, List.getD_eq_getElem?_getD, List.getElem?_eq_getElem h1, List.getElem?_eq_getElem h2] at this
  exact this

set_option maxRecDepth 100000 in
set_option maxHeartbeats 400000 in
theorem spec_l02Same_any (A1 A2 : Option Addr) (c1 c2 : Nat) (xs ys : List Int) (w : World) (B1 B2 : Nat) (h1 : Ints w B1 A1 xs) (h2 : Ints w B2 A2 ys) :
    Calls Tryz.prog 68 #[.slice A1 xs.length c1, .slice A2 ys.length c2] w fun e w' => e = .returned (.bool (eqB xs ys)) ∧ w = w' := by
  have hl1 := h1.1
  have hl2 := h2.1
  unfold maxLen at hl1 hl2
  have HC1 := Lib.hid h1.2.2
  have HC2 := Lib.hid h2.2.2
  clear h1 h2
  by_cases hll : xs.length = ys.length
  · go_enter Tryz.func68, Tryz.ntmps68
    go_wp2
    go_loop [14] (fun s => ∃ k : Nat, k ≤ xs.length ∧ s = .int .i64 k ∧ ∀ j, j < k → xs.getD j 0 = ys.getD j 0) (fun i => xs.length - (intOf i).toNat)
    case atStart => exact ⟨0, Nat.zero_le _, rfl, fun j h => by omega⟩
    case round =>
      obtain ⟨k, hk, rfl, hno⟩ := hrel
      have HNO := Lib.hid hno
      have HLL := Lib.hid hll
      have hk2 : k ≤ ys.length := by omega
      clear hno
      by_cases hlt : k < xs.length
      · have hlt2 : k < ys.length := by omega
        obtain ⟨b1, o1, rfl, _, hc1⟩ := HC1.out (by omega)
        obtain ⟨b2, o2, rfl, _, hc2⟩ := HC2.out (by omega)
        have hcell := hc1 k hlt
        have hcell2 := hc2 k hlt2
        obtain ⟨x, hx⟩ : ∃ x, xs.getD k 0 = x := ⟨_, rfl⟩
        obtain ⟨y, hy⟩ : ∃ y, ys.getD k 0 = y := ⟨_, rfl⟩
        rw [hx] at hcell
        rw [hy] at hcell2
        have HX := Lib.hid hx
        have HY := Lib.hid hy
        clear hx hy hc1 hc2 hll
        by_cases hxy : x = y
        · have hb : (x == y) = true := beq_iff_eq.2 hxy
          have HXY := Lib.hid hxy
          clear hxy
          go_wp2
          go_round
          case rel =>
            refine ⟨k + 1, by omega, by go_num, fun j hj => ?_⟩
            by_cases e : j = k
            · subst e; rw [HX.out, HY.out]; exact HXY.out
            · exact HNO.out j (by omega)
          case measure => simp [intOf]; omega
        · have hb : (x == y) = false := beq_eq_false_iff_ne.2 hxy
          have HF := Lib.hid (eqB_no (xs := xs) (ys := ys) (i := k) (by rw [HX.out, HY.out]; exact hxy))
          clear hxy
          go_wp2
          go_ret
          exact ⟨ret_bool HF.out.symm, rfl⟩
      · have HF := Lib.hid (eqB_yes HLL.out (fun i hi => HNO.out i (by omega)))
        have hlt2 : ¬ k < ys.length := by omega
        clear hll
        go_wp2
        go_ret
        exact ⟨ret_bool HF.out.symm, rfl⟩
  · have HF := Lib.hid (show eqB xs ys = false by unfold eqB; rw [decide_eq_false_iff_not]; intro e; exact hll (by rw [e]))
    go_enter Tryz.func68, Tryz.ntmps68
    go_wp2
    go_ret
    exact ⟨ret_bool HF.out.symm, rfl⟩

set_option maxRecDepth 100000 in
set_option maxHeartbeats 1000000 in
theorem spec_l04Period_any (N : Nat) (A : Option Addr) (cap : Nat) (bs : List Int) (w : World) (hA : Ints w w.heap.size A bs) (hok : RhOk N bs) :
    Calls Tryz.prog 41 #[.agg #[.int .i64 N, .slice A bs.length cap]] w fun e w' => e = .returned (.int .i64 (perV N bs)) ∧ Below w.heap.size w w' := by
  have hn1 : 1 ≤ N := by have := hok.1; omega
  have hn2 : N ≤ 24 := by have := hok.2.1; omega
  have HOK := Lib.hid hok
  have HA := Lib.hid hA
  have HFT := Lib.hid (fun k : Int => show ∀ x ∈ rotL N bs k, Fits x from fun x hx => by
    obtain ⟨t, ht, _, rfl⟩ := rotL_mem.1 hx
    unfold Fits
    omega)
  clear hA hok
  have HW := Lib.hid ((Below.refl w.heap.size w).alloc (Nat.le_refl _) (.cells #[.int .i64 N, .slice A bs.length cap] 27))
  have HG := Lib.hid (Cells2.new w (.int .i64 N) (.slice A bs.length cap) 27)
  go_enter Tryz.func41, Tryz.ntmps41
  go_wp2_with fail
  go_loopw [3] (fun s wr => ∃ k : Nat, 1 ≤ k ∧ k ≤ N ∧ s = .int .i64 k ∧ (∀ j, 1 ≤ j → j < k → perB N bs j = false) ∧ Below (w.heap.size + 1) (w.alloc (.cells #[.int .i64 N, .slice A bs.length cap] 27)) wr) (fun s _ => N - (intOf s).toNat)
  case atStart => exact ⟨1, by omega, hn1, rfl, fun j h1 h2 => by omega, Below.refl _ _⟩
  case round =>
    obtain ⟨k, hk1, hk, rfl, hno, hbel⟩ := hrel
    obtain ⟨wo, rfl⟩ : ∃ wo : World, wo = wr := ⟨_, rfl⟩
    have hws : w.heap.size + 1 ≤ wo.heap.size := by have := hbel.size; simpa using this
    have HNO := Lib.hid hno
    have HBE := Lib.hid hbel
    have HWW := Lib.hid (HW.out.trans (HBE.out.mono (by omega)))
    obtain ⟨c0, c1, _, _, _⟩ := HG.out.below hbel (by simp)
    by_cases hkN : k < N
    · have hma := fun (V : World) (hV : Ints V V.heap.size A bs) => spec_l02Map_any N A cap bs 1 k V hV HOK.out (fun x h1 h2 => by omega) (by omega)
      rw [rotL_of HOK.out] at hma
      have HRO := Lib.hid hma
      have HEQ := Lib.hid (fun (A2 : Option Addr) (c2 : Nat) (V : World) (h1 : Ints V V.heap.size A2 (rotL N bs k)) (h2 : Ints V V.heap.size A bs) => spec_l02Same_any A2 A c2 cap (rotL N bs k) bs V _ _ h1 h2)
      have HF2 := Lib.hid (HFT.out k)
      clear hno hbel hma
      obtain ⟨r, hr⟩ : ∃ r, perB N bs k = r := ⟨_, rfl⟩
      have HR := Lib.hid hr
      rw [show eqB (rotL N bs k) bs = r from hr] at HEQ
      generalize rotL N bs k = L at HRO HEQ HF2
      clear hr
      cases r
      all_goals
        go_wp2_with fail
        (refine wp_region_held_drew (S := (fun w' => w'.cell? ⟨w.heap.size, 0, none⟩ = some (.int .i64 N) ∧ w'.cell? ⟨w.heap.size, 1, none⟩ = some (.slice A bs.length cap))) (by kernel_rfl) ?_ (fun hHeld => ?_); (focus ((try dsimp only); exact ⟨c0, c1⟩)))
        (refine wpAnyH_take (i := 0) (v := ?_) rfl (by kernel_rfl) (by kernel_rfl) (by kernel_rfl) (fun _ _ _ h => h) (Or.inl ⟨by rfl, ?_⟩) (by assumption) ?_; rotate_left; (focus (intro wS hSw; (try dsimp only at hSw); go_simp; (try with_reducible rfl))); (try simp only [Act.put, List.getElem_toArray, List.getElem_cons_zero, List.getElem_cons_succ, List.setIfInBounds_toArray, List.set_cons_zero, List.set_cons_succ]))
        (refine wpAnyH_take (i := 1) (v := ?_) rfl (by kernel_rfl) (by kernel_rfl) (by kernel_rfl) (fun _ _ _ h => h) (Or.inl ⟨by rfl, ?_⟩) (by assumption) ?_; rotate_left; (focus (intro wS hSw; (try dsimp only at hSw); go_simp; (try with_reducible rfl))); (try simp only [Act.put, List.getElem_toArray, List.getElem_cons_zero, List.getElem_cons_succ, List.setIfInBounds_toArray, List.set_cons_zero, List.set_cons_succ]))
        (refine wpAnyH_take (i := 4) (v := ?_) rfl (by kernel_rfl) (by kernel_rfl) (by kernel_rfl) (fun _ _ _ h => h) (Or.inl ⟨by rfl, ?_⟩) (by assumption) ?_; rotate_left; (focus (intro wS hSw; (try dsimp only at hSw); go_simp; (try with_reducible rfl))); (try simp only [Act.put, List.getElem_toArray, List.getElem_cons_zero, List.getElem_cons_succ, List.setIfInBounds_toArray, List.set_cons_zero, List.set_cons_succ]))
        (refine wpAnyH_take (i := 5) (v := ?_) rfl (by kernel_rfl) (by kernel_rfl) (by kernel_rfl) (fun _ _ _ h => h) (Or.inl ⟨by rfl, ?_⟩) (by assumption) ?_; rotate_left; (focus (intro wS hSw; (try dsimp only at hSw); go_simp; (try with_reducible rfl))); (try simp only [Act.put, List.getElem_toArray, List.getElem_cons_zero, List.getElem_cons_succ, List.setIfInBounds_toArray, List.set_cons_zero, List.set_cons_succ]))
        (refine wpAnyH_ready (rs := [2]) (by kernel_rfl) (by simp) ?_; refine AllReadyH.cons rfl (fun K hK => ?_) AllReadyH.nil; go_simp)
        go_at_call 36
        refine (HRO.out _ (HA.out.lift HWW.out).drew4_).mono ?_
        rintro e w1 ⟨A2, c2, rfl, hrw, hb1⟩
        have hz1 : wo.heap.size ≤ w1.heap.size := hb1.size
        have HI1 := Lib.hid (hrw.ints HF2.out)
        have HB1 := Lib.hid (show Below wo.heap.size wo.drew w1 from hb1)
        have HWX := Lib.hid ((Below.drew4_ HWW.out).trans (HB1.out.mono (Nat.le_trans (Nat.le_succ _) hws)))
        clear hrw hb1
        go_wp2_with fail
        have hcc := (bcellB HB1.out).1
        have d0 := (hcc w.heap.size 0 (by omega)).trans c0
        have d1 := (hcc w.heap.size 1 (by omega)).trans c1
        clear hcc c0 c1
        (refine hK.out _ _ ?_ (fun hHeld2 => ?_); (focus ((try dsimp only); exact ⟨d0, d1⟩)); (clear hK K); (try simp only [Act.put, List.getElem_toArray, List.getElem_cons_zero, List.getElem_cons_succ, List.setIfInBounds_toArray, List.set_cons_zero, List.set_cons_succ]))
        have hfd : ∀ V : World, (Instr.field 27 (.agg #[.int .i64 N, .slice A2 L.length c2]) 1).run Tryz.prog V = .ok (.slice A2 L.length c2) V := fun _ => by kernel_rfl
        (refine wpAnyH_take (i := 3) (v := ?_) rfl (by kernel_rfl) (by kernel_rfl) (by kernel_rfl) (fun _ _ _ h => h) (Or.inl ⟨by rfl, ?_⟩) (by assumption) ?_; rotate_left; (focus (intro wS hSw; (try dsimp only at hSw); go_simp; (try with_reducible rfl))); (try simp only [Act.put, List.getElem_toArray, List.getElem_cons_zero, List.getElem_cons_succ, List.setIfInBounds_toArray, List.set_cons_zero, List.set_cons_succ]))
        clear hfd
        (refine wpAnyH_ready (rs := [6]) (by kernel_rfl) (by simp) ?_; refine AllReadyH.cons rfl (fun K hK => ?_) AllReadyH.nil; go_simp)
        go_at_call 68
        refine (HEQ.out A2 c2 _ HI1.out (HA.out.lift HWX.out)).mono ?_
        rintro e w2 ⟨rfl, rfl⟩
        have HBY := Lib.hid ((Below.drew4_ HBE.out).trans (HB1.out.mono hws))
        go_wp2_with fail
        (refine hK.out _ _ ?_ (fun hHeld2 => ?_); (focus ((try dsimp only); exact ⟨d0, d1⟩)); (clear hK K); (try simp only [Act.put, List.getElem_toArray, List.getElem_cons_zero, List.getElem_cons_succ, List.setIfInBounds_toArray, List.set_cons_zero, List.set_cons_succ]))
        refine wpAnyH_done (by kernel_rfl) ?_ _
      · go_wp2_with fail
        go_roundw
        case rel =>
          refine ⟨k + 1, by omega, by omega, by go_num, fun j h1 h2 => ?_, HBY.out⟩
          by_cases e : j = k
          · subst e; exact HR.out
          · exact HNO.out j h1 (by omega)
        case measure => simp [intOf]; omega
      · have HP := Lib.hid (perV_unique HOK.out hk1 HR.out HNO.out)
        go_wp2_with fail
        go_ret
        exact ⟨ret_int (by rw [HP.out]), HW.out.trans (HBY.out.mono (by omega))⟩
    · have hke : k = N := by omega
      have HP := Lib.hid (perV_unique HOK.out hn1 (perB_all HOK.out) (hke ▸ HNO.out))
      subst hke
      clear hno hbel
      go_wp2_with fail
      go_ret
      exact ⟨ret_int (by rw [HP.out]), HWW.out⟩

end Go.Proofs.YtjoeglekcnaebaaGreatDoor
