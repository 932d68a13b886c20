/-
  slices.Equal on ints; equals and period of the program.
-/
import Derived.Test.YtcolbkgceaboaabGreatDoorTurn
import Derived.Test.YtcolbkgceaboaabGreatDoorRok
namespace Go.Proofs.YtcolbkgceaboaabGreatDoor
open Go.RowKit Go.Shelf
set_option linter.unusedVariables false
set_option linter.unusedSimpArgs false

theorem Ints.drew3_ {w : World} {B : Nat} {A : Option Addr} {xs : List Int} (h : Ints w B A xs) : Ints w.drew B A xs := h
theorem Below.drew3_ {B : Nat} {a w : World} (h : Below B a w) : Below B a w.drew := ⟨h.os, h.tape, h.output, h.size, h.block⟩
theorem Below.drewL3_ {B : Nat} {a w : World} (h : Below B a w) : Below B a.drew w := ⟨h.os, h.tape, h.output, h.size, h.block⟩
theorem RW.drewN3_ {w : World} {base : Nat} {A : Option Addr} {xs : List Int} (h : RW w base A xs) : RW w.drew base A xs := h

theorem slices_Equal_any (A1 A2 : Option Addr) (c1 c2 : Nat) (xs ys : List Int) (w : World) (B1 B2 : Nat) (h1 : Ints w B1 A1 xs) (h2 : Ints w B2 A2 ys) :
    Calls Tryz.prog 66 #[.slice A1 xs.length c1, .slice A2 ys.length c2] w fun e w' => e = .returned (.bool (eqB xs ys)) ∧ ∃ q, w' = w.drewN q := by
  have hl1 := h1.1
  have hl2 := h2.1
  unfold maxLen at hl1 hl2
  by_cases hx : xs.length = ys.length
  · by_cases hp : 0 < xs.length
    · obtain ⟨b1, o1, rfl, _, _⟩ := h1.2.2 hp
      obtain ⟨b2, o2, rfl, _, _⟩ := h2.2.2 (by omega)
      refine (Any.slices_Equal_int Tryz.lays111 b1 o1 xs.length c1 b2 o2 ys.length c2 xs ys w (Nat.le_refl _) (Nat.le_refl _) (by omega) (by omega) (ints_cellsC h1) (ints_cellsC h2)).mono ?_
      rintro e w' ⟨rfl, q, rfl⟩
      rw [List.take_length, List.take_length]
      refine ⟨ret_bool ?_, q, rfl⟩
      unfold eqB
      rw [Bool.eq_iff_iff, beq_iff_eq, decide_eq_true_eq]
    · have e1 : xs = [] := List.eq_nil_of_length_eq_zero (by omega)
      have e2 : ys = [] := List.eq_nil_of_length_eq_zero (by omega)
      subst e1 e2
      refine (Any.slices_Equal_int_empty Tryz.lays111 A1 A2 c1 0 c2 w (by omega)).mono ?_
      rintro e w' ⟨rfl, rfl⟩
      exact ⟨rfl, 0, rfl⟩
  · refine (Any.slices_Equal_int_lens Tryz.lays111 A1 A2 xs.length c1 ys.length c2 w hx).mono ?_
    rintro e w' ⟨rfl, rfl⟩
    refine ⟨ret_bool ?_, 0, rfl⟩
    unfold eqB
    rw [eq_comm, decide_eq_false_iff_not]
    intro h
    exact hx (by rw [h])

set_option maxRecDepth 100000 in
set_option maxHeartbeats 400000 in
theorem impl_equals_any (n : Int) (A1 A2 : Option Addr) (c1 c2 : Nat) (xs ys : List Int) (w : World) (h1 : Ints w w.heap.size A1 xs) (h2 : Ints w w.heap.size A2 ys) :
    Calls Tryz.prog 50 #[.agg #[.int .i64 n, .slice A1 xs.length c1], .agg #[.int .i64 n, .slice A2 ys.length c2]] w fun e w' => e = .returned (.bool (eqB xs ys)) ∧ Below w.heap.size w w' := by
  have hW0 := ((Below.refl w.heap.size w).alloc (Nat.le_refl _) (.cells #[.int .i64 n, .slice A1 xs.length c1] 25)).alloc (by first | exact Nat.le_refl _ | (simp; done) | (simp; omega) | omega) (.cells #[.int .i64 n, .slice A2 ys.length c2] 25)
  have HW := Lib.hid hW0
  have HEQ := Lib.hid (fun (V : World) (hV : Below w.heap.size w V) => slices_Equal_any A1 A2 c1 c2 xs ys V w.heap.size w.heap.size (h1.below hV) (h2.below hV))
  obtain ⟨g0, g1, _, _, _⟩ := ((Cells2.new w (.int .i64 n) (.slice A1 xs.length c1) 25).alloc (.cells #[.int .i64 n, .slice A2 ys.length c2] 25))
  obtain ⟨k0, k1, _, _, _⟩ := (Cells2.new (w.alloc (.cells #[.int .i64 n, .slice A1 xs.length c1] 25)) (.int .i64 n) (.slice A2 ys.length c2) 25)
  simp only [World.size_alloc] at k0 k1
  have hnn : (n == n) = true := by simp
  generalize eqB xs ys = b at HEQ ⊢
  clear h1 h2 hW0
  go_enter Tryz.func50, Tryz.ntmps50
  go_wp2_with (go_at_call 66; refine (HEQ.out _ HW.out).mono ?_; rintro e w' ⟨rfl, q, rfl⟩)
  go_ret
  exact ⟨rfl, Below.drewN_ HW.out q⟩

set_option maxRecDepth 100000 in
set_option maxHeartbeats 1000000 in
theorem impl_period_any (N : Nat) (A : Option Addr) (cap : Nat) (bs : List Int) (w : World) (hA : Ints w w.heap.size A bs) (hok : RhOk N bs) :
    Calls Tryz.prog 31 #[.agg #[.int .i64 N, .slice A bs.length cap]] w fun e w' => e = .returned (.int .i64 (perV N bs)) ∧ Below w.heap.size w w' := by
  have hn1 : 1 ≤ N := by have := hok.1; omega
  have hn2 : N ≤ 24 := by have := hok.2.1; omega
  have HOK := Lib.hid hok
  have HA := Lib.hid hA
  have HFT := Lib.hid (fun k : Int => show ∀ x ∈ rotL N bs k, Fits x from fun x hx => by
    obtain ⟨t, ht, _, rfl⟩ := rotL_mem.1 hx
    unfold Fits
    omega)
  clear hA hok
  have HW := Lib.hid ((Below.refl w.heap.size w).alloc (Nat.le_refl _) (.cells #[.int .i64 N, .slice A bs.length cap] 25))
  have HG := Lib.hid (Cells2.new w (.int .i64 N) (.slice A bs.length cap) 25)
  go_enter Tryz.func31, Tryz.ntmps31
  go_wp2_with fail
  go_loopw [3] (fun s wr => ∃ k : Nat, 1 ≤ k ∧ k ≤ N ∧ s = .int .i64 k ∧ (∀ j, 1 ≤ j → j < k → perB N bs j = false) ∧ Below (w.heap.size + 1) (w.alloc (.cells #[.int .i64 N, .slice A bs.length cap] 25)) wr) (fun s _ => N - (intOf s).toNat)
  case atStart => exact ⟨1, by omega, hn1, rfl, fun j h1 h2 => by omega, Below.refl _ _⟩
  case round =>
    obtain ⟨k, hk1, hk, rfl, hno, hbel⟩ := hrel
    obtain ⟨wo, rfl⟩ : ∃ wo : World, wo = wr := ⟨_, rfl⟩
    have hws : w.heap.size + 1 ≤ wo.heap.size := by have := hbel.size; simpa using this
    have HNO := Lib.hid hno
    have HBE := Lib.hid hbel
    have HWW := Lib.hid (HW.out.trans (HBE.out.mono (by omega)))
    obtain ⟨c0, c1, _, _, _⟩ := HG.out.below hbel (by simp)
    have HRO := Lib.hid (fun (V : World) (hV : Ints V V.heap.size A bs) => impl_rotated_any N A cap bs k V hV HOK.out (by omega))
    have HEQ := Lib.hid (fun (A2 : Option Addr) (c2 : Nat) (V : World) (h1 : Ints V V.heap.size A2 (rotL N bs k)) (h2 : Ints V V.heap.size A bs) => impl_equals_any N A2 A c2 cap (rotL N bs k) bs V h1 h2)
    have HF2 := Lib.hid (HFT.out k)
    clear hno hbel
    obtain ⟨r, hr⟩ : ∃ r, perB N bs k = r := ⟨_, rfl⟩
    have HR := Lib.hid hr
    rw [show eqB (rotL N bs k) bs = r from hr] at HEQ
    generalize rotL N bs k = L at HRO HEQ HF2
    clear hr
    cases r
    all_goals
      go_wp2_with fail
      (refine wp_region_held_drew (S := (fun w' => w'.cell? ⟨w.heap.size, 0, none⟩ = some (.int .i64 N) ∧ w'.cell? ⟨w.heap.size, 1, none⟩ = some (.slice A bs.length cap))) (by kernel_rfl) ?_ (fun hHeld => ?_); (focus ((try dsimp only); exact ⟨c0, c1⟩)))
      (refine wpAnyH_take (i := 0) (v := ?_) rfl (by kernel_rfl) (by kernel_rfl) (by kernel_rfl) (fun _ _ _ h => h) (Or.inl ⟨by rfl, ?_⟩) (by assumption) ?_; rotate_left; (focus (intro wS hSw; (try dsimp only at hSw); go_simp; (try with_reducible rfl))); (try simp only [Act.put, List.getElem_toArray, List.getElem_cons_zero, List.getElem_cons_succ, List.setIfInBounds_toArray, List.set_cons_zero, List.set_cons_succ]))
      (refine wpAnyH_take (i := 1) (v := ?_) rfl (by kernel_rfl) (by kernel_rfl) (by kernel_rfl) (fun _ _ _ h => h) (Or.inl ⟨by rfl, ?_⟩) (by assumption) ?_; rotate_left; (focus (intro wS hSw; (try dsimp only at hSw); go_simp; (try with_reducible rfl))); (try simp only [Act.put, List.getElem_toArray, List.getElem_cons_zero, List.getElem_cons_succ, List.setIfInBounds_toArray, List.set_cons_zero, List.set_cons_succ]))
      (refine wpAnyH_take (i := 3) (v := ?_) rfl (by kernel_rfl) (by kernel_rfl) (by kernel_rfl) (fun _ _ _ h => h) (Or.inl ⟨by rfl, ?_⟩) (by assumption) ?_; rotate_left; (focus (intro wS hSw; (try dsimp only at hSw); go_simp; (try with_reducible rfl))); (try simp only [Act.put, List.getElem_toArray, List.getElem_cons_zero, List.getElem_cons_succ, List.setIfInBounds_toArray, List.set_cons_zero, List.set_cons_succ]))
      (refine wpAnyH_ready (rs := [2]) (by kernel_rfl) (by simp) ?_; refine AllReadyH.cons rfl (fun K hK => ?_) AllReadyH.nil; go_simp)
      go_at_call 49
      refine (HRO.out _ (HA.out.lift HWW.out).drew3_).mono ?_
      rintro e w1 ⟨A2, c2, rfl, hrw, hb1⟩
      have hz1 : wo.heap.size ≤ w1.heap.size := hb1.size
      have HI1 := Lib.hid (hrw.ints HF2.out)
      have HB1 := Lib.hid (show Below wo.heap.size wo.drew w1 from hb1)
      have HWX := Lib.hid ((Below.drew3_ HWW.out).trans (HB1.out.mono (Nat.le_trans (Nat.le_succ _) hws)))
      clear hrw hb1
      go_wp2_with fail
      have hcc := (bcellB HB1.out).1
      have d0 := (hcc w.heap.size 0 (by omega)).trans c0
      have d1 := (hcc w.heap.size 1 (by omega)).trans c1
      clear hcc
      (refine hK.out _ _ ?_ (fun hHeld2 => ?_); (focus ((try dsimp only); exact ⟨d0, d1⟩)); (clear hK K); (try simp only [Act.put, List.getElem_toArray, List.getElem_cons_zero, List.getElem_cons_succ, List.setIfInBounds_toArray, List.set_cons_zero, List.set_cons_succ]))
      (refine wpAnyH_ready (rs := [4]) (by kernel_rfl) (by simp) ?_; refine AllReadyH.cons rfl (fun K hK => ?_) AllReadyH.nil; go_simp)
      go_at_call 50
      refine (HEQ.out A2 c2 _ HI1.out (HA.out.lift HWX.out)).mono ?_
      rintro e w2 ⟨rfl, hb2⟩
      have hcc2 := (bcellB hb2).1
      have e0 := (hcc2 w.heap.size 0 (by omega)).trans d0
      have e1 := (hcc2 w.heap.size 1 (by omega)).trans d1
      have HBY := Lib.hid (((Below.drew3_ HBE.out).trans (HB1.out.mono hws)).trans (hb2.mono (Nat.le_trans hws hz1)))
      clear hb2 hcc2 c0 c1 d0 d1
      go_wp2_with fail
      (refine hK.out _ _ ?_ (fun hHeld2 => ?_); (focus ((try dsimp only); exact ⟨e0, e1⟩)); (clear hK K); (try simp only [Act.put, List.getElem_toArray, List.getElem_cons_zero, List.getElem_cons_succ, List.setIfInBounds_toArray, List.set_cons_zero, List.set_cons_succ]))
      (refine wpAnyH_take (i := 5) (v := ?_) rfl (by kernel_rfl) (by kernel_rfl) (by kernel_rfl) (fun _ _ _ h => h) (Or.inl ⟨by rfl, ?_⟩) (by assumption) ?_; rotate_left; (focus (intro wS hSw; (try dsimp only at hSw); go_simp; (try with_reducible rfl))); (try simp only [Act.put, List.getElem_toArray, List.getElem_cons_zero, List.getElem_cons_succ, List.setIfInBounds_toArray, List.set_cons_zero, List.set_cons_succ]))
      refine wpAnyH_done (by kernel_rfl) ?_ _
    · have hkN : k < N := by
        apply Classical.byContradiction
        intro hh
        have e : k = N := by omega
        have h3 := HR.out
        rw [e, perB_all HOK.out] at h3
        cases h3
      go_wp2_with fail
      go_roundw
      case rel =>
        refine ⟨k + 1, by omega, by omega, by go_num, fun j h1 h2 => ?_, HBY.out⟩
        by_cases e : j = k
        · subst e; exact HR.out
        · exact HNO.out j h1 (by omega)
      case measure => simp [intOf]; omega
    · have HP := Lib.hid (perV_unique HOK.out hk1 HR.out HNO.out)
      go_wp2_with fail
      go_ret
      exact ⟨ret_int (by rw [HP.out]), HW.out.trans (HBY.out.mono (by omega))⟩

end Go.Proofs.YtcolbkgceaboaabGreatDoor
