/-
  Sorting bytes: order2Ordered, medianOrdered, medianAdjacentOrdered, choosePivotOrdered: a pivot within, whatever it is.
-/
import Derived.Test.YthfjfhgeiggljaaDoorSrG
namespace Go.Proofs.YthfjfhgeiggljaaDoor
open Go.RowKit
set_option linter.unusedVariables false
set_option linter.unusedSimpArgs false

theorem AD.frm {w w' : World} {g off : Nat} {d : Array Int} {S : Nat → Prop} (h : AD w g off d) (hf : Frm S w w') (hg : ¬ S g) : AD w' g off d :=
  ⟨Nat.lt_of_lt_of_le h.1 hf.size, fun t ht => ⟨(hf.cell h.1 hg).trans (h.2 t ht).1, (hf.frozen h.1 hg).trans (h.2 t ht).2⟩⟩
/-- A counter of the caller's. -/
def Ctr (w : World) (sb : Nat) (s : Nat) : Prop := sb < w.heap.size ∧ w.cell? ⟨sb, 0, none⟩ = some (.int .i64 s) ∧ w.frozen? ⟨sb, 0, none⟩ = false
theorem Ctr.set_ {w : World} {sb s : Nat} (h : Ctr w sb s) (t : Nat) : Ctr (w.setCell ⟨sb, 0, none⟩ (.int .i64 t)) sb t :=
  ⟨by simpa [World.setCell] using h.1, World.cell?_setCell_same w _ _ h.2.1, by rw [World.frozen?_setCell]; exact h.2.2⟩

set_option maxRecDepth 100000 in
set_option maxHeartbeats 2000000 in
theorem order2_byte (g off cap a b n sb s : Nat) (d : Array Int) (w : World) (hH : AD w g off d) (ha : a < n) (hb : b < n) (hn : d.size = n) (hC : Ctr w sb s) (hs : s ≤ 1000) (hne : g ≠ sb) :
    Calls Tryd.prog 135 #[.slice (some ⟨g, off, none⟩) n cap, .int .i64 a, .int .i64 b, .pointer (some ⟨sb, 0, none⟩)] w fun e w' =>
      ∃ x y t : Nat, e = .returned (.tuple #[.int .i64 x, .int .i64 y]) ∧ (x = a ∧ y = b ∨ x = b ∧ y = a) ∧ t ≤ s + 1 ∧ Ctr w' sb t ∧ Frm (OneB sb) w w' := by
  obtain ⟨G, hG, hcw, hfw⟩ := hH.fam hn
  have HC := Lib.hid hC
  obtain ⟨hcl, hc0, hc1⟩ := hC
  have HF := Lib.hid (Frm.refl (OneB sb) w)
  clear hH hG hfw
  have hw1 : IntKind.i64.wrap ((s : Int) + 1) = ((s + 1 : Nat) : Int) := by rw [i64w (by omega)]; omega
  go_enter Tryd.func135, Tryd.ntmps135
  go_wp2
  go_quiet (first | (go_at_call 86; refine Calls.quiet_of_same (less_byte _ _ _)))
  have hc0' : (w.drewN nq).cell? ⟨sb, 0, none⟩ = some (.int .i64 s) := hc0
  have hc1' : (w.drewN nq).frozen? ⟨sb, 0, none⟩ = false := hc1
  have HC := Lib.hid (show Ctr (w.drewN nq) sb s from HC.out)
  have HF := Lib.hid (HF.out.drewN nq)
  clear hcw hc0 hc1
  generalize w.drewN nq = w1 at *
  go_wp2
  · have HC2 := Lib.hid (HC.out.set_ (s + 1))
    have HF2 := Lib.hid (HF.out.setCell (p := ⟨sb, 0, none⟩) rfl (.int .i64 ((s + 1 : Nat) : Int)))
    refine bodyPost_ret (v := .tuple #[.int .i64 b, .int .i64 a]) (by simp [results, Tryd.results135, go_sem]) rfl ?_
    exact ⟨b, a, s + 1, rfl, .inr ⟨rfl, rfl⟩, Nat.le_refl _, HC2.out, HF2.out⟩
  · refine bodyPost_ret (v := .tuple #[.int .i64 a, .int .i64 b]) (by simp [results, Tryd.results135, go_sem]) rfl ?_
    exact ⟨a, b, s, rfl, .inl ⟨rfl, rfl⟩, Nat.le_succ _, HC.out, HF.out⟩

set_option maxRecDepth 100000 in
set_option maxHeartbeats 2000000 in
theorem median_byte (g off cap a b c n sb s : Nat) (d : Array Int) (w : World) (hH : AD w g off d) (ha : a < n) (hb : b < n) (hc : c < n) (hn : d.size = n) (hC : Ctr w sb s) (hs : s ≤ 900) (hne : g ≠ sb) :
    Calls Tryd.prog 114 #[.slice (some ⟨g, off, none⟩) n cap, .int .i64 a, .int .i64 b, .int .i64 c, .pointer (some ⟨sb, 0, none⟩)] w fun e w' =>
      ∃ m t : Nat, e = .returned (.int .i64 m) ∧ (m = a ∨ m = b ∨ m = c) ∧ t ≤ s + 3 ∧ Ctr w' sb t ∧ Frm (OneB sb) w w' := by
  have HH := Lib.hid hH
  have HC := Lib.hid hC
  have HF := Lib.hid (Frm.refl (OneB sb) w)
  have HO := Lib.hid (fun (x y t : Nat) (V : World) h1 h2 h3 h4 h5 => order2_byte g off cap x y n sb t d V h1 h2 h3 hn h4 h5 hne)
  have HNG := Lib.hid (show ¬ OneB sb g from hne)
  clear hH hC
  go_enter Tryd.func114, Tryd.ntmps114
  go_wp2_with fail
  refine (HO.out a b s w HH.out ha hb HC.out (by omega)).mono ?_
  rintro e w1 ⟨x1, y1, t1, rfl, hxy1, ht1, hC1, hF1⟩
  have HC := Lib.hid hC1
  have HH := Lib.hid (HH.out.frm hF1 HNG.out)
  have HF := Lib.hid (HF.out.trans hF1)
  have HX1 := Lib.hid hxy1
  clear hxy1 hC1 hF1
  go_wp2_with fail
  refine (HO.out y1 c t1 w1 HH.out (by have := HX1.out; omega) hc HC.out (by omega)).mono ?_
  rintro e w2 ⟨x2, y2, t2, rfl, hxy2, ht2, hC2, hF2⟩
  have HC := Lib.hid hC2
  have HH := Lib.hid (HH.out.frm hF2 HNG.out)
  have HF := Lib.hid (HF.out.trans hF2)
  have HX2 := Lib.hid hxy2
  clear hxy2 hC2 hF2
  go_wp2_with fail
  refine (HO.out x1 x2 t2 w2 HH.out (by have := HX1.out; omega) (by have := HX1.out; have := HX2.out; omega) HC.out (by omega)).mono ?_
  rintro e w3 ⟨x3, y3, t3, rfl, hxy3, ht3, hC3, hF3⟩
  have HC := Lib.hid hC3
  have HF := Lib.hid (HF.out.trans hF3)
  have HX3 := Lib.hid hxy3
  clear hxy3 hC3 hF3
  go_wp2_with fail
  go_ret
  exact ⟨y3, t3, rfl, by have := HX1.out; have := HX2.out; have := HX3.out; omega, by omega, HC.out, HF.out⟩

set_option maxRecDepth 100000 in
set_option maxHeartbeats 2000000 in
theorem medianAdjacent_byte (g off cap a n sb s : Nat) (d : Array Int) (w : World) (hH : AD w g off d) (ha0 : 1 ≤ a) (ha : a + 1 < n) (hn : d.size = n) (hC : Ctr w sb s) (hs : s ≤ 900) (hne : g ≠ sb) (hsz : n < 4611686018427387904) :
    Calls Tryd.prog 113 #[.slice (some ⟨g, off, none⟩) n cap, .int .i64 a, .pointer (some ⟨sb, 0, none⟩)] w fun e w' =>
      ∃ m t : Nat, e = .returned (.int .i64 m) ∧ (m = a - 1 ∨ m = a ∨ m = a + 1) ∧ t ≤ s + 3 ∧ Ctr w' sb t ∧ Frm (OneB sb) w w' := by
  have HM := Lib.hid (median_byte g off cap (a - 1) a (a + 1) n sb s d w hH (by omega) (by omega) ha hn hC hs hne)
  have hw1 : IntKind.i64.wrap ((a : Int) - 1) = ((a - 1 : Nat) : Int) := by rw [i64w (by omega)]; omega
  have hw2 : IntKind.i64.wrap ((a : Int) + 1) = ((a + 1 : Nat) : Int) := by rw [i64w (by omega)]; omega
  clear hH hC
  go_enter Tryd.func113, Tryd.ntmps113
  go_wp2_with fail
  refine HM.out.mono ?_
  rintro e w1 ⟨m, t, rfl, hm, ht, hC1, hF1⟩
  have HC := Lib.hid hC1
  have HF := Lib.hid hF1
  clear hC1 hF1
  go_wp2_with fail
  go_ret
  exact ⟨m, t, rfl, hm, ht, HC.out, HF.out⟩

set_option maxRecDepth 100000 in
set_option maxHeartbeats 4000000 in
theorem choosePivot_byte (g off cap a b n : Nat) (d : Array Int) (w : World) (hH : AD w g off d) (hab : a < b) (hb : b ≤ n) (hn : d.size = n) (hsz : n < 4611686018427387904) :
    Calls Tryd.prog 83 #[.slice (some ⟨g, off, none⟩) n cap, .int .i64 a, .int .i64 b] w fun e w' =>
      ∃ p h : Nat, e = .returned (.tuple #[.int .i64 p, .int .i64 h]) ∧ a ≤ p ∧ p < b ∧ h ≤ 2 ∧ Below w.heap.size w w' := by
  have hgl := hH.1
  have HW := Lib.hid (show Frm (OneB w.heap.size) w (w.alloc (.cells #[.int .i64 0] 3)) from (Frm.refl _ w).alloc _)
  have HBL := Lib.hid (fun V (h : Frm (OneB w.heap.size) w V) => h.below (B := w.heap.size) (fun c hc => by rw [show c = w.heap.size from hc]; exact Nat.le_refl _) (Nat.le_refl _))
  have HH := Lib.hid (show AD (w.alloc (.cells #[.int .i64 0] 3)) g off d from hH.frm HW.out (show ¬ g = w.heap.size by omega))
  have HC := Lib.hid (show Ctr (w.alloc (.cells #[.int .i64 0] 3)) w.heap.size 0 from ⟨by simp, by rw [cell_of_row _ _ _ _ _ _ (heap_alloc_new w _)]; rfl, frozen_of_row _ _ _ _ _ (heap_alloc_new w _)⟩)
  have HNG := Lib.hid (show ¬ OneB w.heap.size g from show ¬ g = w.heap.size by omega)
  have HNE := Lib.hid (show g ≠ w.heap.size by omega)
  have HMA := Lib.hid (fun (x t : Nat) (V : World) h1 h2 h3 h4 h5 => medianAdjacent_byte g off cap x n w.heap.size t d V h1 h2 h3 hn h4 h5 HNE.out hsz)
  have HM := Lib.hid (fun (x y z t : Nat) (V : World) h1 h2 h3 h4 h5 h6 => median_byte g off cap x y z n w.heap.size t d V h1 h2 h3 h4 hn h5 h6 HNE.out)
  obtain ⟨l, hl⟩ : ∃ l, b - a = l := ⟨_, rfl⟩
  obtain ⟨q, hq⟩ : ∃ q, l / 4 = q := ⟨_, rfl⟩
  obtain ⟨q2, hq2⟩ : ∃ q2, 2 * q = q2 := ⟨_, rfl⟩
  obtain ⟨q3, hq3⟩ : ∃ q3, 3 * q = q3 := ⟨_, rfl⟩
  obtain ⟨i, hi⟩ : ∃ i, a + q = i := ⟨_, rfl⟩
  obtain ⟨j, hj⟩ : ∃ j, a + q2 = j := ⟨_, rfl⟩
  obtain ⟨k, hk⟩ : ∃ k, a + q3 = k := ⟨_, rfl⟩
  have hw1 : IntKind.i64.wrap ((b : Int) - (a : Int)) = (l : Int) := by rw [i64w (by omega)]; omega
  have hdv : (l : Int).tdiv 4 = (q : Int) := by rw [Int.tdiv_eq_ediv_of_nonneg (by omega)]; omega
  have hwq : IntKind.i64.wrap (q : Int) = (q : Int) := i64w (by omega)
  have hm2 : IntKind.i64.wrap ((q : Int) * 2) = (q2 : Int) := by rw [i64w (by omega)]; omega
  have hm3 : IntKind.i64.wrap ((q : Int) * 3) = (q3 : Int) := by rw [i64w (by omega)]; omega
  have hwi : IntKind.i64.wrap ((a : Int) + (q : Int)) = (i : Int) := by rw [i64w (by omega)]; omega
  have hwj : IntKind.i64.wrap ((a : Int) + (q2 : Int)) = (j : Int) := by rw [i64w (by omega)]; omega
  have hwk : IntKind.i64.wrap ((a : Int) + (q3 : Int)) = (k : Int) := by rw [i64w (by omega)]; omega
  have HIJ := Lib.hid (show l = b - a ∧ 4 * q ≤ l ∧ l ≤ 4 * q + 3 ∧ i = a + q ∧ j = a + 2 * q ∧ k = a + 3 * q by omega)
  clear hH hl hq hq2 hq3 hi hj hk hgl
  go_enter Tryd.func83, Tryd.ntmps83
  by_cases h8 : 8 ≤ l
  · have h8i : (8 : Int) ≤ (l : Int) := by omega
    by_cases h50 : 50 ≤ l
    · have h50i : (50 : Int) ≤ (l : Int) := by omega
      go_wp2_with fail
      refine (HMA.out i 0 _ HH.out (by have := HIJ.out; omega) (by have := HIJ.out; omega) HC.out (by omega)).mono ?_
      rintro e w1 ⟨i1, t1, rfl, hx, ht1, hC1, hF1⟩
      have HC := Lib.hid hC1
      have HH := Lib.hid (HH.out.frm hF1 HNG.out)
      have HW := Lib.hid (HW.out.trans hF1)
      have HX1 := Lib.hid (And.intro hx ht1)
      clear hx ht1 hC1 hF1
      go_wp2_with fail
      refine (HMA.out j t1 w1 HH.out (by have := HIJ.out; omega) (by have := HIJ.out; omega) HC.out (by have := HX1.out.2; omega)).mono ?_
      rintro e w2 ⟨j1, t2, rfl, hx, ht1, hC1, hF1⟩
      have HC := Lib.hid hC1
      have HH := Lib.hid (HH.out.frm hF1 HNG.out)
      have HW := Lib.hid (HW.out.trans hF1)
      have HX2 := Lib.hid (And.intro hx ht1)
      clear hx ht1 hC1 hF1
      go_wp2_with fail
      refine (HMA.out k t2 w2 HH.out (by have := HIJ.out; omega) (by have := HIJ.out; omega) HC.out (by have := HX1.out.2; have := HX2.out.2; omega)).mono ?_
      rintro e w3 ⟨k1, t3, rfl, hx, ht1, hC1, hF1⟩
      have HC := Lib.hid hC1
      have HH := Lib.hid (HH.out.frm hF1 HNG.out)
      have HW := Lib.hid (HW.out.trans hF1)
      have HX3 := Lib.hid (And.intro hx ht1)
      clear hx ht1 hC1 hF1
      go_wp2_with fail
      refine (HM.out i1 j1 k1 t3 w3 HH.out (by have := HIJ.out; have := HX1.out.1; omega) (by have := HIJ.out; have := HX2.out.1; omega) (by have := HIJ.out; have := HX3.out.1; omega) HC.out (by have := HX1.out.2; have := HX2.out.2; have := HX3.out.2; omega)).mono ?_
      rintro e w4 ⟨m, t, rfl, hx, ht1, hC1, hF1⟩
      have HW := Lib.hid (HW.out.trans hF1)
      have HP := Lib.hid (show a ≤ m ∧ m < b by have := HIJ.out; have := HX1.out.1; have := HX2.out.1; have := HX3.out.1; omega)
      obtain ⟨_, hc0, _⟩ := hC1
      clear hx ht1 hF1
      by_cases h0 : t = 0
      · subst h0
        go_wp2_with fail
        refine bodyPost_ret (v := .tuple #[.int .i64 m, .int .i64 1]) (by simp [results, Tryd.results83, go_sem]) rfl ?_
        exact ⟨m, 1, rfl, HP.out.1, HP.out.2, by omega, HBL.out _ HW.out⟩
      · have h0i : ((t : Int) == 0) = false := beq_eq_false_iff_ne.2 (by omega)
        have h0j : (t = 0) = False := eq_false h0
        by_cases h12 : t = 12
        · subst h12
          go_wp2_with fail
          refine bodyPost_ret (v := .tuple #[.int .i64 m, .int .i64 2]) (by simp [results, Tryd.results83, go_sem]) rfl ?_
          exact ⟨m, 2, rfl, HP.out.1, HP.out.2, by omega, HBL.out _ HW.out⟩
        · have h12i : ((t : Int) == 12) = false := beq_eq_false_iff_ne.2 (by omega)
          have h12j : (t = 12) = False := eq_false h12
          go_wp2_with fail
          refine bodyPost_ret (v := .tuple #[.int .i64 m, .int .i64 0]) (by simp [results, Tryd.results83, go_sem]) rfl ?_
          exact ⟨m, 0, rfl, HP.out.1, HP.out.2, by omega, HBL.out _ HW.out⟩
    · have h50i : ¬ (50 : Int) ≤ (l : Int) := by omega
      go_wp2_with fail
      refine (HM.out i j k 0 _ HH.out (by have := HIJ.out; omega) (by have := HIJ.out; omega) (by have := HIJ.out; omega) HC.out (by omega)).mono ?_
      rintro e w4 ⟨m, t, rfl, hx, ht1, hC1, hF1⟩
      have HW := Lib.hid (HW.out.trans hF1)
      have HP := Lib.hid (show a ≤ m ∧ m < b by have := HIJ.out; omega)
      obtain ⟨_, hc0, _⟩ := hC1
      clear hx ht1 hF1
      by_cases h0 : t = 0
      · subst h0
        go_wp2_with fail
        refine bodyPost_ret (v := .tuple #[.int .i64 m, .int .i64 1]) (by simp [results, Tryd.results83, go_sem]) rfl ?_
        exact ⟨m, 1, rfl, HP.out.1, HP.out.2, by omega, HBL.out _ HW.out⟩
      · have h0i : ((t : Int) == 0) = false := beq_eq_false_iff_ne.2 (by omega)
        have h0j : (t = 0) = False := eq_false h0
        by_cases h12 : t = 12
        · subst h12
          go_wp2_with fail
          refine bodyPost_ret (v := .tuple #[.int .i64 m, .int .i64 2]) (by simp [results, Tryd.results83, go_sem]) rfl ?_
          exact ⟨m, 2, rfl, HP.out.1, HP.out.2, by omega, HBL.out _ HW.out⟩
        · have h12i : ((t : Int) == 12) = false := beq_eq_false_iff_ne.2 (by omega)
          have h12j : (t = 12) = False := eq_false h12
          go_wp2_with fail
          refine bodyPost_ret (v := .tuple #[.int .i64 m, .int .i64 0]) (by simp [results, Tryd.results83, go_sem]) rfl ?_
          exact ⟨m, 0, rfl, HP.out.1, HP.out.2, by omega, HBL.out _ HW.out⟩
  · have h8i : ¬ (8 : Int) ≤ (l : Int) := by omega
    have hc0 := HC.out.2.1
    have HP := Lib.hid (show a ≤ j ∧ j < b by have := HIJ.out; omega)
    go_wp2_with fail
    refine bodyPost_ret (v := .tuple #[.int .i64 j, .int .i64 1]) (by simp [results, Tryd.results83, go_sem]) rfl ?_
    exact ⟨j, 1, rfl, HP.out.1, HP.out.2, by omega, HBL.out _ HW.out⟩

end Go.Proofs.YthfjfhgeiggljaaDoor
