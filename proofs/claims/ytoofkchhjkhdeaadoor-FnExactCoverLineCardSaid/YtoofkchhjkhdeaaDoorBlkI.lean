/-
  A pattern on a line, of the program: PatternOk, the row of times, the laying.
-/
import Derived.Test.YtoofkchhjkhdeaaDoorBlkT
import Derived.Test.YtoofkchhjkhdeaaDoorFullC
import Derived.Test.YtoofkchhjkhdeaaDoorOwn
import Derived.Test.YtoofkchhjkhdeaaDoorFrm
import Derived.Deep.LoopGhost
namespace Go.Proofs.YtoofkchhjkhdeaaDoor
open Go.RowKit
set_option linter.unusedVariables false
set_option linter.unusedSimpArgs false

theorem pat_step {xs : List Int} {k : Nat} (h : ∀ j, j < k → patAt xs j = true) (hk : patAt xs k = true) : ∀ j, j < k + 1 → patAt xs j = true := fun j hj => by
  by_cases e : j = k
  · subst e; exact hk
  · exact h j (by omega)

set_option maxRecDepth 100000 in
set_option maxHeartbeats 1000000 in
theorem impl_PatternOk_any (A : Option Addr) (cap : Nat) (xs : List Int) (w : World) (hA : Ints w w.heap.size A xs) :
    Calls Tryd.prog 14 #[.slice A xs.length cap] w fun e w' => e = .returned (.bool (patB xs)) ∧ w = w' := by
  obtain ⟨hlen, hfit, hcells⟩ := hA
  unfold maxLen at hlen
  have HC := Lib.hid hcells
  clear hfit hcells
  go_enter Tryd.func14, Tryd.ntmps14
  go_wp2
  go_loop [7] (fun i => ∃ k : Nat, k ≤ xs.length ∧ (∀ j, j < k → patAt xs j = true) ∧ i = .int .i64 k) (fun i => xs.length - (intOf i).toNat)
  case atStart => exact ⟨0, Nat.zero_le _, fun j hj => by omega, rfl⟩
  case round =>
    obtain ⟨k, hk, hall, rfl⟩ := hrel
    have HALL := Lib.hid hall
    clear hall
    by_cases hlt : k < xs.length
    · obtain ⟨b, off, rfl, hB, hc⟩ := HC.out (by omega)
      have hcell := hc k hlt
      have hcell1 := hc (k - 1) (by omega)
      obtain ⟨x, hx⟩ : ∃ x, xs.getD k 0 = x := ⟨_, rfl⟩
      obtain ⟨y, hy⟩ : ∃ y, xs.getD (k - 1) 0 = y := ⟨_, rfl⟩
      rw [hx] at hcell
      rw [hy] at hcell1
      have HX := Lib.hid hx
      have HY := Lib.hid hy
      clear hx hy hc
      cases hin : inB x 0 12
      · have HV := Lib.hid (pat_no hlt (show patAt xs k = false by unfold patAt; rw [HX.out, hin]; rfl))
        go_wp2_with (go_at_call 16; refine (within_any _ _ _ _).mono ?_; rintro e w' ⟨rfl, rfl⟩)
        go_ret
        exact ⟨ret_bool HV.out.symm, rfl⟩
      · by_cases h0 : k = 0
        · subst h0
          simp only [Nat.add_zero] at hcell
          by_cases hx0 : x = 0
          · have HV := Lib.hid (show patAt xs 0 = true by unfold patAt; rw [if_pos rfl, HX.out, hin, decide_eq_true hx0]; rfl)
            have hxn : (x != 0) = false := by simp [hx0]
            clear hx0
            go_wp2_with (go_at_call 16; refine (within_any _ _ _ _).mono ?_; rintro e w' ⟨rfl, rfl⟩)
            go_round
            case rel => exact ⟨1, by omega, pat_step HALL.out HV.out, by go_num⟩
            case measure => simp [intOf]; omega
          · have HV := Lib.hid (pat_no hlt (show patAt xs 0 = false by unfold patAt; rw [if_pos rfl, HX.out, hin, decide_eq_false hx0]; rfl))
            have hxn : (x != 0) = true := by simp [hx0]
            clear hx0
            go_wp2_with (go_at_call 16; refine (within_any _ _ _ _).mono ?_; rintro e w' ⟨rfl, rfl⟩)
            go_ret
            exact ⟨ret_bool HV.out.symm, rfl⟩
        · have hk0 : ((k : Int) == 0) = false := beq_eq_false_iff_ne.2 (by omega)
          have hk1 : (0 : Int) < (k : Int) := by omega
          have hk2 : decide ((0 : Int) < (k : Int)) = true := decide_eq_true hk1
          have hk3 : 0 < k := by omega
          by_cases hxy : y < x
          · have HV := Lib.hid (show patAt xs k = true by unfold patAt; rw [if_neg h0, HX.out, HY.out, hin, decide_eq_true hxy]; rfl)
            have hle : decide (x ≤ y) = false := decide_eq_false (by omega)
            have hle2 : ¬ x ≤ y := by omega
            go_wp2_with (go_at_call 16; refine (within_any _ _ _ _).mono ?_; rintro e w' ⟨rfl, rfl⟩)
            go_round
            case rel => exact ⟨k + 1, by omega, pat_step HALL.out HV.out, by go_num⟩
            case measure => simp [intOf]; omega
          · have HV := Lib.hid (pat_no hlt (show patAt xs k = false by unfold patAt; rw [if_neg h0, HX.out, HY.out, hin, decide_eq_false hxy]; rfl))
            have hle : decide (x ≤ y) = true := decide_eq_true (by omega)
            have hle2 : x ≤ y := by omega
            go_wp2_with (go_at_call 16; refine (within_any _ _ _ _).mono ?_; rintro e w' ⟨rfl, rfl⟩)
            go_ret
            exact ⟨ret_bool HV.out.symm, rfl⟩
    · have hke : k = xs.length := by omega
      subst hke
      have HV := Lib.hid (show patB xs = decide ((0 : Int) < (xs.length : Int)) by rw [pat_end HALL.out, decide_eq_decide]; omega)
      go_wp2_with (go_at_call 16; refine (within_any _ _ _ _).mono ?_; rintro e w' ⟨rfl, rfl⟩)
      go_ret
      exact ⟨by rw [HV.out]; first | rfl | simp, rfl⟩

/-- Block g is a row of times: the time, the times taken, the pattern. -/
def Lin3 (w : World) (g : Nat) (t s M : Int) : Prop :=
  g < w.heap.size ∧ w.cell? ⟨g, 0, none⟩ = some (.int .i64 t) ∧ w.cell? ⟨g, 1, none⟩ = some (.int .i64 s) ∧ w.cell? ⟨g, 2, none⟩ = some (.int .i64 M) ∧
    w.frozen? ⟨g, 0, none⟩ = false ∧ w.frozen? ⟨g, 1, none⟩ = false
section
variable {w w' : World} {g : Nat} {t s M : Int} {S : Nat → Prop}
theorem Lin3.frm (h : Lin3 w g t s M) (hf : Frm S w w') (hS : ¬ S g) : Lin3 w' g t s M :=
  ⟨Nat.lt_of_lt_of_le h.1 hf.size, (hf.cell h.1 hS).trans h.2.1, (hf.cell h.1 hS).trans h.2.2.1, (hf.cell h.1 hS).trans h.2.2.2.1, (hf.frozen h.1 hS).trans h.2.2.2.2.1, (hf.frozen h.1 hS).trans h.2.2.2.2.2⟩
theorem Lin3.below {B : Nat} (h : Lin3 w g t s M) (hb : Below B w w') (hg : g < B) : Lin3 w' g t s M :=
  h.frm (Frm.of_below (S := fun c => B ≤ c) hb (fun c _ h => h)) (by omega)
theorem Lin3.set0 (h : Lin3 w g t s M) (u : Int) : Lin3 (w.setCell ⟨g, 0, none⟩ (.int .i64 u)) g u s M :=
  ⟨by simpa [World.setCell] using h.1, World.cell?_setCell_same w _ _ h.2.1, (World.cell?_setCell_other w ⟨g, 0, none⟩ ⟨g, 1, none⟩ _ (fun q => by injection q; omega)).trans h.2.2.1,
    (World.cell?_setCell_other w ⟨g, 0, none⟩ ⟨g, 2, none⟩ _ (fun q => by injection q; omega)).trans h.2.2.2.1, (World.frozen?_setCell _ _ _ _).trans h.2.2.2.2.1, (World.frozen?_setCell _ _ _ _).trans h.2.2.2.2.2⟩
theorem Lin3.set1 (h : Lin3 w g t s M) (u : Int) : Lin3 (w.setCell ⟨g, 1, none⟩ (.int .i64 u)) g t u M :=
  ⟨by simpa [World.setCell] using h.1, (World.cell?_setCell_other w ⟨g, 1, none⟩ ⟨g, 0, none⟩ _ (fun q => by injection q; omega)).trans h.2.1, World.cell?_setCell_same w _ _ h.2.2.1,
    (World.cell?_setCell_other w ⟨g, 1, none⟩ ⟨g, 2, none⟩ _ (fun q => by injection q; omega)).trans h.2.2.2.1, (World.frozen?_setCell _ _ _ _).trans h.2.2.2.2.1, (World.frozen?_setCell _ _ _ _).trans h.2.2.2.2.2⟩
end

theorem shl_small (v : Nat) (hv : v < 16) : wrap64 (2 ^ v) = ((2 ^ v : Nat) : Int) := by
  have h2 : (2 : Nat) ^ v < 2 ^ 16 := Nat.pow_lt_pow_right (by omega) hv
  rw [show ((2 : Int) ^ v) = ((2 ^ v : Nat) : Int) by simp]
  generalize 2 ^ v = x at h2
  unfold wrap64
  omega

end Go.Proofs.YtoofkchhjkhdeaaDoor
