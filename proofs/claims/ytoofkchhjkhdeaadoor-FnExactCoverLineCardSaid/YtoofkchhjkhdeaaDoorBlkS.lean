/-
  A pattern on a line, of the reference.
-/
import Derived.Test.YtoofkchhjkhdeaaDoorBlkB
import Derived.Test.YtoofkchhjkhdeaaDoorWin
import Derived.Test.YtoofkchhjkhdeaaDoorStepsL
namespace Go.Proofs.YtoofkchhjkhdeaaDoor
open Go.RowKit
set_option linter.unusedVariables false
set_option linter.unusedSimpArgs false

set_option maxRecDepth 100000 in
set_option maxHeartbeats 1000000 in
theorem spec_PatternOk_any (A : Option Addr) (cap : Nat) (xs : List Int) (w : World) (hA : Ints w w.heap.size A xs) :
    Calls Tryd.prog 8 #[.slice A xs.length cap] w fun e w' => e = .returned (.bool (patB xs)) ∧ w = w' := by
  obtain ⟨hlen, hfit, hcells⟩ := hA
  unfold maxLen at hlen
  have HC := Lib.hid hcells
  clear hfit hcells
  by_cases hpos : 0 < xs.length
  rotate_left
  · have HV := Lib.hid (show patB xs = false by unfold patB; rw [decide_eq_false hpos]; rfl)
    have h0 : xs.length = 0 := by omega
    have h0b : ((xs.length : Int) == 0) = true := by rw [h0]; rfl
    clear hpos h0
    go_enter Tryd.func8, Tryd.ntmps8
    go_wp2_with (go_at_call 11; refine (l01In_any _ _ _ _).mono ?_; rintro e w' ⟨rfl, rfl⟩)
    go_ret
    exact ⟨ret_bool HV.out.symm, rfl⟩
  have hl0 : ((xs.length : Int) == 0) = false := beq_eq_false_iff_ne.2 (by omega)
  have hl1 : (0 : Int) < (xs.length : Int) := by omega
  have hl2 : ¬ xs.length = 0 := by omega
  obtain ⟨b, off, rfl, hB, hc⟩ := HC.out hpos
  have hcell0 := hc 0 hpos
  simp only [Nat.add_zero] at hcell0
  obtain ⟨x0, hx0⟩ : ∃ x, xs.getD 0 0 = x := ⟨_, rfl⟩
  rw [hx0] at hcell0
  have HX0 := Lib.hid hx0
  have HCC := Lib.hid hc
  clear hc hx0
  by_cases hz : x0 = 0
  rotate_left
  · have HV := Lib.hid (pat_no hpos (show patAt xs 0 = false by unfold patAt; rw [if_pos rfl, HX0.out, decide_eq_false hz, Bool.and_false]))
    have hzb : (x0 != 0) = true := by simp [hz]
    go_enter Tryd.func8, Tryd.ntmps8
    go_wp2_with (go_at_call 11; refine (l01In_any _ _ _ _).mono ?_; rintro e w' ⟨rfl, rfl⟩)
    go_ret
    exact ⟨ret_bool HV.out.symm, rfl⟩
  have hzb : (x0 != 0) = false := by simp [hz]
  have HZ := Lib.hid hz
  clear hz
  go_enter Tryd.func8, Tryd.ntmps8
  go_wp2_with (go_at_call 11; refine (l01In_any _ _ _ _).mono ?_; rintro e w' ⟨rfl, rfl⟩)
  clear hcell0
  go_loop [16] (fun i => ∃ k : Nat, k ≤ xs.length ∧ (∀ j, j < k → patAt xs j = true) ∧ i = .int .i64 k) (fun i => xs.length - (intOf i).toNat)
  case atStart => exact ⟨0, Nat.zero_le _, fun j hj => by omega, rfl⟩
  case round =>
    obtain ⟨k, hk, hall, rfl⟩ := hrel
    have HALL := Lib.hid hall
    clear hall
    by_cases hlt : k < xs.length
    · have hcell := HCC.out k hlt
      have hcell1 := HCC.out (k - 1) (by omega)
      obtain ⟨x, hx⟩ : ∃ x, xs.getD k 0 = x := ⟨_, rfl⟩
      obtain ⟨y, hy⟩ : ∃ y, xs.getD (k - 1) 0 = y := ⟨_, rfl⟩
      rw [hx] at hcell
      rw [hy] at hcell1
      have HX := Lib.hid hx
      have HY := Lib.hid hy
      clear hx hy
      cases hin : inB x 0 12
      · have HV := Lib.hid (pat_no hlt (show patAt xs k = false by unfold patAt; rw [HX.out, hin]; rfl))
        go_wp2_with (go_at_call 11; refine (l01In_any _ _ _ _).mono ?_; rintro e w' ⟨rfl, rfl⟩)
        go_ret
        exact ⟨ret_bool HV.out.symm, rfl⟩
      · by_cases h0 : k = 0
        · subst h0
          simp only [Nat.add_zero] at hcell
          have HV := Lib.hid (show patAt xs 0 = true by unfold patAt; rw [if_pos rfl, HX.out, hin, decide_eq_true (HX.out.symm.trans (HX0.out.trans HZ.out))]; rfl)
          go_wp2_with (go_at_call 11; refine (l01In_any _ _ _ _).mono ?_; rintro e w' ⟨rfl, rfl⟩)
          go_round
          case rel => exact ⟨1, by omega, pat_step HALL.out HV.out, by go_num⟩
          case measure => simp [intOf]; omega
        · have hk1 : (0 : Int) < (k : Int) := by omega
          have hk2 : decide ((0 : Int) < (k : Int)) = true := decide_eq_true hk1
          have hk3 : 0 < k := by omega
          by_cases hxy : y < x
          · have HV := Lib.hid (show patAt xs k = true by unfold patAt; rw [if_neg h0, HX.out, HY.out, hin, decide_eq_true hxy]; rfl)
            have hle : decide (x ≤ y) = false := decide_eq_false (by omega)
            have hle2 : ¬ x ≤ y := by omega
            go_wp2_with (go_at_call 11; refine (l01In_any _ _ _ _).mono ?_; rintro e w' ⟨rfl, rfl⟩)
            go_round
            case rel => exact ⟨k + 1, by omega, pat_step HALL.out HV.out, by go_num⟩
            case measure => simp [intOf]; omega
          · have HV := Lib.hid (pat_no hlt (show patAt xs k = false by unfold patAt; rw [if_neg h0, HX.out, HY.out, hin, decide_eq_false hxy]; rfl))
            have hle : decide (x ≤ y) = true := decide_eq_true (by omega)
            have hle2 : x ≤ y := by omega
            go_wp2_with (go_at_call 11; refine (l01In_any _ _ _ _).mono ?_; rintro e w' ⟨rfl, rfl⟩)
            go_ret
            exact ⟨ret_bool HV.out.symm, rfl⟩
    · have hke : k = xs.length := by omega
      subst hke
      have HV := Lib.hid (show patB xs = true by rw [pat_end HALL.out, decide_eq_true hpos])
      go_wp2_with (go_at_call 11; refine (l01In_any _ _ _ _).mono ?_; rintro e w' ⟨rfl, rfl⟩)
      go_ret
      exact ⟨ret_bool HV.out.symm, rfl⟩

set_option maxRecDepth 100000 in
set_option maxHeartbeats 1000000 in
theorem spec_l13Mask_ok (A : Option Addr) (cap : Nat) (xs : List Int) (w : World) (hA : Ints w w.heap.size A xs) (hp : patB xs = true) :
    Calls Tryd.prog 37 #[.slice A xs.length cap] w fun e w' => e = .returned (.int .i64 (patM xs)) ∧ w = w' := by
  obtain ⟨hpos, hpat⟩ := pat_all hp
  obtain ⟨hlen, hfit, hcells⟩ := hA
  unfold maxLen at hlen
  have HC := Lib.hid hcells
  have HP := Lib.hid hpat
  clear hfit hcells hpat hp
  go_enter Tryd.func37, Tryd.ntmps37
  go_wp2
  go_loop [3, 8] (fun m i => ∃ k : Nat, k ≤ xs.length ∧ m = .int .i64 (mkN xs k) ∧ i = .int .i64 k) (fun _ i => xs.length - (intOf i).toNat)
  case atStart => exact ⟨0, Nat.zero_le _, rfl, rfl⟩
  case round =>
    obtain ⟨k, hk, rfl, rfl⟩ := hrel
    by_cases hlt : k < xs.length
    · obtain ⟨b, off, rfl, hB, hc⟩ := HC.out (by omega)
      have hcell := hc k hlt
      have hin := pat_in (HP.out k hlt)
      have hsm := mk_small HP.out k (by omega)
      have hsm2 := mk_small HP.out (k + 1) (by omega)
      have hor0 : mkN xs k + 2 ^ (xs.getD k 0).toNat = mkN xs (k + 1) := rfl
      obtain ⟨v, hv⟩ := Int.eq_ofNat_of_zero_le hin.1
      rw [hv] at hcell hor0 hin
      have hor0 : mkN xs k + 2 ^ v = mkN xs (k + 1) := hor0
      have hshl := shl_small v (by omega)
      obtain ⟨p, hp⟩ : ∃ p, 2 ^ v = p := ⟨_, rfl⟩
      rw [hp] at hor0 hshl
      have hadd : IntKind.i64.wrap ((mkN xs k : Int) + (p : Int)) = (mkN xs (k + 1) : Int) := by
        rw [← hor0, Int.natCast_add]; exact i64w (by omega)
      obtain ⟨m', hm'⟩ : ∃ x, mkN xs (k + 1) = x := ⟨_, rfl⟩
      rw [hm'] at hadd hor0 hsm2
      have HM := Lib.hid hm'
      generalize mkN xs k = m at hadd hor0 hsm ⊢
      have hadd2 : (m : Int) + (p : Int) = (m' : Int) := by omega
      have hv16 : v < 16 := by omega
      have hv0 : (0 : Int) ≤ (v : Int) := Int.natCast_nonneg _
      clear hc hv hin hor0 hm' hp
      go_wp2
      go_round
      case rel => exact ⟨k + 1, by omega, by rw [HM.out], by go_num⟩
      case measure => simp [intOf]; omega
    · have hke : k = xs.length := by omega
      subst hke
      go_wp2
      go_ret
      exact ⟨rfl, rfl⟩

end Go.Proofs.YtoofkchhjkhdeaaDoor
