/-
  A pattern on a line, of the reference.
-/
import Derived.Test.YtcolbkgceaboaaaDoorBlkB
import Derived.Test.YtcolbkgceaboaaaDoorWin
import Derived.Test.YtcolbkgceaboaaaDoorStepsL
namespace Go.Proofs.YtcolbkgceaboaaaDoor
open Go.RowKit
set_option linter.unusedVariables false
set_option linter.unusedSimpArgs false

set_option maxRecDepth 100000 in
set_option maxHeartbeats 1000000 in
theorem spec_PatternOk_any (A : Option Addr) (cap : Nat) (xs : List Int) (w : World) (hA : Ints w w.heap.size A xs) :
    Calls Tryd.prog 8 #[.slice A xs.length cap] w fun e w' => e = .returned (.bool (patB xs)) ∧ w = w' := by
  obtain ⟨hlen, hfit, hcells⟩ := hA
  unfold maxLen at hlen
  have HC := Lib.hid hcells
  clear hfit hcells
  by_cases hpos : 0 < xs.length
  rotate_left
  · have HV := Lib.hid (show patB xs = false by unfold patB; rw [decide_eq_false hpos]; rfl)
    have h0 : xs.length = 0 := by omega
    have h0b : ((xs.length : Int) == 0) = true := by rw [h0]; rfl
    clear hpos h0
    go_enter Tryd.func8, Tryd.ntmps8
    go_wp2_with (go_at_call 22; refine (l01In_any _ _ _ _).mono ?_; rintro e w' ⟨rfl, rfl⟩)
    go_ret
    exact ⟨ret_bool HV.out.symm, rfl⟩
  have hl0 : ((xs.length : Int) == 0) = false := beq_eq_false_iff_ne.2 (by omega)
  have hl1 : (0 : Int) < (xs.length : Int) := by omega
  have hl2 : ¬ xs.length = 0 := by omega
  obtain ⟨b, off, rfl, hB, hc⟩ := HC.out hpos
  have hcell0 := hc 0 hpos
  simp only [Nat.add_zero] at hcell0
  obtain ⟨x0, hx0⟩ : ∃ x, xs.getD 0 0 = x := ⟨_, rfl⟩
  rw [hx0] at hcell0
  have HX0 := Lib.hid hx0
  have HCC := Lib.hid hc
  clear hc hx0
  by_cases hz : x0 = 0
  rotate_left
  · have HV := Lib.hid (pat_no hpos (show patAt xs 0 = false by unfold patAt; rw [if_pos rfl, HX0.out, decide_eq_false hz, Bool.and_false]))
    have hzb : (x0 != 0) = true := by simp [hz]
    go_enter Tryd.func8, Tryd.ntmps8
    go_wp2_with (go_at_call 22; refine (l01In_any _ _ _ _).mono ?_; rintro e w' ⟨rfl, rfl⟩)
    go_ret
    exact ⟨ret_bool HV.out.symm, rfl⟩
  have hzb : (x0 != 0) = false := by simp [hz]
  have HZ := Lib.hid hz
  clear hz
  go_enter Tryd.func8, Tryd.ntmps8
  go_wp2_with (go_at_call 22; refine (l01In_any _ _ _ _).mono ?_; rintro e w' ⟨rfl, rfl⟩)
  clear hcell0
  go_loop [16] (fun i => ∃ k : Nat, k ≤ xs.length ∧ (∀ j, j < k → patAt xs j = true) ∧ i = .int .i64 k) (fun i => xs.length - (intOf i).toNat)
  case atStart => exact ⟨0, Nat.zero_le _, fun j hj => by omega, rfl⟩
  case round =>
    obtain ⟨k, hk, hall, rfl⟩ := hrel
    have HALL := Lib.hid hall
    clear hall
    by_cases hlt : k < xs.length
    · have hcell := HCC.out k hlt
      have hcell1 := HCC.out (k - 1) (by omega)
      obtain ⟨x, hx⟩ : ∃ x, xs.getD k 0 = x := ⟨_, rfl⟩
      obtain ⟨y, hy⟩ : ∃ y, xs.getD (k - 1) 0 = y := ⟨_, rfl⟩
      rw [hx] at hcell
      rw [hy] at hcell1
      have HX := Lib.hid hx
      have HY := Lib.hid hy
      clear hx hy
      cases hin : inB x 0 12
      · have HV := Lib.hid (pat_no hlt (show patAt xs k = false by unfold patAt; rw [HX.out, hin]; rfl))
        go_wp2_with (go_at_call 22; refine (l01In_any _ _ _ _).mono ?_; rintro e w' ⟨rfl, rfl⟩)
        go_ret
        exact ⟨ret_bool HV.out.symm, rfl⟩
      · by_cases h0 : k = 0
        · subst h0
          simp only [Nat.add_zero] at hcell
          have HV := Lib.hid (show patAt xs 0 = true by unfold patAt; rw [if_pos rfl, HX.out, hin, decide_eq_true (HX.out.symm.trans (HX0.out.trans HZ.out))]; rfl)
          go_wp2_with (go_at_call 22; refine (l01In_any _ _ _ _).mono ?_; rintro e w' ⟨rfl, rfl⟩)
          go_round
          case rel => exact ⟨1, by omega, pat_step HALL.out HV.out, by go_num⟩
          case measure => simp [intOf]; omega
        · have hk1 : (0 : Int) < (k : Int) := by omega
          have hk2 : decide ((0 : Int) < (k : Int)) = true := decide_eq_true hk1
          have hk3 : 0 < k := by omega
          by_cases hxy : y < x
          · have HV := Lib.hid (show patAt xs k = true by unfold patAt; rw [if_neg h0, HX.out, HY.out, hin, decide_eq_true hxy]; rfl)
            have hle : decide (x ≤ y) = false := decide_eq_false (by omega)
            have hle2 : ¬ x ≤ y := by omega
            go_wp2_with (go_at_call 22; refine (l01In_any _ _ _ _).mono ?_; rintro e w' ⟨rfl, rfl⟩)
            go_round
            case rel => exact ⟨k + 1, by omega, pat_step HALL.out HV.out, by go_num⟩
            case measure => simp [intOf]; omega
          · have HV := Lib.hid (pat_no hlt (show patAt xs k = false by unfold patAt; rw [if_neg h0, HX.out, HY.out, hin, decide_eq_false hxy]; rfl))
            have hle : decide (x ≤ y) = true := decide_eq_true (by omega)
            have hle2 : x ≤ y := by omega
            go_wp2_with (go_at_call 22; refine (l01In_any _ _ _ _).mono ?_; rintro e w' ⟨rfl, rfl⟩)
            go_ret
            exact ⟨ret_bool HV.out.symm, rfl⟩
    · have hke : k = xs.length := by omega
      subst hke
      have HV := Lib.hid (show patB xs = true by rw [pat_end HALL.out, decide_eq_true hpos])
      go_wp2_with (go_at_call 22; refine (l01In_any _ _ _ _).mono ?_; rintro e w' ⟨rfl, rfl⟩)
      go_ret
      exact ⟨ret_bool HV.out.symm, rfl⟩

set_option maxRecDepth 100000 in
set_option maxHeartbeats 1000000 in
theorem spec_l13Mask_ok (A : Option Addr) (cap : Nat) (xs : List Int) (w : World) (hA : Ints w w.heap.size A xs) (hp : patB xs = true) :
    Calls Tryd.prog 30 #[.slice A xs.length cap] w fun e w' => e = .returned (.int .i64 (patM xs)) ∧ w = w' := by
  obtain ⟨hpos, hpat⟩ := pat_all hp
  obtain ⟨hlen, hfit, hcells⟩ := hA
  unfold maxLen at hlen
  have HC := Lib.hid hcells
  have HP := Lib.hid hpat
  clear hfit hcells hpat hp
  go_enter Tryd.func30, Tryd.ntmps30
  go_wp2
  go_loop [3, 8] (fun m i => ∃ k : Nat, k ≤ xs.length ∧ m = .int .i64 (mkN xs k) ∧ i = .int .i64 k) (fun _ i => xs.length - (intOf i).toNat)
  case atStart => exact ⟨0, Nat.zero_le _, rfl, rfl⟩
  case round =>
    obtain ⟨k, hk, rfl, rfl⟩ := hrel
    by_cases hlt : k < xs.length
    · obtain ⟨b, off, rfl, hB, hc⟩ := HC.out (by omega)
      have hcell := hc k hlt
      have hin := pat_in (HP.out k hlt)
      have hsm := mk_small HP.out k (by omega)
      have hsm2 := mk_small HP.out (k + 1) (by omega)
      have hor0 : mkN xs k + 2 ^ (xs.getD k 0).toNat = mkN xs (k + 1) := rfl
      obtain ⟨v, hv⟩ := Int.eq_ofNat_of_zero_le hin.1
      rw [hv] at hcell hor0 hin
      have hor0 : mkN xs k + 2 ^ v = mkN xs (k + 1) := hor0
      have hshl := shl_small v (by omega)
      obtain ⟨p, hp⟩ : ∃ p, 2 ^ v = p := ⟨_, rfl⟩
      rw [hp] at hor0 hshl
      have hadd : IntKind.i64.wrap ((mkN xs k : Int) + (p : Int)) = (mkN xs (k + 1) : Int) := by
        rw [← hor0, Int.natCast_add]; exact i64w (by omega)
      obtain ⟨m', hm'⟩ : ∃ x, mkN xs (k + 1) = x := ⟨_, rfl⟩
      rw [hm'] at hadd hor0 hsm2
      have HM := Lib.hid hm'
      generalize mkN xs k = m at hadd hor0 hsm ⊢
      have hadd2 : (m : Int) + (p : Int) = (m' : Int) := by omega
      have hv16 : v < 16 := by omega
      have hv0 : (0 : Int) ≤ (v : Int) := Int.natCast_nonneg _
      clear hc hv hin hor0 hm' hp
      go_wp2
      go_round
      case rel => exact ⟨k + 1, by omega, by rw [HM.out], by go_num⟩
      case measure => simp [intOf]; omega
    · have hke : k = xs.length := by omega
      subst hke
      go_wp2
      go_ret
      exact ⟨rfl, rfl⟩

set_option maxRecDepth 100000 in
set_option maxHeartbeats 1000000 in
theorem spec_l13Step_no (s M : Nat) (w : World) (hs : s < 8192) (hM : M < 8192) (h : s &&& M ≠ 0) :
    Calls Tryd.prog 31 #[.int .i64 M, .int .i64 s] w fun e w' => e = .returned (.tuple #[.int .i64 s, .int .i64 0, .bool false]) ∧ w = w' := by
  have hand := i64_and_nat s M (by omega) (by omega)
  obtain ⟨a, ha⟩ : ∃ a, s &&& M = a := ⟨_, rfl⟩
  rw [ha] at hand h
  have han : ((a : Int) != 0) = true := by rw [bne_iff_ne]; omega
  have han2 : ¬ (a : Int) = 0 := by omega
  clear ha
  go_enter Tryd.func31, Tryd.ntmps31
  go_wp2
  refine bodyPost_ret (v := .tuple #[.int .i64 s, .int .i64 0, .bool false]) (by simp [results, Tryd.results31, go_sem]) rfl ⟨rfl, rfl⟩

set_option maxRecDepth 100000 in
set_option maxHeartbeats 1000000 in
theorem spec_l13Step_yes (s M s' n : Nat) (w : World) (hs : s < 8192) (hM : M < 8192) (h : s &&& M = 0) (hn : strF 14 (s + M) = (s', n)) :
    Calls Tryd.prog 31 #[.int .i64 M, .int .i64 s] w fun e w' => e = .returned (.tuple #[.int .i64 s', .int .i64 n, .bool true]) ∧ w = w' := by
  have hand := i64_and_nat s M (by omega) (by omega)
  rw [h] at hand
  have hand : bits .and .i64 (s : Int) (M : Int) = 0 := hand
  obtain ⟨z, hz⟩ : ∃ z, s + M = z := ⟨_, rfl⟩
  have hzi : (s : Int) + (M : Int) = (z : Int) := by omega
  have hwz : IntKind.i64.wrap (z : Int) = (z : Int) := i64w (by omega)
  rw [hz] at hn
  have hzs : z < 16384 := by omega
  have HN := Lib.hid hn
  have hn14 : n ≤ 14 := by have := (strF_lt 14 z).2; rw [hn] at this; exact this
  clear hz hn h
  go_enter Tryd.func31, Tryd.ntmps31
  go_wp2
  clear hand
  go_loop [1, 7] (fun a b => ∃ (u T r f : Nat), a = .int .i64 u ∧ b = .int .i64 T ∧ u < 2 ^ f ∧ f ≤ 14 ∧ strF f u = (s', r) ∧ T + r = n ∧ r ≤ 14) (fun a _ => (intOf a).toNat)
  case atStart => exact ⟨z, 0, n, 14, rfl, rfl, hzs, Nat.le_refl _, HN.out, by omega, hn14⟩
  case round =>
    obtain ⟨u, T, r, f, rfl, rfl, hu, hf, hst, hT, hr⟩ := hrel
    have hul : u < 16384 := Nat.lt_of_lt_of_le hu (Nat.pow_le_pow_right (by omega) hf)
    have hand := i64_and_nat u 1 (by omega) (by omega)
    rw [Nat.and_one_is_mod] at hand
    by_cases hodd : u % 2 = 1
    · rw [hodd] at hand
      have hand : bits .and .i64 (u : Int) 1 = 1 := hand
      obtain ⟨f', rfl⟩ : ∃ f', f = f' + 1 := by
        cases f with
        | zero => rw [Nat.pow_zero] at hu; omega
        | succ f => exact ⟨f, rfl⟩
      rw [strF_odd hodd] at hst
      have e1 := congrArg Prod.fst hst
      have e2 := congrArg Prod.snd hst
      obtain ⟨q, hq⟩ : ∃ q, u / 2 = q := ⟨_, rfl⟩
      rw [hq] at e1 e2
      have HE := Lib.hid (And.intro e1 e2)
      have hqi : (u : Int) / 2 = (q : Int) := by rw [← hq]; rfl
      have hqu : q < u := by omega
      have hqf : q < 2 ^ f' := by rw [Nat.pow_succ] at hu; omega
      have hwT : IntKind.i64.wrap ((T : Int) + 1) = (T : Int) + 1 := i64w (by omega)
      have HT := Lib.hid hT
      clear hst e1 e2 hq hodd hT
      go_wp2
      go_round
      case rel => exact ⟨q, T + 1, r - 1, f', rfl, by go_num, hqf, by omega, Prod.ext HE.out.1 (by have := HE.out.2; show (strF f' q).2 = r - 1; omega), by have := HE.out.2; have := HT.out; omega, by omega⟩
      case measure => simp [intOf]; omega
    · have h0 : u % 2 = 0 := by omega
      rw [h0] at hand
      have hand : bits .and .i64 (u : Int) 1 = 0 := hand
      rw [strF_even h0] at hst
      have e1 : u = s' := congrArg Prod.fst hst
      have e2 : 0 = r := congrArg Prod.snd hst
      have hTe : T = n := by omega
      subst e1
      subst hTe
      clear hst hodd h0 e2 hT hr
      go_wp2
      refine bodyPost_ret (v := .tuple #[.int .i64 u, .int .i64 T, .bool true]) (by simp [results, Tryd.results31, go_sem]) rfl ⟨rfl, rfl⟩

end Go.Proofs.YtcolbkgceaboaaaDoor
