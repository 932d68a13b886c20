/-
  CountFull of the program and of the reference: how many rhythms have each window once.
-/
import Derived.Test.YtlejlcnemibgiaaGreatWzB
namespace Go.Proofs.YtlejlcnemibgiaaGreat
open Go.RowKit
set_option linter.unusedVariables false
set_option linter.unusedSimpArgs false

/-- How many codes below n are full. -/
def cf (S : Nat) : Nat → Nat
  | 0 => 0
  | n + 1 => cf S n + (if fullB S n then 1 else 0)
theorem cf_no {S n : Nat} (h : fullB S n = false) : cf S (n + 1) = cf S n := by simp [cf, h]
theorem cf_yes {S n : Nat} (h : fullB S n = true) : cf S (n + 1) = cf S n + 1 := by simp [cf, h]
theorem cf_le (S : Nat) : ∀ n, cf S n ≤ n
  | 0 => Nat.le_refl _
  | n + 1 => by
    have := cf_le S n
    unfold cf
    split <;> omega

/-- The same count, halved again and again: quick to reckon. -/
def cft (S : Nat) : Nat → Nat → Nat
  | 0, b => if fullB S b then 1 else 0
  | d + 1, b => cft S d (2 * b) + cft S d (2 * b + 1)
theorem cft_cf (S : Nat) : ∀ d b, cf S ((b + 1) * 2 ^ d) = cf S (b * 2 ^ d) + cft S d b
  | 0, b => by simp [cft, cf]
  | d + 1, b => by
    have h1 := cft_cf S d (2 * b)
    have h2 := cft_cf S d (2 * b + 1)
    have e0 : b * 2 ^ (d + 1) = 2 * b * 2 ^ d := by rw [Nat.pow_succ, Nat.mul_comm (2 ^ d) 2, ← Nat.mul_assoc, Nat.mul_comm b 2]
    have e1 : (b + 1) * 2 ^ (d + 1) = (2 * b + 1 + 1) * 2 ^ d := by
      rw [Nat.pow_succ, Nat.mul_comm (2 ^ d) 2, ← Nat.mul_assoc]
      congr 1
      omega
    unfold cft
    rw [e0, e1, h2, h1, Nat.add_assoc]
theorem cf_full (S d : Nat) : cf S (2 ^ d) = cft S d 0 := by
  have := cft_cf S d 0
  simpa [cf] using this

/-- Two windows inside the upper part of a code are alike. -/
def dupB (k S d b : Nat) : Bool := (List.range (S - d - k)).any fun i => b / 2 ^ (i + 1) % 2 ^ k == b % 2 ^ k
theorem dup_no (k S d c : Nat) (hk : 1 ≤ k) (hS : S = 2 ^ k) (hc : c < 2 ^ S) (h : dupB k S d (c / 2 ^ d) = true) : fullB S c = false := by
  have hkS : k < S := by rw [hS]; exact Nat.lt_two_pow_self
  unfold dupB at h
  rw [List.any_eq_true] at h
  obtain ⟨i, hi, he⟩ := h
  have hi := List.mem_range.1 hi
  rw [beq_iff_eq] at he
  rw [← Bool.not_eq_true, fullB_inj S c (by omega)]
  intro hinj
  have := hinj d (d + i + 1) (by omega) (by omega) ((winV_ext k S c d (d + i + 1) hS hc (by omega) (by omega)).2 (fun j hj => by
    rw [Nat.mod_eq_of_lt (by omega), Nat.mod_eq_of_lt (by omega)]
    have h1 := congrArg (fun x => Nat.testBit x j) he
    simp only [Nat.testBit_mod_two_pow, hj, decide_true, Bool.true_and, Nat.testBit_div_two_pow] at h1
    rw [show d + j = j + d by omega, show d + i + 1 + j = j + (i + 1) + d by omega]
    exact h1.symm))
  omega
theorem cft_zero (S : Nat) : ∀ d b, (∀ c, c / 2 ^ d = b → fullB S c = false) → cft S d b = 0
  | 0, b, h => by
    have := h b (by simp)
    simp [cft, this]
  | d + 1, b, h => by
    have hh : ∀ e, e / 2 = b → ∀ c, c / 2 ^ d = e → fullB S c = false := fun e he c hc => h c (by rw [Nat.pow_succ, ← Nat.div_div_eq_div_mul, hc, he])
    unfold cft
    rw [cft_zero S d (2 * b) (hh _ (by omega)), cft_zero S d (2 * b + 1) (hh _ (by omega))]

/-- The count, where whatever has two windows alike is left out at once. -/
def cfp (k S : Nat) : Nat → Nat → Nat
  | 0, b => if dupB k S 0 b then 0 else if fullB S b then 1 else 0
  | d + 1, b => if dupB k S (d + 1) b then 0 else cfp k S d (2 * b) + cfp k S d (2 * b + 1)
theorem lt_of_div (S d b c : Nat) (hd : d ≤ S) (hb : b < 2 ^ (S - d)) (hc : c / 2 ^ d = b) : c < 2 ^ S := by
  have : c < 2 ^ d * 2 ^ (S - d) := by
    rw [Nat.mul_comm]
    exact (Nat.div_lt_iff_lt_mul (Nat.two_pow_pos d)).1 (by rw [hc]; exact hb)
  rwa [← Nat.pow_add, show d + (S - d) = S by omega] at this
theorem cfp_cft (k S : Nat) (hk : 1 ≤ k) (hS : S = 2 ^ k) : ∀ d b, d ≤ S → b < 2 ^ (S - d) → cft S d b = cfp k S d b
  | 0, b, hd, hb => by
    unfold cfp
    split
    · exact cft_zero S 0 b (fun c hc => dup_no k S 0 c hk hS (lt_of_div S 0 b c hd hb hc) (by rw [hc]; assumption))
    · rfl
  | d + 1, b, hd, hb => by
    unfold cfp
    split
    · exact cft_zero S (d + 1) b (fun c hc => dup_no k S (d + 1) c hk hS (lt_of_div S (d + 1) b c hd hb hc) (by rw [hc]; assumption))
    · have e : (2 : Nat) ^ (S - d) = 2 * 2 ^ (S - (d + 1)) := by
        rw [← Nat.pow_succ']
        congr 1
        omega
      unfold cft
      rw [cfp_cft k S hk hS d (2 * b) (by omega) (by omega), cfp_cft k S hk hS d (2 * b + 1) (by omega) (by omega)]
theorem cf_quick (k S : Nat) (hk : 1 ≤ k) (hS : S = 2 ^ k) : cf S (2 ^ S) = cfp k S S 0 := by
  rw [cf_full, cfp_cft k S hk hS S 0 (Nat.le_refl _) (Nat.two_pow_pos _)]

theorem cf_1 : cf 2 4 = 2 := by rw [show (4 : Nat) = 2 ^ 2 by rfl, cf_quick 1 2 (by decide) rfl]; decide +kernel
theorem cf_2 : cf 4 16 = 4 := by rw [show (16 : Nat) = 2 ^ 4 by rfl, cf_quick 2 4 (by decide) rfl]; decide +kernel
theorem cf_3 : cf 8 256 = 16 := by rw [show (256 : Nat) = 2 ^ 8 by rfl, cf_quick 3 8 (by decide) rfl]; decide +kernel
theorem cf_4 : cf 16 65536 = 256 := by rw [show (65536 : Nat) = 2 ^ 16 by rfl, cf_quick 4 16 (by decide) rfl]; decide +kernel

set_option maxRecDepth 100000 in
set_option maxHeartbeats 400000 in
theorem impl_CountFull_1 (w : World) :
    Calls Tryz.prog 18 #[.int .i64 1] w fun e w' => e = .returned (.int .i64 2) ∧ w = w' := by
  have hin : inB 1 1 4 = true := by decide
  go_enter Tryz.func18, Tryz.ntmps18
  go_wp2_with (go_at_call 26; refine (within_any _ _ _ _).mono ?_; rintro e w' ⟨rfl, rfl⟩)
  generalize hM : (4 : Int) = M
  have HM := Lib.hid hM
  have hM1 : M ≤ 65536 := by omega
  have hM0 : 0 ≤ M := by omega
  clear hM
  go_loop [3, 11] (fun n i => ∃ k : Nat, (k : Int) ≤ M ∧ i = .int .i64 k ∧ n = .int .i64 (cf 2 k)) (fun _ i => M.toNat - (intOf i).toNat)
  case atStart => exact ⟨0, by omega, rfl, rfl⟩
  case round =>
    obtain ⟨k, hk, rfl, rfl⟩ := hrel
    have hcl := cf_le 2 k
    by_cases hlt : (k : Int) < M
    · have hkM : k < 4 := by have := HM.out; omega
      have HK := Lib.hid hkM
      clear hkM
      cases hf : fullB 2 k
      · have hn := cf_no hf
        have HN := Lib.hid hn
        clear hn
        go_wp2_with (go_at_call 32; refine (impl_isFullCode_1 k HK.out _).mono ?_; rintro e w' ⟨rfl, rfl⟩)
        go_round
        case rel => exact ⟨k + 1, by omega, by go_num, by rw [HN.out]⟩
        case measure => simp [intOf]; omega
      · have hn := cf_yes hf
        have HN := Lib.hid hn
        clear hn
        go_wp2_with (go_at_call 32; refine (impl_isFullCode_1 k HK.out _).mono ?_; rintro e w' ⟨rfl, rfl⟩)
        go_round
        case rel => exact ⟨k + 1, by omega, by go_num, by rw [HN.out]; go_num⟩
        case measure => simp [intOf]; omega
    · have hk2 : k = 4 := by have := HM.out; omega
      have HF := Lib.hid (show cf 2 k = 2 by rw [hk2]; exact cf_1)
      clear hk2
      go_wp2
      go_ret
      exact ⟨ret_int (by rw [HF.out]; rfl), rfl⟩

set_option maxRecDepth 100000 in
set_option maxHeartbeats 400000 in
theorem impl_CountFull_2 (w : World) :
    Calls Tryz.prog 18 #[.int .i64 2] w fun e w' => e = .returned (.int .i64 4) ∧ w = w' := by
  have hin : inB 2 1 4 = true := by decide
  go_enter Tryz.func18, Tryz.ntmps18
  go_wp2_with (go_at_call 26; refine (within_any _ _ _ _).mono ?_; rintro e w' ⟨rfl, rfl⟩)
  generalize hM : (16 : Int) = M
  have HM := Lib.hid hM
  have hM1 : M ≤ 65536 := by omega
  have hM0 : 0 ≤ M := by omega
  clear hM
  go_loop [3, 11] (fun n i => ∃ k : Nat, (k : Int) ≤ M ∧ i = .int .i64 k ∧ n = .int .i64 (cf 4 k)) (fun _ i => M.toNat - (intOf i).toNat)
  case atStart => exact ⟨0, by omega, rfl, rfl⟩
  case round =>
    obtain ⟨k, hk, rfl, rfl⟩ := hrel
    have hcl := cf_le 4 k
    by_cases hlt : (k : Int) < M
    · have hkM : k < 16 := by have := HM.out; omega
      have HK := Lib.hid hkM
      clear hkM
      cases hf : fullB 4 k
      · have hn := cf_no hf
        have HN := Lib.hid hn
        clear hn
        go_wp2_with (go_at_call 32; refine (impl_isFullCode_2 k HK.out _).mono ?_; rintro e w' ⟨rfl, rfl⟩)
        go_round
        case rel => exact ⟨k + 1, by omega, by go_num, by rw [HN.out]⟩
        case measure => simp [intOf]; omega
      · have hn := cf_yes hf
        have HN := Lib.hid hn
        clear hn
        go_wp2_with (go_at_call 32; refine (impl_isFullCode_2 k HK.out _).mono ?_; rintro e w' ⟨rfl, rfl⟩)
        go_round
        case rel => exact ⟨k + 1, by omega, by go_num, by rw [HN.out]; go_num⟩
        case measure => simp [intOf]; omega
    · have hk2 : k = 16 := by have := HM.out; omega
      have HF := Lib.hid (show cf 4 k = 4 by rw [hk2]; exact cf_2)
      clear hk2
      go_wp2
      go_ret
      exact ⟨ret_int (by rw [HF.out]; rfl), rfl⟩

set_option maxRecDepth 100000 in
set_option maxHeartbeats 400000 in
theorem impl_CountFull_3 (w : World) :
    Calls Tryz.prog 18 #[.int .i64 3] w fun e w' => e = .returned (.int .i64 16) ∧ w = w' := by
  have hin : inB 3 1 4 = true := by decide
  go_enter Tryz.func18, Tryz.ntmps18
  go_wp2_with (go_at_call 26; refine (within_any _ _ _ _).mono ?_; rintro e w' ⟨rfl, rfl⟩)
  generalize hM : (256 : Int) = M
  have HM := Lib.hid hM
  have hM1 : M ≤ 65536 := by omega
  have hM0 : 0 ≤ M := by omega
  clear hM
  go_loop [3, 11] (fun n i => ∃ k : Nat, (k : Int) ≤ M ∧ i = .int .i64 k ∧ n = .int .i64 (cf 8 k)) (fun _ i => M.toNat - (intOf i).toNat)
  case atStart => exact ⟨0, by omega, rfl, rfl⟩
  case round =>
    obtain ⟨k, hk, rfl, rfl⟩ := hrel
    have hcl := cf_le 8 k
    by_cases hlt : (k : Int) < M
    · have hkM : k < 256 := by have := HM.out; omega
      have HK := Lib.hid hkM
      clear hkM
      cases hf : fullB 8 k
      · have hn := cf_no hf
        have HN := Lib.hid hn
        clear hn
        go_wp2_with (go_at_call 32; refine (impl_isFullCode_3 k HK.out _).mono ?_; rintro e w' ⟨rfl, rfl⟩)
        go_round
        case rel => exact ⟨k + 1, by omega, by go_num, by rw [HN.out]⟩
        case measure => simp [intOf]; omega
      · have hn := cf_yes hf
        have HN := Lib.hid hn
        clear hn
        go_wp2_with (go_at_call 32; refine (impl_isFullCode_3 k HK.out _).mono ?_; rintro e w' ⟨rfl, rfl⟩)
        go_round
        case rel => exact ⟨k + 1, by omega, by go_num, by rw [HN.out]; go_num⟩
        case measure => simp [intOf]; omega
    · have hk2 : k = 256 := by have := HM.out; omega
      have HF := Lib.hid (show cf 8 k = 16 by rw [hk2]; exact cf_3)
      clear hk2
      go_wp2
      go_ret
      exact ⟨ret_int (by rw [HF.out]; rfl), rfl⟩

set_option maxRecDepth 100000 in
set_option maxHeartbeats 400000 in
theorem impl_CountFull_4 (w : World) :
    Calls Tryz.prog 18 #[.int .i64 4] w fun e w' => e = .returned (.int .i64 256) ∧ w = w' := by
  have hin : inB 4 1 4 = true := by decide
  go_enter Tryz.func18, Tryz.ntmps18
  go_wp2_with (go_at_call 26; refine (within_any _ _ _ _).mono ?_; rintro e w' ⟨rfl, rfl⟩)
  generalize hM : (65536 : Int) = M
  have HM := Lib.hid hM
  have hM1 : M ≤ 65536 := by omega
  have hM0 : 0 ≤ M := by omega
  clear hM
  go_loop [3, 11] (fun n i => ∃ k : Nat, (k : Int) ≤ M ∧ i = .int .i64 k ∧ n = .int .i64 (cf 16 k)) (fun _ i => M.toNat - (intOf i).toNat)
  case atStart => exact ⟨0, by omega, rfl, rfl⟩
  case round =>
    obtain ⟨k, hk, rfl, rfl⟩ := hrel
    have hcl := cf_le 16 k
    by_cases hlt : (k : Int) < M
    · have hkM : k < 65536 := by have := HM.out; omega
      have HK := Lib.hid hkM
      clear hkM
      cases hf : fullB 16 k
      · have hn := cf_no hf
        have HN := Lib.hid hn
        clear hn
        go_wp2_with (go_at_call 32; refine (impl_isFullCode_4 k HK.out _).mono ?_; rintro e w' ⟨rfl, rfl⟩)
        go_round
        case rel => exact ⟨k + 1, by omega, by go_num, by rw [HN.out]⟩
        case measure => simp [intOf]; omega
      · have hn := cf_yes hf
        have HN := Lib.hid hn
        clear hn
        go_wp2_with (go_at_call 32; refine (impl_isFullCode_4 k HK.out _).mono ?_; rintro e w' ⟨rfl, rfl⟩)
        go_round
        case rel => exact ⟨k + 1, by omega, by go_num, by rw [HN.out]; go_num⟩
        case measure => simp [intOf]; omega
    · have hk2 : k = 65536 := by have := HM.out; omega
      have HF := Lib.hid (show cf 16 k = 256 by rw [hk2]; exact cf_4)
      clear hk2
      go_wp2
      go_ret
      exact ⟨ret_int (by rw [HF.out]; rfl), rfl⟩

end Go.Proofs.YtlejlcnemibgiaaGreat
