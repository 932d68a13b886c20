/-
  isFullCode of the program: whether the windows of a code are all there.
-/
import Derived.Test.YtkjghamibjampaaRok
import Derived.Deep.Light
import Derived.Laws.BitsAllLaws
import Derived.Laws.BitsLemmas
namespace Go.Proofs.Ytkjghamibjampaa
open Go.RowKit
set_option linter.unusedVariables false
set_option linter.unusedSimpArgs false

theorem ofInt_i64 (a : Nat) (ha : a < 9223372036854775808) : (BitVec.ofInt 64 (a : Int)).toNat = a := by
  rw [BitVec.ofInt_natCast, BitVec.toNat_ofNat]; exact Nat.mod_eq_of_lt (by omega)
theorem i64_and_nat (a b : Nat) (ha : a < 9223372036854775808) (hb : b < 9223372036854775808) : bits .and .i64 (a : Int) (b : Int) = ((a &&& b : Nat) : Int) := by
  have hx : a &&& b < 2 ^ 63 := Nat.and_lt_two_pow _ (by omega)
  show IntKind.i64.wrap ((BitVec.ofInt 64 (a : Int) &&& BitVec.ofInt 64 (b : Int)).toNat : Int) = _
  rw [BitVec.toNat_and, ofInt_i64 a ha, ofInt_i64 b hb, IntKind.wrap_i64]
  omega
theorem i64_or_nat (a b : Nat) (ha : a < 9223372036854775808) (hb : b < 9223372036854775808) : bits .or .i64 (a : Int) (b : Int) = ((a ||| b : Nat) : Int) := by
  have hx : a ||| b < 2 ^ 63 := Nat.or_lt_two_pow (by omega) (by omega)
  show IntKind.i64.wrap ((BitVec.ofInt 64 (a : Int) ||| BitVec.ofInt 64 (b : Int)).toNat : Int) = _
  rw [BitVec.toNat_or, ofInt_i64 a ha, ofInt_i64 b hb, IntKind.wrap_i64]
  omega

/-- The code written twice; the window at a pulse as a number; the windows met; whether they are all there. -/
def winT (S c : Nat) : Nat := c * 2 ^ S ||| c
def winV (S c p : Nat) : Nat := winT S c / 2 ^ p &&& (S - 1)
def metN (S c : Nat) : Nat → Nat
  | 0 => 0
  | p + 1 => metN S c p ||| 2 ^ winV S c p
def fullB (S c : Nat) : Bool := metN S c S == 2 ^ S - 1

theorem winT_lt (S c : Nat) (hS : S ≤ 16) (hc : c < 2 ^ S) : winT S c < 4294967296 := by
  have h1 : c * 2 ^ S < 2 ^ S * 2 ^ S := (Nat.mul_lt_mul_right (Nat.two_pow_pos S)).2 hc
  have h2 : 2 ^ S * 2 ^ S ≤ 2 ^ 32 := by
    rw [← Nat.pow_add]
    exact Nat.pow_le_pow_right (by omega) (by omega)
  have h3 : (2 : Nat) ^ S ≤ 2 ^ 32 := Nat.pow_le_pow_right (by omega) (by omega)
  exact Nat.or_lt_two_pow (n := 32) (by omega) (by omega)
theorem winV_lt (S c p : Nat) (hS : 0 < S) : winV S c p < S := by
  have : winV S c p ≤ S - 1 := Nat.and_le_right
  omega
theorem metN_lt (S c : Nat) : ∀ p, 0 < S → metN S c p < 2 ^ S
  | 0, _ => Nat.two_pow_pos S
  | p + 1, h => Nat.or_lt_two_pow (metN_lt S c p h) (Nat.pow_lt_pow_right (by omega) (winV_lt S c p h))
theorem winV_bits (S c p : Nat) (m : Int) (hm : ((S - 1 : Nat) : Int) = m) (hS : S ≤ 16) (hT : winT S c < 4294967296) : bits BinOp.and IntKind.i64 (↑(winT S c) / 2 ^ p) m = (winV S c p : Int) := by
  subst hm
  have hle : winT S c / 2 ^ p ≤ winT S c := Nat.div_le_self _ _
  have := i64_and_nat (winT S c / 2 ^ p) (S - 1) (by omega) (by omega)
  rw [Int.natCast_ediv, Int.natCast_pow] at this
  exact this
theorem i64_or_pow (m v : Nat) (hm : m < 65536) (hv : v < 16) : bits BinOp.or IntKind.i64 (m : Int) (wrap64 (2 ^ v)) = ((m ||| 2 ^ v : Nat) : Int) := by
  have h2 : (2 : Nat) ^ v < 2 ^ 16 := Nat.pow_lt_pow_right (by omega) hv
  have e : wrap64 (2 ^ v) = ((2 ^ v : Nat) : Int) := by
    rw [show ((2 : Int) ^ v) = ((2 ^ v : Nat) : Int) by simp]
    generalize 2 ^ v = x at h2
    unfold wrap64
    omega
  rw [e]
  exact i64_or_nat m (2 ^ v) (by omega) (by omega)
theorem fullB_eq (S c n : Nat) (h : 2 ^ S - 1 = n) : ((metN S c S : Int) == (n : Int)) = fullB S c := by
  unfold fullB
  rw [h, Bool.eq_iff_iff, beq_iff_eq, beq_iff_eq]
  omega

set_option maxHeartbeats 400000 in
theorem impl_isFullCode_1 (c : Nat) (hc : c < 4) (w : World) :
    Calls Try.prog 36 #[.int .i64 1, .int .i64 c] w fun e w' => e = .returned (.bool (fullB 2 c)) ∧ w = w' := by
  have hT : bits BinOp.or IntKind.i64 (↑c * 4) ↑c = (winT 2 c : Int) := by
    have := i64_or_nat (c * 4) c (by omega) (by omega)
    rw [Int.natCast_mul] at this
    exact this
  have hTb : winT 2 c < 4294967296 := winT_lt 2 c (by omega) hc
  have HT := Lib.hid (rfl : winT 2 c = winT 2 c)
  generalize hTT : winT 2 c = T at hT hTb
  have HTT := Lib.hid hTT
  clear hTT HT
  go_enter Try.func36, Try.ntmps36
  go_wp2
  go_loop [7, 17] (fun m i => ∃ k : Nat, k ≤ 2 ∧ i = .int .i64 k ∧ m = .int .i64 (metN 2 c k)) (fun _ i => 2 - (intOf i).toNat)
  case atStart => exact ⟨0, by omega, rfl, rfl⟩
  case round =>
    obtain ⟨k, hk, rfl, rfl⟩ := hrel
    by_cases hlt : k < 2
    · have hv := winV_bits 2 c k 1 (by decide) (by omega) (by rw [HTT.out]; omega)
      rw [HTT.out] at hv
      have hvb := winV_lt 2 c k (by omega)
      have hmt := metN_lt 2 c k (by omega)
      have hor := i64_or_pow (metN 2 c k) (winV 2 c k) (by omega) (by omega)
      have hm : metN 2 c (k + 1) = metN 2 c k ||| 2 ^ winV 2 c k := rfl
      rw [← hm] at hor
      clear hm
      generalize winV 2 c k = v at hv hvb hor
      generalize metN 2 c k = mt at hor hmt ⊢
      have HT' : ∃ x, metN 2 c (k + 1) = x := ⟨_, rfl⟩
      obtain ⟨mt', hmt'⟩ := HT'
      rw [hmt'] at hor
      have HMT := Lib.hid hmt'
      clear hmt'
      go_wp2
      go_round
      case rel => exact ⟨k + 1, by omega, by go_num, by rw [HMT.out]⟩
      case measure => simp [intOf]; omega
    · have hk2 : k = 2 := by omega
      subst hk2
      have HF := Lib.hid (fullB_eq 2 c 3 (by decide))
      go_wp2
      go_ret
      exact ⟨ret_bool HF.out, rfl⟩

set_option maxHeartbeats 400000 in
theorem impl_isFullCode_2 (c : Nat) (hc : c < 16) (w : World) :
    Calls Try.prog 36 #[.int .i64 2, .int .i64 c] w fun e w' => e = .returned (.bool (fullB 4 c)) ∧ w = w' := by
  have hT : bits BinOp.or IntKind.i64 (↑c * 16) ↑c = (winT 4 c : Int) := by
    have := i64_or_nat (c * 16) c (by omega) (by omega)
    rw [Int.natCast_mul] at this
    exact this
  have hTb : winT 4 c < 4294967296 := winT_lt 4 c (by omega) hc
  have HT := Lib.hid (rfl : winT 4 c = winT 4 c)
  generalize hTT : winT 4 c = T at hT hTb
  have HTT := Lib.hid hTT
  clear hTT HT
  go_enter Try.func36, Try.ntmps36
  go_wp2
  go_loop [7, 17] (fun m i => ∃ k : Nat, k ≤ 4 ∧ i = .int .i64 k ∧ m = .int .i64 (metN 4 c k)) (fun _ i => 4 - (intOf i).toNat)
  case atStart => exact ⟨0, by omega, rfl, rfl⟩
  case round =>
    obtain ⟨k, hk, rfl, rfl⟩ := hrel
    by_cases hlt : k < 4
    · have hv := winV_bits 4 c k 3 (by decide) (by omega) (by rw [HTT.out]; omega)
      rw [HTT.out] at hv
      have hvb := winV_lt 4 c k (by omega)
      have hmt := metN_lt 4 c k (by omega)
      have hor := i64_or_pow (metN 4 c k) (winV 4 c k) (by omega) (by omega)
      have hm : metN 4 c (k + 1) = metN 4 c k ||| 2 ^ winV 4 c k := rfl
      rw [← hm] at hor
      clear hm
      generalize winV 4 c k = v at hv hvb hor
      generalize metN 4 c k = mt at hor hmt ⊢
      have HT' : ∃ x, metN 4 c (k + 1) = x := ⟨_, rfl⟩
      obtain ⟨mt', hmt'⟩ := HT'
      rw [hmt'] at hor
      have HMT := Lib.hid hmt'
      clear hmt'
      go_wp2
      go_round
      case rel => exact ⟨k + 1, by omega, by go_num, by rw [HMT.out]⟩
      case measure => simp [intOf]; omega
    · have hk2 : k = 4 := by omega
      subst hk2
      have HF := Lib.hid (fullB_eq 4 c 15 (by decide))
      go_wp2
      go_ret
      exact ⟨ret_bool HF.out, rfl⟩

set_option maxHeartbeats 400000 in
theorem impl_isFullCode_3 (c : Nat) (hc : c < 256) (w : World) :
    Calls Try.prog 36 #[.int .i64 3, .int .i64 c] w fun e w' => e = .returned (.bool (fullB 8 c)) ∧ w = w' := by
  have hT : bits BinOp.or IntKind.i64 (↑c * 256) ↑c = (winT 8 c : Int) := by
    have := i64_or_nat (c * 256) c (by omega) (by omega)
    rw [Int.natCast_mul] at this
    exact this
  have hTb : winT 8 c < 4294967296 := winT_lt 8 c (by omega) hc
  have HT := Lib.hid (rfl : winT 8 c = winT 8 c)
  generalize hTT : winT 8 c = T at hT hTb
  have HTT := Lib.hid hTT
  clear hTT HT
  go_enter Try.func36, Try.ntmps36
  go_wp2
  go_loop [7, 17] (fun m i => ∃ k : Nat, k ≤ 8 ∧ i = .int .i64 k ∧ m = .int .i64 (metN 8 c k)) (fun _ i => 8 - (intOf i).toNat)
  case atStart => exact ⟨0, by omega, rfl, rfl⟩
  case round =>
    obtain ⟨k, hk, rfl, rfl⟩ := hrel
    by_cases hlt : k < 8
    · have hv := winV_bits 8 c k 7 (by decide) (by omega) (by rw [HTT.out]; omega)
      rw [HTT.out] at hv
      have hvb := winV_lt 8 c k (by omega)
      have hmt := metN_lt 8 c k (by omega)
      have hor := i64_or_pow (metN 8 c k) (winV 8 c k) (by omega) (by omega)
      have hm : metN 8 c (k + 1) = metN 8 c k ||| 2 ^ winV 8 c k := rfl
      rw [← hm] at hor
      clear hm
      generalize winV 8 c k = v at hv hvb hor
      generalize metN 8 c k = mt at hor hmt ⊢
      have HT' : ∃ x, metN 8 c (k + 1) = x := ⟨_, rfl⟩
      obtain ⟨mt', hmt'⟩ := HT'
      rw [hmt'] at hor
      have HMT := Lib.hid hmt'
      clear hmt'
      go_wp2
      go_round
      case rel => exact ⟨k + 1, by omega, by go_num, by rw [HMT.out]⟩
      case measure => simp [intOf]; omega
    · have hk2 : k = 8 := by omega
      subst hk2
      have HF := Lib.hid (fullB_eq 8 c 255 (by decide))
      go_wp2
      go_ret
      exact ⟨ret_bool HF.out, rfl⟩

set_option maxHeartbeats 400000 in
theorem impl_isFullCode_4 (c : Nat) (hc : c < 65536) (w : World) :
    Calls Try.prog 36 #[.int .i64 4, .int .i64 c] w fun e w' => e = .returned (.bool (fullB 16 c)) ∧ w = w' := by
  have hT : bits BinOp.or IntKind.i64 (↑c * 65536) ↑c = (winT 16 c : Int) := by
    have := i64_or_nat (c * 65536) c (by omega) (by omega)
    rw [Int.natCast_mul] at this
    exact this
  have hTb : winT 16 c < 4294967296 := winT_lt 16 c (by omega) hc
  have HT := Lib.hid (rfl : winT 16 c = winT 16 c)
  generalize hTT : winT 16 c = T at hT hTb
  have HTT := Lib.hid hTT
  clear hTT HT
  go_enter Try.func36, Try.ntmps36
  go_wp2
  go_loop [7, 17] (fun m i => ∃ k : Nat, k ≤ 16 ∧ i = .int .i64 k ∧ m = .int .i64 (metN 16 c k)) (fun _ i => 16 - (intOf i).toNat)
  case atStart => exact ⟨0, by omega, rfl, rfl⟩
  case round =>
    obtain ⟨k, hk, rfl, rfl⟩ := hrel
    by_cases hlt : k < 16
    · have hv := winV_bits 16 c k 15 (by decide) (by omega) (by rw [HTT.out]; omega)
      rw [HTT.out] at hv
      have hvb := winV_lt 16 c k (by omega)
      have hmt := metN_lt 16 c k (by omega)
      have hor := i64_or_pow (metN 16 c k) (winV 16 c k) (by omega) (by omega)
      have hm : metN 16 c (k + 1) = metN 16 c k ||| 2 ^ winV 16 c k := rfl
      rw [← hm] at hor
      clear hm
      generalize winV 16 c k = v at hv hvb hor
      generalize metN 16 c k = mt at hor hmt ⊢
      have HT' : ∃ x, metN 16 c (k + 1) = x := ⟨_, rfl⟩
      obtain ⟨mt', hmt'⟩ := HT'
      rw [hmt'] at hor
      have HMT := Lib.hid hmt'
      clear hmt'
      go_wp2
      go_round
      case rel => exact ⟨k + 1, by omega, by go_num, by rw [HMT.out]⟩
      case measure => simp [intOf]; omega
    · have hk2 : k = 16 := by omega
      subst hk2
      have HF := Lib.hid (fullB_eq 16 c 65535 (by decide))
      go_wp2
      go_ret
      exact ⟨ret_bool HF.out, rfl⟩

end Go.Proofs.Ytkjghamibjampaa
