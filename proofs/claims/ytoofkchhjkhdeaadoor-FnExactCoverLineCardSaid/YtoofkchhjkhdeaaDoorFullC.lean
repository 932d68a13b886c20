/-
  isFullCode of the program: whether the windows of a code are all there.
-/
import Derived.Test.YtoofkchhjkhdeaaDoorRok
import Derived.Deep.Light
import Derived.Laws.BitsAllLaws
import Derived.Laws.BitsLemmas
namespace Go.Proofs.YtoofkchhjkhdeaaDoor
open Go.RowKit
set_option linter.unusedVariables false
set_option linter.unusedSimpArgs false

theorem ofInt_i64 (a : Nat) (ha : a < 9223372036854775808) : (BitVec.ofInt 64 (a : Int)).toNat = a := by
  rw [BitVec.ofInt_natCast, BitVec.toNat_ofNat]; exact Nat.mod_eq_of_lt (by omega)
theorem i64_and_nat (a b : Nat) (ha : a < 9223372036854775808) (hb : b < 9223372036854775808) : bits .and .i64 (a : Int) (b : Int) = ((a &&& b : Nat) : Int) := by
  have hx : a &&& b < 2 ^ 63 := Nat.and_lt_two_pow _ (by omega)
  show IntKind.i64.wrap ((BitVec.ofInt 64 (a : Int) &&& BitVec.ofInt 64 (b : Int)).toNat : Int) = _
  rw [BitVec.toNat_and, ofInt_i64 a ha, ofInt_i64 b hb, IntKind.wrap_i64]
  omega
theorem i64_or_nat (a b : Nat) (ha : a < 9223372036854775808) (hb : b < 9223372036854775808) : bits .or .i64 (a : Int) (b : Int) = ((a ||| b : Nat) : Int) := by
  have hx : a ||| b < 2 ^ 63 := Nat.or_lt_two_pow (by omega) (by omega)
  show IntKind.i64.wrap ((BitVec.ofInt 64 (a : Int) ||| BitVec.ofInt 64 (b : Int)).toNat : Int) = _
  rw [BitVec.toNat_or, ofInt_i64 a ha, ofInt_i64 b hb, IntKind.wrap_i64]
  omega

/-- The code written twice; the window at a pulse as a number; the windows met; whether they are all there. -/
def winT (S c : Nat) : Nat := c * 2 ^ S ||| c
def winV (S c p : Nat) : Nat := winT S c / 2 ^ p &&& (S - 1)
def metN (S c : Nat) : Nat → Nat
  | 0 => 0
  | p + 1 => metN S c p ||| 2 ^ winV S c p
def fullB (S c : Nat) : Bool := metN S c S == 2 ^ S - 1

theorem winT_lt (S c : Nat) (hS : S ≤ 16) (hc : c < 2 ^ S) : winT S c < 4294967296 := by
  have h1 : c * 2 ^ S < 2 ^ S * 2 ^ S := (Nat.mul_lt_mul_right (Nat.two_pow_pos S)).2 hc
  have h2 : 2 ^ S * 2 ^ S ≤ 2 ^ 32 := by
    rw [← Nat.pow_add]
    exact Nat.pow_le_pow_right (by omega) (by omega)
  have h3 : (2 : Nat) ^ S ≤ 2 ^ 32 := Nat.pow_le_pow_right (by omega) (by omega)
  exact Nat.or_lt_two_pow (n := 32) (by omega) (by omega)
theorem winV_lt (S c p : Nat) (hS : 0 < S) : winV S c p < S := by
  have : winV S c p ≤ S - 1 := Nat.and_le_right
  omega
theorem metN_lt (S c : Nat) : ∀ p, 0 < S → metN S c p < 2 ^ S
  | 0, _ => Nat.two_pow_pos S
  | p + 1, h => Nat.or_lt_two_pow (metN_lt S c p h) (Nat.pow_lt_pow_right (by omega) (winV_lt S c p h))
theorem winV_bits (S c p : Nat) (m : Int) (hm : ((S - 1 : Nat) : Int) = m) (hS : S ≤ 16) (hT : winT S c < 4294967296) : bits BinOp.and IntKind.i64 (↑(winT S c) / 2 ^ p) m = (winV S c p : Int) := by
  subst hm
  have hle : winT S c / 2 ^ p ≤ winT S c := Nat.div_le_self _ _
  have := i64_and_nat (winT S c / 2 ^ p) (S - 1) (by omega) (by omega)
  rw [Int.natCast_ediv, Int.natCast_pow] at this
  exact this
theorem i64_or_pow (m v : Nat) (hm : m < 65536) (hv : v < 16) : bits BinOp.or IntKind.i64 (m : Int) (wrap64 (2 ^ v)) = ((m ||| 2 ^ v : Nat) : Int) := by
  have h2 : (2 : Nat) ^ v < 2 ^ 16 := Nat.pow_lt_pow_right (by omega) hv
  have e : wrap64 (2 ^ v) = ((2 ^ v : Nat) : Int) := by
    rw [show ((2 : Int) ^ v) = ((2 ^ v : Nat) : Int) by simp]
    generalize 2 ^ v = x at h2
    unfold wrap64
    omega
  rw [e]
  exact i64_or_nat m (2 ^ v) (by omega) (by omega)
theorem fullB_eq (S c n : Nat) (h : 2 ^ S - 1 = n) : ((metN S c S : Int) == (n : Int)) = fullB S c := by
  unfold fullB
  rw [h, Bool.eq_iff_iff, beq_iff_eq, beq_iff_eq]
  omega

end Go.Proofs.YtoofkchhjkhdeaaDoor
