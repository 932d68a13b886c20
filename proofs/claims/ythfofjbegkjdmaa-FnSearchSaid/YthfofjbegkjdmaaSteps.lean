/-
  How many lists of steps have a sum: the plain function, and the reference's recursion.
-/
import Derived.Test.YthfofjbegkjdmaaWish
import Derived.Test.YthfofjbegkjdmaaRok
import Derived.Deep.Light
namespace Go.Proofs.Ythfofjbegkjdmaa
open Go.RowKit
set_option linter.unusedVariables false
set_option linter.unusedSimpArgs false

def sumR (f : Nat → Int) : Nat → Int
  | 0 => 0
  | m + 1 => sumR f m + f m
theorem sumR_nonneg (f : Nat → Int) : ∀ m, (∀ i, i < m → 0 ≤ f i) → 0 ≤ sumR f m
  | 0, _ => Int.le_refl _
  | m + 1, h => by
    have h1 := sumR_nonneg f m (fun i hi => h i (by omega))
    have h2 := h m (by omega)
    unfold sumR; omega
theorem sumR_le (f g : Nat → Int) : ∀ m, (∀ i, i < m → f i ≤ g i) → sumR f m ≤ sumR g m
  | 0, _ => Int.le_refl _
  | m + 1, h => by
    have h1 := sumR_le f g m (fun i hi => h i (by omega))
    have h2 := h m (by omega)
    unfold sumR; omega
theorem sumR_congr (f g : Nat → Int) (m : Nat) (h : ∀ i, i < m → f i = g i) : sumR f m = sumR g m := by
  have h1 := sumR_le f g m (fun i hi => by rw [h i hi]; exact Int.le_refl _)
  have h2 := sumR_le g f m (fun i hi => by rw [h i hi]; exact Int.le_refl _)
  omega
theorem sumR_zero (f : Nat → Int) (m : Nat) (h : ∀ i, i < m → f i = 0) : sumR f m = 0 := by
  have : ∀ m, sumR (fun _ => 0) m = 0 := by
    intro m
    induction m with
    | zero => rfl
    | succ m ih => unfold sumR; omega
  rw [sumR_congr f (fun _ => 0) m h, this]
theorem sumR_add (f g : Nat → Int) : ∀ m, sumR (fun i => f i + g i) m = sumR f m + sumR g m
  | 0 => rfl
  | m + 1 => by
    have := sumR_add f g m
    unfold sumR; omega

/-- How many lists of k steps, each from lo up to lo + m - 1, have the sum n. -/
def stN (lo : Int) (m : Nat) : Nat → Int → Int
  | 0, n => if n = 0 then 1 else 0
  | k + 1, n => sumR (fun i => stN lo m k (n - (lo + i))) m

theorem stN_nonneg (lo : Int) (m : Nat) : ∀ k n, 0 ≤ stN lo m k n
  | 0, n => by unfold stN; split <;> omega
  | k + 1, n => by unfold stN; exact sumR_nonneg _ _ fun i _ => stN_nonneg lo m k _
theorem stN_low (lo : Int) (m : Nat) (hlo : 0 ≤ lo) : ∀ (k : Nat) n, n < k * lo → stN lo m k n = 0
  | 0, n, h => by unfold stN; rw [if_neg (by omega)]
  | k + 1, n, h => by
    unfold stN
    refine sumR_zero _ _ fun i _ => stN_low lo m hlo k _ ?_
    have e : ((k + 1 : Nat) : Int) * lo = k * lo + lo := by rw [Int.natCast_add, Int.add_mul]; simp
    omega
theorem stN_high (lo : Int) (m : Nat) : ∀ (k : Nat) n, (k : Int) * (lo + m - 1) < n → stN lo m k n = 0
  | 0, n, h => by unfold stN; rw [if_neg (by omega)]
  | k + 1, n, h => by
    unfold stN
    refine sumR_zero _ _ fun i hi => stN_high lo m k _ ?_
    have e : ((k + 1 : Nat) : Int) * (lo + m - 1) = k * (lo + m - 1) + (lo + m - 1) := by rw [Int.natCast_add, Int.add_mul]; simp
    omega
theorem stN_neg (lo : Int) (m : Nat) (hlo : 0 ≤ lo) (k : Nat) (n : Int) (h : n < 0) : stN lo m k n = 0 :=
  stN_low lo m hlo k n (by have : 0 ≤ (k : Int) * lo := Int.mul_nonneg (by omega) hlo; omega)

def pw (x : Int) : Int := if x < 0 then 0 else 2 ^ x.toNat
theorem pw_step (x : Int) : pw x + pw x ≤ pw (x + 1) := by
  unfold pw
  by_cases h : x < 0
  · rw [if_pos h]
    split
    · omega
    · exact Int.pow_nonneg (by omega)
  · rw [if_neg h, if_neg (by omega), show (x + 1).toNat = x.toNat + 1 by omega, Int.pow_succ]
    omega
theorem pw_sum (x : Int) : ∀ m : Nat, sumR (fun i => pw (x - i)) m + pw (x + 1 - m) ≤ pw (x + 1)
  | 0 => by simp [sumR]
  | m + 1 => by
    have h1 := pw_sum x m
    have h2 := pw_step (x - m)
    have e : x + 1 - ((m + 1 : Nat) : Int) = x - m := by omega
    have e2 : x - (m : Int) + 1 = x + 1 - m := by omega
    rw [e2] at h2
    unfold sumR
    rw [e]
    omega
theorem pw_mono (x y : Int) (h : x ≤ y) : pw x ≤ pw y := by
  unfold pw
  by_cases h0 : x < 0
  · rw [if_pos h0]; split
    · omega
    · exact Int.pow_nonneg (by omega)
  · rw [if_neg h0, if_neg (by omega)]
    have h1 : (2 : Nat) ^ x.toNat ≤ 2 ^ y.toNat := Nat.pow_le_pow_right (by omega) (by omega)
    have h2 : ((2 ^ x.toNat : Nat) : Int) ≤ ((2 ^ y.toNat : Nat) : Int) := by omega
    simpa using h2
theorem pw_nonneg (x : Int) : 0 ≤ pw x := by
  unfold pw; split
  · omega
  · exact Int.pow_nonneg (by omega)
theorem stN_le (lo : Int) (m : Nat) (hlo : 1 ≤ lo) : ∀ k n, stN lo m k n ≤ pw n
  | 0, n => by
    unfold stN
    split
    · subst n; decide
    · exact pw_nonneg n
  | k + 1, n => by
    unfold stN
    have h1 := sumR_le (fun i => stN lo m k (n - (lo + i))) (fun i => pw (n - lo - i)) m (fun i _ => by
      have := stN_le lo m hlo k (n - (lo + i))
      rwa [show n - (lo + (i : Int)) = n - lo - i by omega] at this ⊢)
    have h2 := pw_sum (n - lo) m
    have h3 := pw_nonneg (n - lo + 1 - m)
    have h4 := pw_mono (n - lo + 1) n (by omega)
    omega
theorem stN_small (lo : Int) (m : Nat) (hlo : 1 ≤ lo) (k : Nat) (n : Int) (hn : n ≤ 16) : stN lo m k n ≤ 65536 := by
  have h1 := stN_le lo m hlo k n
  have h2 := pw_mono n 16 hn
  have h3 : pw 16 = 65536 := by decide
  omega

end Go.Proofs.Ythfofjbegkjdmaa
