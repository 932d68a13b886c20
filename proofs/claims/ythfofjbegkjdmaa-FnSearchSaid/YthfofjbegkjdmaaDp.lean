/-
  Plain laws on the program's table of counts: one more step, one more sum.
-/
import Derived.Test.YthfofjbegkjdmaaSteps
namespace Go.Proofs.Ythfofjbegkjdmaa
set_option linter.unusedVariables false
set_option linter.unusedSimpArgs false

theorem sumR_single (v : Int) (c : Int) : ∀ m : Nat, sumR (fun x => if (x : Int) = c then v else 0) m = if 0 ≤ c ∧ c < m then v else 0
  | 0 => by rw [if_neg (by omega)]; rfl
  | m + 1 => by
    have h := sumR_single v c m
    unfold sumR
    rw [h]
    by_cases h1 : 0 ≤ c ∧ c < (m : Int)
    · rw [if_pos h1, if_neg (by omega), if_pos (by omega)]; omega
    · rw [if_neg h1]
      by_cases h2 : (m : Int) = c
      · rw [if_pos h2, if_pos (by omega)]; omega
      · rw [if_neg h2, if_neg (by omega)]; omega

/-- What the new table holds at t when the sums below i have been handed on. -/
def dp (lo : Int) (m : Nat) (f : Int → Int) (i : Nat) (t : Nat) : Int :=
  sumR (fun x => if 0 ≤ (t : Int) - (lo + x) ∧ (t : Int) - (lo + x) < i then f ((t : Int) - (lo + x)) else 0) m
/-- The same, and of the sum i the steps below s. -/
def dq (lo : Int) (m : Nat) (f : Int → Int) (i s : Nat) (t : Nat) : Int :=
  dp lo m f i t + if lo ≤ (t : Int) - i ∧ (t : Int) - i < s ∧ (t : Int) - i < lo + m then f i else 0

theorem dp_zero (lo : Int) (m : Nat) (f : Int → Int) (t : Nat) : dp lo m f 0 t = 0 := sumR_zero _ _ fun x _ => by rw [if_neg (by omega)]
theorem dp_succ (lo : Int) (m : Nat) (f : Int → Int) (i t : Nat) : dp lo m f (i + 1) t = dp lo m f i t + if lo ≤ (t : Int) - i ∧ (t : Int) - i < lo + m then f i else 0 := by
  unfold dp
  rw [show (if lo ≤ (t : Int) - i ∧ (t : Int) - i < lo + m then f i else 0) = sumR (fun x => if (x : Int) = (t : Int) - i - lo then f i else 0) m by
    rw [sumR_single]
    by_cases h : lo ≤ (t : Int) - i ∧ (t : Int) - i < lo + m
    · rw [if_pos h, if_pos (by omega)]
    · rw [if_neg h, if_neg (by omega)], ← sumR_add]
  refine sumR_congr _ _ _ fun x _ => ?_
  by_cases h1 : 0 ≤ (t : Int) - (lo + x) ∧ (t : Int) - (lo + x) < i
  · rw [if_pos h1, if_pos (by omega), if_neg (by omega)]; omega
  · rw [if_neg h1]
    by_cases h2 : (x : Int) = (t : Int) - i - lo
    · rw [if_pos h2, if_pos (by omega), show (t : Int) - (lo + x) = i by omega]; omega
    · rw [if_neg h2, if_neg (by omega)]; omega
theorem dq_start (lo : Int) (m : Nat) (f : Int → Int) (i s : Nat) (hs : (s : Int) ≤ lo) (t : Nat) : dq lo m f i s t = dp lo m f i t := by
  unfold dq; rw [if_neg (by omega)]; omega
theorem dq_step_at (lo : Int) (m : Nat) (f : Int → Int) (i s : Nat) (hs : lo ≤ (s : Int)) (hm : (s : Int) < lo + m) : dq lo m f i (s + 1) (i + s) = dq lo m f i s (i + s) + f i := by
  unfold dq
  rw [if_pos (by omega), if_neg (by omega)]; omega
theorem dq_step_off (lo : Int) (m : Nat) (f : Int → Int) (i s t : Nat) (ht : t ≠ i + s) : dq lo m f i (s + 1) t = dq lo m f i s t := by
  unfold dq
  by_cases h : lo ≤ (t : Int) - i ∧ (t : Int) - i < s ∧ (t : Int) - i < lo + m
  · rw [if_pos h, if_pos (by omega)]
  · rw [if_neg h, if_neg (by omega)]
theorem dq_end (lo : Int) (m N : Nat) (f : Int → Int) (i s t : Nat) (ht : t < N) (h : lo + m ≤ (s : Int) ∨ N ≤ i + s) : dq lo m f i s t = dp lo m f (i + 1) t := by
  rw [dp_succ]
  unfold dq
  by_cases h2 : lo ≤ (t : Int) - i ∧ (t : Int) - i < lo + m
  · rw [if_pos h2, if_pos (by omega)]
  · rw [if_neg h2, if_neg (by omega)]
theorem dp_all (lo : Int) (m k N : Nat) (hlo : 1 ≤ lo) (t : Nat) (ht : t < N) : dp lo m (stN lo m k) N t = stN lo m (k + 1) t := by
  unfold dp
  show _ = sumR (fun i => stN lo m k ((t : Int) - (lo + i))) m
  refine sumR_congr _ _ _ fun x _ => ?_
  by_cases h : 0 ≤ (t : Int) - (lo + x)
  · rw [if_pos (by omega)]
  · rw [if_neg (by omega), stN_neg lo m (by omega) k _ (by omega)]
theorem dp_bound (lo : Int) (m k i t : Nat) (hlo : 1 ≤ lo) (ht : t ≤ 16) : 0 ≤ dp lo m (stN lo m k) i t ∧ dp lo m (stN lo m k) i t ≤ 65536 := by
  constructor
  · refine sumR_nonneg _ _ fun x _ => ?_
    split
    · exact stN_nonneg _ _ _ _
    · omega
  · have h1 : dp lo m (stN lo m k) i t ≤ stN lo m (k + 1) t := by
      unfold dp
      show _ ≤ sumR (fun i => stN lo m k ((t : Int) - (lo + i))) m
      refine sumR_le _ _ _ fun x _ => ?_
      split
      · exact Int.le_refl _
      · exact stN_nonneg _ _ _ _
    have h2 := stN_small lo m hlo (k + 1) t (by omega)
    omega
theorem dq_bound (lo : Int) (m k i s t : Nat) (hlo : 1 ≤ lo) (ht : t ≤ 16) (hi : i ≤ 16) : 0 ≤ dq lo m (stN lo m k) i s t ∧ dq lo m (stN lo m k) i s t ≤ 131072 := by
  have h := dp_bound lo m k i t hlo ht
  have h1 := stN_nonneg lo m k i
  have h2 := stN_small lo m hlo k i (by omega)
  unfold dq
  split <;> omega
theorem stN_0 (lo : Int) (m t : Nat) : (if t = 0 then (1 : Int) else 0) = stN lo m 0 t := by
  unfold stN
  by_cases h : t = 0
  · subst h; rfl
  · rw [if_neg h, if_neg (by omega)]

end Go.Proofs.Ythfofjbegkjdmaa
