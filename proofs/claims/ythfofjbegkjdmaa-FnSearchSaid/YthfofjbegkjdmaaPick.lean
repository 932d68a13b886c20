/-
  Plain laws: the list of steps with a number.
-/
import Derived.Test.YthfofjbegkjdmaaSpecCnt
namespace Go.Proofs.Ythfofjbegkjdmaa
open Go.RowKit
set_option linter.unusedVariables false
set_option linter.unusedSimpArgs false

/-- The step that a number falls on, and what is left of the number. -/
def pk (lo : Int) (m k : Nat) (n : Int) : Nat → Nat → Int → Nat × Int
  | 0, j, x => (j, x)
  | f + 1, j, x => if stN lo m k (n - (lo + j)) ≤ x then pk lo m k n f (j + 1) (x - stN lo m k (n - (lo + j))) else (j, x)
theorem pk_go {lo : Int} {m k : Nat} {n : Int} {f j : Nat} {x : Int} (h : stN lo m k (n - (lo + j)) ≤ x) : pk lo m k n (f + 1) j x = pk lo m k n f (j + 1) (x - stN lo m k (n - (lo + j))) := by
  show (if _ then _ else _) = _; rw [if_pos h]
theorem pk_stop {lo : Int} {m k : Nat} {n : Int} {f j : Nat} {x : Int} (h : x < stN lo m k (n - (lo + j))) : pk lo m k n f j x = (j, x) := by
  cases f with
  | zero => rfl
  | succ f => show (if _ then _ else _) = _; rw [if_neg (by omega)]
/-- The counts from the step j on. -/
def restS (lo : Int) (m k : Nat) (n : Int) (j : Nat) : Int := stN lo m (k + 1) n - stS lo m k n j
theorem restS_zero (lo : Int) (m k : Nat) (n : Int) : restS lo m k n 0 = stN lo m (k + 1) n := by simp [restS, stS, sumR]
theorem restS_succ (lo : Int) (m k : Nat) (n : Int) (j : Nat) : restS lo m k n (j + 1) = restS lo m k n j - stN lo m k (n - (lo + j)) := by
  unfold restS; rw [stS_succ]; omega
theorem restS_all (lo : Int) (m k : Nat) (n : Int) : restS lo m k n m = 0 := by unfold restS; rw [stS_all]; omega
theorem restS_pos {lo : Int} {m k : Nat} {n : Int} {j : Nat} {x : Int} (hj : j ≤ m) (h0 : 0 ≤ x) (h : x < restS lo m k n j) : j < m := by
  apply Classical.byContradiction
  intro hn
  rw [show j = m by omega, restS_all] at h
  omega

/-- The steps from here on. -/
def wishL (lo : Int) (m : Nat) : Nat → Int → Int → List Int
  | 0, _, _ => []
  | k + 1, n, x => (lo + (pk lo m k n m 0 x).1) :: wishL lo m k (n - (lo + (pk lo m k n m 0 x).1)) (pk lo m k n m 0 x).2
theorem wishL_succ (lo : Int) (m k : Nat) (n x : Int) : wishL lo m (k + 1) n x = (lo + (pk lo m k n m 0 x).1) :: wishL lo m k (n - (lo + (pk lo m k n m 0 x).1)) (pk lo m k n m 0 x).2 := rfl
theorem wishL_len (lo : Int) (m : Nat) : ∀ k n x, (wishL lo m k n x).length = k
  | 0, _, _ => rfl
  | k + 1, n, x => by unfold wishL; rw [List.length_cons, wishL_len]

theorem pk_inv (lo : Int) (m k : Nat) (n : Int) : ∀ (f j : Nat) (x : Int), j + f = m → 0 ≤ x → x < restS lo m k n j →
    (pk lo m k n f j x).1 < m ∧ 0 ≤ (pk lo m k n f j x).2 ∧ (pk lo m k n f j x).2 < stN lo m k (n - (lo + (pk lo m k n f j x).1))
  | 0, j, x, hj, h0, h => by
    have := restS_pos (by omega) h0 h
    omega
  | f + 1, j, x, hj, h0, h => by
    by_cases hc : stN lo m k (n - (lo + j)) ≤ x
    · rw [pk_go hc]
      exact pk_inv lo m k n f (j + 1) _ (by omega) (by omega) (by rw [restS_succ]; omega)
    · rw [pk_stop (by omega)]
      exact ⟨by show j < m; omega, h0, by show x < stN lo m k (n - (lo + (j : Int))); omega⟩
theorem pk_ok {lo : Int} {m k : Nat} {n x : Int} (h0 : 0 ≤ x) (h : x < stN lo m (k + 1) n) :
    (pk lo m k n m 0 x).1 < m ∧ 0 ≤ (pk lo m k n m 0 x).2 ∧ (pk lo m k n m 0 x).2 < stN lo m k (n - (lo + (pk lo m k n m 0 x).1)) :=
  pk_inv lo m k n m 0 x (by omega) h0 (by rw [restS_zero]; exact h)

def sumL : List Int → Int
  | [] => 0
  | x :: l => x + sumL l
theorem wishL_sum (lo : Int) (m : Nat) : ∀ k n x, 0 ≤ x → x < stN lo m k n → sumL (wishL lo m k n x) = n
  | 0, n, x, h0, h => by
    unfold stN at h
    split at h
    · simp [wishL, sumL, *]
    · omega
  | k + 1, n, x, h0, h => by
    obtain ⟨h1, h2, h3⟩ := pk_ok h0 h
    unfold wishL sumL
    rw [wishL_sum lo m k _ _ h2 h3]
    omega
theorem wishL_fit (lo : Int) (m : Nat) : ∀ k n x, 0 ≤ x → x < stN lo m k n → ∀ y ∈ wishL lo m k n x, lo ≤ y ∧ y < lo + m
  | 0, n, x, h0, h, y, hy => by simp [wishL] at hy
  | k + 1, n, x, h0, h, y, hy => by
    obtain ⟨h1, h2, h3⟩ := pk_ok h0 h
    unfold wishL at hy
    rcases List.mem_cons.1 hy with rfl | hy
    · omega
    · exact wishL_fit lo m k _ _ h2 h3 y hy

/-- The places that steps lead to, from a place on. -/
def psum : Int → List Int → List Int
  | _, [] => []
  | a, s :: l => a :: psum (a + s) l
theorem psum_len : ∀ (l : List Int) (a : Int), (psum a l).length = l.length
  | [], _ => rfl
  | s :: l, a => by unfold psum; rw [List.length_cons, List.length_cons, psum_len]
theorem psum_snoc : ∀ (l : List Int) (a s : Int), psum a (l ++ [s]) = psum a l ++ [a + sumL l]
  | [], a, s => by simp [psum, sumL]
  | x :: l, a, s => by
    rw [List.cons_append]
    unfold psum
    rw [psum_snoc l (a + x) s, List.cons_append]
    congr 2
    show _ = [a + (x + sumL l)]
    rw [Int.add_assoc]
theorem sumL_snoc : ∀ (l : List Int) (s : Int), sumL (l ++ [s]) = sumL l + s
  | [], s => by simp [sumL]
  | x :: l, s => by rw [List.cons_append]; unfold sumL; rw [sumL_snoc l s]; omega
theorem sumL_append : ∀ (l r : List Int), sumL (l ++ r) = sumL l + sumL r
  | [], r => by simp [sumL]
  | x :: l, r => by rw [List.cons_append]; show x + sumL (l ++ r) = x + sumL l + sumL r; rw [sumL_append l r]; omega
theorem sumL_nonneg : ∀ (l : List Int), (∀ x ∈ l, 0 ≤ x) → 0 ≤ sumL l
  | [], _ => Int.le_refl _
  | x :: l, h => by
    have h1 := h x (by simp)
    have h2 := sumL_nonneg l (fun y hy => h y (by simp [hy]))
    show 0 ≤ x + sumL l
    omega
/-- The beats of the rhythm with a number. -/
def wishBeats (n k lo hi x : Int) : List Int := psum 0 (wishL lo (width lo hi) k.toNat n x)

end Go.Proofs.Ythfofjbegkjdmaa
