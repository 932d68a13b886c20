/-
  Distances of beats, counted: pairs with their lesser distance (the program); all differences (the reference).
-/
import Derived.Test.YtcolbkgceaboaabGreatDoorStepsL
namespace Go.Proofs.YtcolbkgceaboaabGreatDoor
open Go.RowKit
set_option linter.unusedVariables false
set_option linter.unusedSimpArgs false

def hit (b : Bool) : Int := if b then 1 else 0
theorem hit_bound (b : Bool) : 0 ≤ hit b ∧ hit b ≤ 1 := by cases b <;> decide
/-- How many of the first j beats q fit p. -/
def rowH (g : Int → Int → Bool) (bs : List Int) (p : Int) : Nat → Int
  | 0 => 0
  | j + 1 => rowH g bs p j + hit (g p (bs.getD j 0))
/-- Pairs below the diagonal, of the first i beats. -/
def triH (g : Int → Int → Bool) (bs : List Int) : Nat → Int
  | 0 => 0
  | i + 1 => triH g bs i + rowH g bs (bs.getD i 0) i
/-- The first i rows of l pairs each. -/
def sqH (g : Int → Int → Bool) (bs : List Int) (l : Nat) : Nat → Int
  | 0 => 0
  | i + 1 => sqH g bs l i + rowH g bs (bs.getD i 0) l
def colH (g : Int → Int → Bool) (bs : List Int) (q : Int) : Nat → Int
  | 0 => 0
  | i + 1 => colH g bs q i + hit (g (bs.getD i 0) q)
theorem rowH_bound (g : Int → Int → Bool) (bs : List Int) (p : Int) : ∀ j : Nat, 0 ≤ rowH g bs p j ∧ rowH g bs p j ≤ j
  | 0 => by simp [rowH]
  | j + 1 => by have := rowH_bound g bs p j; have := hit_bound (g p (bs.getD j 0)); unfold rowH; omega
theorem triH_bound (g : Int → Int → Bool) (bs : List Int) : ∀ i : Nat, 0 ≤ triH g bs i ∧ triH g bs i ≤ i * i
  | 0 => by simp [triH]
  | i + 1 => by
    have h1 := triH_bound g bs i
    have h2 := rowH_bound g bs (bs.getD i 0) i
    unfold triH
    have : ((i + 1 : Nat) : Int) * ((i + 1 : Nat) : Int) = (i : Int) * i + 2 * i + 1 := by rw [Int.natCast_add, Int.add_mul, Int.mul_add]; simp; omega
    omega
theorem sqH_bound (g : Int → Int → Bool) (bs : List Int) (l : Nat) : ∀ i : Nat, 0 ≤ sqH g bs l i ∧ sqH g bs l i ≤ i * l
  | 0 => by simp [sqH]
  | i + 1 => by
    have h1 := sqH_bound g bs l i
    have h2 := rowH_bound g bs (bs.getD i 0) l
    unfold sqH
    have : ((i + 1 : Nat) : Int) * (l : Int) = (i : Int) * l + l := by rw [Int.natCast_add, Int.add_mul]; simp
    omega
theorem sqH_col (g : Int → Int → Bool) (bs : List Int) (l : Nat) : ∀ i : Nat, sqH g bs (l + 1) i = sqH g bs l i + colH g bs (bs.getD l 0) i
  | 0 => by simp [sqH, colH]
  | i + 1 => by
    have e : rowH g bs (bs.getD i 0) (l + 1) = rowH g bs (bs.getD i 0) l + hit (g (bs.getD i 0) (bs.getD l 0)) := rfl
    unfold sqH colH
    rw [sqH_col g bs l i, e]; omega

/-- The lesser distance of a pair is t + 1. -/
def nearB (n : Int) (t : Nat) (p q : Int) : Bool := decide (min (p - q) (n + q - p) = t + 1)
def diffB (n : Int) (k : Nat) (p q : Int) : Bool := decide ((p - q) % n = k)
theorem pair_hit {n : Int} {t : Nat} {p q : Int} (hd : 0 < p - q) (hn : p - q < n) (hk : 2 * ((t : Int) + 1) ≤ n) :
    hit (diffB n (t + 1) q p) + hit (diffB n (t + 1) p q) = (if 2 * ((t : Int) + 1) = n then 2 else 1) * hit (nearB n t p q) := by
  have e1 : (p - q) % n = p - q := Int.emod_eq_of_lt (by omega) hn
  have e2 : (q - p) % n = n + q - p := by
    rw [← Int.add_emod_left n (q - p)]
    rw [show n + (q - p) = n + q - p by omega]
    exact Int.emod_eq_of_lt (by omega) (by omega)
  have e3 : hit (diffB n (t + 1) p q) = if p - q = t + 1 then 1 else 0 := by
    unfold diffB; rw [e1]; unfold hit
    by_cases h : p - q = (t : Int) + 1 <;> simp [h]
  have e4 : hit (diffB n (t + 1) q p) = if n + q - p = t + 1 then 1 else 0 := by
    unfold diffB; rw [e2]; unfold hit
    by_cases h : n + q - p = (t : Int) + 1 <;> simp [h]
  have e5 : hit (nearB n t p q) = if (p - q = t + 1 ∨ n + q - p = t + 1) then 1 else 0 := by
    unfold nearB hit
    by_cases h : p - q = (t : Int) + 1 ∨ n + q - p = (t : Int) + 1
    · rw [if_pos h, decide_eq_true (by omega)]; rfl
    · rw [if_neg h, decide_eq_false (by omega)]; rfl
  rw [e3, e4, e5]
  by_cases h1 : p - q = (t : Int) + 1 <;> by_cases h2 : n + q - p = (t : Int) + 1 <;> by_cases h3 : 2 * ((t : Int) + 1) = n <;> simp [h1, h2, h3] <;> omega
theorem sq_tri {n : Int} {bs : List Int} (hok : RhOk n bs) {t : Nat} (hk : 2 * ((t : Int) + 1) ≤ n) : ∀ m : Nat, m ≤ bs.length →
    sqH (diffB n (t + 1)) bs m m = (if 2 * ((t : Int) + 1) = n then 2 else 1) * triH (nearB n t) bs m
  | 0, _ => by simp [sqH, triH]
  | m + 1, hm => by
    have ih := sq_tri hok hk m (by omega)
    have e1 : sqH (diffB n (t + 1)) bs (m + 1) (m + 1) = sqH (diffB n (t + 1)) bs (m + 1) m + rowH (diffB n (t + 1)) bs (bs.getD m 0) (m + 1) := rfl
    have e2 : rowH (diffB n (t + 1)) bs (bs.getD m 0) (m + 1) = rowH (diffB n (t + 1)) bs (bs.getD m 0) m + hit (diffB n (t + 1) (bs.getD m 0) (bs.getD m 0)) := rfl
    have e3 : hit (diffB n (t + 1) (bs.getD m 0) (bs.getD m 0)) = 0 := by
      unfold diffB hit
      rw [Int.sub_self, Int.zero_emod]
      rw [decide_eq_false (by omega)]; rfl
    have e4 : triH (nearB n t) bs (m + 1) = triH (nearB n t) bs m + rowH (nearB n t) bs (bs.getD m 0) m := rfl
    have hrow : ∀ j : Nat, j ≤ m → colH (diffB n (t + 1)) bs (bs.getD m 0) j + rowH (diffB n (t + 1)) bs (bs.getD m 0) j = (if 2 * ((t : Int) + 1) = n then 2 else 1) * rowH (nearB n t) bs (bs.getD m 0) j := by
      intro j
      induction j with
      | zero => intro _; simp [colH, rowH]
      | succ j ih2 =>
        intro hj
        have h1 := ih2 (by omega)
        have hlt := hok.mono m j (by omega) (by omega)
        have hb1 := hok.beat (i := m) (by omega)
        have hb2 := hok.beat (i := j) (by omega)
        have h2 := pair_hit (n := n) (t := t) (p := bs.getD m 0) (q := bs.getD j 0) (by omega) (by omega) hk
        have f1 : colH (diffB n (t + 1)) bs (bs.getD m 0) (j + 1) = colH (diffB n (t + 1)) bs (bs.getD m 0) j + hit (diffB n (t + 1) (bs.getD j 0) (bs.getD m 0)) := rfl
        have f2 : rowH (diffB n (t + 1)) bs (bs.getD m 0) (j + 1) = rowH (diffB n (t + 1)) bs (bs.getD m 0) j + hit (diffB n (t + 1) (bs.getD m 0) (bs.getD j 0)) := rfl
        have f3 : rowH (nearB n t) bs (bs.getD m 0) (j + 1) = rowH (nearB n t) bs (bs.getD m 0) j + hit (nearB n t (bs.getD m 0) (bs.getD j 0)) := rfl
        rw [f1, f2, f3, Int.mul_add]
        omega
    have hr := hrow m (Nat.le_refl _)
    rw [e1, sqH_col, e2, e3, e4, ih]
    generalize (if 2 * ((t : Int) + 1) = n then (2 : Int) else 1) = c at hr ⊢
    rw [Int.mul_add, ← hr]
    omega

/-- The vector. -/
def vecV (n : Int) (bs : List Int) : List Int := (List.range (n / 2).toNat).map fun t => triH (nearB n t) bs bs.length
theorem vecV_len (n : Int) (bs : List Int) : (vecV n bs).length = (n / 2).toNat := by simp [vecV]
theorem vecV_get (n : Int) (bs : List Int) {t : Nat} (h : t < (n / 2).toNat) : (vecV n bs).getD t 0 = triH (nearB n t) bs bs.length := by
  unfold vecV
  rw [List.getD_eq_getElem?_getD, List.getElem?_map, List.getElem?_range h]; rfl
theorem vec_spec {n : Int} {bs : List Int} (hok : RhOk n bs) {t : Nat} (ht : 2 * ((t : Int) + 1) ≤ n) :
    (if 2 * ((t : Int) + 1) = n then sqH (diffB n (t + 1)) bs bs.length bs.length / 2 else sqH (diffB n (t + 1)) bs bs.length bs.length) = triH (nearB n t) bs bs.length := by
  rw [sq_tri hok ht bs.length (Nat.le_refl _)]
  by_cases h : 2 * ((t : Int) + 1) = n
  · rw [if_pos h, if_pos h]
    exact Int.mul_ediv_cancel_left _ (by decide)
  · rw [if_neg h, if_neg h, Int.one_mul]
/-- A step of the program's table. -/
theorem tri_step (n : Int) (bs : List Int) (i j : Nat) (p q : Int) (t u : Nat) (hq : bs.getD j 0 = q) (hu : min (p - q) (n + q - p) = u + 1) :
    triH (nearB n t) bs i + rowH (nearB n t) bs p (j + 1) = (triH (nearB n t) bs i + rowH (nearB n t) bs p j) + (if t = u then 1 else 0) := by
  have e : rowH (nearB n t) bs p (j + 1) = rowH (nearB n t) bs p j + hit (nearB n t p (bs.getD j 0)) := rfl
  rw [e, hq]
  unfold nearB hit
  rw [hu]
  by_cases h : t = u
  · subst h; simp; omega
  · rw [if_neg h, decide_eq_false (by omega)]; simp
theorem sq_step (n : Int) (bs : List Int) (l i j : Nat) (p q : Int) (t u : Nat) (hq : bs.getD j 0 = q) (hu : (p - q) % n = u) :
    sqH (diffB n t) bs l i + rowH (diffB n t) bs p (j + 1) = (sqH (diffB n t) bs l i + rowH (diffB n t) bs p j) + (if t = u then 1 else 0) := by
  have e : rowH (diffB n t) bs p (j + 1) = rowH (diffB n t) bs p j + hit (diffB n t p (bs.getD j 0)) := rfl
  rw [e, hq]
  unfold diffB hit
  rw [hu]
  by_cases h : t = u
  · subst h; simp; omega
  · rw [if_neg h, decide_eq_false (by omega)]; simp

end Go.Proofs.YtcolbkgceaboaabGreatDoor
