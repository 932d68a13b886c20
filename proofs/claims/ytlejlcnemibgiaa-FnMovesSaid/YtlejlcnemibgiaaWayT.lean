/-
  The distance between rhythms, and the moves that lower it, in plain words.
-/
import Derived.Test.YtlejlcnemibgiaaMovT
namespace Go.Proofs.Ytlejlcnemibgiaa
open Go.RowKit
set_option linter.unusedVariables false
set_option linter.unusedSimpArgs false

def absI (x : Int) : Int := if 0 ≤ x then x else -x
def sigN (f : Nat → Int) : Nat → Int
  | 0 => 0
  | m + 1 => sigN f m + f m
theorem sigN_congr {f g : Nat → Int} : ∀ {m : Nat}, (∀ i, i < m → f i = g i) → sigN f m = sigN g m
  | 0, _ => rfl
  | m + 1, h => by
    unfold sigN
    rw [sigN_congr (fun i hi => h i (by omega)), h m (by omega)]
theorem sigN_le {f g : Nat → Int} : ∀ {m : Nat}, (∀ i, i < m → f i ≤ g i) → sigN f m ≤ sigN g m
  | 0, _ => Int.le_refl _
  | m + 1, h => by
    unfold sigN
    have := sigN_le (f := f) (g := g) (m := m) (fun i hi => h i (by omega))
    have := h m (by omega)
    omega
theorem sigN_nonneg {f : Nat → Int} : ∀ {m : Nat}, (∀ i, i < m → 0 ≤ f i) → 0 ≤ sigN f m
  | 0, _ => Int.le_refl _
  | m + 1, h => by
    unfold sigN
    have := sigN_nonneg (f := f) (m := m) (fun i hi => h i (by omega))
    have := h m (by omega)
    omega
theorem sigN_zero {f : Nat → Int} : ∀ {m : Nat}, (∀ i, i < m → f i = 0) → sigN f m = 0
  | 0, _ => rfl
  | m + 1, h => by
    unfold sigN
    rw [sigN_zero (fun i hi => h i (by omega)), h m (by omega)]; rfl
theorem sigN_one {f g : Nat → Int} {j : Nat} : ∀ {m : Nat}, j < m → (∀ i, i < m → i ≠ j → f i = g i) → sigN f m - sigN g m = f j - g j
  | 0, h, _ => by omega
  | m + 1, h, he => by
    unfold sigN
    by_cases hj : j = m
    · subst hj
      rw [sigN_congr (fun i hi => he i (by omega) (by omega))]; omega
    · have := sigN_one (f := f) (g := g) (j := j) (m := m) (by omega) (fun i hi => he i (by omega))
      rw [he m (by omega) (by omega)]; omega
theorem sigN_shift (f : Nat → Int) : ∀ m, sigN (fun i => f (i + 1)) m = sigN f m - f 0 + f m
  | 0 => by unfold sigN; omega
  | m + 1 => by
    have := sigN_shift f m
    unfold sigN
    rw [this]; omega

/-- A list of beats, read on and on, around. -/
def extB (n : Int) (b : List Int) (t : Int) : Int := b.getD (t % (b.length : Int)).toNat 0 + t / (b.length : Int) * n
def Perd (k : Nat) (n : Int) (A : Int → Int) : Prop := ∀ t, A (t + k) = A t + n
theorem Perd.mul {k : Nat} {n : Int} {A : Int → Int} (h : Perd k n A) (t : Int) : ∀ j : Nat, A (t + j * k) = A t + j * n ∧ A (t - j * k) = A t - j * n
  | 0 => by simp
  | j + 1 => by
    obtain ⟨h1, h2⟩ := h.mul t j
    have e1 := h (t + j * k)
    have e2 := h (t - (j + 1 : Nat) * k)
    have x1 : ((j + 1 : Nat) : Int) * k = j * k + k := by rw [Int.natCast_add, Int.add_mul]; simp
    have x2 : ((j + 1 : Nat) : Int) * n = j * n + n := by rw [Int.natCast_add, Int.add_mul]; simp
    rw [x1] at e2 ⊢
    rw [x2]
    rw [show t - (j * k + k) + k = t - j * k by omega] at e2
    rw [show t + (j * k + k) = t + j * k + k by omega]
    omega
theorem Perd.muli {k : Nat} {n : Int} {A : Int → Int} (h : Perd k n A) (t j : Int) : A (t + j * k) = A t + j * n := by
  rcases Int.eq_nat_or_neg j with ⟨m, rfl | rfl⟩
  · exact (h.mul t m).1
  · have := (h.mul t m).2
    rw [Int.neg_mul, Int.neg_mul]
    exact this
theorem Perd.red {k : Nat} {n : Int} {A : Int → Int} (h : Perd k n A) (t : Int) : A t = A (t % k) + t / k * n := by
  have := h.muli (t % k) (t / k)
  rw [← this]
  congr 1
  have := Int.emod_add_mul_ediv t k
  rw [Int.mul_comm] at this
  exact this.symm
theorem Perd.ext {k : Nat} {n : Int} {A B : Int → Int} (hk : 1 ≤ k) (hA : Perd k n A) (hB : Perd k n B) (h : ∀ i : Nat, i < k → A i = B i) (t : Int) : A t = B t := by
  rw [hA.red t, hB.red t]
  have h0 := Int.emod_nonneg t (show (k : Int) ≠ 0 by omega)
  have h1 := Int.emod_lt_of_pos t (show (0 : Int) < k by omega)
  obtain ⟨i, hi⟩ := Int.eq_ofNat_of_zero_le h0
  rw [hi, h i (by omega)]
theorem extB_perd (n : Int) (b : List Int) (hk : 1 ≤ b.length) : Perd b.length n (extB n b) := by
  intro t
  unfold extB
  rw [Int.add_emod_right, Int.add_ediv_of_dvd_right (Int.dvd_refl _), Int.ediv_self (by omega), Int.add_mul]
  omega
theorem extB_at (n : Int) (b : List Int) (i : Nat) (hi : i < b.length) : extB n b i = b.getD i 0 := by
  unfold extB
  rw [Int.emod_eq_of_lt (by omega) (by omega), Int.ediv_eq_zero_of_lt (by omega) (by omega), Int.toNat_natCast]
  omega

/-- The sum of the ways from a to b, with a turn. -/
def farG (A B : Int → Int) (k : Nat) (s : Int) : Int := sigN (fun i => absI (A i - B (i + s))) k
theorem farG_shift1 {A B : Int → Int} {k : Nat} {n : Int} (hA : Perd k n A) (hB : Perd k n B) (s : Int) : farG (fun t => A (t + 1)) (fun t => B (t + 1)) k s = farG A B k s := by
  unfold farG
  have := sigN_shift (fun i => absI (A i - B (i + s))) k
  have e : absI (A k - B (k + s)) = absI (A 0 - B (0 + s)) := by
    have e1 := hA 0
    have e2 := hB (0 + s)
    rw [Int.zero_add] at e1 e2
    rw [show (k : Int) + s = s + k by omega, e1, Int.zero_add, e2]
    congr 1
    omega
  simp only [Int.natCast_zero] at this
  rw [e] at this
  rw [show sigN (fun i => absI (A (i + 1) - B (i + s + 1))) k = sigN (fun i : Nat => absI (A ((i + 1 : Nat) : Int) - B (((i + 1 : Nat) : Int) + s))) k from sigN_congr fun i _ => by
    rw [show ((i + 1 : Nat) : Int) = (i : Int) + 1 by omega, show (i : Int) + 1 + s = i + s + 1 by omega]]
  rw [this]
  omega
theorem farG_shift {A B : Int → Int} {k : Nat} {n : Int} (hA : Perd k n A) (hB : Perd k n B) (s : Int) (e : Int) : farG (fun t => A (t + e)) B k s = farG A B k (s - e) := by
  have main : ∀ (j : Nat) (A B : Int → Int), Perd k n A → Perd k n B → farG (fun t => A (t + j)) (fun t => B (t + j)) k s = farG A B k s := by
    intro j
    induction j with
    | zero => intro A B _ _; simp
    | succ j ih =>
      intro A B hA hB
      have h1 := ih (fun t => A (t + 1)) (fun t => B (t + 1)) (fun t => by
        have := hA (t + 1); rw [show t + 1 + (k : Int) = t + k + 1 by omega] at this; exact this) (fun t => by
        have := hB (t + 1); rw [show t + 1 + (k : Int) = t + k + 1 by omega] at this; exact this)
      rw [farG_shift1 hA hB] at h1
      rw [← h1]
      congr 1 <;> (funext t; rw [show t + ((j + 1 : Nat) : Int) = t + j + 1 by omega])
  have h3 : farG (fun t => A (t + e)) B k s = farG (fun t => A (t + e)) (fun t => B (t - e + e)) k s := by
    congr 1; funext t; rw [show t - e + e = t by omega]
  rw [h3]
  have h5 : ∀ (e : Int), farG (fun t => A (t + e)) (fun t => B (t - e + e)) k s = farG A (fun t => B (t - e)) k s := by
    intro e
    have h4 : Perd k n (fun t => B (t - e)) := fun t => by
      have := hB (t - e); rw [show t - e + (k : Int) = t + k - e by omega] at this; exact this
    rcases Int.eq_nat_or_neg e with ⟨m, rfl | rfl⟩
    · have := main m A (fun t => B (t - m)) hA h4
      rw [← this]
      congr 1; funext t; congr 1; omega
    · have := main m (fun t => A (t + -m)) (fun t => B t) (fun t => by
        have := hA (t + -m); rw [show t + -(m : Int) + (k : Int) = t + k + -m by omega] at this; exact this) hB
      have e1 : farG (fun t => A (t + (m : Int) + -m)) (fun t => B (t + m)) k s = farG A (fun t => B (t - -m)) k s := by
        congr 1 <;> (funext t; congr 1; omega)
      rw [← e1, this]
      congr 1; funext t; congr 1; omega
  rw [h5 e]
  unfold farG
  refine sigN_congr fun i _ => ?_
  show absI (A i - B (i + s - e)) = _
  rw [show (i : Int) + s - e = i + (s - e) by omega]

/-- The least of f at lo, lo + 1, .., lo + m. -/
def leastF (f : Int → Int) (lo : Int) : Nat → Int
  | 0 => f lo
  | m + 1 => if f (lo + (m + 1 : Nat)) < leastF f lo m then f (lo + (m + 1 : Nat)) else leastF f lo m
theorem leastF_spec (f : Int → Int) (lo : Int) : ∀ m : Nat, (∀ s, lo ≤ s → s ≤ lo + m → leastF f lo m ≤ f s) ∧ ∃ s, lo ≤ s ∧ s ≤ lo + m ∧ leastF f lo m = f s
  | 0 => ⟨fun s h1 h2 => by
      have : s = lo := by simp at h2; omega
      subst this; exact Int.le_refl _, lo, by omega, by simp, rfl⟩
  | m + 1 => by
    obtain ⟨h1, s0, h2, h3, h4⟩ := leastF_spec f lo m
    unfold leastF
    split
    · rename_i hlt
      refine ⟨fun s a b => ?_, lo + (m + 1 : Nat), by omega, by omega, rfl⟩
      by_cases e : s = lo + (m + 1 : Nat)
      · subst e; exact Int.le_refl _
      · have := h1 s a (by omega); omega
    · rename_i hlt
      refine ⟨fun s a b => ?_, s0, h2, by omega, h4⟩
      by_cases e : s = lo + (m + 1 : Nat)
      · subst e; omega
      · exact h1 s a (by omega)

/-- The number of moves from a to b (as many beats). -/
def farS (n : Int) (a b : List Int) (s : Int) : Int := farG (extB n a) (extB n b) a.length s
def farV (n : Int) (a b : List Int) : Int := leastF (farS n a b) (-(a.length : Int)) (2 * a.length)

section
variable {N : Nat} {a b : List Int}
theorem rh_at {i : Nat} (h : RhOk N a) (hi : i < a.length) : 0 ≤ a.getD i 0 ∧ a.getD i 0 < N := h.2.2.1 i hi
theorem ext_range (h : RhOk N a) (i : Nat) (hi : i < a.length) : 0 ≤ extB N a i ∧ extB N a i < N := by
  rw [extB_at N a i hi]; exact h.2.2.1 i hi
theorem ext_step (h : RhOk N a) (hk : 1 ≤ a.length) (t : Int) : extB N a t < extB N a (t + 1) := by
  have hp := extB_perd N a hk
  have h0 := Int.emod_nonneg t (show (a.length : Int) ≠ 0 by omega)
  have h1 := Int.emod_lt_of_pos t (show (0 : Int) < a.length by omega)
  obtain ⟨i, hi⟩ := Int.eq_ofNat_of_zero_le h0
  have e1 := hp.red t
  have e2 := hp.muli (t % a.length + 1) (t / a.length)
  rw [show t % (a.length : Int) + 1 + t / a.length * a.length = t + 1 by
    have := Int.emod_add_mul_ediv t a.length; rw [Int.mul_comm] at this; omega] at e2
  rw [e1, e2, hi]
  have hil : i < a.length := by omega
  have ri := ext_range h i hil
  by_cases hl : i + 1 < a.length
  · have := h.2.2.2 i hl
    have x1 := extB_at N a i hil
    have x2 := extB_at N a (i + 1) hl
    rw [Int.natCast_add] at x2
    have x3 : ((1 : Nat) : Int) = 1 := rfl
    rw [x3] at x2
    omega
  · have x2 := hp 0
    rw [show (0 : Int) + a.length = i + 1 by omega] at x2
    have r0 := ext_range h 0 (by omega)
    rw [show ((0 : Nat) : Int) = 0 from rfl] at r0
    omega
theorem ext_mono (h : RhOk N a) (hk : 1 ≤ a.length) (t : Int) : ∀ j : Nat, extB N a t + j ≤ extB N a (t + j)
  | 0 => by simp
  | j + 1 => by
    have := ext_mono h hk t j
    have := ext_step h hk (t + j)
    rw [show t + ((j + 1 : Nat) : Int) = t + j + 1 by omega]
    omega
theorem absI_nonneg (x : Int) : 0 ≤ absI x := by unfold absI; split <;> omega
theorem farS_nonneg (n : Int) (a b : List Int) (s : Int) : 0 ≤ farS n a b s := sigN_nonneg fun i _ => absI_nonneg _
theorem farS_far (ha : RhOk N a) (hb : RhOk N b) (hl : a.length = b.length) (hk : 1 ≤ a.length) (s : Int) :
    (∀ j : Nat, farS N a b a.length ≤ farS N a b (a.length + j)) ∧ ∀ j : Nat, farS N a b (-(a.length : Int)) ≤ farS N a b (-(a.length : Int) - j) := by
  have hkb : 1 ≤ b.length := by omega
  refine ⟨fun j => sigN_le fun i hi => ?_, fun j => sigN_le fun i hi => ?_⟩
  · have r := ext_range ha i hi
    have q := ext_range hb i (by omega)
    have p := extB_perd N b hkb i
    rw [← hl] at p
    have m := ext_mono hb hkb (i + a.length) j
    rw [show (i : Int) + (a.length + j) = i + a.length + j by omega]
    unfold absI
    split <;> split <;> omega
  · have r := ext_range ha i hi
    have q := ext_range hb i (by omega)
    have p := extB_perd N b hkb (i - a.length)
    rw [← hl, show (i : Int) - a.length + a.length = i by omega] at p
    have m := ext_mono hb hkb (i + (-a.length - j)) j
    rw [show (i : Int) + (-(a.length : Int) - j) + j = i - a.length by omega] at m
    rw [show (i : Int) + -(a.length : Int) = i - a.length by omega]
    unfold absI
    split <;> split <;> omega
theorem farV_le (ha : RhOk N a) (hb : RhOk N b) (hl : a.length = b.length) (s : Int) : farV N a b ≤ farS N a b s := by
  obtain ⟨h1, _⟩ := leastF_spec (farS N a b) (-(a.length : Int)) (2 * a.length)
  by_cases hk : 1 ≤ a.length
  · obtain ⟨f1, f2⟩ := farS_far ha hb hl hk s
    by_cases hs : s ≤ a.length
    · by_cases hs2 : -(a.length : Int) ≤ s
      · exact h1 s hs2 (by omega)
      · obtain ⟨j, hj⟩ := Int.eq_ofNat_of_zero_le (show 0 ≤ -(a.length : Int) - s by omega)
        have := f2 j
        rw [show -(a.length : Int) - j = s by omega] at this
        exact Int.le_trans (h1 _ (by omega) (by omega)) this
    · obtain ⟨j, hj⟩ := Int.eq_ofNat_of_zero_le (show 0 ≤ s - (a.length : Int) by omega)
      have := f1 j
      rw [show (a.length : Int) + j = s by omega] at this
      exact Int.le_trans (h1 _ (by omega) (by omega)) this
  · have h0 : a.length = 0 := by omega
    obtain ⟨_, s0, _, _, e⟩ := leastF_spec (farS N a b) (-(a.length : Int)) (2 * a.length)
    unfold farV
    rw [e]
    unfold farS farG
    rw [h0]
    exact Int.le_refl _
theorem farV_ex (n : Int) (a b : List Int) : ∃ s, farV n a b = farS n a b s := by
  obtain ⟨_, s, _, _, e⟩ := leastF_spec (farS n a b) (-(a.length : Int)) (2 * a.length)
  exact ⟨s, e⟩
theorem farV_nonneg (n : Int) (a b : List Int) : 0 ≤ farV n a b := by
  obtain ⟨s, e⟩ := farV_ex n a b
  rw [e]; exact farS_nonneg _ _ _ _
end

end Go.Proofs.Ytlejlcnemibgiaa
