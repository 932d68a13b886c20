/-
  Several texts of this proof in one: WayT, WayU, EvnT, ClsT, Mvd, Frm, Hav, Aft, Code, Rv.
-/
import Derived.Test.YtjoeglekcnaebaaGreatDoorMovT
import Derived.Test.YtjoeglekcnaebaaGreatDoorTurn
import Derived.Test.YtjoeglekcnaebaaGreatDoorRlaw
import Derived.Test.YtjoeglekcnaebaaGreatDoorRw
import Derived.Test.YtjoeglekcnaebaaGreatDoorCells
import Derived.Test.YtjoeglekcnaebaaGreatDoorFullC
import Derived.Test.YtjoeglekcnaebaaGreatDoorFulT
import Derived.Deep.AppendLies
namespace Go.Proofs.YtjoeglekcnaebaaGreatDoor
open Go.RowKit
set_option linter.unusedVariables false
set_option linter.unusedSimpArgs false

def absI (x : Int) : Int := if 0 ≤ x then x else -x
def sigN (f : Nat → Int) : Nat → Int
  | 0 => 0
  | m + 1 => sigN f m + f m
theorem sigN_congr {f g : Nat → Int} : ∀ {m : Nat}, (∀ i, i < m → f i = g i) → sigN f m = sigN g m
  | 0, _ => rfl
  | m + 1, h => by
    unfold sigN
    rw [sigN_congr (fun i hi => h i (by omega)), h m (by omega)]
theorem sigN_le {f g : Nat → Int} : ∀ {m : Nat}, (∀ i, i < m → f i ≤ g i) → sigN f m ≤ sigN g m
  | 0, _ => Int.le_refl _
  | m + 1, h => by
    unfold sigN
    have := sigN_le (f := f) (g := g) (m := m) (fun i hi => h i (by omega))
    have := h m (by omega)
    omega
theorem sigN_nonneg {f : Nat → Int} : ∀ {m : Nat}, (∀ i, i < m → 0 ≤ f i) → 0 ≤ sigN f m
  | 0, _ => Int.le_refl _
  | m + 1, h => by
    unfold sigN
    have := sigN_nonneg (f := f) (m := m) (fun i hi => h i (by omega))
    have := h m (by omega)
    omega
theorem sigN_zero {f : Nat → Int} : ∀ {m : Nat}, (∀ i, i < m → f i = 0) → sigN f m = 0
  | 0, _ => rfl
  | m + 1, h => by
    unfold sigN
    rw [sigN_zero (fun i hi => h i (by omega)), h m (by omega)]; rfl
theorem sigN_one {f g : Nat → Int} {j : Nat} : ∀ {m : Nat}, j < m → (∀ i, i < m → i ≠ j → f i = g i) → sigN f m - sigN g m = f j - g j
  | 0, h, _ => by omega
  | m + 1, h, he => by
    unfold sigN
    by_cases hj : j = m
    · subst hj
      rw [sigN_congr (fun i hi => he i (by omega) (by omega))]; omega
    · have := sigN_one (f := f) (g := g) (j := j) (m := m) (by omega) (fun i hi => he i (by omega))
      rw [he m (by omega) (by omega)]; omega
theorem sigN_shift (f : Nat → Int) : ∀ m, sigN (fun i => f (i + 1)) m = sigN f m - f 0 + f m
  | 0 => by unfold sigN; omega
  | m + 1 => by
    have := sigN_shift f m
    unfold sigN
    rw [this]; omega

/-- A list of beats, read on and on, around. -/
def extB (n : Int) (b : List Int) (t : Int) : Int := b.getD (t % (b.length : Int)).toNat 0 + t / (b.length : Int) * n
def Perd (k : Nat) (n : Int) (A : Int → Int) : Prop := ∀ t, A (t + k) = A t + n
theorem Perd.mul {k : Nat} {n : Int} {A : Int → Int} (h : Perd k n A) (t : Int) : ∀ j : Nat, A (t + j * k) = A t + j * n ∧ A (t - j * k) = A t - j * n
  | 0 => by simp
  | j + 1 => by
    obtain ⟨h1, h2⟩ := h.mul t j
    have e1 := h (t + j * k)
    have e2 := h (t - (j + 1 : Nat) * k)
    have x1 : ((j + 1 : Nat) : Int) * k = j * k + k := by rw [Int.natCast_add, Int.add_mul]; simp
    have x2 : ((j + 1 : Nat) : Int) * n = j * n + n := by rw [Int.natCast_add, Int.add_mul]; simp
    rw [x1] at e2 ⊢
    rw [x2]
    rw [show t - (j * k + k) + k = t - j * k by omega] at e2
    rw [show t + (j * k + k) = t + j * k + k by omega]
    omega
theorem Perd.muli {k : Nat} {n : Int} {A : Int → Int} (h : Perd k n A) (t j : Int) : A (t + j * k) = A t + j * n := by
  rcases Int.eq_nat_or_neg j with ⟨m, rfl | rfl⟩
  · exact (h.mul t m).1
  · have := (h.mul t m).2
    rw [Int.neg_mul, Int.neg_mul]
    exact this
theorem Perd.red {k : Nat} {n : Int} {A : Int → Int} (h : Perd k n A) (t : Int) : A t = A (t % k) + t / k * n := by
  have := h.muli (t % k) (t / k)
  rw [← this]
  congr 1
  have := Int.emod_add_mul_ediv t k
  rw [Int.mul_comm] at this
  exact this.symm
theorem Perd.ext {k : Nat} {n : Int} {A B : Int → Int} (hk : 1 ≤ k) (hA : Perd k n A) (hB : Perd k n B) (h : ∀ i : Nat, i < k → A i = B i) (t : Int) : A t = B t := by
  rw [hA.red t, hB.red t]
  have h0 := Int.emod_nonneg t (show (k : Int) ≠ 0 by omega)
  have h1 := Int.emod_lt_of_pos t (show (0 : Int) < k by omega)
  obtain ⟨i, hi⟩ := Int.eq_ofNat_of_zero_le h0
  rw [hi, h i (by omega)]
theorem extB_perd (n : Int) (b : List Int) (hk : 1 ≤ b.length) : Perd b.length n (extB n b) := by
  intro t
  unfold extB
  rw [Int.add_emod_right, Int.add_ediv_of_dvd_right (Int.dvd_refl _), Int.ediv_self (by omega), Int.add_mul]
  omega
theorem extB_at (n : Int) (b : List Int) (i : Nat) (hi : i < b.length) : extB n b i = b.getD i 0 := by
  unfold extB
  rw [Int.emod_eq_of_lt (by omega) (by omega), Int.ediv_eq_zero_of_lt (by omega) (by omega), Int.toNat_natCast]
  omega

/-- The sum of the ways from a to b, with a turn. -/
def farG (A B : Int → Int) (k : Nat) (s : Int) : Int := sigN (fun i => absI (A i - B (i + s))) k
theorem farG_shift1 {A B : Int → Int} {k : Nat} {n : Int} (hA : Perd k n A) (hB : Perd k n B) (s : Int) : farG (fun t => A (t + 1)) (fun t => B (t + 1)) k s = farG A B k s := by
  unfold farG
  have := sigN_shift (fun i => absI (A i - B (i + s))) k
  have e : absI (A k - B (k + s)) = absI (A 0 - B (0 + s)) := by
    have e1 := hA 0
    have e2 := hB (0 + s)
    rw [Int.zero_add] at e1 e2
    rw [show (k : Int) + s = s + k by omega, e1, Int.zero_add, e2]
    congr 1
    omega
  simp only [Int.natCast_zero] at this
  rw [e] at this
  rw [show sigN (fun i => absI (A (i + 1) - B (i + s + 1))) k = sigN (fun i : Nat => absI (A ((i + 1 : Nat) : Int) - B (((i + 1 : Nat) : Int) + s))) k from sigN_congr fun i _ => by
    rw [show ((i + 1 : Nat) : Int) = (i : Int) + 1 by omega, show (i : Int) + 1 + s = i + s + 1 by omega]]
  rw [this]
  omega
theorem farG_shift {A B : Int → Int} {k : Nat} {n : Int} (hA : Perd k n A) (hB : Perd k n B) (s : Int) (e : Int) : farG (fun t => A (t + e)) B k s = farG A B k (s - e) := by
  have main : ∀ (j : Nat) (A B : Int → Int), Perd k n A → Perd k n B → farG (fun t => A (t + j)) (fun t => B (t + j)) k s = farG A B k s := by
    intro j
    induction j with
    | zero => intro A B _ _; simp
    | succ j ih =>
      intro A B hA hB
      have h1 := ih (fun t => A (t + 1)) (fun t => B (t + 1)) (fun t => by
        have := hA (t + 1); rw [show t + 1 + (k : Int) = t + k + 1 by omega] at this; exact this) (fun t => by
        have := hB (t + 1); rw [show t + 1 + (k : Int) = t + k + 1 by omega] at this; exact this)
      rw [farG_shift1 hA hB] at h1
      rw [← h1]
      congr 1 <;> (funext t; rw [show t + ((j + 1 : Nat) : Int) = t + j + 1 by omega])
  have h3 : farG (fun t => A (t + e)) B k s = farG (fun t => A (t + e)) (fun t => B (t - e + e)) k s := by
    congr 1; funext t; rw [show t - e + e = t by omega]
  rw [h3]
  have h5 : ∀ (e : Int), farG (fun t => A (t + e)) (fun t => B (t - e + e)) k s = farG A (fun t => B (t - e)) k s := by
    intro e
    have h4 : Perd k n (fun t => B (t - e)) := fun t => by
      have := hB (t - e); rw [show t - e + (k : Int) = t + k - e by omega] at this; exact this
    rcases Int.eq_nat_or_neg e with ⟨m, rfl | rfl⟩
    · have := main m A (fun t => B (t - m)) hA h4
      rw [← this]
      congr 1; funext t; congr 1; omega
    · have := main m (fun t => A (t + -m)) (fun t => B t) (fun t => by
        have := hA (t + -m); rw [show t + -(m : Int) + (k : Int) = t + k + -m by omega] at this; exact this) hB
      have e1 : farG (fun t => A (t + (m : Int) + -m)) (fun t => B (t + m)) k s = farG A (fun t => B (t - -m)) k s := by
        congr 1 <;> (funext t; congr 1; omega)
      rw [← e1, this]
      congr 1; funext t; congr 1; omega
  rw [h5 e]
  unfold farG
  refine sigN_congr fun i _ => ?_
  show absI (A i - B (i + s - e)) = _
  rw [show (i : Int) + s - e = i + (s - e) by omega]

/-- The least of f at lo, lo + 1, .., lo + m. -/
def leastF (f : Int → Int) (lo : Int) : Nat → Int
  | 0 => f lo
  | m + 1 => if f (lo + (m + 1 : Nat)) < leastF f lo m then f (lo + (m + 1 : Nat)) else leastF f lo m
theorem leastF_spec (f : Int → Int) (lo : Int) : ∀ m : Nat, (∀ s, lo ≤ s → s ≤ lo + m → leastF f lo m ≤ f s) ∧ ∃ s, lo ≤ s ∧ s ≤ lo + m ∧ leastF f lo m = f s
  | 0 => ⟨fun s h1 h2 => by
      have : s = lo := by simp at h2; omega
      subst this; exact Int.le_refl _, lo, by omega, by simp, rfl⟩
  | m + 1 => by
    obtain ⟨h1, s0, h2, h3, h4⟩ := leastF_spec f lo m
    unfold leastF
    split
    · rename_i hlt
      refine ⟨fun s a b => ?_, lo + (m + 1 : Nat), by omega, by omega, rfl⟩
      by_cases e : s = lo + (m + 1 : Nat)
      · subst e; exact Int.le_refl _
      · have := h1 s a (by omega); omega
    · rename_i hlt
      refine ⟨fun s a b => ?_, s0, h2, by omega, h4⟩
      by_cases e : s = lo + (m + 1 : Nat)
      · subst e; omega
      · exact h1 s a (by omega)

/-- The number of moves from a to b (as many beats). -/
def farS (n : Int) (a b : List Int) (s : Int) : Int := farG (extB n a) (extB n b) a.length s
def farV (n : Int) (a b : List Int) : Int := leastF (farS n a b) (-(a.length : Int)) (2 * a.length)

section
variable {N : Nat} {a b : List Int}
theorem rh_at {i : Nat} (h : RhOk N a) (hi : i < a.length) : 0 ≤ a.getD i 0 ∧ a.getD i 0 < N := h.2.2.1 i hi
theorem ext_range (h : RhOk N a) (i : Nat) (hi : i < a.length) : 0 ≤ extB N a i ∧ extB N a i < N := by
  rw [extB_at N a i hi]; exact h.2.2.1 i hi
theorem ext_step (h : RhOk N a) (hk : 1 ≤ a.length) (t : Int) : extB N a t < extB N a (t + 1) := by
  have hp := extB_perd N a hk
  have h0 := Int.emod_nonneg t (show (a.length : Int) ≠ 0 by omega)
  have h1 := Int.emod_lt_of_pos t (show (0 : Int) < a.length by omega)
  obtain ⟨i, hi⟩ := Int.eq_ofNat_of_zero_le h0
  have e1 := hp.red t
  have e2 := hp.muli (t % a.length + 1) (t / a.length)
  rw [show t % (a.length : Int) + 1 + t / a.length * a.length = t + 1 by
    have := Int.emod_add_mul_ediv t a.length; rw [Int.mul_comm] at this; omega] at e2
  rw [e1, e2, hi]
  have hil : i < a.length := by omega
  have ri := ext_range h i hil
  by_cases hl : i + 1 < a.length
  · have := h.2.2.2 i hl
    have x1 := extB_at N a i hil
    have x2 := extB_at N a (i + 1) hl
    rw [Int.natCast_add] at x2
    have x3 : ((1 : Nat) : Int) = 1 := rfl
    rw [x3] at x2
    omega
  · have x2 := hp 0
    rw [show (0 : Int) + a.length = i + 1 by omega] at x2
    have r0 := ext_range h 0 (by omega)
    rw [show ((0 : Nat) : Int) = 0 from rfl] at r0
    omega
theorem ext_mono (h : RhOk N a) (hk : 1 ≤ a.length) (t : Int) : ∀ j : Nat, extB N a t + j ≤ extB N a (t + j)
  | 0 => by simp
  | j + 1 => by
    have := ext_mono h hk t j
    have := ext_step h hk (t + j)
    rw [show t + ((j + 1 : Nat) : Int) = t + j + 1 by omega]
    omega
theorem absI_nonneg (x : Int) : 0 ≤ absI x := by unfold absI; split <;> omega
theorem farS_nonneg (n : Int) (a b : List Int) (s : Int) : 0 ≤ farS n a b s := sigN_nonneg fun i _ => absI_nonneg _
theorem farS_far (ha : RhOk N a) (hb : RhOk N b) (hl : a.length = b.length) (hk : 1 ≤ a.length) (s : Int) :
    (∀ j : Nat, farS N a b a.length ≤ farS N a b (a.length + j)) ∧ ∀ j : Nat, farS N a b (-(a.length : Int)) ≤ farS N a b (-(a.length : Int) - j) := by
  have hkb : 1 ≤ b.length := by omega
  refine ⟨fun j => sigN_le fun i hi => ?_, fun j => sigN_le fun i hi => ?_⟩
  · have r := ext_range ha i hi
    have q := ext_range hb i (by omega)
    have p := extB_perd N b hkb i
    rw [← hl] at p
    have m := ext_mono hb hkb (i + a.length) j
    rw [show (i : Int) + (a.length + j) = i + a.length + j by omega]
    unfold absI
    split <;> split <;> omega
  · have r := ext_range ha i hi
    have q := ext_range hb i (by omega)
    have p := extB_perd N b hkb (i - a.length)
    rw [← hl, show (i : Int) - a.length + a.length = i by omega] at p
    have m := ext_mono hb hkb (i + (-a.length - j)) j
    rw [show (i : Int) + (-(a.length : Int) - j) + j = i - a.length by omega] at m
    rw [show (i : Int) + -(a.length : Int) = i - a.length by omega]
    unfold absI
    split <;> split <;> omega
theorem farV_le (ha : RhOk N a) (hb : RhOk N b) (hl : a.length = b.length) (s : Int) : farV N a b ≤ farS N a b s := by
  obtain ⟨h1, _⟩ := leastF_spec (farS N a b) (-(a.length : Int)) (2 * a.length)
  by_cases hk : 1 ≤ a.length
  · obtain ⟨f1, f2⟩ := farS_far ha hb hl hk s
    by_cases hs : s ≤ a.length
    · by_cases hs2 : -(a.length : Int) ≤ s
      · exact h1 s hs2 (by omega)
      · obtain ⟨j, hj⟩ := Int.eq_ofNat_of_zero_le (show 0 ≤ -(a.length : Int) - s by omega)
        have := f2 j
        rw [show -(a.length : Int) - j = s by omega] at this
        exact Int.le_trans (h1 _ (by omega) (by omega)) this
    · obtain ⟨j, hj⟩ := Int.eq_ofNat_of_zero_le (show 0 ≤ s - (a.length : Int) by omega)
      have := f1 j
      rw [show (a.length : Int) + j = s by omega] at this
      exact Int.le_trans (h1 _ (by omega) (by omega)) this
  · have h0 : a.length = 0 := by omega
    obtain ⟨_, s0, _, _, e⟩ := leastF_spec (farS N a b) (-(a.length : Int)) (2 * a.length)
    unfold farV
    rw [e]
    unfold farS farG
    rw [h0]
    exact Int.le_refl _
theorem farV_ex (n : Int) (a b : List Int) : ∃ s, farV n a b = farS n a b s := by
  obtain ⟨_, s, _, _, e⟩ := leastF_spec (farS n a b) (-(a.length : Int)) (2 * a.length)
  exact ⟨s, e⟩
theorem farV_nonneg (n : Int) (a b : List Int) : 0 ≤ farV n a b := by
  obtain ⟨s, e⟩ := farV_ex n a b
  rw [e]; exact farS_nonneg _ _ _ _
end

end Go.Proofs.YtjoeglekcnaebaaGreatDoor

namespace Go.Proofs.YtjoeglekcnaebaaGreatDoor
open Go.RowKit
set_option linter.unusedVariables false
set_option linter.unusedSimpArgs false

def genL (k : Nat) (f : Nat → Int) : List Int := (List.range k).map f
theorem genL_len (k : Nat) (f : Nat → Int) : (genL k f).length = k := by simp [genL]
theorem genL_at {k : Nat} {f : Nat → Int} {j : Nat} (h : j < k) : (genL k f).getD j 0 = f j := by
  unfold genL
  rw [List.getD_eq_getElem?_getD, List.getElem?_map, List.getElem?_range h]
  rfl
theorem genL_mem {k : Nat} {f : Nat → Int} {x : Int} : x ∈ genL k f ↔ ∃ j, j < k ∧ f j = x := by
  unfold genL
  rw [List.mem_map]
  constructor
  · rintro ⟨j, hj, e⟩; exact ⟨j, List.mem_range.1 hj, e⟩
  · rintro ⟨j, hj, e⟩; exact ⟨j, List.mem_range.2 hj, e⟩
theorem set_mem {a : List Int} {i : Nat} {q x : Int} (hi : i < a.length) : x ∈ a.set i q ↔ ∃ j, j < a.length ∧ (if j = i then q else a.getD j 0) = x := by
  rw [List.mem_iff_getElem?]
  constructor
  · rintro ⟨j, hj⟩
    rw [List.getElem?_set] at hj
    by_cases e : i = j
    · subst e
      rw [if_pos rfl, if_pos hi] at hj
      exact ⟨i, hi, by rw [if_pos rfl]; exact Option.some.inj hj⟩
    · rw [if_neg e] at hj
      have hl : j < a.length := by
        rcases Nat.lt_or_ge j a.length with h | h
        · exact h
        · rw [List.getElem?_eq_none h] at hj; cases hj
      exact ⟨j, hl, by rw [if_neg (fun h => e h.symm), List.getD_eq_getElem?_getD, hj]; rfl⟩
  · rintro ⟨j, hj, e⟩
    refine ⟨j, ?_⟩
    rw [List.getElem?_set]
    by_cases h : i = j
    · subst h
      rw [if_pos rfl, if_pos hi]
      rw [if_pos rfl] at e
      rw [e]
    · rw [if_neg h]
      rw [if_neg (fun x => h x.symm), List.getD_eq_getElem?_getD, List.getElem?_eq_getElem hj] at e
      rw [List.getElem?_eq_getElem hj]
      exact congrArg some e
theorem ofL_gen {N k : Nat} {f : Nat → Int} {xs : List Int} (hr : ∀ j, j < k → 0 ≤ f j ∧ f j < N) (hs : ∀ j, j + 1 < k → f j < f (j + 1)) (h1 : 1 ≤ N) (h2 : N ≤ 24) (hm : ∀ x, x ∈ xs ↔ ∃ j, j < k ∧ f j = x) : ofL xs N = genL k f := by
  have hok : RhOk N (genL k f) := ⟨by omega, by omega, fun i hi => by
    rw [genL_len] at hi; rw [genL_at hi]; exact hr i hi, fun i hi => by
    rw [genL_len] at hi; rw [genL_at hi, genL_at (by omega)]; exact hs i hi⟩
  refine asc_unique (ofL_sorted _ _) (rhok_asc hok) fun x => ?_
  rw [ofL_mem, genL_mem]
  constructor
  · rintro ⟨t, ht, hb, rfl⟩
    unfold hasB at hb
    rw [decide_eq_true_eq] at hb
    exact (hm _).1 hb
  · rintro ⟨j, hj, rfl⟩
    obtain ⟨r0, r1⟩ := hr j hj
    obtain ⟨t, ht⟩ := Int.eq_ofNat_of_zero_le r0
    refine ⟨t, by omega, ?_, ht⟩
    unfold hasB
    rw [decide_eq_true_eq, ← ht]
    exact (hm _).2 ⟨j, hj, rfl⟩

section
variable {N : Nat} {a b : List Int}
/-- The beats with one moved on, read on and on. -/
def mvA (N : Nat) (a : List Int) (i : Nat) (d t : Int) : Int := extB N a t + (if t % (a.length : Int) = i then d else 0)
theorem mvA_perd (i : Nat) (d : Int) (hk : 1 ≤ a.length) : Perd a.length N (mvA N a i d) := by
  intro t
  unfold mvA
  rw [Int.add_emod_right, extB_perd N a hk t]
  omega
theorem ext_gen {k : Nat} {f : Nat → Int} {i : Nat} {d e : Int} (ha : a.length = k) (hk : 1 ≤ k) (h : ∀ j, j < k → f j = mvA N a i d (j + e)) : ∀ t, extB N (genL k f) t = mvA N a i d (t + e) := by
  have hp := extB_perd N (genL k f) (by rw [genL_len]; exact hk)
  rw [genL_len] at hp
  have hq := mvA_perd (N := N) (a := a) i d (by omega)
  rw [ha] at hq
  refine Perd.ext hk hp (B := fun t => mvA N a i d (t + e)) (fun t => ?_) fun j hj => ?_
  · have := hq (t + e)
    rw [show t + e + (k : Int) = t + k + e by omega] at this
    exact this
  · rw [extB_at N _ j (by rw [genL_len]; exact hj), genL_at hj]
    exact h j hj
theorem mvA_at (i : Nat) (d : Int) (j : Nat) (hj : j < a.length) : mvA N a i d j = a.getD j 0 + (if j = i then d else 0) := by
  unfold mvA
  rw [extB_at N a j hj, Int.emod_eq_of_lt (by omega) (by omega)]
  congr 1
  by_cases h : j = i
  · rw [if_pos h, if_pos (by omega)]
  · rw [if_neg h, if_neg (by omega)]
theorem rh_lt (h : RhOk N a) : ∀ {i j : Nat}, i < j → j < a.length → a.getD i 0 < a.getD j 0
  | i, 0, hij, _ => by omega
  | i, j + 1, hij, hj => by
    have := h.2.2.2 j hj
    by_cases e : i = j
    · subst e; exact this
    · have := rh_lt h (i := i) (j := j) (by omega) (by omega); omega
theorem not_at {q : Int} (hq : q ∉ a) {j : Nat} (hj : j < a.length) : a.getD j 0 ≠ q := fun e => hq (by
  rw [← e, List.getD_eq_getElem?_getD, List.getElem?_eq_getElem hj]; exact List.getElem_mem hj)

theorem mv_ext (h : RhOk N a) {i : Nat} (hi : i < a.length) {d : Int} (hd : d = 1 ∨ d = -1) (hq : (a.getD i 0 + d) % N ∉ a) :
    (ofL (a.set i ((a.getD i 0 + d) % N)) N).length = a.length ∧ ∃ e, ∀ t, extB N (ofL (a.set i ((a.getD i 0 + d) % N)) N) t = mvA N a i d (t + e) := by
  have h1 : 1 ≤ N := by have := h.1; omega
  have h2 : N ≤ 24 := by have := h.2.1; omega
  have ri := h.2.2.1 i hi
  have hasc := h.2.2.2
  by_cases hw : 0 ≤ a.getD i 0 + d ∧ a.getD i 0 + d < N
  · rw [Int.emod_eq_of_lt hw.1 hw.2] at hq ⊢
    have e := ofL_gen (N := N) (k := a.length) (f := fun j => if j = i then a.getD i 0 + d else a.getD j 0) (xs := a.set i (a.getD i 0 + d)) (fun j hj => by
      show 0 ≤ (if j = i then _ else _) ∧ (if j = i then _ else _) < _
      split
      · exact hw
      · exact h.2.2.1 j hj) (fun j hj => by
      show (if j = i then _ else _) < (if j + 1 = i then _ else _)
      have := hasc j hj
      have n1 := not_at hq (j := j) (by omega)
      have n2 := not_at hq (j := j + 1) hj
      by_cases e1 : j = i
      · subst e1
        rw [if_pos rfl, if_neg (by omega)]
        rcases hd with rfl | rfl <;> omega
      · rw [if_neg e1]
        by_cases e2 : j + 1 = i
        · subst e2
          rw [if_pos rfl]
          rcases hd with rfl | rfl <;> omega
        · rw [if_neg e2]; exact this) h1 h2 (fun x => set_mem hi)
    rw [e]
    refine ⟨genL_len _ _, 0, ext_gen rfl (by omega) fun j hj => ?_⟩
    rw [show (j : Int) + 0 = j by omega, mvA_at i d j hj]
    split <;> rename_i e1
    · subst e1; rfl
    · omega
  · rcases hd with rfl | rfl
    · have hN : a.getD i 0 = N - 1 := by omega
      have hik : i + 1 = a.length := by
        rcases Nat.lt_or_ge (i + 1) a.length with h' | h'
        · have := hasc i h'; have := h.2.2.1 (i + 1) h'; omega
        · omega
      have hz : (a.getD i 0 + 1) % (N : Int) = 0 := by rw [hN, show (N : Int) - 1 + 1 = N by omega, Int.emod_self]
      rw [hz] at hq ⊢
      have e := ofL_gen (N := N) (k := a.length) (f := fun j => if j = 0 then 0 else a.getD (j - 1) 0) (xs := a.set i 0) (fun j hj => by
        show 0 ≤ (if j = 0 then _ else _) ∧ (if j = 0 then _ else _) < _
        split
        · omega
        · exact h.2.2.1 (j - 1) (by omega)) (fun j hj => by
        show (if j = 0 then _ else _) < (if j + 1 = 0 then _ else _)
        rw [if_neg (by omega : ¬ j + 1 = 0), show j + 1 - 1 = j by omega]
        have n1 := not_at hq (j := j) (by omega)
        have := (h.2.2.1 j (by omega)).1
        split
        · omega
        · have := hasc (j - 1) (by omega); rwa [show j - 1 + 1 = j by omega] at this) h1 h2 (fun x => by
        rw [set_mem hi]
        constructor
        · rintro ⟨j, hj, e⟩
          by_cases e1 : j = i
          · rw [if_pos e1] at e; exact ⟨0, by omega, by simpa using e⟩
          · rw [if_neg e1] at e
            refine ⟨j + 1, by omega, ?_⟩
            show (if j + 1 = 0 then _ else _) = _
            rw [if_neg (by omega), show j + 1 - 1 = j by omega]; exact e
        · rintro ⟨j, hj, e⟩
          by_cases e1 : j = 0
          · subst e1
            refine ⟨i, hi, ?_⟩
            rw [if_pos rfl]; simpa using e
          · refine ⟨j - 1, by omega, ?_⟩
            rw [if_neg (by omega)]
            have e' : (if j = 0 then (0 : Int) else a.getD (j - 1) 0) = x := e
            rwa [if_neg e1] at e')
      rw [e]
      refine ⟨genL_len _ _, -1, ext_gen rfl (by omega) fun j hj => ?_⟩
      by_cases e1 : j = 0
      · subst e1
        rw [if_pos rfl]
        have hp := mvA_perd (N := N) (a := a) i 1 (by omega) (((0 : Nat) : Int) + -1)
        rw [show ((0 : Nat) : Int) + -1 + (a.length : Int) = (i : Nat) by omega, mvA_at i 1 i hi, if_pos rfl, hN] at hp
        omega
      · rw [if_neg e1, show (j : Int) + -1 = ((j - 1 : Nat) : Int) by omega, mvA_at i 1 (j - 1) (by omega), if_neg (by omega)]
        omega
    · have hN : a.getD i 0 = 0 := by omega
      have hik : i = 0 := by
        rcases Nat.eq_zero_or_pos i with h' | h'
        · exact h'
        · have := rh_lt h h' hi; have := h.2.2.1 0 (by omega); omega
      subst hik
      have hz : (a.getD 0 0 + -1) % (N : Int) = N - 1 := by
        rw [hN, show (0 : Int) + -1 = -1 by omega]
        rw [← Int.add_emod_right, Int.emod_eq_of_lt (by omega) (by omega)]; omega
      rw [hz] at hq ⊢
      have e := ofL_gen (N := N) (k := a.length) (f := fun j => if j + 1 = a.length then (N : Int) - 1 else a.getD (j + 1) 0) (xs := a.set 0 ((N : Int) - 1)) (fun j hj => by
        show (0 : Int) ≤ (if j + 1 = a.length then (N : Int) - 1 else a.getD (j + 1) 0) ∧ (if j + 1 = a.length then (N : Int) - 1 else a.getD (j + 1) 0) < _
        split
        · omega
        · exact h.2.2.1 (j + 1) (by omega)) (fun j hj => by
        show (if j + 1 = a.length then (N : Int) - 1 else a.getD (j + 1) 0) < (if j + 1 + 1 = a.length then (N : Int) - 1 else a.getD (j + 1 + 1) 0)
        rw [if_neg (by omega : ¬ j + 1 = a.length)]
        have n1 := not_at hq (j := j + 1) hj
        have := (h.2.2.1 (j + 1) hj).2
        split
        · omega
        · exact hasc (j + 1) (by omega)) h1 h2 (fun x => by
        rw [set_mem hi]
        constructor
        · rintro ⟨j, hj, e⟩
          by_cases e1 : j = 0
          · rw [if_pos e1] at e
            refine ⟨a.length - 1, by omega, ?_⟩
            show (if _ then _ else _) = _
            rw [if_pos (by omega)]; exact e
          · rw [if_neg e1] at e
            refine ⟨j - 1, by omega, ?_⟩
            show (if _ then _ else _) = _
            rw [if_neg (by omega), show j - 1 + 1 = j by omega]; exact e
        · rintro ⟨j, hj, e⟩
          have e' : (if j + 1 = a.length then (N : Int) - 1 else a.getD (j + 1) 0) = x := e
          by_cases e1 : j + 1 = a.length
          · rw [if_pos e1] at e'
            exact ⟨0, hi, by rw [if_pos rfl]; exact e'⟩
          · rw [if_neg e1] at e'
            exact ⟨j + 1, by omega, by rw [if_neg (by omega)]; exact e'⟩)
      rw [e]
      refine ⟨genL_len _ _, 1, ext_gen rfl (by omega) fun j hj => ?_⟩
      by_cases e1 : j + 1 = a.length
      · rw [if_pos e1]
        have hp := mvA_perd (N := N) (a := a) 0 (-1) (by omega) ((0 : Nat) : Int)
        rw [mvA_at 0 (-1) 0 hi, if_pos rfl, hN] at hp
        rw [show (j : Int) + 1 = ((0 : Nat) : Int) + (a.length : Int) by omega, hp]
        omega
      · rw [if_neg e1, show (j : Int) + 1 = ((j + 1 : Nat) : Int) by omega, mvA_at 0 (-1) (j + 1) (by omega), if_neg (by omega)]
        omega

/-- What a move changes in a sum. -/
theorem farG_mv (i : Nat) (d : Int) (hi : i < a.length) (s : Int) :
    farG (mvA N a i d) (extB N b) a.length s - farS N a b s = absI (extB N a i + d - extB N b (i + s)) - absI (extB N a i - extB N b (i + s)) := by
  unfold farS farG
  rw [sigN_one hi (fun j hj hne => by
    show absI (mvA N a i d j - _) = _
    rw [mvA_at i d j hj, if_neg hne, extB_at N a j hj, Int.add_zero])]
  rw [mvA_at i d i hi, if_pos rfl, extB_at N a i hi]
theorem farS_mv (h : RhOk N a) (hl : a.length = b.length) {i : Nat} (hi : i < a.length) {d : Int} (hd : d = 1 ∨ d = -1) (hq : (a.getD i 0 + d) % N ∉ a) :
    ∃ e, ∀ s, farS N (ofL (a.set i ((a.getD i 0 + d) % N)) N) b s = farG (mvA N a i d) (extB N b) a.length (s - e) := by
  obtain ⟨hlen, e, he⟩ := mv_ext h hi hd hq
  refine ⟨e, fun s => ?_⟩
  have hp := mvA_perd (N := N) (a := a) i d (by omega)
  have hb := extB_perd N b (by omega)
  rw [← hl] at hb
  rw [← farG_shift hp hb s e]
  unfold farS
  rw [hlen]
  congr 1
  funext t
  exact he t
theorem mv_lip (ha : RhOk N a) (hb : RhOk N b) (hl : a.length = b.length) {i : Nat} (hi : i < a.length) {d : Int} (hd : d = 1 ∨ d = -1) (hq : (a.getD i 0 + d) % N ∉ a) :
    farV N a b - 1 ≤ farV N (ofL (a.set i ((a.getD i 0 + d) % N)) N) b := by
  obtain ⟨e, he⟩ := farS_mv ha hl hi hd hq
  obtain ⟨s, hs⟩ := farV_ex N (ofL (a.set i ((a.getD i 0 + d) % N)) N) b
  rw [hs, he s]
  have h1 := farV_le ha hb hl (s - e)
  have h2 := farG_mv (N := N) (a := a) (b := b) i d hi (s - e)
  unfold absI at h2
  rcases hd with rfl | rfl
  · split at h2 <;> split at h2 <;> omega
  · split at h2 <;> split at h2 <;> omega
theorem mv_down (ha : RhOk N a) (hb : RhOk N b) (hl : a.length = b.length) {s : Int} (hs : farV N a b = farS N a b s) {i : Nat} (hi : i < a.length) {d : Int} (hq : (a.getD i 0 + d) % N ∉ a)
    (hd : d = 1 ∧ extB N a i < extB N b (i + s) ∨ d = -1 ∧ extB N b (i + s) < extB N a i) :
    farV N (ofL (a.set i ((a.getD i 0 + d) % N)) N) b ≤ farV N a b - 1 := by
  have hd' : d = 1 ∨ d = -1 := by rcases hd with h | h; exact .inl h.1; exact .inr h.1
  obtain ⟨e, he⟩ := farS_mv ha hl hi hd' hq
  have hlen := (mv_ext ha hi hd' hq).1
  have h1 : 1 ≤ N := by have := ha.1; omega
  have h2 : N ≤ 24 := by have := ha.2.1; omega
  have h3 := farV_le (ofL_ok (a.set i ((a.getD i 0 + d) % N)) h1 h2) hb (hlen.trans hl) (s + e)
  rw [he, show s + e - e = s by omega] at h3
  have h4 := farG_mv (N := N) (a := a) (b := b) i d hi s
  unfold absI at h4
  rcases hd with ⟨rfl, hd⟩ | ⟨rfl, hd⟩
  · split at h4 <;> split at h4 <;> omega
  · split at h4 <;> split at h4 <;> omega
end

end Go.Proofs.YtjoeglekcnaebaaGreatDoor

namespace Go.Proofs.YtjoeglekcnaebaaGreatDoor
open Go.RowKit
set_option linter.unusedVariables false
set_option linter.unusedSimpArgs false

def evL (k n m q : Nat) : List Int := (List.range q).map fun i => (((i * n + m) / k : Nat) : Int)
theorem evL_succ (k n m q : Nat) : evL k n m (q + 1) = evL k n m q ++ [(((q * n + m) / k : Nat) : Int)] := by simp [evL, List.range_succ]
theorem evL_len (k n m q : Nat) : (evL k n m q).length = q := by simp [evL]
theorem evL_gen (k n m q : Nat) : evL k n m q = genL q fun i => (((i * n + m) / k : Nat) : Int) := rfl
def evB (n k : Nat) : List Int := evL k n 0 k
theorem evB_len (n k : Nat) : (evB n k).length = k := evL_len _ _ _ _
theorem evB_ok {n k : Nat} (h1 : 1 ≤ n) (h2 : n ≤ 24) (hk : k ≤ n) : RhOk n (evB n k) := by
  unfold evB
  rw [evL_gen]
  refine ⟨by omega, by omega, fun i hi => ?_, fun i hi => ?_⟩
  · rw [genL_len] at hi
    rw [genL_at hi]
    have : (i * n + 0) / k < n := Nat.div_lt_of_lt_mul (by
      have := Nat.mul_lt_mul_of_pos_right (show i < k from hi) (show 0 < n by omega)
      omega)
    exact ⟨Int.natCast_nonneg _, Int.ofNat_lt.2 this⟩
  · rw [genL_len] at hi
    rw [genL_at hi, genL_at (by omega)]
    have h3 : (i * n + 0 + k) / k = (i * n + 0) / k + 1 := Nat.add_div_right _ (by omega)
    have h4 : (i * n + 0 + k) / k ≤ ((i + 1) * n + 0) / k := Nat.div_le_div_right (by rw [Nat.add_mul]; omega)
    have : (i * n + 0) / k < ((i + 1) * n + 0) / k := by omega
    exact Int.ofNat_lt.2 this
theorem ofL_rh {N : Nat} {a : List Int} (h : RhOk N a) : ofL a N = a := by
  refine asc_unique (ofL_sorted _ _) (rhok_asc h) fun x => ?_
  rw [ofL_mem]
  constructor
  · rintro ⟨t, ht, hb, rfl⟩
    unfold hasB at hb
    rwa [decide_eq_true_eq] at hb
  · intro hx
    have := rhok_range h x hx
    obtain ⟨t, ht⟩ := Int.eq_ofNat_of_zero_le this.1
    exact ⟨t, by omega, by unfold hasB; rw [decide_eq_true_eq, ← ht]; exact hx, ht⟩

/-- The first of the least of f at 0, .., m - 1. -/
def bestK (f : Nat → Int) : Nat → Nat
  | 0 => 0
  | m + 1 => if f m < f (bestK f m) then m else bestK f m
theorem bestK_one (f : Nat → Int) : bestK f 1 = 0 := by unfold bestK; show (if f 0 < f 0 then 0 else 0) = 0; split <;> rfl
theorem bestK_lt (f : Nat → Int) : ∀ m, 1 ≤ m → bestK f m < m
  | 0, h => by omega
  | 1, _ => by rw [bestK_one]; omega
  | m + 2, _ => by
    have := bestK_lt f (m + 1) (by omega)
    unfold bestK
    split <;> omega
theorem bestK_le (f : Nat → Int) : ∀ m i, i < m → f (bestK f m) ≤ f i
  | 0, i, h => by omega
  | m + 1, i, h => by
    have ih := bestK_le f m
    unfold bestK
    by_cases e : i = m
    · subst e; split <;> omega
    · have := ih i (by omega)
      split <;> omega

theorem asc_nodup {l : List Int} (h : l.Pairwise (fun a b => a < b)) : l.Nodup := List.Pairwise.imp (fun {a b} hab e => by omega) h
theorem ofL_length {N : Nat} {xs : List Int} (hn : xs.Nodup) (hr : ∀ x ∈ xs, 0 ≤ x ∧ x < N) : (ofL xs N).length = xs.length := by
  refine List.Perm.length_eq ((List.perm_ext_iff_of_nodup (asc_nodup (ofL_sorted xs N)) hn).2 fun x => ?_)
  rw [ofL_mem]
  constructor
  · rintro ⟨t, _, hb, rfl⟩
    unfold hasB at hb
    rwa [decide_eq_true_eq] at hb
  · intro hx
    have := hr x hx
    obtain ⟨t, ht⟩ := Int.eq_ofNat_of_zero_le this.1
    exact ⟨t, by omega, by unfold hasB; rw [decide_eq_true_eq, ← ht]; exact hx, ht⟩
theorem rotL_ok {N : Nat} {bs : List Int} (h : RhOk N bs) (k : Int) : RhOk N (rotL N bs k) ∧ (rotL N bs k).length = bs.length := by
  have h1 : 1 ≤ N := by have := h.1; omega
  have h2 : N ≤ 24 := by have := h.2.1; omega
  rw [← rotL_of h k]
  refine ⟨ofL_ok _ h1 h2, ?_⟩
  have hl : (mapL 1 k N bs bs.length).length = bs.length := by unfold mapL; rw [List.length_map, List.take_length]
  refine (ofL_length ?_ fun x hx => ?_).trans hl
  · unfold mapL
    rw [List.take_length]
    refine List.pairwise_map.2 (List.Pairwise.imp_of_mem (fun {a b} ha hb hab e => ?_) (rhok_asc h))
    have ra := rhok_range h a ha
    have rb := rhok_range h b hb
    have e2 : (1 * a + k - (1 * b + k)) % (N : Int) = 0 := Int.emod_emod_of_dvd _ (Int.dvd_refl _) ▸ (Int.emod_eq_emod_iff_emod_sub_eq_zero.1 e)
    rw [show 1 * a + k - (1 * b + k) = a - b by omega] at e2
    have e3 := Int.emod_add_mul_ediv (a - b) N
    rw [e2] at e3
    have hq : (a - b) / (N : Int) = 0 ∨ (a - b) / (N : Int) ≤ -1 ∨ 1 ≤ (a - b) / (N : Int) := by omega
    rcases hq with hq | hq | hq
    · rw [hq] at e3; omega
    · have := Int.mul_le_mul_of_nonneg_left hq (show (0 : Int) ≤ N by omega); omega
    · have := Int.mul_le_mul_of_nonneg_left hq (show (0 : Int) ≤ N by omega); omega
  · unfold mapL at hx
    rw [List.mem_map] at hx
    obtain ⟨y, _, rfl⟩ := hx
    exact ⟨Int.emod_nonneg _ (by omega), Int.emod_lt_of_pos _ (by omega)⟩

/-- The nearest even rhythm by moves; the number of moves. -/
def fewK (N : Nat) (a : List Int) : Nat := bestK (fun k => farV N a (rotL N (evB N a.length) (k : Int))) N
def fewX (N : Nat) (a : List Int) : List Int := rotL N (evB N a.length) (fewK N a : Int)

end Go.Proofs.YtjoeglekcnaebaaGreatDoor

namespace Go.Proofs.YtjoeglekcnaebaaGreatDoor
open Go.RowKit
set_option linter.unusedVariables false
set_option linter.unusedSimpArgs false

/-- The one of two rhythms whose text is the last. -/
def lateR (N : Nat) (a b : List Int) : List Int := if codI N a < codI N b then b else a
theorem lateR_yes {N : Nat} {a b : List Int} (h : aftB N b a = true) : lateR N a b = b := by
  unfold lateR; unfold aftB at h; rw [if_pos (of_decide_eq_true h)]
theorem lateR_no {N : Nat} {a b : List Int} (h : aftB N b a = false) : lateR N a b = a := by
  unfold lateR; unfold aftB at h; rw [if_neg (of_decide_eq_false h)]
theorem lateR_self (N : Nat) (a : List Int) : lateR N a a = a := by unfold lateR; split <;> rfl
theorem lateR_ok {N : Nat} {a b : List Int} (ha : RhOk N a) (hb : RhOk N b) : RhOk N (lateR N a b) := by
  unfold lateR; split <;> assumption
def lstR (N : Nat) (bs : List Int) : Nat → List Int
  | 0 => rotL N bs (0 : Nat)
  | m + 1 => lateR N (lstR N bs m) (rotL N bs (m : Nat))
theorem lstR_one (N : Nat) (bs : List Int) : lstR N bs 1 = rotL N bs (0 : Nat) := lateR_self _ _
def lstV (N : Nat) (bs : List Int) : List Int := lstR N bs N
theorem lstR_ok {N : Nat} {bs : List Int} (h : RhOk N bs) : ∀ m, RhOk N (lstR N bs m)
  | 0 => (rotL_ok h _).1
  | m + 1 => lateR_ok (lstR_ok h m) (rotL_ok h _).1
theorem lstV_ok {N : Nat} {bs : List Int} (h : RhOk N bs) : RhOk N (lstV N bs) := lstR_ok h N
/-- Each beat x goes to u * x + k. -/
def affL (N : Nat) (u k : Int) (bs : List Int) : List Int := ofL (mapL u k N bs bs.length) N
theorem affL_ok {N : Nat} {u k : Int} {bs : List Int} (h1 : 1 ≤ N) (h2 : N ≤ 24) : RhOk N (affL N u k bs) := ofL_ok _ h1 h2
def mirV (N : Nat) (bs : List Int) : List Int := affL N (-1) 0 bs
def frmV (N : Nat) (bs : List Int) : List Int := lateR N (lstV N bs) (lstV N (mirV N bs))
theorem frmV_ok {N : Nat} {bs : List Int} (h : RhOk N bs) : RhOk N (frmV N bs) :=
  lateR_ok (lstV_ok h) (lstV_ok (affL_ok (by have := h.1; omega) (by have := h.2.1; omega)))
/-- The units below a number. -/
def uniP (n u : Nat) : Bool := decide (1 ≤ u ∧ u ≤ max 1 (n - 1)) && decide (Nat.gcd u n = 1)
def uniF (n : Nat) : Nat → List Int
  | 0 => []
  | m + 1 => if uniP n m then uniF n m ++ [(m : Int)] else uniF n m
theorem uniF_one (n : Nat) : uniF n 1 = [] := by
  unfold uniF; rw [if_neg (by unfold uniP; simp)]; rfl
theorem uniF_len (n : Nat) : ∀ m, (uniF n m).length ≤ m
  | 0 => Nat.le_refl _
  | m + 1 => by
    have := uniF_len n m
    unfold uniF; split <;> simp <;> omega
theorem uniF_mem (n : Nat) : ∀ m x, x ∈ uniF n m → ∃ u : Nat, x = u ∧ 1 ≤ u ∧ u < m
  | 0, x, h => by cases h
  | m + 1, x, h => by
    unfold uniF at h
    split at h
    · rename_i hp
      rw [List.mem_append, List.mem_singleton] at h
      rcases h with h | h
      · obtain ⟨u, a, b, c⟩ := uniF_mem n m x h; exact ⟨u, a, b, by omega⟩
      · unfold uniP at hp; simp at hp; exact ⟨m, h, by omega, by omega⟩
    · obtain ⟨u, a, b, c⟩ := uniF_mem n m x h; exact ⟨u, a, b, by omega⟩
theorem uniF_end (n : Nat) : ∀ d, uniF n (max 1 (n - 1) + 1 + d) = uniF n (max 1 (n - 1) + 1)
  | 0 => rfl
  | d + 1 => by
    rw [← Nat.add_assoc]
    show (if uniP n (max 1 (n - 1) + 1 + d) then _ else _) = _
    rw [if_neg (by unfold uniP; simp; omega)]
    exact uniF_end n d
def uniV (n : Nat) : List Int := uniF n (n + 1)
theorem uniV_eq {n : Nat} (h : 1 ≤ n) : uniF n (max 1 (n - 1) + 1) = uniV n := by
  unfold uniV
  obtain ⟨d, hd⟩ : ∃ d, n + 1 = max 1 (n - 1) + 1 + d := ⟨n - max 1 (n - 1), by omega⟩
  rw [hd, uniF_end]
theorem uniV_len (n : Nat) : (uniV n).length ≤ n + 1 := uniF_len n _
theorem uniV_at {n j : Nat} (hj : j < (uniV n).length) : ∃ u : Nat, (uniV n).getD j 0 = u ∧ 1 ≤ u ∧ u ≤ n := by
  obtain ⟨u, a, b, c⟩ := uniF_mem n (n + 1) ((uniV n).getD j 0) (by rw [List.getD_eq_getElem?_getD, List.getElem?_eq_getElem hj]; exact List.getElem_mem hj)
  exact ⟨u, a, b, by omega⟩
/-- The best of the forms of the first m stretched rhythms. -/
def clsR (N : Nat) (bs : List Int) : Nat → List Int
  | 0 => frmV N bs
  | m + 1 => lateR N (clsR N bs m) (frmV N (affL N ((uniV N).getD m 0) 0 bs))
def clsV (N : Nat) (bs : List Int) : List Int := clsR N bs (uniV N).length
theorem clsR_ok {N : Nat} {bs : List Int} (h : RhOk N bs) : ∀ m, RhOk N (clsR N bs m)
  | 0 => frmV_ok h
  | m + 1 => lateR_ok (clsR_ok h m) (frmV_ok (affL_ok (by have := h.1; omega) (by have := h.2.1; omega)))

section
variable {N : Nat}
theorem rhok_ext {a b : List Int} (ha : RhOk N a) (hb : RhOk N b) (h : ∀ t : Int, t % N ∈ a ↔ t % N ∈ b) : a = b :=
  asc_unique (rhok_asc ha) (rhok_asc hb) fun x => by
    constructor
    · intro hx
      have r := rhok_range ha x hx
      have := (h x).1 (by rwa [Int.emod_eq_of_lt r.1 r.2])
      rwa [Int.emod_eq_of_lt r.1 r.2] at this
    · intro hx
      have r := rhok_range hb x hx
      have := (h x).2 (by rwa [Int.emod_eq_of_lt r.1 r.2])
      rwa [Int.emod_eq_of_lt r.1 r.2] at this
theorem rotL_iff (hn : 1 ≤ N) {bs : List Int} (k t : Int) : t % N ∈ rotL N bs k ↔ (t - k) % N ∈ bs := by
  rw [rotL_mem]
  have h0 := Int.emod_nonneg t (show (N : Int) ≠ 0 by omega)
  have h1 := Int.emod_lt_of_pos t (show (0 : Int) < N by omega)
  unfold hasB
  constructor
  · rintro ⟨s, hs, hb, e⟩
    rw [decide_eq_true_eq, ← e, Int.emod_sub_emod] at hb
    exact hb
  · intro hb
    obtain ⟨s, hs⟩ := Int.eq_ofNat_of_zero_le h0
    refine ⟨s, by omega, ?_, hs⟩
    rw [decide_eq_true_eq, ← hs, Int.emod_sub_emod]
    exact hb
theorem mir_iff (hn : 1 ≤ N) {bs : List Int} (h : RhOk N bs) (k t : Int) : t % N ∈ affL N (-1) k bs ↔ (k - t) % N ∈ bs := by
  unfold affL
  rw [ofL_mem]
  have h0 := Int.emod_nonneg t (show (N : Int) ≠ 0 by omega)
  have h1 := Int.emod_lt_of_pos t (show (0 : Int) < N by omega)
  unfold hasB
  have key : t % N ∈ mapL (-1) k N bs bs.length ↔ (k - t) % N ∈ bs := by
    rw [mapL_mem]
    constructor
    · rintro ⟨b, hb, e⟩
      have r := rhok_range h b hb
      have : (k - t) % N = b := by
        rw [← Int.sub_emod_emod, ← e, Int.sub_emod_emod, show k - (-1 * b + k) = b by omega, Int.emod_eq_of_lt r.1 r.2]
      rwa [this]
    · intro hb
      refine ⟨_, hb, ?_⟩
      rw [show -1 * ((k - t) % (N : Int)) + k = k - (k - t) % N by omega, Int.sub_emod_emod, show k - (k - t) = t by omega]
  constructor
  · rintro ⟨s, hs, hb, e⟩
    rw [decide_eq_true_eq, ← e] at hb
    exact key.1 hb
  · intro hb
    obtain ⟨s, hs⟩ := Int.eq_ofNat_of_zero_le h0
    refine ⟨s, by omega, ?_, hs⟩
    rw [decide_eq_true_eq, ← hs]
    exact key.2 hb
variable {bs : List Int}
theorem rot_rot (h : RhOk N bs) (j k : Int) : rotL N (rotL N bs j) k = rotL N bs (j + k) := by
  have hn : 1 ≤ N := by have := h.1; omega
  refine rhok_ext (rotL_ok (rotL_ok h j).1 k).1 (rotL_ok h _).1 fun t => ?_
  rw [rotL_iff hn, rotL_iff hn, rotL_iff hn, show t - k - j = t - (j + k) by omega]
theorem rot_cong (h : RhOk N bs) {j k : Int} (e : j % N = k % N) : rotL N bs j = rotL N bs k := by
  have hn : 1 ≤ N := by have := h.1; omega
  refine rhok_ext (rotL_ok h j).1 (rotL_ok h _).1 fun t => ?_
  rw [rotL_iff hn, rotL_iff hn, ← Int.sub_emod_emod, e, Int.sub_emod_emod]
theorem rot_zero (h : RhOk N bs) : rotL N bs 0 = bs := by
  have hn : 1 ≤ N := by have := h.1; omega
  refine rhok_ext (rotL_ok h _).1 h fun t => ?_
  rw [rotL_iff hn, Int.sub_zero]
theorem mir_rot (h : RhOk N bs) (k : Int) : affL N (-1) k bs = rotL N (mirV N bs) k := by
  have hn : 1 ≤ N := by have := h.1; omega
  have hn2 : N ≤ 24 := by have := h.2.1; omega
  refine rhok_ext (affL_ok hn hn2) (rotL_ok (affL_ok hn hn2) _).1 fun t => ?_
  rw [rotL_iff hn]
  unfold mirV
  rw [mir_iff hn h, mir_iff hn h, show 0 - (t - k) = k - t by omega]
theorem mir_per (h : RhOk N bs) : perV N (mirV N bs) = perV N bs := by
  have hn : 1 ≤ N := by have := h.1; omega
  have hn2 : N ≤ 24 := by have := h.2.1; omega
  have hm : RhOk N (mirV N bs) := affL_ok hn hn2
  have key : ∀ j : Nat, perB N (mirV N bs) j = perB N bs j := fun j => by
    have e : rotL N (mirV N bs) j = mirV N bs ↔ rotL N bs j = bs := by
      constructor
      · intro e
        refine rhok_ext (rotL_ok h _).1 h fun t => ?_
        have h1 : (j - t : Int) % N ∈ rotL N (mirV N bs) j ↔ (j - t : Int) % N ∈ mirV N bs := by rw [e]
        rw [rotL_iff hn] at h1
        unfold mirV at h1
        rw [mir_iff hn h, mir_iff hn h, show 0 - ((j : Int) - t - j) = t by omega, show 0 - ((j : Int) - t) = t - j by omega] at h1
        rw [rotL_iff hn]
        exact h1.symm
      · intro e
        refine rhok_ext (rotL_ok hm _).1 hm fun t => ?_
        have h1 : (j - t : Int) % N ∈ rotL N bs j ↔ (j - t : Int) % N ∈ bs := by rw [e]
        rw [rotL_iff hn, show (j : Int) - t - j = 0 - t by omega] at h1
        rw [rotL_iff hn]
        unfold mirV
        rw [mir_iff hn h, mir_iff hn h, show 0 - (t - (j : Int)) = j - t by omega]
        exact h1.symm
    cases h1 : perB N bs j
    · cases h2 : perB N (mirV N bs) j
      · rfl
      · have := perB_iff.2 (e.1 (perB_iff.1 h2)); rw [h1] at this; cases this
    · exact perB_iff.2 (e.2 (perB_iff.1 h1))
  obtain ⟨a, b, c, d⟩ := perV_is h
  exact perV_unique hm a (by rw [key]; exact c) (fun j h1 h2 => by rw [key]; exact d j h1 h2)
theorem rot_per (h : RhOk N bs) (k : Int) : rotL N bs k = rotL N bs (k % (perV N bs : Nat)) := by
  obtain ⟨a, _, c, _⟩ := perV_is h
  have hp := perB_iff.1 c
  generalize perV N bs = p at *
  have up : ∀ (q : Nat) (r : Int), rotL N bs (r + q * p) = rotL N bs r := by
    intro q
    induction q with
    | zero => intro r; rw [show r + ((0 : Nat) : Int) * p = r by simp]
    | succ q ih =>
      intro r
      rw [show r + ((q + 1 : Nat) : Int) * p = p + (r + q * p) by rw [Int.natCast_add, Int.add_mul]; omega, ← rot_rot h, hp]
      exact ih r
  have e := Int.mul_ediv_add_emod k p
  by_cases hk : 0 ≤ k
  · obtain ⟨q, hq⟩ := Int.eq_ofNat_of_zero_le (Int.ediv_nonneg hk (show (0 : Int) ≤ p by omega))
    rw [hq] at e
    rw [← up q (k % p)]
    congr 1
    rw [Int.mul_comm] at e
    omega
  · obtain ⟨q, hq⟩ : ∃ q : Nat, k / p = -q := ⟨(-(k / p)).toNat, by
      have : k / p < 0 := Int.ediv_neg_of_neg_of_pos (by omega) (by omega)
      omega⟩
    rw [hq] at e
    rw [← up q k]
    congr 1
    rw [Int.mul_neg, Int.mul_comm] at e
    omega

def rotD (N : Nat) (bs : List Int) : List Int := (List.range (perV N bs)).map fun i => (codI N (rotL N bs (i : Nat)) : Int)
theorem rotD_mem (h : RhOk N bs) (c : Int) : c ∈ rotD N bs ↔ ∃ z : Int, c = codI N (rotL N bs z) := by
  obtain ⟨a, _, _, _⟩ := perV_is h
  unfold rotD
  rw [List.mem_map]
  constructor
  · rintro ⟨i, _, rfl⟩; exact ⟨i, rfl⟩
  · rintro ⟨z, rfl⟩
    have h0 := Int.emod_nonneg z (show ((perV N bs : Nat) : Int) ≠ 0 by omega)
    have h1 := Int.emod_lt_of_pos z (show (0 : Int) < (perV N bs : Nat) by omega)
    obtain ⟨s, hs⟩ := Int.eq_ofNat_of_zero_le h0
    refine ⟨s, List.mem_range.2 (by omega), ?_⟩
    rw [rot_per h z, hs]
theorem rotD_nodup (h : RhOk N bs) : (rotD N bs).Nodup := by
  obtain ⟨_, _, _, d⟩ := perV_is h
  unfold rotD
  unfold List.Nodup
  rw [List.pairwise_map]
  refine List.pairwise_iff_getElem.2 fun i j hi hj hij => ?_
  rw [List.length_range] at hi hj
  rw [List.getElem_range, List.getElem_range]
  intro e
  have e1 := cod_inj (rotL_ok h (i : Int)).1 (rotL_ok h (j : Int)).1 (by omega)
  have e2 := congrArg (fun x => rotL N x (-(i : Int))) e1
  simp only [rot_rot h] at e2
  rw [show (i : Int) + -i = 0 by omega, rot_zero h, show (j : Int) + -i = ((j - i : Nat) : Int) by omega] at e2
  have := d (j - i) (by omega) (by omega)
  rw [perB_iff.2 e2.symm] at this
  cases this
theorem rotD_len (N : Nat) (bs : List Int) : (rotD N bs).length = perV N bs := by simp [rotD]

def axB (N : Nat) (bs : List Int) : Bool := (List.range N).any fun k => eqB (affL N (-1) (k : Nat) bs) bs
def formL (N : Nat) (bs : List Int) : Nat → List (List Int)
  | 0 => []
  | m + 1 => formL N bs m ++ [rotL N bs (m : Nat), rotL N (mirV N bs) (m : Nat)]
theorem formL_len (N : Nat) (bs : List Int) : ∀ m, (formL N bs m).length = 2 * m
  | 0 => rfl
  | m + 1 => by show (formL N bs m ++ _).length = _; rw [List.length_append, formL_len N bs m]; simp; omega
theorem formL_mem (N : Nat) (bs : List Int) (x : List Int) : ∀ m, x ∈ formL N bs m ↔ ∃ i : Nat, i < m ∧ (x = rotL N bs (i : Nat) ∨ x = rotL N (mirV N bs) (i : Nat))
  | 0 => by simp [formL]
  | m + 1 => by
    show x ∈ formL N bs m ++ [rotL N bs (m : Nat), rotL N (mirV N bs) (m : Nat)] ↔ _
    rw [List.mem_append, formL_mem N bs x m, List.mem_cons, List.mem_singleton]
    constructor
    · rintro (⟨i, a, b⟩ | h)
      · exact ⟨i, by omega, b⟩
      · exact ⟨m, by omega, h⟩
    · rintro ⟨i, a, b⟩
      by_cases e : i = m
      · subst e; exact .inr b
      · exact .inl ⟨i, by omega, b⟩
theorem formL_ok (h : RhOk N bs) (m : Nat) : ∀ x ∈ formL N bs m, RhOk N x := fun x hx => by
  obtain ⟨i, _, rfl | rfl⟩ := (formL_mem N bs x m).1 hx
  · exact (rotL_ok h _).1
  · exact (rotL_ok (affL_ok (by have := h.1; omega) (by have := h.2.1; omega)) _).1
def orbL (N : Nat) (bs : List Int) : List Int := collL ((formL N bs N).map fun x => (codI N x : Int))
def orbV (N : Nat) (bs : List Int) : Nat := if axB N bs then perV N bs else 2 * perV N bs
theorem nodup_len {a b : List Int} (ha : a.Nodup) (hb : b.Nodup) (h : ∀ x, x ∈ a ↔ x ∈ b) : a.length = b.length :=
  ((List.perm_ext_iff_of_nodup ha hb).2 h).length_eq
theorem orb_eq (h : RhOk N bs) : (orbL N bs).length = orbV N bs := by
  have hn : 1 ≤ N := by have := h.1; omega
  have hn2 : N ≤ 24 := by have := h.2.1; omega
  have hm : RhOk N (mirV N bs) := affL_ok hn hn2
  have hmod : ∀ {X : List Int}, RhOk N X → ∀ z : Int, ∃ i : Nat, i < N ∧ rotL N X z = rotL N X (i : Nat) := fun hX z => by
    have h0 := Int.emod_nonneg z (show (N : Int) ≠ 0 by omega)
    have h1 := Int.emod_lt_of_pos z (show (0 : Int) < N by omega)
    obtain ⟨s, hs⟩ := Int.eq_ofNat_of_zero_le h0
    exact ⟨s, by omega, rot_cong hX (by rw [← hs, Int.emod_emod])⟩
  have hmem : ∀ c, c ∈ orbL N bs ↔ c ∈ rotD N bs ∨ c ∈ rotD N (mirV N bs) := fun c => by
    unfold orbL
    rw [(collL_asc _).2, List.mem_map, rotD_mem h, rotD_mem hm]
    constructor
    · rintro ⟨x, hx, rfl⟩
      obtain ⟨i, _, rfl | rfl⟩ := (formL_mem N bs x N).1 hx
      · exact .inl ⟨i, rfl⟩
      · exact .inr ⟨i, rfl⟩
    · rintro (⟨z, rfl⟩ | ⟨z, rfl⟩)
      · obtain ⟨i, hi, e⟩ := hmod h z
        exact ⟨_, (formL_mem N bs _ N).2 ⟨i, hi, .inl rfl⟩, by rw [e]⟩
      · obtain ⟨i, hi, e⟩ := hmod hm z
        exact ⟨_, (formL_mem N bs _ N).2 ⟨i, hi, .inr rfl⟩, by rw [e]⟩
  have hnd : (orbL N bs).Nodup := asc_nodup (collL_asc _).1
  have hax : axB N bs = true ↔ ∃ z : Int, rotL N (mirV N bs) z = bs := by
    unfold axB
    rw [List.any_eq_true]
    constructor
    · rintro ⟨k, _, hk⟩
      unfold eqB at hk
      rw [decide_eq_true_eq, mir_rot h] at hk
      exact ⟨_, hk⟩
    · rintro ⟨z, hz⟩
      obtain ⟨i, hi, e⟩ := hmod hm z
      refine ⟨i, List.mem_range.2 hi, ?_⟩
      unfold eqB
      rw [decide_eq_true_eq, mir_rot h, ← e]
      exact hz
  unfold orbV
  split
  · rename_i ha
    obtain ⟨z, hz⟩ := hax.1 ha
    rw [← rotD_len]
    refine nodup_len hnd (rotD_nodup h) fun c => ?_
    rw [hmem]
    refine ⟨fun hc => ?_, .inl⟩
    rcases hc with hc | hc
    · exact hc
    · obtain ⟨y, rfl⟩ := (rotD_mem hm c).1 hc
      refine (rotD_mem h _).2 ⟨y - z, ?_⟩
      have e1 : rotL N bs (y - z) = rotL N (mirV N bs) y := by
        conv => lhs; rw [← hz]
        rw [rot_rot hm, show z + (y - z) = y by omega]
      rw [e1]
  · rename_i ha
    rw [show 2 * perV N bs = (rotD N bs ++ rotD N (mirV N bs)).length by rw [List.length_append, rotD_len, rotD_len, mir_per h]; omega]
    refine nodup_len hnd ?_ fun c => by rw [hmem, List.mem_append]
    rw [List.nodup_append]
    refine ⟨rotD_nodup h, rotD_nodup hm, fun a hA b hB e => ?_⟩
    subst e
    obtain ⟨y, hy⟩ := (rotD_mem h a).1 hA
    obtain ⟨z, hz⟩ := (rotD_mem hm a).1 hB
    have e1 := cod_inj (rotL_ok h y).1 (rotL_ok hm z).1 (by omega)
    refine ha (hax.2 ⟨z - y, ?_⟩)
    have e2 := congrArg (fun x => rotL N x (-y)) e1
    simp only [rot_rot h, rot_rot hm] at e2
    rw [show y + -y = 0 by omega, rot_zero h] at e2
    rw [show z - y = z + -y by omega]
    exact e2.symm
end

end Go.Proofs.YtjoeglekcnaebaaGreatDoor

namespace Go.Proofs.YtjoeglekcnaebaaGreatDoor
open Go.RowKit
set_option linter.unusedVariables false
set_option linter.unusedSimpArgs false

def mpL (f : Int → Int) (xs : List Int) (j : Nat) : List Int := (xs.take j).map f
theorem mpL_succ {f : Int → Int} {xs : List Int} {j : Nat} {x : Int} (hj : j < xs.length) (hx : xs.getD j 0 = x) : mpL f xs (j + 1) = mpL f xs j ++ [f x] := by
  unfold mpL
  rw [List.take_succ_eq_append_getElem hj, List.map_append, List.map_singleton]
  have : xs[j] = x := by rw [← hx, List.getD_eq_getElem?_getD, List.getElem?_eq_getElem hj]; rfl
  rw [this]
theorem mpL_len (f : Int → Int) (xs : List Int) (j : Nat) : (mpL f xs j).length ≤ xs.length := by
  unfold mpL
  rw [List.length_map, List.length_take]
  omega
theorem mpL_fit {N : Nat} {bs : List Int} (hok : RhOk N bs) {f : Int → Int} (hf : ∀ x, 0 ≤ x → x < 24 → -1000000 ≤ f x ∧ f x ≤ 1000000) (j : Nat) : ∀ x ∈ mpL f bs j, Fits x := by
  intro x hx
  unfold mpL at hx
  rw [List.mem_map] at hx
  obtain ⟨y, hy, rfl⟩ := hx
  have := rhok_range hok y (List.mem_of_mem_take hy)
  have := hok.2.1
  have := hf y (by omega) (by omega)
  unfold Fits
  omega
theorem aff_coll {N : Nat} {bs : List Int} (hok : RhOk N bs) (f : Int → Int) (u k : Int) (hf : ∀ x, f x = u * x + k) : collL (modL N (mpL f bs bs.length) (mpL f bs bs.length).length) = affL N u k bs := by
  refine asc_unique (collL_asc _).1 (ofL_sorted _ _) fun x => ?_
  unfold affL
  rw [(collL_asc _).2, modL_mem, ofL_mem]
  have hN : (0 : Int) < N := by have := hok.1; omega
  have hm : ∀ y, y ∈ mpL f bs bs.length ↔ ∃ b ∈ bs, f b = y := fun y => by
    unfold mpL; rw [List.take_length, List.mem_map]
  constructor
  · rintro ⟨y, hy, rfl⟩
    obtain ⟨b, hb, rfl⟩ := (hm y).1 hy
    have h0 := Int.emod_nonneg (f b) (show (N : Int) ≠ 0 by omega)
    have h1 := Int.emod_lt_of_pos (f b) hN
    obtain ⟨t, ht⟩ := Int.eq_ofNat_of_zero_le h0
    refine ⟨t, by omega, ?_, ht⟩
    unfold hasB
    rw [decide_eq_true_eq, mapL_mem]
    exact ⟨b, hb, by rw [← ht, hf]⟩
  · rintro ⟨t, ht, hb, rfl⟩
    unfold hasB at hb
    rw [decide_eq_true_eq, mapL_mem] at hb
    obtain ⟨b, hb, e⟩ := hb
    exact ⟨f b, (hm _).2 ⟨b, hb, rfl⟩, by rw [hf]; exact e⟩

set_option maxHeartbeats 400000 in
theorem impl_mirrored1_any (x : Int) (w : World) (hx : 0 ≤ x ∧ x ≤ 1000000) :
    Calls Tryz.prog 73 #[.int .i64 x] w fun e w' => e = .returned (.int .i64 (-x)) ∧ w = w' := by
  have h1 : IntKind.i64.wrap (-x) = -x := i64w (by omega)
  go_enter Tryz.func73, Tryz.ntmps73
  go_wp2_with fail
  go_ret
  exact ⟨rfl, rfl⟩

set_option maxHeartbeats 400000 in
theorem impl_stretched1_any (x k : Int) (b : Nat) (w : World) (hx : 0 ≤ x ∧ x ≤ 24) (hk : 0 ≤ k ∧ k ≤ 1000) (hc : w.cell? ⟨b, 0, none⟩ = some (.int .i64 k)) :
    Calls Tryz.prog 81 #[.int .i64 x, .pointer (some ⟨b, 0, none⟩)] w fun e w' => e = .returned (.int .i64 (k * x)) ∧ w = w' := by
  have h0 : 0 ≤ k * x := Int.mul_nonneg hk.1 hx.1
  have h2 : k * x ≤ 1000 * 24 := Int.mul_le_mul hk.2 hx.2 hx.1 (by omega)
  have h1 : IntKind.i64.wrap (k * x) = k * x := i64w (by omega)
  go_enter Tryz.func81, Tryz.ntmps81
  go_wp2_with fail
  go_ret
  exact ⟨rfl, rfl⟩

set_option maxRecDepth 100000 in
set_option maxHeartbeats 1000000 in
theorem impl_moved_mirrored (N : Nat) (A : Option Addr) (cap : Nat) (bs : List Int) (f : Int → Int) (b : Nat) (w : World) (hA : Ints w w.heap.size A bs) (hok : RhOk N bs) (hf : ∀ x, 0 ≤ x → x < 24 → -1000000 ≤ f x ∧ f x ≤ 1000000)
    (hcl : ∀ x V, 0 ≤ x → x < 24 → Below w.heap.size w V → Calls Tryz.prog 73 #[.int .i64 x] V fun e w' => e = .returned (.int .i64 (f x)) ∧ V = w') :
    Calls Tryz.prog 72 #[.agg #[.int .i64 N, .slice A bs.length cap], .func (.func 73) #[] #[]] w (RetRh1 w N (collL (modL N (mpL f bs bs.length) (mpL f bs bs.length).length))) := by
  have hn1 := hok.1
  have hn2 := hok.2.1
  have hlen := hA.1
  unfold maxLen at hlen
  have hbl : bs.length ≤ N := rhok_len hok
  have HC := Lib.hid hA.2.2
  have HOK := Lib.hid hok
  have hro := fun (A2 : Option Addr) (c2 : Nat) (V : World) (hV : Ints V V.heap.size A2 (mpL f bs bs.length)) => impl_rhythmOf_any N A2 c2 (mpL f bs bs.length) V hV (by have := mpL_len f bs bs.length; omega) hn1 (by omega)
  generalize collL (modL N (mpL f bs bs.length) (mpL f bs bs.length).length) = R at hro ⊢
  have HRO := Lib.hid hro
  have HF := Lib.hid hf
  have HCL := Lib.hid hcl
  clear hA hok hro hf hcl
  have hW0 := ((Below.refl w.heap.size w).alloc (Nat.le_refl _) (.cells #[.int .i64 N, .slice A bs.length cap] 27)).alloc (by first | exact Nat.le_refl _ | (simp; done) | (simp; omega) | omega) (.cells #[.int .i64 0, .slice none 0 0] 27)
  have HW := Lib.hid hW0
  have HG := Lib.hid ((Cells2.new w (.int .i64 N) (.slice A bs.length cap) 27).alloc (.cells #[.int .i64 0, .slice none 0 0] 27))
  have HN := Lib.hid (Cells2.new (w.alloc (.cells #[.int .i64 N, .slice A bs.length cap] 27)) (.int .i64 0) (.slice none 0 0) 27)
  obtain ⟨g0, g1, _, _, _⟩ := HG.out
  clear hW0
  go_enter Tryz.func72, Tryz.ntmps72
  go_wp2_with fail
  clear g0 g1
  go_loopw [5, 11] (fun so i wr => ∃ j : Nat, j ≤ bs.length ∧ i = .int .i64 j ∧ OwnI wr (w.heap.size + 2) so (mpL f bs j) ∧ Below (w.heap.size + 2) ((w.alloc (.cells #[.int .i64 N, .slice A bs.length cap] 27)).alloc (.cells #[.int .i64 0, .slice none 0 0] 27)) wr) (fun _ i _ => bs.length - (intOf i).toNat)
  case atStart => exact ⟨0, Nat.zero_le _, rfl, OwnI.nil _ _, Below.refl _ _⟩
  case round =>
    obtain ⟨j, hj, rfl, hown, hbel⟩ := hrel
    obtain ⟨wo, rfl⟩ : ∃ wo : World, wo = wr := ⟨_, rfl⟩
    have hws : w.heap.size + 2 ≤ wo.heap.size := by have := hbel.size; simpa using this
    have HBE := Lib.hid hbel
    have HO := Lib.hid hown
    obtain ⟨A1, c1, rfl⟩ := hown.form
    have hmk := mpL_len f bs j
    clear hbel hown
    obtain ⟨g0, g1, g2, g3, g4⟩ := HG.out.below HBE.out (by simp)
    by_cases hlt : j < bs.length
    · obtain ⟨b2, off, rfl, hB, hc⟩ := HC.out (by omega)
      have hcell := ((HW.out.trans (HBE.out.mono (by omega))).cell (p := ⟨b2, off + j, none⟩) hB).trans (hc j hlt)
      have hx0 := HOK.out.2.2.1 j hlt
      obtain ⟨x, hx⟩ : ∃ x, bs.getD j 0 = x := ⟨_, rfl⟩
      rw [hx] at hcell hx0
      obtain ⟨hx1, hx2⟩ := hx0
      have HSU := Lib.hid (mpL_succ (f := f) hlt hx)
      have HR1 := Lib.hid (HCL.out x wo hx1 (by omega) (HW.out.trans (HBE.out.mono (by omega))))
      generalize mpL f bs j = L at HO HSU hmk ⊢
      clear hc hx
      go_wp2_with (first
        | (go_at_call 73; refine HR1.out.mono ?_; rintro e w' ⟨rfl, rfl⟩)
        | (at_builtin; refine wpList_append_int rfl (.tmp 15) (.tmp 19) rfl (w.heap.size + 2) _ L rfl (HO.out.alloc _) _ _ rfl (cell_new1 _ _ _) (by omega) (by simp; omega) ?_; intro v2 w2 hown2 hb2))
      have HO2 := Lib.hid hown2
      have HB2 := Lib.hid ((HBE.out.alloc (by omega) _).trans hb2)
      clear hown2 hb2
      go_wp2_with fail
      go_roundw
      case rel => exact ⟨j + 1, by omega, by go_num, by rw [HSU.out]; exact HO2.out, HB2.out⟩
      case measure => simp [intOf]; omega
    · have hje : j = bs.length := by omega
      subst hje
      have HI := Lib.hid (HO.out.ints (mpL_fit HOK.out HF.out _))
      generalize mpL f bs bs.length = L at HO HRO HI hmk ⊢
      go_wp2_with fail
      refine (HRO.out A1 c1 _ HI.out).mono ?_
      rintro e w2 ⟨A2, c2, rfl, hrw, hb2⟩
      have hz2 := hb2.size
      obtain ⟨f0, f1, f2, f3, f4⟩ := (HN.out.below HBE.out (by simp)).below hb2 (by simp; omega)
      simp only [World.size_alloc] at f0 f1 f2 f3
      go_wp2_with fail
      refine bodyPost_ret (v := .agg #[.int .i64 N, .slice A2 R.length c2]) (by simp [results, Tryz.results72, go_sem, f0, f1]) rfl ?_
      refine ⟨A2, c2, rfl, ?_, ?_⟩
      · exact ((hrw.far (p := ⟨w.heap.size + 1, 0, none⟩) (by simp; omega) _).far (p := ⟨w.heap.size + 1, 1, none⟩) (by simp; omega) _).mono (by omega)
      · exact (((HW.out.trans (HBE.out.mono (by omega))).trans (hb2.mono (by omega))).setCell (by simp) _).setCell (by simp) _

set_option maxRecDepth 100000 in
set_option maxHeartbeats 1000000 in
theorem impl_moved_stretched (N : Nat) (A : Option Addr) (cap : Nat) (bs : List Int) (f : Int → Int) (b : Nat) (w : World) (hA : Ints w w.heap.size A bs) (hok : RhOk N bs) (hf : ∀ x, 0 ≤ x → x < 24 → -1000000 ≤ f x ∧ f x ≤ 1000000)
    (hcl : ∀ x V, 0 ≤ x → x < 24 → Below w.heap.size w V → Calls Tryz.prog 81 #[.int .i64 x, .pointer (some ⟨b, 0, none⟩)] V fun e w' => e = .returned (.int .i64 (f x)) ∧ V = w') :
    Calls Tryz.prog 72 #[.agg #[.int .i64 N, .slice A bs.length cap], .func (.func 81) #[] #[.pointer (some ⟨b, 0, none⟩)]] w (RetRh1 w N (collL (modL N (mpL f bs bs.length) (mpL f bs bs.length).length))) := by
  have hn1 := hok.1
  have hn2 := hok.2.1
  have hlen := hA.1
  unfold maxLen at hlen
  have hbl : bs.length ≤ N := rhok_len hok
  have HC := Lib.hid hA.2.2
  have HOK := Lib.hid hok
  have hro := fun (A2 : Option Addr) (c2 : Nat) (V : World) (hV : Ints V V.heap.size A2 (mpL f bs bs.length)) => impl_rhythmOf_any N A2 c2 (mpL f bs bs.length) V hV (by have := mpL_len f bs bs.length; omega) hn1 (by omega)
  generalize collL (modL N (mpL f bs bs.length) (mpL f bs bs.length).length) = R at hro ⊢
  have HRO := Lib.hid hro
  have HF := Lib.hid hf
  have HCL := Lib.hid hcl
  clear hA hok hro hf hcl
  have hW0 := ((Below.refl w.heap.size w).alloc (Nat.le_refl _) (.cells #[.int .i64 N, .slice A bs.length cap] 27)).alloc (by first | exact Nat.le_refl _ | (simp; done) | (simp; omega) | omega) (.cells #[.int .i64 0, .slice none 0 0] 27)
  have HW := Lib.hid hW0
  have HG := Lib.hid ((Cells2.new w (.int .i64 N) (.slice A bs.length cap) 27).alloc (.cells #[.int .i64 0, .slice none 0 0] 27))
  have HN := Lib.hid (Cells2.new (w.alloc (.cells #[.int .i64 N, .slice A bs.length cap] 27)) (.int .i64 0) (.slice none 0 0) 27)
  obtain ⟨g0, g1, _, _, _⟩ := HG.out
  clear hW0
  go_enter Tryz.func72, Tryz.ntmps72
  go_wp2_with fail
  clear g0 g1
  go_loopw [5, 11] (fun so i wr => ∃ j : Nat, j ≤ bs.length ∧ i = .int .i64 j ∧ OwnI wr (w.heap.size + 2) so (mpL f bs j) ∧ Below (w.heap.size + 2) ((w.alloc (.cells #[.int .i64 N, .slice A bs.length cap] 27)).alloc (.cells #[.int .i64 0, .slice none 0 0] 27)) wr) (fun _ i _ => bs.length - (intOf i).toNat)
  case atStart => exact ⟨0, Nat.zero_le _, rfl, OwnI.nil _ _, Below.refl _ _⟩
  case round =>
    obtain ⟨j, hj, rfl, hown, hbel⟩ := hrel
    obtain ⟨wo, rfl⟩ : ∃ wo : World, wo = wr := ⟨_, rfl⟩
    have hws : w.heap.size + 2 ≤ wo.heap.size := by have := hbel.size; simpa using this
    have HBE := Lib.hid hbel
    have HO := Lib.hid hown
    obtain ⟨A1, c1, rfl⟩ := hown.form
    have hmk := mpL_len f bs j
    clear hbel hown
    obtain ⟨g0, g1, g2, g3, g4⟩ := HG.out.below HBE.out (by simp)
    by_cases hlt : j < bs.length
    · obtain ⟨b2, off, rfl, hB, hc⟩ := HC.out (by omega)
      have hcell := ((HW.out.trans (HBE.out.mono (by omega))).cell (p := ⟨b2, off + j, none⟩) hB).trans (hc j hlt)
      have hx0 := HOK.out.2.2.1 j hlt
      obtain ⟨x, hx⟩ : ∃ x, bs.getD j 0 = x := ⟨_, rfl⟩
      rw [hx] at hcell hx0
      obtain ⟨hx1, hx2⟩ := hx0
      have HSU := Lib.hid (mpL_succ (f := f) hlt hx)
      have HR1 := Lib.hid (HCL.out x wo hx1 (by omega) (HW.out.trans (HBE.out.mono (by omega))))
      generalize mpL f bs j = L at HO HSU hmk ⊢
      clear hc hx
      go_wp2_with (first
        | (go_at_call 81; refine HR1.out.mono ?_; rintro e w' ⟨rfl, rfl⟩)
        | (at_builtin; refine wpList_append_int rfl (.tmp 15) (.tmp 19) rfl (w.heap.size + 2) _ L rfl (HO.out.alloc _) _ _ rfl (cell_new1 _ _ _) (by omega) (by simp; omega) ?_; intro v2 w2 hown2 hb2))
      have HO2 := Lib.hid hown2
      have HB2 := Lib.hid ((HBE.out.alloc (by omega) _).trans hb2)
      clear hown2 hb2
      go_wp2_with fail
      go_roundw
      case rel => exact ⟨j + 1, by omega, by go_num, by rw [HSU.out]; exact HO2.out, HB2.out⟩
      case measure => simp [intOf]; omega
    · have hje : j = bs.length := by omega
      subst hje
      have HI := Lib.hid (HO.out.ints (mpL_fit HOK.out HF.out _))
      generalize mpL f bs bs.length = L at HO HRO HI hmk ⊢
      go_wp2_with fail
      refine (HRO.out A1 c1 _ HI.out).mono ?_
      rintro e w2 ⟨A2, c2, rfl, hrw, hb2⟩
      have hz2 := hb2.size
      obtain ⟨f0, f1, f2, f3, f4⟩ := (HN.out.below HBE.out (by simp)).below hb2 (by simp; omega)
      simp only [World.size_alloc] at f0 f1 f2 f3
      go_wp2_with fail
      refine bodyPost_ret (v := .agg #[.int .i64 N, .slice A2 R.length c2]) (by simp [results, Tryz.results72, go_sem, f0, f1]) rfl ?_
      refine ⟨A2, c2, rfl, ?_, ?_⟩
      · exact ((hrw.far (p := ⟨w.heap.size + 1, 0, none⟩) (by simp; omega) _).far (p := ⟨w.heap.size + 1, 1, none⟩) (by simp; omega) _).mono (by omega)
      · exact (((HW.out.trans (HBE.out.mono (by omega))).trans (hb2.mono (by omega))).setCell (by simp) _).setCell (by simp) _

set_option maxRecDepth 100000 in
set_option maxHeartbeats 1000000 in
theorem impl_mirrored_any (N : Nat) (A : Option Addr) (cap : Nat) (bs : List Int) (w : World) (hA : Ints w w.heap.size A bs) (hok : RhOk N bs) :
    Calls Tryz.prog 46 #[.agg #[.int .i64 N, .slice A bs.length cap]] w (RetRh1 w N (mirV N bs)) := by
  have HA := Lib.hid hA
  have HMV := Lib.hid (fun (V : World) hV => impl_moved_mirrored N A cap bs (fun x => -x) 0 V hV hok (fun x h1 h2 => by omega) (fun x U h1 h2 _ => impl_mirrored1_any x U ⟨h1, by omega⟩))
  rw [aff_coll hok (fun x => -x) (-1) 0 (fun x => by omega)] at HMV
  rw [show mirV N bs = affL N (-1) 0 bs from rfl]
  generalize affL N (-1) 0 bs = R at HMV ⊢
  clear hA hok
  have HW := Lib.hid (((Below.refl w.heap.size w).alloc (Nat.le_refl _) (.cells #[.int .i64 N, .slice A bs.length cap] 27)).alloc (by first | exact Nat.le_refl _ | (simp; done) | (simp; omega) | omega) (.cells #[.int .i64 0, .slice none 0 0] 27))
  have HG := Lib.hid ((Cells2.new w (.int .i64 N) (.slice A bs.length cap) 27).alloc (.cells #[.int .i64 0, .slice none 0 0] 27))
  have HN := Lib.hid (Cells2.new (w.alloc (.cells #[.int .i64 N, .slice A bs.length cap] 27)) (.int .i64 0) (.slice none 0 0) 27)
  obtain ⟨g0, g1, _, _, _⟩ := HG.out
  go_enter Tryz.func46, Tryz.ntmps46
  go_wp2_with fail
  refine (HMV.out _ (HA.out.lift HW.out)).mono ?_
  rintro e w2 ⟨A2, c2, rfl, hrw, hb2⟩
  have hz2 := hb2.size
  obtain ⟨f0, f1, f2, f3, f4⟩ := HN.out.below hb2 (by simp)
  simp only [World.size_alloc] at f0 f1 f2 f3 hz2 hrw hb2
  go_wp2_with fail
  refine bodyPost_ret (v := .agg #[.int .i64 N, .slice A2 R.length c2]) (by simp [results, Tryz.results46, go_sem, f0, f1]) rfl ?_
  refine ⟨A2, c2, rfl, ?_, ?_⟩
  · exact ((hrw.far (p := ⟨w.heap.size + 1, 0, none⟩) (by simp) _).far (p := ⟨w.heap.size + 1, 1, none⟩) (by simp) _).mono (by omega)
  · exact ((HW.out.trans (hb2.mono (by omega))).setCell (p := ⟨w.heap.size + 1, 0, none⟩) (Nat.le_add_right _ _) _).setCell (p := ⟨w.heap.size + 1, 1, none⟩) (Nat.le_add_right _ _) _

set_option maxRecDepth 100000 in
set_option maxHeartbeats 1000000 in
theorem impl_stretched_any (N : Nat) (A : Option Addr) (cap : Nat) (bs : List Int) (k : Nat) (w : World) (hA : Ints w w.heap.size A bs) (hok : RhOk N bs) (hk : k ≤ 1000) :
    Calls Tryz.prog 53 #[.agg #[.int .i64 N, .slice A bs.length cap], .int .i64 k] w (RetRh1 w N (affL N k 0 bs)) := by
  have HA := Lib.hid hA
  have hfs : ∀ x : Int, 0 ≤ x → x < 24 → -1000000 ≤ (k : Int) * x ∧ (k : Int) * x ≤ 1000000 := fun x h1 h2 => by
    have h0 : 0 ≤ (k : Int) * x := Int.mul_nonneg (by omega) h1
    have h2 : (k : Int) * x ≤ 1000 * 24 := Int.mul_le_mul (by omega) (by omega) h1 (by omega)
    omega
  have HMV := Lib.hid (fun (b : Nat) (V : World) hV (hb : b < V.heap.size) (hc : V.cell? ⟨b, 0, none⟩ = some (.int .i64 k)) => impl_moved_stretched N A cap bs (fun x => (k : Int) * x) b V hV hok hfs (fun x U h1 h2 hU => impl_stretched1_any x k b U ⟨h1, by omega⟩ (by omega) ((hU.cell (p := ⟨b, 0, none⟩) hb).trans hc)))
  rw [aff_coll hok (fun x => (k : Int) * x) k 0 (fun x => by omega)] at HMV
  generalize affL N k 0 bs = R at HMV ⊢
  clear hA hok hfs
  have HW := Lib.hid ((((Below.refl w.heap.size w).alloc (Nat.le_refl _) (.cells #[.int .i64 N, .slice A bs.length cap] 27)).alloc (by first | exact Nat.le_refl _ | (simp; done) | (simp; omega) | omega) (.cells #[.int .i64 k] 3)).alloc (by first | exact Nat.le_refl _ | (simp; done) | (simp; omega) | omega) (.cells #[.int .i64 0, .slice none 0 0] 27))
  have HG := Lib.hid (((Cells2.new w (.int .i64 N) (.slice A bs.length cap) 27).alloc (.cells #[.int .i64 k] 3)).alloc (.cells #[.int .i64 0, .slice none 0 0] 27))
  have HN := Lib.hid (Cells2.new ((w.alloc (.cells #[.int .i64 N, .slice A bs.length cap] 27)).alloc (.cells #[.int .i64 k] 3)) (.int .i64 0) (.slice none 0 0) 27)
  have HK := Lib.hid (show (((w.alloc (.cells #[.int .i64 N, .slice A bs.length cap] 27)).alloc (.cells #[.int .i64 k] 3)).alloc (.cells #[.int .i64 0, .slice none 0 0] 27)).cell? ⟨w.heap.size + 1, 0, none⟩ = some (.int .i64 k) by
    rw [((Below.refl (w.heap.size + 2) ((w.alloc (.cells #[.int .i64 N, .slice A bs.length cap] 27)).alloc (.cells #[.int .i64 k] 3))).alloc (by simp) (.cells #[.int .i64 0, .slice none 0 0] 27)).cell (p := ⟨w.heap.size + 1, 0, none⟩) (by simp)]
    simp)
  obtain ⟨g0, g1, _, _, _⟩ := HG.out
  go_enter Tryz.func53, Tryz.ntmps53
  go_wp2_with fail
  refine (HMV.out (w.heap.size + 1) _ (HA.out.lift HW.out) (by simp) HK.out).mono ?_
  rintro e w2 ⟨A2, c2, rfl, hrw, hb2⟩
  have hz2 := hb2.size
  obtain ⟨f0, f1, f2, f3, f4⟩ := HN.out.below hb2 (by simp)
  simp only [World.size_alloc] at f0 f1 f2 f3 hz2 hrw hb2
  go_wp2_with fail
  refine bodyPost_ret (v := .agg #[.int .i64 N, .slice A2 R.length c2]) (by simp [results, Tryz.results53, go_sem, f0, f1]) rfl ?_
  refine ⟨A2, c2, rfl, ?_, ?_⟩
  · exact ((hrw.far (p := ⟨w.heap.size + 2, 0, none⟩) (by simp) _).far (p := ⟨w.heap.size + 2, 1, none⟩) (by simp) _).mono (by omega)
  · exact ((HW.out.trans (hb2.mono (by omega))).setCell (p := ⟨w.heap.size + 2, 0, none⟩) (Nat.le_add_right _ _) _).setCell (p := ⟨w.heap.size + 2, 1, none⟩) (Nat.le_add_right _ _) _

end Go.Proofs.YtjoeglekcnaebaaGreatDoor

namespace Go.Proofs.YtjoeglekcnaebaaGreatDoor
open Go.RowKit
set_option linter.unusedVariables false
set_option linter.unusedSimpArgs false

/-- Old blocks outside S are as they were. -/
structure Frm (S : Nat → Prop) (w w' : World) : Prop where
  os : w'.os = w.os
  tape : w'.tape = w.tape
  output : w'.output = w.output
  size : w.heap.size ≤ w'.heap.size
  block : ∀ c, c < w.heap.size → ¬ S c → w'.heap[c]? = w.heap[c]?

def Rng (a b : Nat) (c : Nat) : Prop := a ≤ c ∧ c < b

section
variable {S T : Nat → Prop} {w w' w1 w2 : World}
theorem Frm.refl (S : Nat → Prop) (w : World) : Frm S w w := ⟨rfl, rfl, rfl, Nat.le_refl _, fun _ _ _ => rfl⟩
theorem Frm.trans (h : Frm S w w1) (k : Frm S w1 w2) : Frm S w w2 :=
  ⟨k.os.trans h.os, k.tape.trans h.tape, k.output.trans h.output, Nat.le_trans h.size k.size, fun c hc hS => (k.block c (Nat.lt_of_lt_of_le hc h.size) hS).trans (h.block c hc hS)⟩
theorem Frm.mono (h : Frm S w w') (hS : ∀ c, S c → T c) : Frm T w w' := ⟨h.os, h.tape, h.output, h.size, fun c hc hT => h.block c hc (fun hs => hT (hS c hs))⟩
theorem Frm.of_below {B : Nat} (h : Below B w w') (hS : ∀ c, c < w.heap.size → B ≤ c → S c) : Frm S w w' :=
  ⟨h.os, h.tape, h.output, h.size, fun c hc hn => h.block c (by
    apply Classical.byContradiction
    intro hh
    exact hn (hS c hc (by omega)))⟩
theorem Frm.pure (h : Below w.heap.size w w') (S : Nat → Prop) : Frm S w w' := Frm.of_below h (fun c h1 h2 => by omega)
theorem Frm.below {B : Nat} (h : Frm S w w') (hS : ∀ c, S c → B ≤ c) (hB : B ≤ w.heap.size) : Below B w w' :=
  ⟨h.os, h.tape, h.output, h.size, fun c hc => h.block c (by omega) (fun hs => by have := hS c hs; omega)⟩
theorem Frm.setCell (h : Frm S w w') {p : Addr} (hp : S p.block) (u : Value) : Frm S w (w'.setCell p u) :=
  ⟨h.os, h.tape, h.output, by simpa [World.setCell] using h.size, fun c hc hS => (Below.heap_setCell w' p u c (fun e => by subst e; exact hS hp)).trans (h.block c hc hS)⟩
theorem Below.drew5_ {B : Nat} {a w : World} (h : Below B a w) : Below B a w.drew := ⟨h.os, h.tape, h.output, h.size, h.block⟩
theorem Frm.alloc (h : Frm S w w') (o : Obj) : Frm S w (w'.alloc o) := h.trans (Frm.pure ((Below.refl _ _).alloc (Nat.le_refl _) o) S)
theorem Frm.drew (h : Frm S w w') : Frm S w w'.drew := ⟨h.os, h.tape, h.output, h.size, h.block⟩
theorem Frm.drewN (h : Frm S w w') (n : Nat) : Frm S w (w'.drewN n) := ⟨h.os, h.tape, h.output, h.size, h.block⟩
theorem Frm.cell (h : Frm S w w') {c o : Nat} (hc : c < w.heap.size) (hS : ¬ S c) : w'.cell? ⟨c, o, none⟩ = w.cell? ⟨c, o, none⟩ := World.cell?_of_block (a := ⟨c, o, none⟩) (h.block c hc hS)
theorem Frm.frozen (h : Frm S w w') {c o : Nat} (hc : c < w.heap.size) (hS : ¬ S c) : w'.frozen? ⟨c, o, none⟩ = w.frozen? ⟨c, o, none⟩ := World.frozen?_of_block (a := ⟨c, o, none⟩) (h.block c hc hS)
end

/-- Cells 0 .. N-1 of block b hold f, and may be written. -/
def TabV (w : World) (b N : Nat) (f : Nat → Value) : Prop := b < w.heap.size ∧ ∀ t, t < N → w.cell? ⟨b, t, none⟩ = some (f t) ∧ w.frozen? ⟨b, t, none⟩ = false
section
variable {w w' : World} {b N : Nat} {f g : Nat → Value} {S : Nat → Prop}
theorem TabV.frm (h : TabV w b N f) (hf : Frm S w w') (hb : ¬ S b) : TabV w' b N f :=
  ⟨Nat.lt_of_lt_of_le h.1 hf.size, fun t ht => ⟨(hf.cell h.1 hb).trans (h.2 t ht).1, (hf.frozen h.1 hb).trans (h.2 t ht).2⟩⟩
theorem TabV.get (h : TabV w b N f) {t : Nat} (ht : t < N) {v : Value} (hv : f t = v) : w.cell? ⟨b, t, none⟩ = some v := by rw [← hv]; exact (h.2 t ht).1
theorem TabV.congr (h : TabV w b N f) (hfg : ∀ t, t < N → f t = g t) : TabV w b N g := ⟨h.1, fun t ht => ⟨by rw [← hfg t ht]; exact (h.2 t ht).1, (h.2 t ht).2⟩⟩
theorem TabV.set_ (h : TabV w b N f) (j : Nat) (u : Value) (hj : j < N) (hu : g j = u) (hg : ∀ t, t < N → t ≠ j → g t = f t) : TabV (w.setCell ⟨b, j, none⟩ u) b N g := by
  refine ⟨by simpa [World.setCell] using h.1, fun t ht => ⟨?_, ?_⟩⟩
  · by_cases e : t = j
    · subst e
      rw [World.cell?_setCell_same w _ _ (h.2 t ht).1, hu]
    · rw [World.cell?_setCell_other w _ _ _ (fun q => e (by injection q; omega)), (h.2 t ht).1, hg t ht e]
  · rw [World.frozen?_setCell]; exact (h.2 t ht).2
theorem Tab.tabV {f : Nat → Int} (h : Tab w b N f) : TabV w b N (fun t => .int .i64 (f t)) := h
end

/-- A list's block, if it has one, lies between base and top. -/
def HeldV (w : World) (A : Option Addr) (N : Nat) (f : Nat → Value) (base top : Nat) : Prop :=
  0 < N → ∃ b, A = some ⟨b, 0, none⟩ ∧ base ≤ b ∧ b < top ∧ TabV w b N f
theorem HeldV.frm {w w' : World} {A : Option Addr} {N base top : Nat} {f : Nat → Value} {S : Nat → Prop} (h : HeldV w A N f base top) (hf : Frm S w w') (hS : ∀ c, base ≤ c → c < top → ¬ S c) : HeldV w' A N f base top := by
  intro hn
  obtain ⟨b, e, h1, h2, h3⟩ := h hn
  exact ⟨b, e, h1, h2, h3.frm hf (hS b h1 h2)⟩
theorem HeldV.congr {w : World} {A : Option Addr} {N base top : Nat} {f g : Nat → Value} (h : HeldV w A N f base top) (hfg : ∀ t, t < N → f t = g t) : HeldV w A N g base top := by
  intro hn
  obtain ⟨b, e, h1, h2, h3⟩ := h hn
  exact ⟨b, e, h1, h2, h3.congr hfg⟩

end Go.Proofs.YtjoeglekcnaebaaGreatDoor

namespace Go.Proofs.YtjoeglekcnaebaaGreatDoor
open Go.RowKit
set_option linter.unusedVariables false
set_option linter.unusedSimpArgs false

def Hav (w : World) (N : Nat) (g : Nat) (A : Option Addr) (c : Nat) (xs : List Int) : Prop := Cells2 w g (.int .i64 N) (.slice A xs.length c) ∧ Ints w w.heap.size A xs
theorem Hav.lift {w w' : World} {N g c : Nat} {A : Option Addr} {xs : List Int} (h : Hav w N g A c xs) (hb : Below w.heap.size w w') : Hav w' N g A c xs :=
  ⟨h.1.below hb h.1.2.2.2.2, h.2.lift hb⟩
theorem Hav.drew {w : World} {N g c : Nat} {A : Option Addr} {xs : List Int} (h : Hav w N g A c xs) : Hav w.drew N g A c xs := h
theorem Hav.alloc {w : World} {N g c : Nat} {A : Option Addr} {xs : List Int} (h : Hav w N g A c xs) (o : Obj) : Hav (w.alloc o) N g A c xs :=
  h.lift ((Below.refl _ _).alloc (Nat.le_refl _) o)
theorem Hav.boxed {w : World} {A : Option Addr} {xs : List Int} (h : Ints w w.heap.size A xs) (N c : Nat) : Hav (w.alloc (.cells #[.int .i64 N, .slice A xs.length c] 27)) N w.heap.size A c xs :=
  ⟨Cells2.new w _ _ _, h.lift ((Below.refl _ _).alloc (Nat.le_refl _) _)⟩
theorem Below.drewH_ {B : Nat} {a w : World} (h : Below B a w) : Below B a w.drew := ⟨h.os, h.tape, h.output, h.size, h.block⟩

/-- A rhythm in a row of rhythms, its beats readable. -/
def HavR (w : World) (N : Nat) (g o : Nat) (A : Option Addr) (c : Nat) (xs : List Int) : Prop := (g < w.heap.size ∧ w.cell? ⟨g, o, none⟩ = some (.int .i64 N) ∧ w.cell? ⟨g, o + 1, none⟩ = some (.slice A xs.length c)) ∧ Ints w w.heap.size A xs
theorem HavR.lift {w w' : World} {N g o c : Nat} {A : Option Addr} {xs : List Int} (h : HavR w N g o A c xs) (hb : Below w.heap.size w w') : HavR w' N g o A c xs :=
  ⟨⟨Nat.lt_of_lt_of_le h.1.1 hb.size, (hb.cell (p := ⟨g, o, none⟩) h.1.1).trans h.1.2.1, (hb.cell (p := ⟨g, o + 1, none⟩) h.1.1).trans h.1.2.2⟩, h.2.lift hb⟩
theorem HavR.drew {w : World} {N g o c : Nat} {A : Option Addr} {xs : List Int} (h : HavR w N g o A c xs) : HavR w.drew N g o A c xs := h

end Go.Proofs.YtjoeglekcnaebaaGreatDoor

namespace Go.Proofs.YtjoeglekcnaebaaGreatDoor
open Go.RowKit
set_option linter.unusedVariables false
set_option linter.unusedSimpArgs false

set_option maxRecDepth 100000 in
set_option maxHeartbeats 1000000 in
theorem spec_l04After_any (N : Nat) (A1 A2 : Option Addr) (c1 c2 : Nat) (a b : List Int) (w : World) (h1 : Ints w w.heap.size A1 a) (h2 : Ints w w.heap.size A2 b) (ha : RhOk N a) (hb : RhOk N b) :
    Calls Tryz.prog 37 #[.agg #[.int .i64 N, .slice A1 a.length c1], .agg #[.int .i64 N, .slice A2 b.length c2]] w fun e w' => e = .returned (.bool (aftB N a b)) ∧ Below w.heap.size w w' := by
  have hn2 : N ≤ 24 := by have := ha.2.1; omega
  have hal := (Below.refl w.heap.size w).alloc (Nat.le_refl _) (.cells #[.int .i64 N, .slice A1 a.length c1] 27)
  have hal2 := (Below.refl _ (w.alloc (.cells #[.int .i64 N, .slice A1 a.length c1] 27))).alloc (Nat.le_refl _) (.cells #[.int .i64 N, .slice A2 b.length c2] 27)
  have HB0 := Lib.hid (hal.trans (hal2.mono (by simp)))
  have HP0 := Lib.hid ((Cells2.new w (.int .i64 N) (.slice A1 a.length c1) 27).alloc (.cells #[.int .i64 N, .slice A2 b.length c2] 27))
  have HQ0 := Lib.hid (Cells2.new (w.alloc (.cells #[.int .i64 N, .slice A1 a.length c1] 27)) (.int .i64 N) (.slice A2 b.length c2) 27)
  have HI1 := Lib.hid ((h1.lift hal).lift hal2)
  have HI2 := Lib.hid ((h2.lift hal).lift hal2)
  have HA := Lib.hid ha
  have HB := Lib.hid hb
  obtain ⟨f0, f1, _, _, _⟩ := HP0.out
  obtain ⟨g0, g1, _, _, _⟩ := HQ0.out
  clear h1 h2 ha hb hal hal2
  go_enter Tryz.func37, Tryz.ntmps37
  go_wp2_with fail
  generalize (w.alloc (.cells #[.int .i64 N, .slice A1 a.length c1] 27)).alloc (.cells #[.int .i64 N, .slice A2 b.length c2] 27) = W at *
  have HHA := Lib.hid (fun (x : Nat) => spec_l02Has_any A1 c1 a (x : Int) W W.heap.size HI1.out)
  have HHB := Lib.hid (fun (x : Nat) => spec_l02Has_any A2 c2 b (x : Int) W W.heap.size HI2.out)
  simp only [World.size_alloc] at g0 g1
  go_loop [5] (fun v => ∃ p : Nat, p ≤ N ∧ v = .int .i64 p ∧ ∀ q : Nat, q < p → hasB a q = hasB b q) (fun v => N - (intOf v).toNat)
  case atStart => exact ⟨0, Nat.zero_le _, rfl, fun q hq => by omega⟩
  case round =>
    obtain ⟨p, hp, rfl, hs⟩ := hrel
    have HS := Lib.hid hs
    clear hs
    by_cases hlt : p < N
    · have hlti : (p : Int) < (N : Int) := by omega
      have HA1 := Lib.hid (HHA.out p)
      have HB1 := Lib.hid (HHB.out p)
      obtain ⟨x, hx⟩ : ∃ x, hasB a p = x := ⟨_, rfl⟩
      obtain ⟨y, hy⟩ : ∃ y, hasB b p = y := ⟨_, rfl⟩
      rw [hx] at HA1
      rw [hy] at HB1
      have HX := Lib.hid hx
      have HY := Lib.hid hy
      clear hx hy
      cases x
      · cases y
        · skip
          go_wp2_with fail
          refine HA1.out.mono ?_
          rintro e w1 ⟨rfl, rfl⟩
          go_wp2_with fail
          refine HB1.out.mono ?_
          rintro e w1 ⟨rfl, rfl⟩
          go_wp2_with fail
          go_round
          case rel => exact ⟨p + 1, by omega, by go_num, fun q hq => by
            by_cases e : q = p
            · subst e; rw [HX.out, HY.out]
            · exact HS.out q (by omega)⟩
          case measure => simp [intOf]; omega
        · skip
          have HV := Lib.hid (show aftB N a b = false by rw [aft_first HA.out HB.out hlt HS.out (by rw [HX.out, HY.out]; decide), HX.out])
          go_wp2_with fail
          refine HA1.out.mono ?_
          rintro e w1 ⟨rfl, rfl⟩
          go_wp2_with fail
          refine HB1.out.mono ?_
          rintro e w1 ⟨rfl, rfl⟩
          go_wp2_with fail
          go_ret
          exact ⟨ret_bool HV.out.symm, HB0.out⟩
      · cases y
        · skip
          have HV := Lib.hid (show aftB N a b = true by rw [aft_first HA.out HB.out hlt HS.out (by rw [HX.out, HY.out]; decide), HX.out])
          go_wp2_with fail
          refine HA1.out.mono ?_
          rintro e w1 ⟨rfl, rfl⟩
          go_wp2_with fail
          refine HB1.out.mono ?_
          rintro e w1 ⟨rfl, rfl⟩
          go_wp2_with fail
          go_ret
          exact ⟨ret_bool HV.out.symm, HB0.out⟩
        · skip
          go_wp2_with fail
          refine HA1.out.mono ?_
          rintro e w1 ⟨rfl, rfl⟩
          go_wp2_with fail
          refine HB1.out.mono ?_
          rintro e w1 ⟨rfl, rfl⟩
          go_wp2_with fail
          go_round
          case rel => exact ⟨p + 1, by omega, by go_num, fun q hq => by
            by_cases e : q = p
            · subst e; rw [HX.out, HY.out]
            · exact HS.out q (by omega)⟩
          case measure => simp [intOf]; omega
    · have hlti : ¬ (p : Int) < (N : Int) := by omega
      have HV := Lib.hid (show aftB N a b = false from aft_none HA.out HB.out (fun q hq => HS.out q (by omega)))
      go_wp2_with fail
      go_ret
      exact ⟨ret_bool HV.out.symm, HB0.out⟩

end Go.Proofs.YtjoeglekcnaebaaGreatDoor

namespace Go.Proofs.YtjoeglekcnaebaaGreatDoor
open Go.RowKit
set_option linter.unusedVariables false
set_option linter.unusedSimpArgs false

theorem i64_or_pow2 (m v : Nat) (hm : m < 16777216) (hv : v < 24) : bits BinOp.or IntKind.i64 (m : Int) (wrap64 (2 ^ v)) = ((m ||| 2 ^ v : Nat) : Int) := by
  have h2 : (2 : Nat) ^ v < 2 ^ 24 := Nat.pow_lt_pow_right (by omega) hv
  have e : wrap64 (2 ^ v) = ((2 ^ v : Nat) : Int) := by
    rw [show ((2 : Int) ^ v) = ((2 ^ v : Nat) : Int) by simp]
    generalize 2 ^ v = x at h2
    unfold wrap64
    omega
  rw [e]
  exact i64_or_nat m (2 ^ v) (by omega) (by omega)

set_option maxRecDepth 100000 in
set_option maxHeartbeats 1000000 in
theorem impl_code_any (n : Int) (A : Option Addr) (cap : Nat) (bs : List Int) (w : World) (hA : Ints w w.heap.size A bs) (hok : RhOk n bs) :
    Calls Tryz.prog 50 #[.agg #[.int .i64 n, .slice A bs.length cap]] w fun e w' => e = .returned (.int .i64 (codeN n bs bs.length)) ∧ Below w.heap.size w w' := by
  have hlen := hA.1
  unfold maxLen at hlen
  have HC := Lib.hid hA.2.2
  have hn1 := hok.1
  have hn2 := hok.2.1
  have HOK := Lib.hid hok
  obtain ⟨c0, c1⟩ := box2 (Below.refl (w.heap.size + 1) (w.alloc (.cells #[.int .i64 n, .slice A bs.length cap] 27)))
  have HB := Lib.hid ((Below.refl w.heap.size w).alloc (Nat.le_refl _) (.cells #[.int .i64 n, .slice A bs.length cap] 27))
  clear hA hok
  go_enter Tryz.func50, Tryz.ntmps50
  go_wp2_with fail
  go_loop [3, 9] (fun m i => ∃ k : Nat, k ≤ bs.length ∧ i = .int .i64 k ∧ m = .int .i64 (codeN n bs k)) (fun _ i => bs.length - (intOf i).toNat)
  case atStart => exact ⟨0, Nat.zero_le _, rfl, rfl⟩
  case round =>
    obtain ⟨k, hk, rfl, rfl⟩ := hrel
    by_cases hlt : k < bs.length
    · obtain ⟨b, off, rfl, hB, hc⟩ := HC.out (by omega)
      have hcell := (HB.out.cell (p := ⟨b, off + k, none⟩) hB).trans (hc k hlt)
      have hx0 := HOK.out.2.2.1 k hlt
      have hsu : codeN n bs (k + 1) = codeN n bs k ||| 2 ^ (n - 1 - bs.getD k 0).toNat := rfl
      have hcl := codeN_lt n bs (by omega) HOK.out.2.2.1 k (by omega)
      have hcl2 : codeN n bs k < 16777216 := Nat.lt_of_lt_of_le hcl (Nat.le_trans (Nat.pow_le_pow_right (by omega) (show n.toNat ≤ 24 by omega)) (by decide))
      clear hcl
      obtain ⟨x, hx⟩ : ∃ x, bs.getD k 0 = x := ⟨_, rfl⟩
      rw [hx] at hcell hx0 hsu
      obtain ⟨hx1, hx2⟩ := hx0
      obtain ⟨v, hv⟩ : ∃ v : Nat, n - 1 - x = v := ⟨(n - 1 - x).toNat, by omega⟩
      have hv24 : v < 24 := by omega
      have hor := i64_or_pow2 (codeN n bs k) v hcl2 hv24
      rw [hv, Int.toNat_natCast] at hsu
      rw [← hsu] at hor
      have hx3 : x = n - 1 - v := by omega
      obtain ⟨M', hM'⟩ : ∃ M', codeN n bs (k + 1) = M' := ⟨_, rfl⟩
      rw [hM'] at hor
      have HM' := Lib.hid hM'
      have hw1 : IntKind.i64.wrap (n - 1 - x) = (v : Int) := by rw [hv]; exact i64w (by omega)
      generalize codeN n bs k = M at hor hcl2 ⊢
      clear hc hx hsu hM' hx3
      go_wp2_with fail
      go_round
      case rel => exact ⟨k + 1, by omega, by go_num, by rw [HM'.out]⟩
      case measure => simp [intOf]; omega
    · have hke : k = bs.length := by omega
      subst hke
      go_wp2_with fail
      go_ret
      exact ⟨rfl, HB.out⟩

end Go.Proofs.YtjoeglekcnaebaaGreatDoor

namespace Go.Proofs.YtjoeglekcnaebaaGreatDoor
open Go.RowKit
set_option linter.unusedVariables false
set_option linter.unusedSimpArgs false

/-- A rhythm in a slice: its size, beats, and where they lie. -/
structure RV where
  n : Int
  xs : List Int
  A : Option Addr
  c : Nat
  b : Nat
instance : Inhabited RV := ⟨⟨0, [], none, 0, 0⟩⟩
def RV.slc (r : RV) : Value := .slice r.A r.xs.length r.c
def RV.cells (r : RV) : List Value := [.int .i64 r.n, r.slc]
def cellsR : List RV → List Value
  | [] => []
  | r :: rs => .int .i64 r.n :: r.slc :: cellsR rs
theorem cellsR_len : ∀ rs, (cellsR rs).length = rs.length * 2
  | [] => rfl
  | r :: rs => by simp [cellsR, cellsR_len rs]; omega
theorem cellsR_app : ∀ rs ss, cellsR (rs ++ ss) = cellsR rs ++ cellsR ss
  | [], ss => rfl
  | r :: rs, ss => by simp [cellsR, cellsR_app rs ss]
theorem cellsR_get : ∀ (rs : List RV) (i : Nat) (h : i < rs.length), (cellsR rs)[i * 2]? = some (.int .i64 rs[i].n) ∧ (cellsR rs)[i * 2 + 1]? = some rs[i].slc
  | r :: rs, 0, _ => ⟨rfl, rfl⟩
  | r :: rs, i + 1, h => by
    have := cellsR_get rs i (by simpa using h)
    rw [show (i + 1) * 2 = i * 2 + 1 + 1 by omega]
    simpa [cellsR] using this

/-- The beats of r lie in block r.b. -/
def RV.Lies (r : RV) (w : World) (base : Nat) : Prop :=
  r.xs.length ≤ 1048576 ∧ base ≤ r.b ∧ r.b < w.heap.size ∧ (0 < r.xs.length → r.A = some ⟨r.b, 0, none⟩ ∧ TabV w r.b r.xs.length (fun t => .int .i64 (r.xs.getD t 0)))
theorem RV.Lies.frm {r : RV} {w w' : World} {base : Nat} {S : Nat → Prop} (h : r.Lies w base) (hf : Frm S w w') (hS : ¬ S r.b) : r.Lies w' base :=
  ⟨h.1, h.2.1, Nat.lt_of_lt_of_le h.2.2.1 hf.size, fun hn => ⟨(h.2.2.2 hn).1, (h.2.2.2 hn).2.frm hf hS⟩⟩
theorem RV.Lies.mono {r : RV} {w : World} {base base' : Nat} (h : r.Lies w base) (hb : base' ≤ base) : r.Lies w base' := ⟨h.1, by have := h.2.1; omega, h.2.2⟩
theorem RV.Lies.ints {r : RV} {w : World} {base : Nat} (h : r.Lies w base) (hf : ∀ x ∈ r.xs, Fits x) : Ints w w.heap.size r.A r.xs := by
  refine ⟨by have := h.1; unfold maxLen; omega, hf, fun hn => ?_⟩
  obtain ⟨e, ht⟩ := h.2.2.2 hn
  exact ⟨r.b, 0, e, ht.1, fun i hi => by rw [Nat.zero_add]; exact (ht.2 i hi).1⟩
theorem RW.rv {w : World} {base : Nat} {A : Option Addr} {xs : List Int} (h : RW w base A xs) (hb : base < w.heap.size) (n : Int) (c : Nat) : ∃ b, (RV.mk n xs A c b).Lies w base := by
  by_cases hn : 0 < xs.length
  · obtain ⟨b, e, hge, ht⟩ := h.2 hn
    exact ⟨b, h.1, hge, ht.1, fun _ => ⟨e, ht.tabV⟩⟩
  · exact ⟨base, h.1, Nat.le_refl _, hb, fun h' => absurd h' hn⟩

end Go.Proofs.YtjoeglekcnaebaaGreatDoor

