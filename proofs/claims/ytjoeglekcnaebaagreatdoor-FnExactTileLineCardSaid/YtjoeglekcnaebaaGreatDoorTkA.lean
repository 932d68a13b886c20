/-
  Several texts of this proof in one: WayT, WayU, EvnT, ClsT, ParT, ParU.
-/
import Derived.Test.YtjoeglekcnaebaaGreatDoorMovT
import Derived.Test.YtjoeglekcnaebaaGreatDoorTurn
namespace Go.Proofs.YtjoeglekcnaebaaGreatDoor
open Go.RowKit
set_option linter.unusedVariables false
set_option linter.unusedSimpArgs false

def absI (x : Int) : Int := if 0 ≤ x then x else -x
def sigN (f : Nat → Int) : Nat → Int
  | 0 => 0
  | m + 1 => sigN f m + f m
theorem sigN_congr {f g : Nat → Int} : ∀ {m : Nat}, (∀ i, i < m → f i = g i) → sigN f m = sigN g m
  | 0, _ => rfl
  | m + 1, h => by
    unfold sigN
    rw [sigN_congr (fun i hi => h i (by omega)), h m (by omega)]
theorem sigN_le {f g : Nat → Int} : ∀ {m : Nat}, (∀ i, i < m → f i ≤ g i) → sigN f m ≤ sigN g m
  | 0, _ => Int.le_refl _
  | m + 1, h => by
    unfold sigN
    have := sigN_le (f := f) (g := g) (m := m) (fun i hi => h i (by omega))
    have := h m (by omega)
    omega
theorem sigN_nonneg {f : Nat → Int} : ∀ {m : Nat}, (∀ i, i < m → 0 ≤ f i) → 0 ≤ sigN f m
  | 0, _ => Int.le_refl _
  | m + 1, h => by
    unfold sigN
    have := sigN_nonneg (f := f) (m := m) (fun i hi => h i (by omega))
    have := h m (by omega)
    omega
theorem sigN_zero {f : Nat → Int} : ∀ {m : Nat}, (∀ i, i < m → f i = 0) → sigN f m = 0
  | 0, _ => rfl
  | m + 1, h => by
    unfold sigN
    rw [sigN_zero (fun i hi => h i (by omega)), h m (by omega)]; rfl
theorem sigN_one {f g : Nat → Int} {j : Nat} : ∀ {m : Nat}, j < m → (∀ i, i < m → i ≠ j → f i = g i) → sigN f m - sigN g m = f j - g j
  | 0, h, _ => by omega
  | m + 1, h, he => by
    unfold sigN
    by_cases hj : j = m
    · subst hj
      rw [sigN_congr (fun i hi => he i (by omega) (by omega))]; omega
    · have := sigN_one (f := f) (g := g) (j := j) (m := m) (by omega) (fun i hi => he i (by omega))
      rw [he m (by omega) (by omega)]; omega
theorem sigN_shift (f : Nat → Int) : ∀ m, sigN (fun i => f (i + 1)) m = sigN f m - f 0 + f m
  | 0 => by unfold sigN; omega
  | m + 1 => by
    have := sigN_shift f m
    unfold sigN
    rw [this]; omega

/-- A list of beats, read on and on, around. -/
def extB (n : Int) (b : List Int) (t : Int) : Int := b.getD (t % (b.length : Int)).toNat 0 + t / (b.length : Int) * n
def Perd (k : Nat) (n : Int) (A : Int → Int) : Prop := ∀ t, A (t + k) = A t + n
theorem Perd.mul {k : Nat} {n : Int} {A : Int → Int} (h : Perd k n A) (t : Int) : ∀ j : Nat, A (t + j * k) = A t + j * n ∧ A (t - j * k) = A t - j * n
  | 0 => by simp
  | j + 1 => by
    obtain ⟨h1, h2⟩ := h.mul t j
    have e1 := h (t + j * k)
    have e2 := h (t - (j + 1 : Nat) * k)
    have x1 : ((j + 1 : Nat) : Int) * k = j * k + k := by rw [Int.natCast_add, Int.add_mul]; simp
    have x2 : ((j + 1 : Nat) : Int) * n = j * n + n := by rw [Int.natCast_add, Int.add_mul]; simp
    rw [x1] at e2 ⊢
    rw [x2]
    rw [show t - (j * k + k) + k = t - j * k by omega] at e2
    rw [show t + (j * k + k) = t + j * k + k by omega]
    omega
theorem Perd.muli {k : Nat} {n : Int} {A : Int → Int} (h : Perd k n A) (t j : Int) : A (t + j * k) = A t + j * n := by
  rcases Int.eq_nat_or_neg j with ⟨m, rfl | rfl⟩
  · exact (h.mul t m).1
  · have := (h.mul t m).2
    rw [Int.neg_mul, Int.neg_mul]
    exact this
theorem Perd.red {k : Nat} {n : Int} {A : Int → Int} (h : Perd k n A) (t : Int) : A t = A (t % k) + t / k * n := by
  have := h.muli (t % k) (t / k)
  rw [← this]
  congr 1
  have := Int.emod_add_mul_ediv t k
  rw [Int.mul_comm] at this
  exact this.symm
theorem Perd.ext {k : Nat} {n : Int} {A B : Int → Int} (hk : 1 ≤ k) (hA : Perd k n A) (hB : Perd k n B) (h : ∀ i : Nat, i < k → A i = B i) (t : Int) : A t = B t := by
  rw [hA.red t, hB.red t]
  have h0 := Int.emod_nonneg t (show (k : Int) ≠ 0 by omega)
  have h1 := Int.emod_lt_of_pos t (show (0 : Int) < k by omega)
  obtain ⟨i, hi⟩ := Int.eq_ofNat_of_zero_le h0
  rw [hi, h i (by omega)]
theorem extB_perd (n : Int) (b : List Int) (hk : 1 ≤ b.length) : Perd b.length n (extB n b) := by
  intro t
  unfold extB
  rw [Int.add_emod_right, Int.add_ediv_of_dvd_right (Int.dvd_refl _), Int.ediv_self (by omega), Int.add_mul]
  omega
theorem extB_at (n : Int) (b : List Int) (i : Nat) (hi : i < b.length) : extB n b i = b.getD i 0 := by
  unfold extB
  rw [Int.emod_eq_of_lt (by omega) (by omega), Int.ediv_eq_zero_of_lt (by omega) (by omega), Int.toNat_natCast]
  omega

/-- The sum of the ways from a to b, with a turn. -/
def farG (A B : Int → Int) (k : Nat) (s : Int) : Int := sigN (fun i => absI (A i - B (i + s))) k
theorem farG_shift1 {A B : Int → Int} {k : Nat} {n : Int} (hA : Perd k n A) (hB : Perd k n B) (s : Int) : farG (fun t => A (t + 1)) (fun t => B (t + 1)) k s = farG A B k s := by
  unfold farG
  have := sigN_shift (fun i => absI (A i - B (i + s))) k
  have e : absI (A k - B (k + s)) = absI (A 0 - B (0 + s)) := by
    have e1 := hA 0
    have e2 := hB (0 + s)
    rw [Int.zero_add] at e1 e2
    rw [show (k : Int) + s = s + k by omega, e1, Int.zero_add, e2]
    congr 1
    omega
  simp only [Int.natCast_zero] at this
  rw [e] at this
  rw [show sigN (fun i => absI (A (i + 1) - B (i + s + 1))) k = sigN (fun i : Nat => absI (A ((i + 1 : Nat) : Int) - B (((i + 1 : Nat) : Int) + s))) k from sigN_congr fun i _ => by
    rw [show ((i + 1 : Nat) : Int) = (i : Int) + 1 by omega, show (i : Int) + 1 + s = i + s + 1 by omega]]
  rw [this]
  omega
theorem farG_shift {A B : Int → Int} {k : Nat} {n : Int} (hA : Perd k n A) (hB : Perd k n B) (s : Int) (e : Int) : farG (fun t => A (t + e)) B k s = farG A B k (s - e) := by
  have main : ∀ (j : Nat) (A B : Int → Int), Perd k n A → Perd k n B → farG (fun t => A (t + j)) (fun t => B (t + j)) k s = farG A B k s := by
    intro j
    induction j with
    | zero => intro A B _ _; simp
    | succ j ih =>
      intro A B hA hB
      have h1 := ih (fun t => A (t + 1)) (fun t => B (t + 1)) (fun t => by
        have := hA (t + 1); rw [show t + 1 + (k : Int) = t + k + 1 by omega] at this; exact this) (fun t => by
        have := hB (t + 1); rw [show t + 1 + (k : Int) = t + k + 1 by omega] at this; exact this)
      rw [farG_shift1 hA hB] at h1
      rw [← h1]
      congr 1 <;> (funext t; rw [show t + ((j + 1 : Nat) : Int) = t + j + 1 by omega])
  have h3 : farG (fun t => A (t + e)) B k s = farG (fun t => A (t + e)) (fun t => B (t - e + e)) k s := by
    congr 1; funext t; rw [show t - e + e = t by omega]
  rw [h3]
  have h5 : ∀ (e : Int), farG (fun t => A (t + e)) (fun t => B (t - e + e)) k s = farG A (fun t => B (t - e)) k s := by
    intro e
    have h4 : Perd k n (fun t => B (t - e)) := fun t => by
      have := hB (t - e); rw [show t - e + (k : Int) = t + k - e by omega] at this; exact this
    rcases Int.eq_nat_or_neg e with ⟨m, rfl | rfl⟩
    · have := main m A (fun t => B (t - m)) hA h4
      rw [← this]
      congr 1; funext t; congr 1; omega
    · have := main m (fun t => A (t + -m)) (fun t => B t) (fun t => by
        have := hA (t + -m); rw [show t + -(m : Int) + (k : Int) = t + k + -m by omega] at this; exact this) hB
      have e1 : farG (fun t => A (t + (m : Int) + -m)) (fun t => B (t + m)) k s = farG A (fun t => B (t - -m)) k s := by
        congr 1 <;> (funext t; congr 1; omega)
      rw [← e1, this]
      congr 1; funext t; congr 1; omega
  rw [h5 e]
  unfold farG
  refine sigN_congr fun i _ => ?_
  show absI (A i - B (i + s - e)) = _
  rw [show (i : Int) + s - e = i + (s - e) by omega]

/-- The least of f at lo, lo + 1, .., lo + m. -/
def leastF (f : Int → Int) (lo : Int) : Nat → Int
  | 0 => f lo
  | m + 1 => if f (lo + (m + 1 : Nat)) < leastF f lo m then f (lo + (m + 1 : Nat)) else leastF f lo m
theorem leastF_spec (f : Int → Int) (lo : Int) : ∀ m : Nat, (∀ s, lo ≤ s → s ≤ lo + m → leastF f lo m ≤ f s) ∧ ∃ s, lo ≤ s ∧ s ≤ lo + m ∧ leastF f lo m = f s
  | 0 => ⟨fun s h1 h2 => by
      have : s = lo := by simp at h2; omega
      subst this; exact Int.le_refl _, lo, by omega, by simp, rfl⟩
  | m + 1 => by
    obtain ⟨h1, s0, h2, h3, h4⟩ := leastF_spec f lo m
    unfold leastF
    split
    · rename_i hlt
      refine ⟨fun s a b => ?_, lo + (m + 1 : Nat), by omega, by omega, rfl⟩
      by_cases e : s = lo + (m + 1 : Nat)
      · subst e; exact Int.le_refl _
      · have := h1 s a (by omega); omega
    · rename_i hlt
      refine ⟨fun s a b => ?_, s0, h2, by omega, h4⟩
      by_cases e : s = lo + (m + 1 : Nat)
      · subst e; omega
      · exact h1 s a (by omega)

/-- The number of moves from a to b (as many beats). -/
def farS (n : Int) (a b : List Int) (s : Int) : Int := farG (extB n a) (extB n b) a.length s
def farV (n : Int) (a b : List Int) : Int := leastF (farS n a b) (-(a.length : Int)) (2 * a.length)

section
variable {N : Nat} {a b : List Int}
theorem rh_at {i : Nat} (h : RhOk N a) (hi : i < a.length) : 0 ≤ a.getD i 0 ∧ a.getD i 0 < N := h.2.2.1 i hi
theorem ext_range (h : RhOk N a) (i : Nat) (hi : i < a.length) : 0 ≤ extB N a i ∧ extB N a i < N := by
  rw [extB_at N a i hi]; exact h.2.2.1 i hi
theorem ext_step (h : RhOk N a) (hk : 1 ≤ a.length) (t : Int) : extB N a t < extB N a (t + 1) := by
  have hp := extB_perd N a hk
  have h0 := Int.emod_nonneg t (show (a.length : Int) ≠ 0 by omega)
  have h1 := Int.emod_lt_of_pos t (show (0 : Int) < a.length by omega)
  obtain ⟨i, hi⟩ := Int.eq_ofNat_of_zero_le h0
  have e1 := hp.red t
  have e2 := hp.muli (t % a.length + 1) (t / a.length)
  rw [show t % (a.length : Int) + 1 + t / a.length * a.length = t + 1 by
    have := Int.emod_add_mul_ediv t a.length; rw [Int.mul_comm] at this; omega] at e2
  rw [e1, e2, hi]
  have hil : i < a.length := by omega
  have ri := ext_range h i hil
  by_cases hl : i + 1 < a.length
  · have := h.2.2.2 i hl
    have x1 := extB_at N a i hil
    have x2 := extB_at N a (i + 1) hl
    rw [Int.natCast_add] at x2
    have x3 : ((1 : Nat) : Int) = 1 := rfl
    rw [x3] at x2
    omega
  · have x2 := hp 0
    rw [show (0 : Int) + a.length = i + 1 by omega] at x2
    have r0 := ext_range h 0 (by omega)
    rw [show ((0 : Nat) : Int) = 0 from rfl] at r0
    omega
theorem ext_mono (h : RhOk N a) (hk : 1 ≤ a.length) (t : Int) : ∀ j : Nat, extB N a t + j ≤ extB N a (t + j)
  | 0 => by simp
  | j + 1 => by
    have := ext_mono h hk t j
    have := ext_step h hk (t + j)
    rw [show t + ((j + 1 : Nat) : Int) = t + j + 1 by omega]
    omega
theorem absI_nonneg (x : Int) : 0 ≤ absI x := by unfold absI; split <;> omega
theorem farS_nonneg (n : Int) (a b : List Int) (s : Int) : 0 ≤ farS n a b s := sigN_nonneg fun i _ => absI_nonneg _
theorem farS_far (ha : RhOk N a) (hb : RhOk N b) (hl : a.length = b.length) (hk : 1 ≤ a.length) (s : Int) :
    (∀ j : Nat, farS N a b a.length ≤ farS N a b (a.length + j)) ∧ ∀ j : Nat, farS N a b (-(a.length : Int)) ≤ farS N a b (-(a.length : Int) - j) := by
  have hkb : 1 ≤ b.length := by omega
  refine ⟨fun j => sigN_le fun i hi => ?_, fun j => sigN_le fun i hi => ?_⟩
  · have r := ext_range ha i hi
    have q := ext_range hb i (by omega)
    have p := extB_perd N b hkb i
    rw [← hl] at p
    have m := ext_mono hb hkb (i + a.length) j
    rw [show (i : Int) + (a.length + j) = i + a.length + j by omega]
    unfold absI
    split <;> split <;> omega
  · have r := ext_range ha i hi
    have q := ext_range hb i (by omega)
    have p := extB_perd N b hkb (i - a.length)
    rw [← hl, show (i : Int) - a.length + a.length = i by omega] at p
    have m := ext_mono hb hkb (i + (-a.length - j)) j
    rw [show (i : Int) + (-(a.length : Int) - j) + j = i - a.length by omega] at m
    rw [show (i : Int) + -(a.length : Int) = i - a.length by omega]
    unfold absI
    split <;> split <;> omega
theorem farV_le (ha : RhOk N a) (hb : RhOk N b) (hl : a.length = b.length) (s : Int) : farV N a b ≤ farS N a b s := by
  obtain ⟨h1, _⟩ := leastF_spec (farS N a b) (-(a.length : Int)) (2 * a.length)
  by_cases hk : 1 ≤ a.length
  · obtain ⟨f1, f2⟩ := farS_far ha hb hl hk s
    by_cases hs : s ≤ a.length
    · by_cases hs2 : -(a.length : Int) ≤ s
      · exact h1 s hs2 (by omega)
      · obtain ⟨j, hj⟩ := Int.eq_ofNat_of_zero_le (show 0 ≤ -(a.length : Int) - s by omega)
        have := f2 j
        rw [show -(a.length : Int) - j = s by omega] at this
        exact Int.le_trans (h1 _ (by omega) (by omega)) this
    · obtain ⟨j, hj⟩ := Int.eq_ofNat_of_zero_le (show 0 ≤ s - (a.length : Int) by omega)
      have := f1 j
      rw [show (a.length : Int) + j = s by omega] at this
      exact Int.le_trans (h1 _ (by omega) (by omega)) this
  · have h0 : a.length = 0 := by omega
    obtain ⟨_, s0, _, _, e⟩ := leastF_spec (farS N a b) (-(a.length : Int)) (2 * a.length)
    unfold farV
    rw [e]
    unfold farS farG
    rw [h0]
    exact Int.le_refl _
theorem farV_ex (n : Int) (a b : List Int) : ∃ s, farV n a b = farS n a b s := by
  obtain ⟨_, s, _, _, e⟩ := leastF_spec (farS n a b) (-(a.length : Int)) (2 * a.length)
  exact ⟨s, e⟩
theorem farV_nonneg (n : Int) (a b : List Int) : 0 ≤ farV n a b := by
  obtain ⟨s, e⟩ := farV_ex n a b
  rw [e]; exact farS_nonneg _ _ _ _
end

end Go.Proofs.YtjoeglekcnaebaaGreatDoor

namespace Go.Proofs.YtjoeglekcnaebaaGreatDoor
open Go.RowKit
set_option linter.unusedVariables false
set_option linter.unusedSimpArgs false

def genL (k : Nat) (f : Nat → Int) : List Int := (List.range k).map f
theorem genL_len (k : Nat) (f : Nat → Int) : (genL k f).length = k := by simp [genL]
theorem genL_at {k : Nat} {f : Nat → Int} {j : Nat} (h : j < k) : (genL k f).getD j 0 = f j := by
  unfold genL
  rw [List.getD_eq_getElem?_getD, List.getElem?_map, List.getElem?_range h]
  rfl
theorem genL_mem {k : Nat} {f : Nat → Int} {x : Int} : x ∈ genL k f ↔ ∃ j, j < k ∧ f j = x := by
  unfold genL
  rw [List.mem_map]
  constructor
  · rintro ⟨j, hj, e⟩; exact ⟨j, List.mem_range.1 hj, e⟩
  · rintro ⟨j, hj, e⟩; exact ⟨j, List.mem_range.2 hj, e⟩
theorem set_mem {a : List Int} {i : Nat} {q x : Int} (hi : i < a.length) : x ∈ a.set i q ↔ ∃ j, j < a.length ∧ (if j = i then q else a.getD j 0) = x := by
  rw [List.mem_iff_getElem?]
  constructor
  · rintro ⟨j, hj⟩
    rw [List.getElem?_set] at hj
    by_cases e : i = j
    · subst e
      rw [if_pos rfl, if_pos hi] at hj
      exact ⟨i, hi, by rw [if_pos rfl]; exact Option.some.inj hj⟩
    · rw [if_neg e] at hj
      have hl : j < a.length := by
        rcases Nat.lt_or_ge j a.length with h | h
        · exact h
        · rw [List.getElem?_eq_none h] at hj; cases hj
      exact ⟨j, hl, by rw [if_neg (fun h => e h.symm), List.getD_eq_getElem?_getD, hj]; rfl⟩
  · rintro ⟨j, hj, e⟩
    refine ⟨j, ?_⟩
    rw [List.getElem?_set]
    by_cases h : i = j
    · subst h
      rw [if_pos rfl, if_pos hi]
      rw [if_pos rfl] at e
      rw [e]
    · rw [if_neg h]
      rw [if_neg (fun x => h x.symm), List.getD_eq_getElem?_getD, List.getElem?_eq_getElem hj] at e
      rw [List.getElem?_eq_getElem hj]
      exact congrArg some e
theorem ofL_gen {N k : Nat} {f : Nat → Int} {xs : List Int} (hr : ∀ j, j < k → 0 ≤ f j ∧ f j < N) (hs : ∀ j, j + 1 < k → f j < f (j + 1)) (h1 : 1 ≤ N) (h2 : N ≤ 24) (hm : ∀ x, x ∈ xs ↔ ∃ j, j < k ∧ f j = x) : ofL xs N = genL k f := by
  have hok : RhOk N (genL k f) := ⟨by omega, by omega, fun i hi => by
    rw [genL_len] at hi; rw [genL_at hi]; exact hr i hi, fun i hi => by
    rw [genL_len] at hi; rw [genL_at hi, genL_at (by omega)]; exact hs i hi⟩
  refine asc_unique (ofL_sorted _ _) (rhok_asc hok) fun x => ?_
  rw [ofL_mem, genL_mem]
  constructor
  · rintro ⟨t, ht, hb, rfl⟩
    unfold hasB at hb
    rw [decide_eq_true_eq] at hb
    exact (hm _).1 hb
  · rintro ⟨j, hj, rfl⟩
    obtain ⟨r0, r1⟩ := hr j hj
    obtain ⟨t, ht⟩ := Int.eq_ofNat_of_zero_le r0
    refine ⟨t, by omega, ?_, ht⟩
    unfold hasB
    rw [decide_eq_true_eq, ← ht]
    exact (hm _).2 ⟨j, hj, rfl⟩

section
variable {N : Nat} {a b : List Int}
/-- The beats with one moved on, read on and on. -/
def mvA (N : Nat) (a : List Int) (i : Nat) (d t : Int) : Int := extB N a t + (if t % (a.length : Int) = i then d else 0)
theorem mvA_perd (i : Nat) (d : Int) (hk : 1 ≤ a.length) : Perd a.length N (mvA N a i d) := by
  intro t
  unfold mvA
  rw [Int.add_emod_right, extB_perd N a hk t]
  omega
theorem ext_gen {k : Nat} {f : Nat → Int} {i : Nat} {d e : Int} (ha : a.length = k) (hk : 1 ≤ k) (h : ∀ j, j < k → f j = mvA N a i d (j + e)) : ∀ t, extB N (genL k f) t = mvA N a i d (t + e) := by
  have hp := extB_perd N (genL k f) (by rw [genL_len]; exact hk)
  rw [genL_len] at hp
  have hq := mvA_perd (N := N) (a := a) i d (by omega)
  rw [ha] at hq
  refine Perd.ext hk hp (B := fun t => mvA N a i d (t + e)) (fun t => ?_) fun j hj => ?_
  · have := hq (t + e)
    rw [show t + e + (k : Int) = t + k + e by omega] at this
    exact this
  · rw [extB_at N _ j (by rw [genL_len]; exact hj), genL_at hj]
    exact h j hj
theorem mvA_at (i : Nat) (d : Int) (j : Nat) (hj : j < a.length) : mvA N a i d j = a.getD j 0 + (if j = i then d else 0) := by
  unfold mvA
  rw [extB_at N a j hj, Int.emod_eq_of_lt (by omega) (by omega)]
  congr 1
  by_cases h : j = i
  · rw [if_pos h, if_pos (by omega)]
  · rw [if_neg h, if_neg (by omega)]
theorem rh_lt (h : RhOk N a) : ∀ {i j : Nat}, i < j → j < a.length → a.getD i 0 < a.getD j 0
  | i, 0, hij, _ => by omega
  | i, j + 1, hij, hj => by
    have := h.2.2.2 j hj
    by_cases e : i = j
    · subst e; exact this
    · have := rh_lt h (i := i) (j := j) (by omega) (by omega); omega
theorem not_at {q : Int} (hq : q ∉ a) {j : Nat} (hj : j < a.length) : a.getD j 0 ≠ q := fun e => hq (by
  rw [← e, List.getD_eq_getElem?_getD, List.getElem?_eq_getElem hj]; exact List.getElem_mem hj)

theorem mv_ext (h : RhOk N a) {i : Nat} (hi : i < a.length) {d : Int} (hd : d = 1 ∨ d = -1) (hq : (a.getD i 0 + d) % N ∉ a) :
    (ofL (a.set i ((a.getD i 0 + d) % N)) N).length = a.length ∧ ∃ e, ∀ t, extB N (ofL (a.set i ((a.getD i 0 + d) % N)) N) t = mvA N a i d (t + e) := by
  have h1 : 1 ≤ N := by have := h.1; omega
  have h2 : N ≤ 24 := by have := h.2.1; omega
  have ri := h.2.2.1 i hi
  have hasc := h.2.2.2
  by_cases hw : 0 ≤ a.getD i 0 + d ∧ a.getD i 0 + d < N
  · rw [Int.emod_eq_of_lt hw.1 hw.2] at hq ⊢
    have e := ofL_gen (N := N) (k := a.length) (f := fun j => if j = i then a.getD i 0 + d else a.getD j 0) (xs := a.set i (a.getD i 0 + d)) (fun j hj => by
      show 0 ≤ (if j = i then _ else _) ∧ (if j = i then _ else _) < _
      split
      · exact hw
      · exact h.2.2.1 j hj) (fun j hj => by
      show (if j = i then _ else _) < (if j + 1 = i then _ else _)
      have := hasc j hj
      have n1 := not_at hq (j := j) (by omega)
      have n2 := not_at hq (j := j + 1) hj
      by_cases e1 : j = i
      · subst e1
        rw [if_pos rfl, if_neg (by omega)]
        rcases hd with rfl | rfl <;> omega
      · rw [if_neg e1]
        by_cases e2 : j + 1 = i
        · subst e2
          rw [if_pos rfl]
          rcases hd with rfl | rfl <;> omega
        · rw [if_neg e2]; exact this) h1 h2 (fun x => set_mem hi)
    rw [e]
    refine ⟨genL_len _ _, 0, ext_gen rfl (by omega) fun j hj => ?_⟩
    rw [show (j : Int) + 0 = j by omega, mvA_at i d j hj]
    split <;> rename_i e1
    · subst e1; rfl
    · omega
  · rcases hd with rfl | rfl
    · have hN : a.getD i 0 = N - 1 := by omega
      have hik : i + 1 = a.length := by
        rcases Nat.lt_or_ge (i + 1) a.length with h' | h'
        · have := hasc i h'; have := h.2.2.1 (i + 1) h'; omega
        · omega
      have hz : (a.getD i 0 + 1) % (N : Int) = 0 := by rw [hN, show (N : Int) - 1 + 1 = N by omega, Int.emod_self]
      rw [hz] at hq ⊢
      have e := ofL_gen (N := N) (k := a.length) (f := fun j => if j = 0 then 0 else a.getD (j - 1) 0) (xs := a.set i 0) (fun j hj => by
        show 0 ≤ (if j = 0 then _ else _) ∧ (if j = 0 then _ else _) < _
        split
        · omega
        · exact h.2.2.1 (j - 1) (by omega)) (fun j hj => by
        show (if j = 0 then _ else _) < (if j + 1 = 0 then _ else _)
        rw [if_neg (by omega : ¬ j + 1 = 0), show j + 1 - 1 = j by omega]
        have n1 := not_at hq (j := j) (by omega)
        have := (h.2.2.1 j (by omega)).1
        split
        · omega
        · have := hasc (j - 1) (by omega); rwa [show j - 1 + 1 = j by omega] at this) h1 h2 (fun x => by
        rw [set_mem hi]
        constructor
        · rintro ⟨j, hj, e⟩
          by_cases e1 : j = i
          · rw [if_pos e1] at e; exact ⟨0, by omega, by simpa using e⟩
          · rw [if_neg e1] at e
            refine ⟨j + 1, by omega, ?_⟩
            show (if j + 1 = 0 then _ else _) = _
            rw [if_neg (by omega), show j + 1 - 1 = j by omega]; exact e
        · rintro ⟨j, hj, e⟩
          by_cases e1 : j = 0
          · subst e1
            refine ⟨i, hi, ?_⟩
            rw [if_pos rfl]; simpa using e
          · refine ⟨j - 1, by omega, ?_⟩
            rw [if_neg (by omega)]
            have e' : (if j = 0 then (0 : Int) else a.getD (j - 1) 0) = x := e
            rwa [if_neg e1] at e')
      rw [e]
      refine ⟨genL_len _ _, -1, ext_gen rfl (by omega) fun j hj => ?_⟩
      by_cases e1 : j = 0
      · subst e1
        rw [if_pos rfl]
        have hp := mvA_perd (N := N) (a := a) i 1 (by omega) (((0 : Nat) : Int) + -1)
        rw [show ((0 : Nat) : Int) + -1 + (a.length : Int) = (i : Nat) by omega, mvA_at i 1 i hi, if_pos rfl, hN] at hp
        omega
      · rw [if_neg e1, show (j : Int) + -1 = ((j - 1 : Nat) : Int) by omega, mvA_at i 1 (j - 1) (by omega), if_neg (by omega)]
        omega
    · have hN : a.getD i 0 = 0 := by omega
      have hik : i = 0 := by
        rcases Nat.eq_zero_or_pos i with h' | h'
        · exact h'
        · have := rh_lt h h' hi; have := h.2.2.1 0 (by omega); omega
      subst hik
      have hz : (a.getD 0 0 + -1) % (N : Int) = N - 1 := by
        rw [hN, show (0 : Int) + -1 = -1 by omega]
        rw [← Int.add_emod_right, Int.emod_eq_of_lt (by omega) (by omega)]; omega
      rw [hz] at hq ⊢
      have e := ofL_gen (N := N) (k := a.length) (f := fun j => if j + 1 = a.length then (N : Int) - 1 else a.getD (j + 1) 0) (xs := a.set 0 ((N : Int) - 1)) (fun j hj => by
        show (0 : Int) ≤ (if j + 1 = a.length then (N : Int) - 1 else a.getD (j + 1) 0) ∧ (if j + 1 = a.length then (N : Int) - 1 else a.getD (j + 1) 0) < _
        split
        · omega
        · exact h.2.2.1 (j + 1) (by omega)) (fun j hj => by
        show (if j + 1 = a.length then (N : Int) - 1 else a.getD (j + 1) 0) < (if j + 1 + 1 = a.length then (N : Int) - 1 else a.getD (j + 1 + 1) 0)
        rw [if_neg (by omega : ¬ j + 1 = a.length)]
        have n1 := not_at hq (j := j + 1) hj
        have := (h.2.2.1 (j + 1) hj).2
        split
        · omega
        · exact hasc (j + 1) (by omega)) h1 h2 (fun x => by
        rw [set_mem hi]
        constructor
        · rintro ⟨j, hj, e⟩
          by_cases e1 : j = 0
          · rw [if_pos e1] at e
            refine ⟨a.length - 1, by omega, ?_⟩
            show (if _ then _ else _) = _
            rw [if_pos (by omega)]; exact e
          · rw [if_neg e1] at e
            refine ⟨j - 1, by omega, ?_⟩
            show (if _ then _ else _) = _
            rw [if_neg (by omega), show j - 1 + 1 = j by omega]; exact e
        · rintro ⟨j, hj, e⟩
          have e' : (if j + 1 = a.length then (N : Int) - 1 else a.getD (j + 1) 0) = x := e
          by_cases e1 : j + 1 = a.length
          · rw [if_pos e1] at e'
            exact ⟨0, hi, by rw [if_pos rfl]; exact e'⟩
          · rw [if_neg e1] at e'
            exact ⟨j + 1, by omega, by rw [if_neg (by omega)]; exact e'⟩)
      rw [e]
      refine ⟨genL_len _ _, 1, ext_gen rfl (by omega) fun j hj => ?_⟩
      by_cases e1 : j + 1 = a.length
      · rw [if_pos e1]
        have hp := mvA_perd (N := N) (a := a) 0 (-1) (by omega) ((0 : Nat) : Int)
        rw [mvA_at 0 (-1) 0 hi, if_pos rfl, hN] at hp
        rw [show (j : Int) + 1 = ((0 : Nat) : Int) + (a.length : Int) by omega, hp]
        omega
      · rw [if_neg e1, show (j : Int) + 1 = ((j + 1 : Nat) : Int) by omega, mvA_at 0 (-1) (j + 1) (by omega), if_neg (by omega)]
        omega

/-- What a move changes in a sum. -/
theorem farG_mv (i : Nat) (d : Int) (hi : i < a.length) (s : Int) :
    farG (mvA N a i d) (extB N b) a.length s - farS N a b s = absI (extB N a i + d - extB N b (i + s)) - absI (extB N a i - extB N b (i + s)) := by
  unfold farS farG
  rw [sigN_one hi (fun j hj hne => by
    show absI (mvA N a i d j - _) = _
    rw [mvA_at i d j hj, if_neg hne, extB_at N a j hj, Int.add_zero])]
  rw [mvA_at i d i hi, if_pos rfl, extB_at N a i hi]
theorem farS_mv (h : RhOk N a) (hl : a.length = b.length) {i : Nat} (hi : i < a.length) {d : Int} (hd : d = 1 ∨ d = -1) (hq : (a.getD i 0 + d) % N ∉ a) :
    ∃ e, ∀ s, farS N (ofL (a.set i ((a.getD i 0 + d) % N)) N) b s = farG (mvA N a i d) (extB N b) a.length (s - e) := by
  obtain ⟨hlen, e, he⟩ := mv_ext h hi hd hq
  refine ⟨e, fun s => ?_⟩
  have hp := mvA_perd (N := N) (a := a) i d (by omega)
  have hb := extB_perd N b (by omega)
  rw [← hl] at hb
  rw [← farG_shift hp hb s e]
  unfold farS
  rw [hlen]
  congr 1
  funext t
  exact he t
theorem mv_lip (ha : RhOk N a) (hb : RhOk N b) (hl : a.length = b.length) {i : Nat} (hi : i < a.length) {d : Int} (hd : d = 1 ∨ d = -1) (hq : (a.getD i 0 + d) % N ∉ a) :
    farV N a b - 1 ≤ farV N (ofL (a.set i ((a.getD i 0 + d) % N)) N) b := by
  obtain ⟨e, he⟩ := farS_mv ha hl hi hd hq
  obtain ⟨s, hs⟩ := farV_ex N (ofL (a.set i ((a.getD i 0 + d) % N)) N) b
  rw [hs, he s]
  have h1 := farV_le ha hb hl (s - e)
  have h2 := farG_mv (N := N) (a := a) (b := b) i d hi (s - e)
  unfold absI at h2
  rcases hd with rfl | rfl
  · split at h2 <;> split at h2 <;> omega
  · split at h2 <;> split at h2 <;> omega
theorem mv_down (ha : RhOk N a) (hb : RhOk N b) (hl : a.length = b.length) {s : Int} (hs : farV N a b = farS N a b s) {i : Nat} (hi : i < a.length) {d : Int} (hq : (a.getD i 0 + d) % N ∉ a)
    (hd : d = 1 ∧ extB N a i < extB N b (i + s) ∨ d = -1 ∧ extB N b (i + s) < extB N a i) :
    farV N (ofL (a.set i ((a.getD i 0 + d) % N)) N) b ≤ farV N a b - 1 := by
  have hd' : d = 1 ∨ d = -1 := by rcases hd with h | h; exact .inl h.1; exact .inr h.1
  obtain ⟨e, he⟩ := farS_mv ha hl hi hd' hq
  have hlen := (mv_ext ha hi hd' hq).1
  have h1 : 1 ≤ N := by have := ha.1; omega
  have h2 : N ≤ 24 := by have := ha.2.1; omega
  have h3 := farV_le (ofL_ok (a.set i ((a.getD i 0 + d) % N)) h1 h2) hb (hlen.trans hl) (s + e)
  rw [he, show s + e - e = s by omega] at h3
  have h4 := farG_mv (N := N) (a := a) (b := b) i d hi s
  unfold absI at h4
  rcases hd with ⟨rfl, hd⟩ | ⟨rfl, hd⟩
  · split at h4 <;> split at h4 <;> omega
  · split at h4 <;> split at h4 <;> omega
end

end Go.Proofs.YtjoeglekcnaebaaGreatDoor

namespace Go.Proofs.YtjoeglekcnaebaaGreatDoor
open Go.RowKit
set_option linter.unusedVariables false
set_option linter.unusedSimpArgs false

def evL (k n m q : Nat) : List Int := (List.range q).map fun i => (((i * n + m) / k : Nat) : Int)
theorem evL_succ (k n m q : Nat) : evL k n m (q + 1) = evL k n m q ++ [(((q * n + m) / k : Nat) : Int)] := by simp [evL, List.range_succ]
theorem evL_len (k n m q : Nat) : (evL k n m q).length = q := by simp [evL]
theorem evL_gen (k n m q : Nat) : evL k n m q = genL q fun i => (((i * n + m) / k : Nat) : Int) := rfl
def evB (n k : Nat) : List Int := evL k n 0 k
theorem evB_len (n k : Nat) : (evB n k).length = k := evL_len _ _ _ _
theorem evB_ok {n k : Nat} (h1 : 1 ≤ n) (h2 : n ≤ 24) (hk : k ≤ n) : RhOk n (evB n k) := by
  unfold evB
  rw [evL_gen]
  refine ⟨by omega, by omega, fun i hi => ?_, fun i hi => ?_⟩
  · rw [genL_len] at hi
    rw [genL_at hi]
    have : (i * n + 0) / k < n := Nat.div_lt_of_lt_mul (by
      have := Nat.mul_lt_mul_of_pos_right (show i < k from hi) (show 0 < n by omega)
      omega)
    exact ⟨Int.natCast_nonneg _, Int.ofNat_lt.2 this⟩
  · rw [genL_len] at hi
    rw [genL_at hi, genL_at (by omega)]
    have h3 : (i * n + 0 + k) / k = (i * n + 0) / k + 1 := Nat.add_div_right _ (by omega)
    have h4 : (i * n + 0 + k) / k ≤ ((i + 1) * n + 0) / k := Nat.div_le_div_right (by rw [Nat.add_mul]; omega)
    have : (i * n + 0) / k < ((i + 1) * n + 0) / k := by omega
    exact Int.ofNat_lt.2 this
theorem ofL_rh {N : Nat} {a : List Int} (h : RhOk N a) : ofL a N = a := by
  refine asc_unique (ofL_sorted _ _) (rhok_asc h) fun x => ?_
  rw [ofL_mem]
  constructor
  · rintro ⟨t, ht, hb, rfl⟩
    unfold hasB at hb
    rwa [decide_eq_true_eq] at hb
  · intro hx
    have := rhok_range h x hx
    obtain ⟨t, ht⟩ := Int.eq_ofNat_of_zero_le this.1
    exact ⟨t, by omega, by unfold hasB; rw [decide_eq_true_eq, ← ht]; exact hx, ht⟩

/-- The first of the least of f at 0, .., m - 1. -/
def bestK (f : Nat → Int) : Nat → Nat
  | 0 => 0
  | m + 1 => if f m < f (bestK f m) then m else bestK f m
theorem bestK_one (f : Nat → Int) : bestK f 1 = 0 := by unfold bestK; show (if f 0 < f 0 then 0 else 0) = 0; split <;> rfl
theorem bestK_lt (f : Nat → Int) : ∀ m, 1 ≤ m → bestK f m < m
  | 0, h => by omega
  | 1, _ => by rw [bestK_one]; omega
  | m + 2, _ => by
    have := bestK_lt f (m + 1) (by omega)
    unfold bestK
    split <;> omega
theorem bestK_le (f : Nat → Int) : ∀ m i, i < m → f (bestK f m) ≤ f i
  | 0, i, h => by omega
  | m + 1, i, h => by
    have ih := bestK_le f m
    unfold bestK
    by_cases e : i = m
    · subst e; split <;> omega
    · have := ih i (by omega)
      split <;> omega

theorem asc_nodup {l : List Int} (h : l.Pairwise (fun a b => a < b)) : l.Nodup := List.Pairwise.imp (fun {a b} hab e => by omega) h
theorem ofL_length {N : Nat} {xs : List Int} (hn : xs.Nodup) (hr : ∀ x ∈ xs, 0 ≤ x ∧ x < N) : (ofL xs N).length = xs.length := by
  refine List.Perm.length_eq ((List.perm_ext_iff_of_nodup (asc_nodup (ofL_sorted xs N)) hn).2 fun x => ?_)
  rw [ofL_mem]
  constructor
  · rintro ⟨t, _, hb, rfl⟩
    unfold hasB at hb
    rwa [decide_eq_true_eq] at hb
  · intro hx
    have := hr x hx
    obtain ⟨t, ht⟩ := Int.eq_ofNat_of_zero_le this.1
    exact ⟨t, by omega, by unfold hasB; rw [decide_eq_true_eq, ← ht]; exact hx, ht⟩
theorem rotL_ok {N : Nat} {bs : List Int} (h : RhOk N bs) (k : Int) : RhOk N (rotL N bs k) ∧ (rotL N bs k).length = bs.length := by
  have h1 : 1 ≤ N := by have := h.1; omega
  have h2 : N ≤ 24 := by have := h.2.1; omega
  rw [← rotL_of h k]
  refine ⟨ofL_ok _ h1 h2, ?_⟩
  have hl : (mapL 1 k N bs bs.length).length = bs.length := by unfold mapL; rw [List.length_map, List.take_length]
  refine (ofL_length ?_ fun x hx => ?_).trans hl
  · unfold mapL
    rw [List.take_length]
    refine List.pairwise_map.2 (List.Pairwise.imp_of_mem (fun {a b} ha hb hab e => ?_) (rhok_asc h))
    have ra := rhok_range h a ha
    have rb := rhok_range h b hb
    have e2 : (1 * a + k - (1 * b + k)) % (N : Int) = 0 := Int.emod_emod_of_dvd _ (Int.dvd_refl _) ▸ (Int.emod_eq_emod_iff_emod_sub_eq_zero.1 e)
    rw [show 1 * a + k - (1 * b + k) = a - b by omega] at e2
    have e3 := Int.emod_add_mul_ediv (a - b) N
    rw [e2] at e3
    have hq : (a - b) / (N : Int) = 0 ∨ (a - b) / (N : Int) ≤ -1 ∨ 1 ≤ (a - b) / (N : Int) := by omega
    rcases hq with hq | hq | hq
    · rw [hq] at e3; omega
    · have := Int.mul_le_mul_of_nonneg_left hq (show (0 : Int) ≤ N by omega); omega
    · have := Int.mul_le_mul_of_nonneg_left hq (show (0 : Int) ≤ N by omega); omega
  · unfold mapL at hx
    rw [List.mem_map] at hx
    obtain ⟨y, _, rfl⟩ := hx
    exact ⟨Int.emod_nonneg _ (by omega), Int.emod_lt_of_pos _ (by omega)⟩

/-- The nearest even rhythm by moves; the number of moves. -/
def fewK (N : Nat) (a : List Int) : Nat := bestK (fun k => farV N a (rotL N (evB N a.length) (k : Int))) N
def fewX (N : Nat) (a : List Int) : List Int := rotL N (evB N a.length) (fewK N a : Int)

end Go.Proofs.YtjoeglekcnaebaaGreatDoor

namespace Go.Proofs.YtjoeglekcnaebaaGreatDoor
open Go.RowKit
set_option linter.unusedVariables false
set_option linter.unusedSimpArgs false

/-- The one of two rhythms whose text is the last. -/
def lateR (N : Nat) (a b : List Int) : List Int := if codI N a < codI N b then b else a
theorem lateR_yes {N : Nat} {a b : List Int} (h : aftB N b a = true) : lateR N a b = b := by
  unfold lateR; unfold aftB at h; rw [if_pos (of_decide_eq_true h)]
theorem lateR_no {N : Nat} {a b : List Int} (h : aftB N b a = false) : lateR N a b = a := by
  unfold lateR; unfold aftB at h; rw [if_neg (of_decide_eq_false h)]
theorem lateR_self (N : Nat) (a : List Int) : lateR N a a = a := by unfold lateR; split <;> rfl
theorem lateR_ok {N : Nat} {a b : List Int} (ha : RhOk N a) (hb : RhOk N b) : RhOk N (lateR N a b) := by
  unfold lateR; split <;> assumption
def lstR (N : Nat) (bs : List Int) : Nat → List Int
  | 0 => rotL N bs (0 : Nat)
  | m + 1 => lateR N (lstR N bs m) (rotL N bs (m : Nat))
theorem lstR_one (N : Nat) (bs : List Int) : lstR N bs 1 = rotL N bs (0 : Nat) := lateR_self _ _
def lstV (N : Nat) (bs : List Int) : List Int := lstR N bs N
theorem lstR_ok {N : Nat} {bs : List Int} (h : RhOk N bs) : ∀ m, RhOk N (lstR N bs m)
  | 0 => (rotL_ok h _).1
  | m + 1 => lateR_ok (lstR_ok h m) (rotL_ok h _).1
theorem lstV_ok {N : Nat} {bs : List Int} (h : RhOk N bs) : RhOk N (lstV N bs) := lstR_ok h N
/-- Each beat x goes to u * x + k. -/
def affL (N : Nat) (u k : Int) (bs : List Int) : List Int := ofL (mapL u k N bs bs.length) N
theorem affL_ok {N : Nat} {u k : Int} {bs : List Int} (h1 : 1 ≤ N) (h2 : N ≤ 24) : RhOk N (affL N u k bs) := ofL_ok _ h1 h2
def mirV (N : Nat) (bs : List Int) : List Int := affL N (-1) 0 bs
def frmV (N : Nat) (bs : List Int) : List Int := lateR N (lstV N bs) (lstV N (mirV N bs))
theorem frmV_ok {N : Nat} {bs : List Int} (h : RhOk N bs) : RhOk N (frmV N bs) :=
  lateR_ok (lstV_ok h) (lstV_ok (affL_ok (by have := h.1; omega) (by have := h.2.1; omega)))
/-- The units below a number. -/
def uniP (n u : Nat) : Bool := decide (1 ≤ u ∧ u ≤ max 1 (n - 1)) && decide (Nat.gcd u n = 1)
def uniF (n : Nat) : Nat → List Int
  | 0 => []
  | m + 1 => if uniP n m then uniF n m ++ [(m : Int)] else uniF n m
theorem uniF_one (n : Nat) : uniF n 1 = [] := by
  unfold uniF; rw [if_neg (by unfold uniP; simp)]; rfl
theorem uniF_len (n : Nat) : ∀ m, (uniF n m).length ≤ m
  | 0 => Nat.le_refl _
  | m + 1 => by
    have := uniF_len n m
    unfold uniF; split <;> simp <;> omega
theorem uniF_mem (n : Nat) : ∀ m x, x ∈ uniF n m → ∃ u : Nat, x = u ∧ 1 ≤ u ∧ u < m
  | 0, x, h => by cases h
  | m + 1, x, h => by
    unfold uniF at h
    split at h
    · rename_i hp
      rw [List.mem_append, List.mem_singleton] at h
      rcases h with h | h
      · obtain ⟨u, a, b, c⟩ := uniF_mem n m x h; exact ⟨u, a, b, by omega⟩
      · unfold uniP at hp; simp at hp; exact ⟨m, h, by omega, by omega⟩
    · obtain ⟨u, a, b, c⟩ := uniF_mem n m x h; exact ⟨u, a, b, by omega⟩
theorem uniF_end (n : Nat) : ∀ d, uniF n (max 1 (n - 1) + 1 + d) = uniF n (max 1 (n - 1) + 1)
  | 0 => rfl
  | d + 1 => by
    rw [← Nat.add_assoc]
    show (if uniP n (max 1 (n - 1) + 1 + d) then _ else _) = _
    rw [if_neg (by unfold uniP; simp; omega)]
    exact uniF_end n d
def uniV (n : Nat) : List Int := uniF n (n + 1)
theorem uniV_eq {n : Nat} (h : 1 ≤ n) : uniF n (max 1 (n - 1) + 1) = uniV n := by
  unfold uniV
  obtain ⟨d, hd⟩ : ∃ d, n + 1 = max 1 (n - 1) + 1 + d := ⟨n - max 1 (n - 1), by omega⟩
  rw [hd, uniF_end]
theorem uniV_len (n : Nat) : (uniV n).length ≤ n + 1 := uniF_len n _
theorem uniV_at {n j : Nat} (hj : j < (uniV n).length) : ∃ u : Nat, (uniV n).getD j 0 = u ∧ 1 ≤ u ∧ u ≤ n := by
  obtain ⟨u, a, b, c⟩ := uniF_mem n (n + 1) ((uniV n).getD j 0) (by rw [List.getD_eq_getElem?_getD, List.getElem?_eq_getElem hj]; exact List.getElem_mem hj)
  exact ⟨u, a, b, by omega⟩
/-- The best of the forms of the first m stretched rhythms. -/
def clsR (N : Nat) (bs : List Int) : Nat → List Int
  | 0 => frmV N bs
  | m + 1 => lateR N (clsR N bs m) (frmV N (affL N ((uniV N).getD m 0) 0 bs))
def clsV (N : Nat) (bs : List Int) : List Int := clsR N bs (uniV N).length
theorem clsR_ok {N : Nat} {bs : List Int} (h : RhOk N bs) : ∀ m, RhOk N (clsR N bs m)
  | 0 => frmV_ok h
  | m + 1 => lateR_ok (clsR_ok h m) (frmV_ok (affL_ok (by have := h.1; omega) (by have := h.2.1; omega)))

section
variable {N : Nat}
theorem rhok_ext {a b : List Int} (ha : RhOk N a) (hb : RhOk N b) (h : ∀ t : Int, t % N ∈ a ↔ t % N ∈ b) : a = b :=
  asc_unique (rhok_asc ha) (rhok_asc hb) fun x => by
    constructor
    · intro hx
      have r := rhok_range ha x hx
      have := (h x).1 (by rwa [Int.emod_eq_of_lt r.1 r.2])
      rwa [Int.emod_eq_of_lt r.1 r.2] at this
    · intro hx
      have r := rhok_range hb x hx
      have := (h x).2 (by rwa [Int.emod_eq_of_lt r.1 r.2])
      rwa [Int.emod_eq_of_lt r.1 r.2] at this
theorem rotL_iff (hn : 1 ≤ N) {bs : List Int} (k t : Int) : t % N ∈ rotL N bs k ↔ (t - k) % N ∈ bs := by
  rw [rotL_mem]
  have h0 := Int.emod_nonneg t (show (N : Int) ≠ 0 by omega)
  have h1 := Int.emod_lt_of_pos t (show (0 : Int) < N by omega)
  unfold hasB
  constructor
  · rintro ⟨s, hs, hb, e⟩
    rw [decide_eq_true_eq, ← e, Int.emod_sub_emod] at hb
    exact hb
  · intro hb
    obtain ⟨s, hs⟩ := Int.eq_ofNat_of_zero_le h0
    refine ⟨s, by omega, ?_, hs⟩
    rw [decide_eq_true_eq, ← hs, Int.emod_sub_emod]
    exact hb
theorem mir_iff (hn : 1 ≤ N) {bs : List Int} (h : RhOk N bs) (k t : Int) : t % N ∈ affL N (-1) k bs ↔ (k - t) % N ∈ bs := by
  unfold affL
  rw [ofL_mem]
  have h0 := Int.emod_nonneg t (show (N : Int) ≠ 0 by omega)
  have h1 := Int.emod_lt_of_pos t (show (0 : Int) < N by omega)
  unfold hasB
  have key : t % N ∈ mapL (-1) k N bs bs.length ↔ (k - t) % N ∈ bs := by
    rw [mapL_mem]
    constructor
    · rintro ⟨b, hb, e⟩
      have r := rhok_range h b hb
      have : (k - t) % N = b := by
        rw [← Int.sub_emod_emod, ← e, Int.sub_emod_emod, show k - (-1 * b + k) = b by omega, Int.emod_eq_of_lt r.1 r.2]
      rwa [this]
    · intro hb
      refine ⟨_, hb, ?_⟩
      rw [show -1 * ((k - t) % (N : Int)) + k = k - (k - t) % N by omega, Int.sub_emod_emod, show k - (k - t) = t by omega]
  constructor
  · rintro ⟨s, hs, hb, e⟩
    rw [decide_eq_true_eq, ← e] at hb
    exact key.1 hb
  · intro hb
    obtain ⟨s, hs⟩ := Int.eq_ofNat_of_zero_le h0
    refine ⟨s, by omega, ?_, hs⟩
    rw [decide_eq_true_eq, ← hs]
    exact key.2 hb
variable {bs : List Int}
theorem rot_rot (h : RhOk N bs) (j k : Int) : rotL N (rotL N bs j) k = rotL N bs (j + k) := by
  have hn : 1 ≤ N := by have := h.1; omega
  refine rhok_ext (rotL_ok (rotL_ok h j).1 k).1 (rotL_ok h _).1 fun t => ?_
  rw [rotL_iff hn, rotL_iff hn, rotL_iff hn, show t - k - j = t - (j + k) by omega]
theorem rot_cong (h : RhOk N bs) {j k : Int} (e : j % N = k % N) : rotL N bs j = rotL N bs k := by
  have hn : 1 ≤ N := by have := h.1; omega
  refine rhok_ext (rotL_ok h j).1 (rotL_ok h _).1 fun t => ?_
  rw [rotL_iff hn, rotL_iff hn, ← Int.sub_emod_emod, e, Int.sub_emod_emod]
theorem rot_zero (h : RhOk N bs) : rotL N bs 0 = bs := by
  have hn : 1 ≤ N := by have := h.1; omega
  refine rhok_ext (rotL_ok h _).1 h fun t => ?_
  rw [rotL_iff hn, Int.sub_zero]
theorem mir_rot (h : RhOk N bs) (k : Int) : affL N (-1) k bs = rotL N (mirV N bs) k := by
  have hn : 1 ≤ N := by have := h.1; omega
  have hn2 : N ≤ 24 := by have := h.2.1; omega
  refine rhok_ext (affL_ok hn hn2) (rotL_ok (affL_ok hn hn2) _).1 fun t => ?_
  rw [rotL_iff hn]
  unfold mirV
  rw [mir_iff hn h, mir_iff hn h, show 0 - (t - k) = k - t by omega]
theorem mir_per (h : RhOk N bs) : perV N (mirV N bs) = perV N bs := by
  have hn : 1 ≤ N := by have := h.1; omega
  have hn2 : N ≤ 24 := by have := h.2.1; omega
  have hm : RhOk N (mirV N bs) := affL_ok hn hn2
  have key : ∀ j : Nat, perB N (mirV N bs) j = perB N bs j := fun j => by
    have e : rotL N (mirV N bs) j = mirV N bs ↔ rotL N bs j = bs := by
      constructor
      · intro e
        refine rhok_ext (rotL_ok h _).1 h fun t => ?_
        have h1 : (j - t : Int) % N ∈ rotL N (mirV N bs) j ↔ (j - t : Int) % N ∈ mirV N bs := by rw [e]
        rw [rotL_iff hn] at h1
        unfold mirV at h1
        rw [mir_iff hn h, mir_iff hn h, show 0 - ((j : Int) - t - j) = t by omega, show 0 - ((j : Int) - t) = t - j by omega] at h1
        rw [rotL_iff hn]
        exact h1.symm
      · intro e
        refine rhok_ext (rotL_ok hm _).1 hm fun t => ?_
        have h1 : (j - t : Int) % N ∈ rotL N bs j ↔ (j - t : Int) % N ∈ bs := by rw [e]
        rw [rotL_iff hn, show (j : Int) - t - j = 0 - t by omega] at h1
        rw [rotL_iff hn]
        unfold mirV
        rw [mir_iff hn h, mir_iff hn h, show 0 - (t - (j : Int)) = j - t by omega]
        exact h1.symm
    cases h1 : perB N bs j
    · cases h2 : perB N (mirV N bs) j
      · rfl
      · have := perB_iff.2 (e.1 (perB_iff.1 h2)); rw [h1] at this; cases this
    · exact perB_iff.2 (e.2 (perB_iff.1 h1))
  obtain ⟨a, b, c, d⟩ := perV_is h
  exact perV_unique hm a (by rw [key]; exact c) (fun j h1 h2 => by rw [key]; exact d j h1 h2)
theorem rot_per (h : RhOk N bs) (k : Int) : rotL N bs k = rotL N bs (k % (perV N bs : Nat)) := by
  obtain ⟨a, _, c, _⟩ := perV_is h
  have hp := perB_iff.1 c
  generalize perV N bs = p at *
  have up : ∀ (q : Nat) (r : Int), rotL N bs (r + q * p) = rotL N bs r := by
    intro q
    induction q with
    | zero => intro r; rw [show r + ((0 : Nat) : Int) * p = r by simp]
    | succ q ih =>
      intro r
      rw [show r + ((q + 1 : Nat) : Int) * p = p + (r + q * p) by rw [Int.natCast_add, Int.add_mul]; omega, ← rot_rot h, hp]
      exact ih r
  have e := Int.mul_ediv_add_emod k p
  by_cases hk : 0 ≤ k
  · obtain ⟨q, hq⟩ := Int.eq_ofNat_of_zero_le (Int.ediv_nonneg hk (show (0 : Int) ≤ p by omega))
    rw [hq] at e
    rw [← up q (k % p)]
    congr 1
    rw [Int.mul_comm] at e
    omega
  · obtain ⟨q, hq⟩ : ∃ q : Nat, k / p = -q := ⟨(-(k / p)).toNat, by
      have : k / p < 0 := Int.ediv_neg_of_neg_of_pos (by omega) (by omega)
      omega⟩
    rw [hq] at e
    rw [← up q k]
    congr 1
    rw [Int.mul_neg, Int.mul_comm] at e
    omega

def rotD (N : Nat) (bs : List Int) : List Int := (List.range (perV N bs)).map fun i => (codI N (rotL N bs (i : Nat)) : Int)
theorem rotD_mem (h : RhOk N bs) (c : Int) : c ∈ rotD N bs ↔ ∃ z : Int, c = codI N (rotL N bs z) := by
  obtain ⟨a, _, _, _⟩ := perV_is h
  unfold rotD
  rw [List.mem_map]
  constructor
  · rintro ⟨i, _, rfl⟩; exact ⟨i, rfl⟩
  · rintro ⟨z, rfl⟩
    have h0 := Int.emod_nonneg z (show ((perV N bs : Nat) : Int) ≠ 0 by omega)
    have h1 := Int.emod_lt_of_pos z (show (0 : Int) < (perV N bs : Nat) by omega)
    obtain ⟨s, hs⟩ := Int.eq_ofNat_of_zero_le h0
    refine ⟨s, List.mem_range.2 (by omega), ?_⟩
    rw [rot_per h z, hs]
theorem rotD_nodup (h : RhOk N bs) : (rotD N bs).Nodup := by
  obtain ⟨_, _, _, d⟩ := perV_is h
  unfold rotD
  unfold List.Nodup
  rw [List.pairwise_map]
  refine List.pairwise_iff_getElem.2 fun i j hi hj hij => ?_
  rw [List.length_range] at hi hj
  rw [List.getElem_range, List.getElem_range]
  intro e
  have e1 := cod_inj (rotL_ok h (i : Int)).1 (rotL_ok h (j : Int)).1 (by omega)
  have e2 := congrArg (fun x => rotL N x (-(i : Int))) e1
  simp only [rot_rot h] at e2
  rw [show (i : Int) + -i = 0 by omega, rot_zero h, show (j : Int) + -i = ((j - i : Nat) : Int) by omega] at e2
  have := d (j - i) (by omega) (by omega)
  rw [perB_iff.2 e2.symm] at this
  cases this
theorem rotD_len (N : Nat) (bs : List Int) : (rotD N bs).length = perV N bs := by simp [rotD]

def axB (N : Nat) (bs : List Int) : Bool := (List.range N).any fun k => eqB (affL N (-1) (k : Nat) bs) bs
def formL (N : Nat) (bs : List Int) : Nat → List (List Int)
  | 0 => []
  | m + 1 => formL N bs m ++ [rotL N bs (m : Nat), rotL N (mirV N bs) (m : Nat)]
theorem formL_len (N : Nat) (bs : List Int) : ∀ m, (formL N bs m).length = 2 * m
  | 0 => rfl
  | m + 1 => by show (formL N bs m ++ _).length = _; rw [List.length_append, formL_len N bs m]; simp; omega
theorem formL_mem (N : Nat) (bs : List Int) (x : List Int) : ∀ m, x ∈ formL N bs m ↔ ∃ i : Nat, i < m ∧ (x = rotL N bs (i : Nat) ∨ x = rotL N (mirV N bs) (i : Nat))
  | 0 => by simp [formL]
  | m + 1 => by
    show x ∈ formL N bs m ++ [rotL N bs (m : Nat), rotL N (mirV N bs) (m : Nat)] ↔ _
    rw [List.mem_append, formL_mem N bs x m, List.mem_cons, List.mem_singleton]
    constructor
    · rintro (⟨i, a, b⟩ | h)
      · exact ⟨i, by omega, b⟩
      · exact ⟨m, by omega, h⟩
    · rintro ⟨i, a, b⟩
      by_cases e : i = m
      · subst e; exact .inr b
      · exact .inl ⟨i, by omega, b⟩
theorem formL_ok (h : RhOk N bs) (m : Nat) : ∀ x ∈ formL N bs m, RhOk N x := fun x hx => by
  obtain ⟨i, _, rfl | rfl⟩ := (formL_mem N bs x m).1 hx
  · exact (rotL_ok h _).1
  · exact (rotL_ok (affL_ok (by have := h.1; omega) (by have := h.2.1; omega)) _).1
def orbL (N : Nat) (bs : List Int) : List Int := collL ((formL N bs N).map fun x => (codI N x : Int))
def orbV (N : Nat) (bs : List Int) : Nat := if axB N bs then perV N bs else 2 * perV N bs
theorem nodup_len {a b : List Int} (ha : a.Nodup) (hb : b.Nodup) (h : ∀ x, x ∈ a ↔ x ∈ b) : a.length = b.length :=
  ((List.perm_ext_iff_of_nodup ha hb).2 h).length_eq
theorem orb_eq (h : RhOk N bs) : (orbL N bs).length = orbV N bs := by
  have hn : 1 ≤ N := by have := h.1; omega
  have hn2 : N ≤ 24 := by have := h.2.1; omega
  have hm : RhOk N (mirV N bs) := affL_ok hn hn2
  have hmod : ∀ {X : List Int}, RhOk N X → ∀ z : Int, ∃ i : Nat, i < N ∧ rotL N X z = rotL N X (i : Nat) := fun hX z => by
    have h0 := Int.emod_nonneg z (show (N : Int) ≠ 0 by omega)
    have h1 := Int.emod_lt_of_pos z (show (0 : Int) < N by omega)
    obtain ⟨s, hs⟩ := Int.eq_ofNat_of_zero_le h0
    exact ⟨s, by omega, rot_cong hX (by rw [← hs, Int.emod_emod])⟩
  have hmem : ∀ c, c ∈ orbL N bs ↔ c ∈ rotD N bs ∨ c ∈ rotD N (mirV N bs) := fun c => by
    unfold orbL
    rw [(collL_asc _).2, List.mem_map, rotD_mem h, rotD_mem hm]
    constructor
    · rintro ⟨x, hx, rfl⟩
      obtain ⟨i, _, rfl | rfl⟩ := (formL_mem N bs x N).1 hx
      · exact .inl ⟨i, rfl⟩
      · exact .inr ⟨i, rfl⟩
    · rintro (⟨z, rfl⟩ | ⟨z, rfl⟩)
      · obtain ⟨i, hi, e⟩ := hmod h z
        exact ⟨_, (formL_mem N bs _ N).2 ⟨i, hi, .inl rfl⟩, by rw [e]⟩
      · obtain ⟨i, hi, e⟩ := hmod hm z
        exact ⟨_, (formL_mem N bs _ N).2 ⟨i, hi, .inr rfl⟩, by rw [e]⟩
  have hnd : (orbL N bs).Nodup := asc_nodup (collL_asc _).1
  have hax : axB N bs = true ↔ ∃ z : Int, rotL N (mirV N bs) z = bs := by
    unfold axB
    rw [List.any_eq_true]
    constructor
    · rintro ⟨k, _, hk⟩
      unfold eqB at hk
      rw [decide_eq_true_eq, mir_rot h] at hk
      exact ⟨_, hk⟩
    · rintro ⟨z, hz⟩
      obtain ⟨i, hi, e⟩ := hmod hm z
      refine ⟨i, List.mem_range.2 hi, ?_⟩
      unfold eqB
      rw [decide_eq_true_eq, mir_rot h, ← e]
      exact hz
  unfold orbV
  split
  · rename_i ha
    obtain ⟨z, hz⟩ := hax.1 ha
    rw [← rotD_len]
    refine nodup_len hnd (rotD_nodup h) fun c => ?_
    rw [hmem]
    refine ⟨fun hc => ?_, .inl⟩
    rcases hc with hc | hc
    · exact hc
    · obtain ⟨y, rfl⟩ := (rotD_mem hm c).1 hc
      refine (rotD_mem h _).2 ⟨y - z, ?_⟩
      have e1 : rotL N bs (y - z) = rotL N (mirV N bs) y := by
        conv => lhs; rw [← hz]
        rw [rot_rot hm, show z + (y - z) = y by omega]
      rw [e1]
  · rename_i ha
    rw [show 2 * perV N bs = (rotD N bs ++ rotD N (mirV N bs)).length by rw [List.length_append, rotD_len, rotD_len, mir_per h]; omega]
    refine nodup_len hnd ?_ fun c => by rw [hmem, List.mem_append]
    rw [List.nodup_append]
    refine ⟨rotD_nodup h, rotD_nodup hm, fun a hA b hB e => ?_⟩
    subst e
    obtain ⟨y, hy⟩ := (rotD_mem h a).1 hA
    obtain ⟨z, hz⟩ := (rotD_mem hm a).1 hB
    have e1 := cod_inj (rotL_ok h y).1 (rotL_ok hm z).1 (by omega)
    refine ha (hax.2 ⟨z - y, ?_⟩)
    have e2 := congrArg (fun x => rotL N x (-y)) e1
    simp only [rot_rot h, rot_rot hm] at e2
    rw [show y + -y = 0 by omega, rot_zero h] at e2
    rw [show z - y = z + -y by omega]
    exact e2.symm
end

end Go.Proofs.YtjoeglekcnaebaaGreatDoor

namespace Go.Proofs.YtjoeglekcnaebaaGreatDoor
set_option linter.unusedVariables false
set_option linter.unusedSimpArgs false

/-- The mask of the rotation by q. -/
def cdN (N : Nat) (bs : List Int) (q : Nat) : Nat := codI N (rotL N bs (q : Nat))
def mskF (N : Nat) (bs : List Int) (b : List Nat) : Nat := b.foldl (fun m q => m ||| cdN N bs q) 0
def djB (N : Nat) (bs : List Int) (b : List Nat) (k : Nat) : Bool := decide (cdN N bs k &&& mskF N bs b = 0)
def cplB (N : Nat) (bs : List Int) (b : List Nat) : Bool := decide (mskF N bs b = 2 ^ N - 1)
/-- The first completion with what lies in p .. p + m - 1, the earliest first. -/
def gS (N : Nat) (bs : List Int) : Nat → List Nat → Nat → Option (List Nat)
  | 0, b, _ => if cplB N bs b then some b else none
  | m + 1, b, p => if cplB N bs b then some b else
      if djB N bs b p then (match gS N bs m (b ++ [p]) (p + 1) with | some x => some x | none => gS N bs m b (p + 1)) else gS N bs m b (p + 1)
/-- What can still be taken, as the program reckons it. -/
def posN (N : Nat) (bs : List Int) (b : List Nat) (p : Nat) : Nat → Nat
  | 0 => mskF N bs b
  | m + 1 => if djB N bs b (p + m) then posN N bs b p m ||| cdN N bs (p + m) else posN N bs b p m
/-- Beat t lies in the rotation by q. -/
def inR (N : Nat) (bs : List Int) (q t : Nat) : Bool := hasB bs (((t : Int) - (q : Nat)) % N)
def indN (c : Bool) : Nat := if c then 1 else 0
/-- In how many rotations t lies. -/
def covC (N : Nat) (bs : List Int) (b : List Nat) (t : Nat) : Nat := (b.map fun q => indN (inR N bs q t)).sum
def sumN (f : Nat → Nat) : Nat → Nat
  | 0 => 0
  | n + 1 => sumN f n + f n
def Dj (N : Nat) (bs : List Int) (b : List Nat) : Prop := b.Pairwise fun i j => ∀ t, t < N → ¬ (inR N bs i t = true ∧ inR N bs j t = true)

section
variable {N : Nat} {bs : List Int}
theorem inR_iff (hn : 1 ≤ N) {q t : Nat} (ht : t < N) : inR N bs q t = true ↔ (t : Int) ∈ rotL N bs (q : Nat) := by
  rw [rotL_mem]
  unfold inR
  constructor
  · intro h; exact ⟨t, ht, h, rfl⟩
  · rintro ⟨s, _, h, e⟩
    have : t = s := by omega
    subst this
    exact h
theorem cdN_bit (h : RhOk N bs) (q t : Nat) (ht : t < N) : (cdN N bs q).testBit (N - 1 - t) = inR N bs q t := by
  have hn : 1 ≤ N := by have := h.1; omega
  unfold cdN
  rw [codI_bit (rotL_ok h _).1 _ (by omega), show (N : Int) - 1 - ((N - 1 - t : Nat) : Int) = (t : Int) by omega, Bool.eq_iff_iff, inR_iff hn ht]
  unfold hasB
  rw [decide_eq_true_eq]
theorem cdN_lt (h : RhOk N bs) (q : Nat) : cdN N bs q < 2 ^ N := codI_lt (rotL_ok h _).1
theorem mskF_snoc (b : List Nat) (k : Nat) : mskF N bs (b ++ [k]) = mskF N bs b ||| cdN N bs k := by
  unfold mskF; rw [List.foldl_append]; rfl
theorem snoc_ind {P : List Nat → Prop} (h0 : P []) (h1 : ∀ b k, P b → P (b ++ [k])) : ∀ b, P b := by
  intro b
  have : ∀ n b, b.length = n → P b := by
    intro n
    induction n with
    | zero => intro b hb; rw [List.eq_nil_of_length_eq_zero hb]; exact h0
    | succ n ih =>
      intro b hb
      have hne : b ≠ [] := fun e => by rw [e] at hb; cases hb
      rw [← List.dropLast_concat_getLast hne]
      exact h1 _ _ (ih _ (by rw [List.length_dropLast, hb]; rfl))
  exact this _ b rfl
theorem mskF_lt (h : RhOk N bs) : ∀ b, mskF N bs b < 2 ^ N := snoc_ind (Nat.two_pow_pos _) fun b k ih => by rw [mskF_snoc]; exact Nat.or_lt_two_pow ih (cdN_lt h k)
theorem mskF_bit (i : Nat) : ∀ b, (mskF N bs b).testBit i = true ↔ ∃ q ∈ b, (cdN N bs q).testBit i = true :=
  snoc_ind (by simp [mskF]) fun b k ih => by
    rw [mskF_snoc, Nat.testBit_or, Bool.or_eq_true, ih]
    constructor
    · rintro (⟨q, hq, e⟩ | e)
      · exact ⟨q, by simp [hq], e⟩
      · exact ⟨k, by simp, e⟩
    · rintro ⟨q, hq, e⟩
      rw [List.mem_append, List.mem_singleton] at hq
      rcases hq with hq | rfl
      · exact .inl ⟨q, hq, e⟩
      · exact .inr e
theorem djB_iff (h : RhOk N bs) (b : List Nat) (k : Nat) : djB N bs b k = true ↔ ∀ q ∈ b, ∀ t, t < N → ¬ (inR N bs q t = true ∧ inR N bs k t = true) := by
  have hn : 1 ≤ N := by have := h.1; omega
  unfold djB
  rw [decide_eq_true_eq]
  constructor
  · intro e q hq t ht hh
    have hb : (cdN N bs k &&& mskF N bs b).testBit (N - 1 - t) = true := by
      rw [Nat.testBit_and, cdN_bit h k t ht, hh.2, Bool.true_and, mskF_bit]
      exact ⟨q, hq, by rw [cdN_bit h q t ht]; exact hh.1⟩
    rw [e] at hb
    simp at hb
  · intro e
    apply Nat.eq_of_testBit_eq
    intro i
    rw [Nat.zero_testBit, ← Bool.not_eq_true, Nat.testBit_and, Bool.and_eq_true, mskF_bit]
    rintro ⟨h1, q, hq, h2⟩
    have hi : i < N := by
      apply Classical.byContradiction
      intro hi
      rw [Nat.testBit_lt_two_pow (Nat.lt_of_lt_of_le (cdN_lt h k) (Nat.pow_le_pow_right (by decide) (by omega)))] at h1
      cases h1
    rw [show i = N - 1 - (N - 1 - i) by omega, cdN_bit h _ _ (by omega)] at h1 h2
    exact e q hq (N - 1 - i) (by omega) ⟨h2, h1⟩
theorem Dj_snoc (h : RhOk N bs) {b : List Nat} {k : Nat} (hb : Dj N bs b) : Dj N bs (b ++ [k]) ↔ djB N bs b k = true := by
  rw [djB_iff h]
  unfold Dj
  rw [List.pairwise_append]
  constructor
  · rintro ⟨_, _, h3⟩ q hq
    exact h3 q hq k (by simp)
  · intro h3
    exact ⟨hb, List.pairwise_singleton _ _, fun q hq j hj => by rw [List.mem_singleton] at hj; subst hj; exact h3 q hq⟩
theorem full_bits {x : Nat} (hx : x < 2 ^ N) : x = 2 ^ N - 1 ↔ ∀ i, i < N → x.testBit i = true := by
  constructor
  · rintro rfl i hi
    rw [Nat.testBit_two_pow_sub_one, decide_eq_true_eq]
    exact hi
  · intro h
    apply Nat.eq_of_testBit_eq
    intro i
    rw [Nat.testBit_two_pow_sub_one]
    by_cases hi : i < N
    · rw [h i hi, decide_eq_true hi]
    · rw [Nat.testBit_lt_two_pow (Nat.lt_of_lt_of_le hx (Nat.pow_le_pow_right (by decide) (by omega))), decide_eq_false hi]
theorem cplB_iff (h : RhOk N bs) (b : List Nat) : cplB N bs b = true ↔ ∀ t, t < N → ∃ q ∈ b, inR N bs q t = true := by
  unfold cplB
  rw [decide_eq_true_eq, full_bits (mskF_lt h b)]
  constructor
  · intro e t ht
    obtain ⟨q, hq, h1⟩ := (mskF_bit _ b).1 (e (N - 1 - t) (by omega))
    rw [cdN_bit h q t ht] at h1
    exact ⟨q, hq, h1⟩
  · intro e i hi
    rw [mskF_bit]
    obtain ⟨q, hq, h1⟩ := e (N - 1 - i) (by omega)
    refine ⟨q, hq, ?_⟩
    rw [show i = N - 1 - (N - 1 - i) by omega, cdN_bit h _ _ (by omega)]
    exact h1

theorem gS_done {m : Nat} {b : List Nat} {p : Nat} (h : cplB N bs b = true) : gS N bs m b p = some b := by
  cases m <;> (unfold gS; rw [if_pos h])
theorem gS_end {b : List Nat} {p : Nat} (h : cplB N bs b = false) : gS N bs 0 b p = none := by
  unfold gS; rw [if_neg (by rw [h]; decide)]
theorem gS_no {m : Nat} {b : List Nat} {p : Nat} (h : cplB N bs b = false) (hd : djB N bs b p = false) : gS N bs (m + 1) b p = gS N bs m b (p + 1) := by
  conv => lhs; unfold gS
  rw [if_neg (by rw [h]; decide), if_neg (by rw [hd]; decide)]
theorem gS_yes {m : Nat} {b : List Nat} {p : Nat} (h : cplB N bs b = false) (hd : djB N bs b p = true) : gS N bs (m + 1) b p = match gS N bs m (b ++ [p]) (p + 1) with | some x => some x | none => gS N bs m b (p + 1) := by
  conv => lhs; unfold gS
  rw [if_neg (by rw [h]; decide), if_pos hd]
theorem gS_some {x : List Nat} : ∀ {m : Nat} {b : List Nat} {p : Nat}, gS N bs m b p = some x → cplB N bs x = true
  | 0, b, p, h => by
    unfold gS at h
    split at h
    · injection h with h; subst h; assumption
    · cases h
  | m + 1, b, p, h => by
    unfold gS at h
    split at h
    · injection h with h; subst h; assumption
    · split at h
      · cases e : gS N bs m (b ++ [p]) (p + 1) with
        | some y =>
          rw [e] at h
          injection h with h; subst h
          exact gS_some e
        | none => rw [e] at h; exact gS_some h
      · exact gS_some h
/-- Where the found one's bits come from. -/
theorem gS_bits (hr : RhOk N bs) {x : List Nat} : ∀ {m : Nat} {b : List Nat} {p : Nat}, gS N bs m b p = some x → ∀ i, (mskF N bs x).testBit i = true → (mskF N bs b).testBit i = true ∨ ∃ j, p ≤ j ∧ j < p + m ∧ djB N bs b j = true ∧ (cdN N bs j).testBit i = true
  | 0, b, p, h, i, hi => by
    unfold gS at h
    split at h
    · injection h with h; subst h; exact .inl hi
    · cases h
  | m + 1, b, p, h, i, hi => by
    have hno : gS N bs m b (p + 1) = some x → (mskF N bs b).testBit i = true ∨ ∃ j, p ≤ j ∧ j < p + (m + 1) ∧ djB N bs b j = true ∧ (cdN N bs j).testBit i = true := fun h => by
      rcases gS_bits hr h i hi with h1 | ⟨j, h1, h2, h3, h4⟩
      · exact .inl h1
      · exact .inr ⟨j, by omega, by omega, h3, h4⟩
    unfold gS at h
    split at h
    · injection h with h; subst h; exact .inl hi
    · split at h
      · rename_i hd
        cases e : gS N bs m (b ++ [p]) (p + 1) with
        | some y =>
          rw [e] at h
          injection h with h; subst h
          rcases gS_bits hr e i hi with h1 | ⟨j, h1, h2, h3, h4⟩
          · rw [mskF_snoc, Nat.testBit_or, Bool.or_eq_true] at h1
            rcases h1 with h1 | h1
            · exact .inl h1
            · exact .inr ⟨p, Nat.le_refl _, by omega, hd, h1⟩
          · refine .inr ⟨j, by omega, by omega, ?_, h4⟩
            rw [djB_iff hr] at h3 ⊢
            exact fun q hq => h3 q (by simp [hq])
        | none => rw [e] at h; exact hno h
      · exact hno h
theorem posN_bit (b : List Nat) (p i : Nat) : ∀ m, (posN N bs b p m).testBit i = true ↔ (mskF N bs b).testBit i = true ∨ ∃ j, p ≤ j ∧ j < p + m ∧ djB N bs b j = true ∧ (cdN N bs j).testBit i = true
  | 0 => by
    unfold posN
    constructor
    · exact .inl
    · rintro (h | ⟨j, h1, h2, _⟩)
      · exact h
      · omega
  | m + 1 => by
    unfold posN
    split
    · rename_i hd
      rw [Nat.testBit_or, Bool.or_eq_true, posN_bit b p i m]
      constructor
      · rintro ((h | ⟨j, h1, h2, h3, h4⟩) | h)
        · exact .inl h
        · exact .inr ⟨j, h1, by omega, h3, h4⟩
        · exact .inr ⟨p + m, by omega, by omega, hd, h⟩
      · rintro (h | ⟨j, h1, h2, h3, h4⟩)
        · exact .inl (.inl h)
        · by_cases e : j = p + m
          · subst e; exact .inr h4
          · exact .inl (.inr ⟨j, h1, by omega, h3, h4⟩)
    · rename_i hd
      rw [posN_bit b p i m]
      constructor
      · rintro (h | ⟨j, h1, h2, h3, h4⟩)
        · exact .inl h
        · exact .inr ⟨j, h1, by omega, h3, h4⟩
      · rintro (h | ⟨j, h1, h2, h3, h4⟩)
        · exact .inl h
        · by_cases e : j = p + m
          · subst e; exact absurd h3 hd
          · exact .inr ⟨j, h1, by omega, h3, h4⟩
theorem posN_lt (h : RhOk N bs) (b : List Nat) (p : Nat) : ∀ m, posN N bs b p m < 2 ^ N
  | 0 => mskF_lt h b
  | m + 1 => by
    unfold posN
    split
    · exact Nat.or_lt_two_pow (posN_lt h b p m) (cdN_lt h _)
    · exact posN_lt h b p m
theorem gS_prune (h : RhOk N bs) {m : Nat} {b : List Nat} {p : Nat} (hp : posN N bs b p m ≠ 2 ^ N - 1) : gS N bs m b p = none := by
  cases e : gS N bs m b p with
  | none => rfl
  | some x =>
    exfalso
    apply hp
    rw [full_bits (posN_lt h b p m)]
    intro i hi
    have hx := gS_some e
    unfold cplB at hx
    rw [decide_eq_true_eq, full_bits (mskF_lt h x)] at hx
    rw [posN_bit]
    exact gS_bits h e i (hx i hi)

/-! Counts. -/
theorem sumN_len (f : Nat → Bool) : ∀ n, sumN (fun t => indN (f t)) n = ((List.range n).filter f).length
  | 0 => rfl
  | n + 1 => by
    rw [List.range_succ, List.filter_append, List.length_append, ← sumN_len f n]
    show sumN (fun t => indN (f t)) n + indN (f n) = _
    congr 1
    unfold indN
    rw [List.filter_cons]
    cases f n <;> rfl
theorem sumN_add (f g : Nat → Nat) : ∀ n, sumN (fun t => f t + g t) n = sumN f n + sumN g n
  | 0 => rfl
  | n + 1 => by
    show sumN (fun t => f t + g t) n + (f n + g n) = sumN f n + f n + (sumN g n + g n)
    rw [sumN_add f g n]; omega
theorem sumN_zero : ∀ n, sumN (fun _ => 0) n = 0
  | 0 => rfl
  | n + 1 => sumN_zero n
theorem sumN_le {f : Nat → Nat} : ∀ n, (∀ t, t < n → f t ≤ 1) → sumN f n ≤ n
  | 0, _ => Nat.le_refl _
  | n + 1, h => by
    have := sumN_le n fun t ht => h t (by omega)
    have := h n (by omega)
    show sumN f n + f n ≤ n + 1
    omega
theorem sumN_full {f : Nat → Nat} : ∀ n, (∀ t, t < n → f t ≤ 1) → (sumN f n = n ↔ ∀ t, t < n → 1 ≤ f t)
  | 0, _ => ⟨fun _ t h => absurd h (Nat.not_lt_zero _), fun _ => rfl⟩
  | n + 1, h => by
    have h1 := sumN_le n fun t ht => h t (by omega)
    have h2 := h n (by omega)
    have ih := sumN_full n fun t ht => h t (by omega)
    show sumN f n + f n = n + 1 ↔ _
    constructor
    · intro e t ht
      by_cases et : t = n
      · subst et; omega
      · exact ih.1 (by omega) t (by omega)
    · intro e
      have := ih.2 fun t ht => e t (by omega)
      have := e n (by omega)
      omega
theorem sum_inR (h : RhOk N bs) (q : Nat) : sumN (fun t => indN (inR N bs q t)) N = bs.length := by
  rw [sumN_len, ← (rotL_ok h (q : Nat)).2]
  unfold rotL inR
  rw [List.length_map]
theorem sum_cov (h : RhOk N bs) : ∀ b : List Nat, sumN (covC N bs b) N = bs.length * b.length
  | [] => by
    show sumN (fun _ => 0) N = _
    rw [sumN_zero]; rfl
  | q :: b => by
    show sumN (fun t => indN (inR N bs q t) + covC N bs b t) N = _
    rw [sumN_add, sum_inR h q, sum_cov h b, List.length_cons, Nat.mul_succ]
    omega
theorem cov_pos (t : Nat) : ∀ b : List Nat, 1 ≤ covC N bs b t ↔ ∃ q ∈ b, inR N bs q t = true
  | [] => by simp [covC]
  | q :: b => by
    show 1 ≤ indN (inR N bs q t) + covC N bs b t ↔ _
    have ih := cov_pos t b
    constructor
    · intro h
      cases e : inR N bs q t
      · rw [e] at h
        obtain ⟨x, hx, h2⟩ := ih.1 (by simpa [indN] using h)
        exact ⟨x, by simp [hx], h2⟩
      · exact ⟨q, by simp, e⟩
    · rintro ⟨x, hx, h2⟩
      rcases List.mem_cons.1 hx with rfl | hx
      · rw [h2]; simp [indN]
      · have := ih.2 ⟨x, hx, h2⟩
        omega
theorem cov_le (b : List Nat) : (∀ t, t < N → covC N bs b t ≤ 1) ↔ Dj N bs b := by
  induction b with
  | nil => simp [covC, Dj]
  | cons q b ih =>
    unfold Dj at ih ⊢
    rw [List.pairwise_cons, ← ih]
    have hc : ∀ t, covC N bs (q :: b) t = indN (inR N bs q t) + covC N bs b t := fun t => rfl
    constructor
    · intro h
      refine ⟨fun x hx t ht hh => ?_, fun t ht => ?_⟩
      · have h1 := h t ht
        rw [hc, hh.1] at h1
        have h2 := (cov_pos (N := N) (bs := bs) t b).2 ⟨x, hx, hh.2⟩
        simp [indN] at h1
        omega
      · have h1 := h t ht
        rw [hc] at h1
        omega
    · rintro ⟨h1, h2⟩ t ht
      rw [hc]
      have h3 := h2 t ht
      cases e : inR N bs q t
      · simp [indN]; exact h3
      · by_cases h4 : 1 ≤ covC N bs b t
        · obtain ⟨x, hx, h5⟩ := (cov_pos t b).1 h4
          exact absurd ⟨e, h5⟩ (h1 x hx t ht)
        · simp [indN]; omega
theorem Dj_le (h : RhOk N bs) {b : List Nat} (hb : Dj N bs b) : bs.length * b.length ≤ N := by
  rw [← sum_cov h b]
  exact sumN_le N ((cov_le b).2 hb)
theorem cpl_eq (h : RhOk N bs) {b : List Nat} (hb : Dj N bs b) : cplB N bs b = true ↔ bs.length * b.length = N := by
  rw [← sum_cov h b, sumN_full N ((cov_le b).2 hb), cplB_iff h]
  exact ⟨fun e t ht => (cov_pos t b).2 (e t ht), fun e t ht => (cov_pos t b).1 (e t ht)⟩
theorem gS_len (h : RhOk N bs) {x : List Nat} : ∀ {m : Nat} {b : List Nat} {p : Nat}, Dj N bs b → gS N bs m b p = some x → Dj N bs x ∧ x.length ≤ b.length + m
  | 0, b, p, hb, e => by
    unfold gS at e
    split at e
    · injection e with e; subst e; exact ⟨hb, Nat.le_refl _⟩
    · cases e
  | m + 1, b, p, hb, e => by
    unfold gS at e
    split at e
    · injection e with e; subst e; exact ⟨hb, by omega⟩
    · split at e
      · rename_i hd
        cases e2 : gS N bs m (b ++ [p]) (p + 1) with
        | some y =>
          rw [e2] at e
          injection e with e; subst e
          have := gS_len h ((Dj_snoc h hb).2 hd) e2
          rw [List.length_append, List.length_singleton] at this
          exact ⟨this.1, by omega⟩
        | none =>
          rw [e2] at e
          have := gS_len h hb e
          exact ⟨this.1, by omega⟩
      · have := gS_len h hb e
        exact ⟨this.1, by omega⟩
theorem gS_short (h : RhOk N bs) {m : Nat} {b : List Nat} {p : Nat} (hb : Dj N bs b) (hk : 1 ≤ bs.length) (hs : b.length + m < N / bs.length) : gS N bs m b p = none := by
  cases e : gS N bs m b p with
  | none => rfl
  | some x =>
    exfalso
    obtain ⟨h1, h2⟩ := gS_len h hb e
    have h3 := (cpl_eq h h1).1 (gS_some e)
    have h4 : x.length = N / bs.length := by
      rw [← h3, Nat.mul_div_cancel_left _ (by omega)]
    omega
theorem gS_rest (h : RhOk N bs) {b : List Nat} (hb : Dj N bs b) (hk : 1 ≤ bs.length) (hm : N % bs.length = 0) (hc : cplB N bs b = false) : b.length < N / bs.length := by
  have h1 := Dj_le h hb
  have h2 : ¬ bs.length * b.length = N := fun e => by rw [(cpl_eq h hb).2 e] at hc; cases hc
  have h3 : bs.length * (N / bs.length) = N := by
    have := Nat.div_add_mod N bs.length
    omega
  apply Classical.byContradiction
  intro h4
  have h5 : bs.length * (N / bs.length) ≤ bs.length * b.length := Nat.mul_le_mul_left _ (by omega)
  omega

/-! The reference's counts: over the beats of the first, then of the second. -/
def hitN (N : Nat) (p q : Int) (t : Nat) : Nat := indN (decide ((p + q) % N = (t : Int)))
def rowC (N : Nat) (p : Int) (x : List Int) (t : Nat) : Nat := (x.map fun q => hitN N p q t).sum
def cntC (N : Nat) (a x : List Int) (t : Nat) : Nat := (a.map fun p => rowC N p x t).sum
theorem sum_map_add {α : Type} (f g : α → Nat) : ∀ l : List α, (l.map fun q => f q + g q).sum = (l.map f).sum + (l.map g).sum
  | [] => rfl
  | q :: l => by
    have := sum_map_add f g l
    simp only [List.map_cons, List.sum_cons, this]
    omega
theorem cnt_swap (N : Nat) (t : Nat) (x : List Int) : ∀ a : List Int, cntC N a x t = (x.map fun q => (a.map fun p => hitN N p q t).sum).sum
  | [] => by
    show 0 = _
    simp
    induction x with
    | nil => rfl
    | cons y x ih => simp [← ih]
  | p :: a => by
    show rowC N p x t + cntC N a x t = _
    rw [cnt_swap N t x a]
    unfold rowC
    simp only [List.map_cons, List.sum_cons]
    rw [sum_map_add]
theorem hit_zero (t : Nat) (q : Int) : ∀ a : List Int, (∀ p ∈ a, ¬ (p + q) % N = (t : Int)) → (a.map fun p => hitN N p q t).sum = 0
  | [], _ => rfl
  | p :: a, h => by
    rw [List.map_cons, List.sum_cons, hit_zero t q a fun x hx => h x (by simp [hx])]
    unfold hitN indN
    rw [decide_eq_false (h p (by simp))]
    rfl
theorem hit_sum (t : Nat) (q : Int) : ∀ a : List Int, (∀ x y, x ∈ a → y ∈ a → (x + q) % N = (y + q) % N → x = y) → a.Nodup → (a.map fun p => hitN N p q t).sum = indN (a.any fun p => decide ((p + q) % N = (t : Int)))
  | [], _, _ => rfl
  | p :: a, h, hd => by
    have hd' := List.nodup_cons.1 hd
    rw [List.map_cons, List.sum_cons, List.any_cons]
    by_cases e : (p + q) % N = (t : Int)
    · rw [hit_zero t q a fun x hx e2 => hd'.1 (by
        have := h x p (by simp [hx]) (by simp) (by rw [e, e2])
        subst this
        exact hx)]
      unfold hitN indN
      rw [decide_eq_true e]
      rfl
    · rw [hit_sum t q a (fun x y hx hy => h x y (by simp [hx]) (by simp [hy])) hd'.2]
      unfold hitN indN
      rw [decide_eq_false e]
      simp
theorem hit_inR (h : RhOk N bs) (q t : Nat) (ht : t < N) : (bs.map fun p => hitN N p (q : Nat) t).sum = indN (inR N bs q t) := by
  have hn : 1 ≤ N := by have := h.1; omega
  rw [hit_sum t (q : Nat) bs (fun x y hx hy e => ?_) ((rhok_asc h).imp fun {a b} hab => by omega)]
  · congr 1
    rw [Bool.eq_iff_iff, List.any_eq_true]
    unfold inR hasB
    rw [decide_eq_true_eq]
    constructor
    · rintro ⟨p, hp, e⟩
      rw [decide_eq_true_eq] at e
      have hr := rhok_range h p hp
      rw [← e, Int.emod_sub_emod, show p + (q : Nat) - (q : Nat) = p by omega, Int.emod_eq_of_lt hr.1 hr.2]
      exact hp
    · intro hm
      refine ⟨_, hm, ?_⟩
      rw [decide_eq_true_eq, Int.emod_add_emod, show (t : Int) - (q : Nat) + (q : Nat) = t by omega, Int.emod_eq_of_lt (by omega) (by omega)]
  · have rx := rhok_range h x hx
    have ry := rhok_range h y hy
    have e2 : (x + (q : Nat) - (y + (q : Nat))) % (N : Int) = 0 := Int.emod_eq_emod_iff_emod_sub_eq_zero.1 e
    rw [show x + ((q : Nat) : Int) - (y + ((q : Nat) : Int)) = x - y by omega] at e2
    have e3 := Int.emod_add_mul_ediv (x - y) N
    rw [e2, Int.zero_add] at e3
    have h4 : (x - y) / (N : Int) = 0 := by
      have h5 : (x - y) / (N : Int) < 1 := Int.ediv_lt_of_lt_mul (by omega) (by omega)
      have h6 : -1 < (x - y) / (N : Int) := by
        apply Classical.byContradiction
        intro h7
        have h8 : (N : Int) * ((x - y) / (N : Int)) ≤ N * (-1) := Int.mul_le_mul_of_nonneg_left (by omega) (by omega)
        omega
      omega
    rw [h4, Int.mul_zero] at e3
    omega
theorem cnt_cov (h : RhOk N bs) (b : List Nat) (t : Nat) (ht : t < N) : cntC N bs (b.map Int.ofNat) t = covC N bs b t := by
  rw [cnt_swap, List.map_map]
  unfold covC
  congr 1
  refine List.map_congr_left fun q _ => ?_
  exact hit_inR h q t ht
end

end Go.Proofs.YtjoeglekcnaebaaGreatDoor

namespace Go.Proofs.YtjoeglekcnaebaaGreatDoor
set_option linter.unusedVariables false
set_option linter.unusedSimpArgs false

theorem rowC_zero (N : Nat) (p : Int) (x : List Int) (t : Nat) : rowC N p (x.take 0) t = 0 := rfl
theorem cntC_zero (N : Nat) (a x : List Int) (t : Nat) : cntC N (a.take 0) x t = 0 := rfl
theorem takeI_snoc {x : List Int} {j : Nat} {q : Int} (hj : j < x.length) (hq : x.getD j 0 = q) : x.take (j + 1) = x.take j ++ [q] := by
  rw [List.take_add_one, List.getElem?_eq_getElem hj]
  rw [List.getD_eq_getElem?_getD, List.getElem?_eq_getElem hj] at hq
  simp at hq
  simp [hq]
theorem rowC_step (N : Nat) (p : Int) {x : List Int} {j : Nat} {q : Int} (hj : j < x.length) (hq : x.getD j 0 = q) (t : Nat) : rowC N p (x.take (j + 1)) t = rowC N p (x.take j) t + hitN N p q t := by
  unfold rowC
  rw [takeI_snoc hj hq, List.map_append, List.sum_append]
  simp
theorem cntC_step (N : Nat) {a : List Int} (x : List Int) {i : Nat} {p : Int} (hi : i < a.length) (hp : a.getD i 0 = p) (t : Nat) : cntC N (a.take (i + 1)) x t = cntC N (a.take i) x t + rowC N p x t := by
  unfold cntC
  rw [takeI_snoc hi hp, List.map_append, List.sum_append]
  simp
theorem rowC_le (N : Nat) (p : Int) (t : Nat) : ∀ x : List Int, rowC N p x t ≤ x.length
  | [] => Nat.le_refl _
  | q :: x => by
    have := rowC_le N p t x
    have h1 : hitN N p q t ≤ 1 := by unfold hitN indN; split <;> omega
    show hitN N p q t + rowC N p x t ≤ x.length + 1
    omega
theorem cntC_le (N : Nat) (x : List Int) (t : Nat) : ∀ a : List Int, cntC N a x t ≤ a.length * x.length
  | [] => Nat.zero_le _
  | p :: a => by
    have h1 := cntC_le N x t a
    have h2 := rowC_le N p t x
    show rowC N p x t + cntC N a x t ≤ (a.length + 1) * x.length
    rw [Nat.add_mul]; omega
/-- The inner loop's table. -/
def innC (N : Nat) (a x : List Int) (i : Nat) (p : Int) (j : Nat) (t : Nat) : Int := ((cntC N (a.take i) x t + rowC N p (x.take j) t : Nat) : Int)
theorem innC_zero (N : Nat) (a x : List Int) (i : Nat) (p : Int) (t : Nat) : ((cntC N (a.take i) x t : Nat) : Int) = innC N a x i p 0 t := by
  unfold innC; rw [rowC_zero, Nat.add_zero]
theorem innC_end (N : Nat) {a : List Int} (x : List Int) {i : Nat} {p : Int} (hi : i < a.length) (hp : a.getD i 0 = p) (t : Nat) : innC N a x i p x.length t = ((cntC N (a.take (i + 1)) x t : Nat) : Int) := by
  unfold innC
  rw [List.take_length, cntC_step N x hi hp]
theorem innC_at (N : Nat) (a : List Int) {x : List Int} (i : Nat) (p : Int) {j : Nat} {q : Int} (hj : j < x.length) (hq : x.getD j 0 = q) (y : Nat) (hy : (p + q) % N = (y : Int)) : innC N a x i p (j + 1) y = innC N a x i p j y + 1 := by
  unfold innC
  rw [rowC_step N p hj hq]
  unfold hitN indN
  rw [decide_eq_true hy]
  simp
  omega
theorem innC_ne (N : Nat) (a : List Int) {x : List Int} (i : Nat) (p : Int) {j : Nat} {q : Int} (hj : j < x.length) (hq : x.getD j 0 = q) (y t : Nat) (hy : (p + q) % N = (y : Int)) (ht : t ≠ y) : innC N a x i p (j + 1) t = innC N a x i p j t := by
  unfold innC
  rw [rowC_step N p hj hq]
  unfold hitN indN
  rw [decide_eq_false (by omega)]
  simp
theorem innC_nat (N : Nat) (a x : List Int) (i : Nat) (p : Int) (j t : Nat) (ha : a.length ≤ 24) (hx : x.length ≤ 24) : ∃ v : Nat, innC N a x i p j t = (v : Int) ∧ v ≤ 1000 := by
  refine ⟨_, rfl, ?_⟩
  have h1 := cntC_le N x t (a.take i)
  have h2 := rowC_le N p t (x.take j)
  rw [List.length_take] at h1 h2
  have h3 : min i a.length * x.length ≤ 24 * 24 := Nat.mul_le_mul (by omega) hx
  omega
/-- The test 'each at most once', up to m. -/
def btwB (N : Nat) (a x : List Int) : Nat → Bool
  | 0 => true
  | m + 1 => btwB N a x m && decide (cntC N a x m ≤ 1)
theorem btwB_iff (N : Nat) (a x : List Int) : ∀ m, btwB N a x m = true ↔ ∀ t, t < m → cntC N a x t ≤ 1
  | 0 => by simp [btwB]
  | m + 1 => by
    unfold btwB
    rw [Bool.and_eq_true, btwB_iff N a x m, decide_eq_true_eq]
    constructor
    · rintro ⟨h1, h2⟩ t ht
      by_cases e : t = m
      · subst e; exact h2
      · exact h1 t (by omega)
    · intro h
      exact ⟨fun t ht => h t (by omega), h m (by omega)⟩
theorem btwB_low {N : Nat} {a x : List Int} {j m : Nat} (hj : j ≤ m) (h : btwB N a x j = false) : btwB N a x m = false := by
  cases e : btwB N a x m with
  | false => rfl
  | true =>
    rw [btwB_iff] at e
    rw [(btwB_iff N a x j).2 fun t ht => e t (by omega)] at h
    cases h
theorem btw_dj {N : Nat} {bs : List Int} (h : RhOk N bs) {b : List Nat} (hb : Dj N bs b) (k : Nat) : btwB N bs ((b ++ [k]).map Int.ofNat) N = djB N bs b k := by
  rw [Bool.eq_iff_iff, btwB_iff, ← Dj_snoc h hb, ← cov_le]
  constructor
  · intro e t ht; rw [← cnt_cov h _ t ht]; exact e t ht
  · intro e t ht; rw [cnt_cov h _ t ht]; exact e t ht
theorem btw_first {N : Nat} {bs : List Int} (h : RhOk N bs) : btwB N bs [0] N = true := by
  have h1 := btw_dj h (b := []) List.Pairwise.nil 0
  refine Eq.trans h1 ?_
  rw [djB_iff h]
  intro q hq; cases hq

end Go.Proofs.YtjoeglekcnaebaaGreatDoor

