/-
  The counts of beats in windows: the least and the greatest.
-/
import Derived.Test.YtjgbnmljbgadjaaAllD
import Derived.Lib.Slices
import Derived.Lib.Bytealg
namespace Go.Proofs.Ytjgbnmljbgadjaa
set_option linter.unusedVariables false
set_option linter.unusedSimpArgs false

/-- How many beats a window has. -/
def xcnt (l : List UInt8) : Int := (Lib.countByte l 120 : Nat)
def nCnt (n : Int) (bs : List Int) (p : Nat) : Nat → Nat
  | 0 => 0
  | k + 1 => nCnt n bs p k + if hasB bs (((p + k : Nat) : Int) % n) then 1 else 0
theorem nCnt_le (n : Int) (bs : List Int) (p : Nat) : ∀ k, nCnt n bs p k ≤ k
  | 0 => Nat.le_refl _
  | k + 1 => by have := nCnt_le n bs p k; unfold nCnt; split <;> omega
theorem nCnt_x (n : Int) (bs : List Int) (p : Nat) : ∀ k, xcnt (winL n bs p k) = nCnt n bs p k
  | 0 => rfl
  | k + 1 => by
    have ih := nCnt_x n bs p k
    unfold xcnt Lib.countByte at ih ⊢
    rw [winL_succ, List.count_append]
    unfold nCnt
    cases hasB bs (((p + k : Nat) : Int) % n)
    · simp at ih ⊢; omega
    · simp at ih ⊢; omega

/-- The least and the greatest, as the reference finds them. -/
def lowN (n : Int) (bs : List Int) (k : Nat) : Nat → Nat
  | 0 => k
  | p + 1 => min (lowN n bs k p) (nCnt n bs p k)
def highN (n : Int) (bs : List Int) (k : Nat) : Nat → Nat
  | 0 => 0
  | p + 1 => max (highN n bs k p) (nCnt n bs p k)
theorem lowN_le (n : Int) (bs : List Int) (k : Nat) : ∀ m p, p < m → lowN n bs k m ≤ nCnt n bs p k
  | m + 1, p, h => by
    unfold lowN
    by_cases e : p = m
    · subst e; omega
    · have := lowN_le n bs k m p (by omega); omega
theorem lowN_k (n : Int) (bs : List Int) (k : Nat) : ∀ m, lowN n bs k m ≤ k
  | 0 => Nat.le_refl _
  | m + 1 => by have := lowN_k n bs k m; unfold lowN; omega
theorem highN_k (n : Int) (bs : List Int) (k : Nat) : ∀ m, highN n bs k m ≤ k
  | 0 => Nat.zero_le _
  | m + 1 => by have := highN_k n bs k m; have := nCnt_le n bs m k; unfold highN; omega
theorem lowN_is (n : Int) (bs : List Int) (k : Nat) : ∀ m, 0 < m → ∃ p, p < m ∧ lowN n bs k m = nCnt n bs p k
  | m + 1, _ => by
    unfold lowN
    by_cases hm : m = 0
    · subst hm
      have := nCnt_le n bs 0 k
      exact ⟨0, by omega, by unfold lowN; omega⟩
    · obtain ⟨p, hp, e⟩ := lowN_is n bs k m (by omega)
      by_cases h : lowN n bs k m ≤ nCnt n bs m k
      · exact ⟨p, by omega, by omega⟩
      · exact ⟨m, by omega, by omega⟩
theorem highN_ge (n : Int) (bs : List Int) (k : Nat) : ∀ m p, p < m → nCnt n bs p k ≤ highN n bs k m
  | m + 1, p, h => by
    unfold highN
    by_cases e : p = m
    · subst e; omega
    · have := highN_ge n bs k m p (by omega); omega
theorem highN_is (n : Int) (bs : List Int) (k : Nat) : ∀ m, 0 < m → ∃ p, p < m ∧ highN n bs k m = nCnt n bs p k
  | m + 1, _ => by
    unfold highN
    by_cases hm : m = 0
    · subst hm
      exact ⟨0, by omega, by unfold highN; omega⟩
    · obtain ⟨p, hp, e⟩ := highN_is n bs k m (by omega)
      by_cases h : nCnt n bs m k ≤ highN n bs k m
      · exact ⟨p, by omega, by omega⟩
      · exact ⟨m, by omega, by omega⟩

theorem foldl_max_ge : ∀ (l : List Int) (a : Int), a ≤ l.foldl max a ∧ (∀ x ∈ l, x ≤ l.foldl max a) ∧ (l.foldl max a = a ∨ l.foldl max a ∈ l)
  | [], a => ⟨Int.le_refl _, (fun x hx => by cases hx), .inl rfl⟩
  | y :: l, a => by
    obtain ⟨h1, h2, h3⟩ := foldl_max_ge l (max a y)
    rw [List.foldl_cons]
    refine ⟨by omega, fun x hx => ?_, ?_⟩
    · rcases List.mem_cons.1 hx with rfl | hx
      · omega
      · exact h2 x hx
    · rcases h3 with h3 | h3
      · by_cases h : y ≤ a
        · exact .inl (by rw [h3]; omega)
        · exact .inr (List.mem_cons.2 (.inl (by rw [h3]; omega)))
      · exact .inr (List.mem_cons.2 (.inr h3))
theorem foldl_min_le : ∀ (l : List Int) (a : Int), l.foldl min a ≤ a ∧ (∀ x ∈ l, l.foldl min a ≤ x) ∧ (l.foldl min a = a ∨ l.foldl min a ∈ l)
  | [], a => ⟨Int.le_refl _, (fun x hx => by cases hx), .inl rfl⟩
  | y :: l, a => by
    obtain ⟨h1, h2, h3⟩ := foldl_min_le l (min a y)
    rw [List.foldl_cons]
    refine ⟨by omega, fun x hx => ?_, ?_⟩
    · rcases List.mem_cons.1 hx with rfl | hx
      · omega
      · exact h2 x hx
    · rcases h3 with h3 | h3
      · by_cases h : a ≤ y
        · exact .inl (by rw [h3]; omega)
        · exact .inr (List.mem_cons.2 (.inl (by rw [h3]; omega)))
      · exact .inr (List.mem_cons.2 (.inr h3))
theorem maxOf_spec (l : List Int) (h : 0 < l.length) : (∀ x ∈ l, x ≤ Lib.maxOf l) ∧ Lib.maxOf l ∈ l := by
  cases l with
  | nil => simp at h
  | cons y l =>
    unfold Lib.maxOf
    obtain ⟨h1, h2, h3⟩ := foldl_max_ge (y :: l) y
    refine ⟨h2, ?_⟩
    rcases h3 with h3 | h3
    · show (y :: l).foldl max y ∈ y :: l
      rw [h3]; simp
    · exact h3
theorem minOf_spec (l : List Int) (h : 0 < l.length) : (∀ x ∈ l, Lib.minOf l ≤ x) ∧ Lib.minOf l ∈ l := by
  cases l with
  | nil => simp at h
  | cons y l =>
    unfold Lib.minOf
    obtain ⟨h1, h2, h3⟩ := foldl_min_le (y :: l) y
    refine ⟨h2, ?_⟩
    rcases h3 with h3 | h3
    · show (y :: l).foldl min y ∈ y :: l
      rw [h3]; simp
    · exact h3

/-- The counts of the different windows have the reference's greatest and least. -/
theorem counts_max (n : Int) (bs : List Int) (k m : Nat) (hm : 0 < m) : Lib.maxOf ((allD n bs k m).map xcnt) = highN n bs k m ∧ Lib.minOf ((allD n bs k m).map xcnt) = lowN n bs k m := by
  have hpos : 0 < ((allD n bs k m).map xcnt).length := by
    rw [List.length_map]
    exact List.length_pos_of_mem ((allD_mem n bs k m _).2 ⟨0, hm, rfl⟩)
  have hmem : ∀ x, x ∈ (allD n bs k m).map xcnt ↔ ∃ p, p < m ∧ x = nCnt n bs p k := by
    intro x
    rw [List.mem_map]
    constructor
    · rintro ⟨l, hl, rfl⟩
      obtain ⟨p, hp, rfl⟩ := (allD_mem n bs k m l).1 hl
      exact ⟨p, hp, nCnt_x n bs p k⟩
    · rintro ⟨p, hp, rfl⟩
      exact ⟨winL n bs p k, (allD_mem n bs k m _).2 ⟨p, hp, rfl⟩, nCnt_x n bs p k⟩
  obtain ⟨a1, a2⟩ := maxOf_spec _ hpos
  obtain ⟨b1, b2⟩ := minOf_spec _ hpos
  obtain ⟨p, hp, e1⟩ := (hmem _).1 a2
  obtain ⟨q, hq, e2⟩ := (hmem _).1 b2
  obtain ⟨p', hp', e3⟩ := highN_is n bs k m hm
  obtain ⟨q', hq', e4⟩ := lowN_is n bs k m hm
  constructor
  · have h1 := a1 _ ((hmem _).2 ⟨p', hp', rfl⟩)
    have h2 := highN_ge n bs k m p hp
    omega
  · have h1 := b1 _ ((hmem _).2 ⟨q', hq', rfl⟩)
    have h2 := lowN_le n bs k m q hq
    omega
def unbB (n : Int) (bs : List Int) (k m : Nat) : Bool := decide (1 < (highN n bs k m : Int) - lowN n bs k m)

noncomputable def balV (n : Int) (bs : List Int) : Bool := rhB n bs && (List.range n.toNat).all (fun k => k == 0 || !unbB n bs k n.toNat)
theorem balV_no {N k : Nat} {bs : List Int} (h1 : 1 ≤ k) (h2 : k < N) (h : unbB N bs k N = true) : balV N bs = false := by
  cases hb : balV N bs
  · rfl
  · exfalso
    unfold balV at hb
    rw [Bool.and_eq_true, List.all_eq_true, Int.toNat_natCast] at hb
    have := hb.2 k (List.mem_range.2 h2)
    rw [h] at this
    simp at this
    omega
theorem balV_yes {N : Nat} {bs : List Int} (hr : rhB N bs = true) (h : ∀ k, k < N → 1 ≤ k → unbB N bs k N = false) : balV N bs = true := by
  unfold balV
  rw [Bool.and_eq_true, List.all_eq_true, Int.toNat_natCast]
  refine ⟨hr, fun k hk => ?_⟩
  by_cases h0 : k = 0
  · subst h0; rfl
  · rw [h k (List.mem_range.1 hk) (by omega)]; simp
theorem balV_bad {n : Int} {bs : List Int} (h : rhB n bs = false) : balV n bs = false := by unfold balV; rw [h]; rfl

end Go.Proofs.Ytjgbnmljbgadjaa
