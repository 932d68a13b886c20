/-
  Plain laws on windows: numbers below S, each met once; the windows of a code as numbers; a search that prunes.
-/
import Derived.Test.YtjoeglekcnaebaaGreatDoorFullC
namespace Go.Proofs.YtjoeglekcnaebaaGreatDoor
set_option linter.unusedVariables false
set_option linter.unusedSimpArgs false

/-- A list without repeats inside another is no longer than it. -/
theorem nodup_le : ∀ (l m : List Nat), l.Nodup → (∀ x ∈ l, x ∈ m) → l.length ≤ m.length
  | [], _, _, _ => Nat.zero_le _
  | x :: l, m, hn, hs => by
    have hx : x ∈ m := hs x (by simp)
    have hn' := List.nodup_cons.1 hn
    have := nodup_le l (m.erase x) hn'.2 (fun y hy => (List.mem_erase_of_ne (fun e => hn'.1 (by subst e; exact hy))).2 (hs y (by simp [hy])))
    rw [List.length_erase_of_mem hx] at this
    have hpos : 0 < m.length := List.length_pos_of_mem hx
    simp only [List.length_cons]
    omega

theorem surj_of_inj (f : Nat → Nat) (S : Nat) (hb : ∀ p, p < S → f p < S) (hi : ∀ p q, p < S → q < S → f p = f q → p = q) : ∀ v, v < S → ∃ p, p < S ∧ f p = v := by
  intro v hv
  apply Classical.byContradiction
  intro hno
  have hnd : (v :: (List.range S).map f).Nodup := by
    rw [List.nodup_cons]
    refine ⟨fun hm => ?_, ?_⟩
    · obtain ⟨p, hp, e⟩ := List.mem_map.1 hm
      exact hno ⟨p, List.mem_range.1 hp, e⟩
    · rw [List.Nodup, List.pairwise_map]
      exact List.Pairwise.imp_of_mem (fun {a b} ha hb' hne e => hne (hi a b (List.mem_range.1 ha) (List.mem_range.1 hb') e)) List.nodup_range
  have := nodup_le _ (List.range S) hnd (fun x hx => by
    rcases List.mem_cons.1 hx with rfl | hx
    · exact List.mem_range.2 hv
    · obtain ⟨p, hp, rfl⟩ := List.mem_map.1 hx
      exact List.mem_range.2 (hb p (List.mem_range.1 hp)))
  simp at this
  omega

theorem inj_of_surj (f : Nat → Nat) (S : Nat) (hs : ∀ v, v < S → ∃ p, p < S ∧ f p = v) : ∀ p q, p < S → q < S → f p = f q → p = q := by
  intro p q hp hq e
  apply Classical.byContradiction
  intro hne
  have := nodup_le (List.range S) (((List.range S).erase q).map f) List.nodup_range (fun v hv => by
    obtain ⟨r, hr, rfl⟩ := hs v (List.mem_range.1 hv)
    by_cases hrq : r = q
    · subst hrq
      exact List.mem_map.2 ⟨p, (List.mem_erase_of_ne hne).2 (List.mem_range.2 hp), e⟩
    · exact List.mem_map.2 ⟨r, (List.mem_erase_of_ne hrq).2 (List.mem_range.2 hr), rfl⟩)
  rw [List.length_map, List.length_erase_of_mem (List.mem_range.2 hq), List.length_range] at this
  omega

theorem metN_bit (S c : Nat) : ∀ p v, (metN S c p).testBit v = true ↔ ∃ q, q < p ∧ winV S c q = v
  | 0, v => by simp [metN]
  | p + 1, v => by
    unfold metN
    rw [Nat.testBit_or, Bool.or_eq_true, metN_bit S c p v, Nat.testBit_two_pow]
    simp only [decide_eq_true_eq]
    constructor
    · rintro (⟨q, hq, e⟩ | e)
      · exact ⟨q, by omega, e⟩
      · exact ⟨p, by omega, e⟩
    · rintro ⟨q, hq, e⟩
      by_cases h : q = p
      · subst h; exact .inr e
      · exact .inl ⟨q, by omega, e⟩

theorem fullB_surj (S c : Nat) (hS : 0 < S) : fullB S c = true ↔ ∀ v, v < S → ∃ p, p < S ∧ winV S c p = v := by
  unfold fullB
  rw [beq_iff_eq]
  constructor
  · intro h v hv
    refine (metN_bit S c S v).1 ?_
    rw [h, Nat.testBit_two_pow_sub_one]
    simpa using hv
  · intro h
    apply Nat.eq_of_testBit_eq
    intro v
    rw [Nat.testBit_two_pow_sub_one]
    by_cases hv : v < S
    · rw [(metN_bit S c S v).2 (h v hv)]
      simp [hv]
    · have : ¬ (metN S c S).testBit v = true := fun hb => by
        obtain ⟨q, _, e⟩ := (metN_bit S c S v).1 hb
        have := winV_lt S c q hS
        omega
      simp [hv] at this ⊢
      exact this

theorem fullB_inj (S c : Nat) (hS : 0 < S) : fullB S c = true ↔ ∀ p q, p < S → q < S → winV S c p = winV S c q → p = q := by
  rw [fullB_surj S c hS]
  exact ⟨inj_of_surj _ S, surj_of_inj _ S (fun p _ => winV_lt S c p hS)⟩

theorem winT_bit (S c i : Nat) (hc : c < 2 ^ S) : (winT S c).testBit i = if i < S then c.testBit i else c.testBit (i - S) := by
  unfold winT
  rw [Nat.testBit_or, Nat.testBit_mul_two_pow]
  by_cases h : i < S
  · have : ¬ S ≤ i := by omega
    simp [h, this]
  · have h1 : c.testBit i = false := Nat.testBit_lt_two_pow (Nat.lt_of_lt_of_le hc (Nat.pow_le_pow_right (by omega) (by omega)))
    have : S ≤ i := by omega
    simp [h, this, h1]

/-- Bit j of the window at p. -/
theorem winV_bit (k S c p j : Nat) (hS : S = 2 ^ k) (hc : c < 2 ^ S) (hp : p < S) (hj : j < k) : (winV S c p).testBit j = c.testBit ((p + j) % S) := by
  have hkS : k < S := by rw [hS]; exact Nat.lt_two_pow_self
  unfold winV
  rw [Nat.testBit_and, Nat.testBit_div_two_pow, hS, Nat.testBit_two_pow_sub_one, ← hS, winT_bit S c _ hc]
  simp only [hj, decide_true, Bool.and_true]
  rw [show j + p = p + j by omega]
  by_cases h : p + j < S
  · rw [if_pos h, Nat.mod_eq_of_lt h]
  · rw [if_neg h, Nat.mod_eq_sub_mod (by omega), Nat.mod_eq_of_lt (by omega)]

theorem winV_ext (k S c p q : Nat) (hS : S = 2 ^ k) (hc : c < 2 ^ S) (hp : p < S) (hq : q < S) : winV S c p = winV S c q ↔ ∀ j, j < k → c.testBit ((p + j) % S) = c.testBit ((q + j) % S) := by
  constructor
  · intro h j hj
    rw [← winV_bit k S c p j hS hc hp hj, ← winV_bit k S c q j hS hc hq hj, h]
  · intro h
    apply Nat.eq_of_testBit_eq
    intro j
    by_cases hj : j < k
    · rw [winV_bit k S c p j hS hc hp hj, winV_bit k S c q j hS hc hq hj, h j hj]
    · have hz : ∀ r, r < S → (winV S c r).testBit j = false := fun r _ => Nat.testBit_lt_two_pow (Nat.lt_of_lt_of_le (winV_lt S c r (by omega)) (by rw [hS]; exact Nat.pow_le_pow_right (by omega) (by omega)))
      rw [hz p hp, hz q hq]

end Go.Proofs.YtjoeglekcnaebaaGreatDoor
