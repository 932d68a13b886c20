/-
  A rhythm has as many windows as pulses exactly if its code is full.
-/
import Derived.Test.YtjoeglekcnaebaaGreatDoorWinT
import Derived.Test.YtjoeglekcnaebaaGreatDoorAllD
namespace Go.Proofs.YtjoeglekcnaebaaGreatDoor
set_option linter.unusedVariables false
set_option linter.unusedSimpArgs false

/-- The code of a list of beats. -/
def codeN (n : Int) : List Int → Nat → Nat
  | bs, 0 => 0
  | bs, j + 1 => codeN n bs j ||| 2 ^ (n - 1 - bs.getD j 0).toNat
theorem codeN_bit (n : Int) (bs : List Int) : ∀ j b, (codeN n bs j).testBit b = true ↔ ∃ i, i < j ∧ (n - 1 - bs.getD i 0).toNat = b
  | 0, b => by simp [codeN]
  | j + 1, b => by
    unfold codeN
    rw [Nat.testBit_or, Bool.or_eq_true, codeN_bit n bs j b, Nat.testBit_two_pow]
    simp only [decide_eq_true_eq]
    constructor
    · rintro (⟨i, hi, e⟩ | e)
      · exact ⟨i, by omega, e⟩
      · exact ⟨j, by omega, e⟩
    · rintro ⟨i, hi, e⟩
      by_cases h : i = j
      · subst h; exact .inr e
      · exact .inl ⟨i, by omega, e⟩
theorem codeN_lt (n : Int) (bs : List Int) (h0 : 0 < n) (hb : ∀ i, i < bs.length → 0 ≤ bs.getD i 0 ∧ bs.getD i 0 < n) : ∀ j, j ≤ bs.length → codeN n bs j < 2 ^ n.toNat
  | 0, _ => Nat.two_pow_pos _
  | j + 1, h => Nat.or_lt_two_pow (codeN_lt n bs h0 hb j (by omega)) (Nat.pow_lt_pow_right (by omega) (by have := hb j (by omega); omega))
theorem codeN_has (n : Int) (bs : List Int) (h0 : 0 < n) (hb : ∀ i, i < bs.length → 0 ≤ bs.getD i 0 ∧ bs.getD i 0 < n) (b : Nat) (hbn : (b : Int) < n) : (codeN n bs bs.length).testBit b = hasB bs (n - 1 - b) := by
  rw [Bool.eq_iff_iff, codeN_bit]
  unfold hasB
  rw [decide_eq_true_eq]
  constructor
  · rintro ⟨i, hi, e⟩
    have := hb i hi
    have e2 : n - 1 - (b : Int) = bs.getD i 0 := by omega
    rw [e2, List.getD_eq_getElem?_getD, List.getElem?_eq_getElem hi]
    exact List.getElem_mem hi
  · intro hm
    obtain ⟨i, hi, he⟩ := List.getElem_of_mem hm
    refine ⟨i, hi, ?_⟩
    rw [List.getD_eq_getElem?_getD, List.getElem?_eq_getElem hi]
    simp only [Option.getD_some]
    omega

/-- Where the window of a code lies in the bar. -/
def turnW (S k p : Nat) : Nat := (2 * S - k - p) % S
theorem turnW_at (k S p j : Nat) (hk : (k = 1 ∧ S = 2) ∨ (k = 2 ∧ S = 4) ∨ (k = 3 ∧ S = 8) ∨ (k = 4 ∧ S = 16)) (hp : p < S) (hj : j < k) : (turnW S k p + (k - 1 - j)) % S = S - 1 - (p + j) % S := by
  unfold turnW
  rcases hk with ⟨rfl, rfl⟩ | ⟨rfl, rfl⟩ | ⟨rfl, rfl⟩ | ⟨rfl, rfl⟩ <;> omega
theorem turnW_lt (k S p : Nat) (hk : (k = 1 ∧ S = 2) ∨ (k = 2 ∧ S = 4) ∨ (k = 3 ∧ S = 8) ∨ (k = 4 ∧ S = 16)) : turnW S k p < S := by
  unfold turnW
  rcases hk with ⟨rfl, rfl⟩ | ⟨rfl, rfl⟩ | ⟨rfl, rfl⟩ | ⟨rfl, rfl⟩ <;> omega
theorem turnW_twice (k S p : Nat) (hk : (k = 1 ∧ S = 2) ∨ (k = 2 ∧ S = 4) ∨ (k = 3 ∧ S = 8) ∨ (k = 4 ∧ S = 16)) (hp : p < S) : turnW S k (turnW S k p) = p := by
  unfold turnW
  rcases hk with ⟨rfl, rfl⟩ | ⟨rfl, rfl⟩ | ⟨rfl, rfl⟩ | ⟨rfl, rfl⟩ <;> omega

theorem win_turn (k S : Nat) (bs : List Int) (hk : (k = 1 ∧ S = 2) ∨ (k = 2 ∧ S = 4) ∨ (k = 3 ∧ S = 8) ∨ (k = 4 ∧ S = 16)) (hb : ∀ i, i < bs.length → 0 ≤ bs.getD i 0 ∧ bs.getD i 0 < (S : Int)) (p q : Nat) (hp : p < S) (hq : q < S) :
    winV S (codeN S bs bs.length) p = winV S (codeN S bs bs.length) q ↔ winL S bs (turnW S k p) k = winL S bs (turnW S k q) k := by
  have hS0 : 0 < S := by rcases hk with ⟨_, rfl⟩ | ⟨_, rfl⟩ | ⟨_, rfl⟩ | ⟨_, rfl⟩ <;> omega
  have hS : S = 2 ^ k := by rcases hk with ⟨rfl, rfl⟩ | ⟨rfl, rfl⟩ | ⟨rfl, rfl⟩ | ⟨rfl, rfl⟩ <;> rfl
  have hlt := codeN_lt (S : Int) bs (by omega) hb bs.length (Nat.le_refl _)
  rw [Int.toNat_natCast] at hlt
  rw [winV_ext k S _ p q hS hlt hp hq, winL_ext]
  have hc : ∀ r j, r < S → j < k → (codeN S bs bs.length).testBit ((r + j) % S) = hasB bs (((turnW S k r + (k - 1 - j) : Nat) : Int) % (S : Int)) := by
    intro r j hr hj
    have h1 : (r + j) % S < S := Nat.mod_lt _ hS0
    rw [codeN_has (S : Int) bs (by omega) hb _ (by omega), ← Int.natCast_emod, turnW_at k S r j hk hr hj]
    congr 1
    omega
  constructor
  · intro h i hi
    have := h (k - 1 - i) (by omega)
    rwa [hc p _ hp (by omega), hc q _ hq (by omega), show k - 1 - (k - 1 - i) = i by omega] at this
  · intro h j hj
    rw [hc p j hp hj, hc q j hq hj]
    exact h _ (by omega)

/-- As many windows as pulses: the code is full. -/
theorem full_iff (k S : Nat) (bs : List Int) (hk : (k = 1 ∧ S = 2) ∨ (k = 2 ∧ S = 4) ∨ (k = 3 ∧ S = 8) ∨ (k = 4 ∧ S = 16)) (hb : ∀ i, i < bs.length → 0 ≤ bs.getD i 0 ∧ bs.getD i 0 < (S : Int)) :
    fullB S (codeN S bs bs.length) = decide ((allD S bs k S).length = S) := by
  have hS0 : 0 < S := by rcases hk with ⟨_, rfl⟩ | ⟨_, rfl⟩ | ⟨_, rfl⟩ | ⟨_, rfl⟩ <;> omega
  rw [Bool.eq_iff_iff, decide_eq_true_eq, fullB_inj S _ hS0, allD_full]
  constructor
  · intro h p q hp hq e
    have h1 := turnW_lt k S p hk
    have h2 := turnW_lt k S q hk
    have := h (turnW S k p) (turnW S k q) h1 h2 ((win_turn k S bs hk hb _ _ h1 h2).2 (by rw [turnW_twice k S p hk hp, turnW_twice k S q hk hq]; exact e))
    rw [← turnW_twice k S p hk hp, this, turnW_twice k S q hk hq]
  · intro h p q hp hq e
    have h1 := turnW_lt k S p hk
    have h2 := turnW_lt k S q hk
    have := h _ _ h1 h2 ((win_turn k S bs hk hb p q hp hq).1 e)
    rw [← turnW_twice k S p hk hp, this, turnW_twice k S q hk hq]

end Go.Proofs.YtjoeglekcnaebaaGreatDoor
