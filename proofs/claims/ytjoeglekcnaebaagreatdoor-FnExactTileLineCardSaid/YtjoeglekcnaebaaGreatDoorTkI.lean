/-
  Several texts of this proof in one: FullC, WinT, FulT, FirT.
-/
import Derived.Test.YtjoeglekcnaebaaGreatDoorRok
import Derived.Deep.Light
import Derived.Laws.BitsAllLaws
import Derived.Laws.BitsLemmas
import Derived.Test.YtjoeglekcnaebaaGreatDoorAllD
namespace Go.Proofs.YtjoeglekcnaebaaGreatDoor
open Go.RowKit
set_option linter.unusedVariables false
set_option linter.unusedSimpArgs false

theorem ofInt_i64 (a : Nat) (ha : a < 9223372036854775808) : (BitVec.ofInt 64 (a : Int)).toNat = a := by
  rw [BitVec.ofInt_natCast, BitVec.toNat_ofNat]; exact Nat.mod_eq_of_lt (by omega)
theorem i64_and_nat (a b : Nat) (ha : a < 9223372036854775808) (hb : b < 9223372036854775808) : bits .and .i64 (a : Int) (b : Int) = ((a &&& b : Nat) : Int) := by
  have hx : a &&& b < 2 ^ 63 := Nat.and_lt_two_pow _ (by omega)
  show IntKind.i64.wrap ((BitVec.ofInt 64 (a : Int) &&& BitVec.ofInt 64 (b : Int)).toNat : Int) = _
  rw [BitVec.toNat_and, ofInt_i64 a ha, ofInt_i64 b hb, IntKind.wrap_i64]
  omega
theorem i64_or_nat (a b : Nat) (ha : a < 9223372036854775808) (hb : b < 9223372036854775808) : bits .or .i64 (a : Int) (b : Int) = ((a ||| b : Nat) : Int) := by
  have hx : a ||| b < 2 ^ 63 := Nat.or_lt_two_pow (by omega) (by omega)
  show IntKind.i64.wrap ((BitVec.ofInt 64 (a : Int) ||| BitVec.ofInt 64 (b : Int)).toNat : Int) = _
  rw [BitVec.toNat_or, ofInt_i64 a ha, ofInt_i64 b hb, IntKind.wrap_i64]
  omega

/-- The code written twice; the window at a pulse as a number; the windows met; whether they are all there. -/
def winT (S c : Nat) : Nat := c * 2 ^ S ||| c
def winV (S c p : Nat) : Nat := winT S c / 2 ^ p &&& (S - 1)
def metN (S c : Nat) : Nat → Nat
  | 0 => 0
  | p + 1 => metN S c p ||| 2 ^ winV S c p
def fullB (S c : Nat) : Bool := metN S c S == 2 ^ S - 1

theorem winT_lt (S c : Nat) (hS : S ≤ 16) (hc : c < 2 ^ S) : winT S c < 4294967296 := by
  have h1 : c * 2 ^ S < 2 ^ S * 2 ^ S := (Nat.mul_lt_mul_right (Nat.two_pow_pos S)).2 hc
  have h2 : 2 ^ S * 2 ^ S ≤ 2 ^ 32 := by
    rw [← Nat.pow_add]
    exact Nat.pow_le_pow_right (by omega) (by omega)
  have h3 : (2 : Nat) ^ S ≤ 2 ^ 32 := Nat.pow_le_pow_right (by omega) (by omega)
  exact Nat.or_lt_two_pow (n := 32) (by omega) (by omega)
theorem winV_lt (S c p : Nat) (hS : 0 < S) : winV S c p < S := by
  have : winV S c p ≤ S - 1 := Nat.and_le_right
  omega
theorem metN_lt (S c : Nat) : ∀ p, 0 < S → metN S c p < 2 ^ S
  | 0, _ => Nat.two_pow_pos S
  | p + 1, h => Nat.or_lt_two_pow (metN_lt S c p h) (Nat.pow_lt_pow_right (by omega) (winV_lt S c p h))
theorem winV_bits (S c p : Nat) (m : Int) (hm : ((S - 1 : Nat) : Int) = m) (hS : S ≤ 16) (hT : winT S c < 4294967296) : bits BinOp.and IntKind.i64 (↑(winT S c) / 2 ^ p) m = (winV S c p : Int) := by
  subst hm
  have hle : winT S c / 2 ^ p ≤ winT S c := Nat.div_le_self _ _
  have := i64_and_nat (winT S c / 2 ^ p) (S - 1) (by omega) (by omega)
  rw [Int.natCast_ediv, Int.natCast_pow] at this
  exact this
theorem i64_or_pow (m v : Nat) (hm : m < 65536) (hv : v < 16) : bits BinOp.or IntKind.i64 (m : Int) (wrap64 (2 ^ v)) = ((m ||| 2 ^ v : Nat) : Int) := by
  have h2 : (2 : Nat) ^ v < 2 ^ 16 := Nat.pow_lt_pow_right (by omega) hv
  have e : wrap64 (2 ^ v) = ((2 ^ v : Nat) : Int) := by
    rw [show ((2 : Int) ^ v) = ((2 ^ v : Nat) : Int) by simp]
    generalize 2 ^ v = x at h2
    unfold wrap64
    omega
  rw [e]
  exact i64_or_nat m (2 ^ v) (by omega) (by omega)
theorem fullB_eq (S c n : Nat) (h : 2 ^ S - 1 = n) : ((metN S c S : Int) == (n : Int)) = fullB S c := by
  unfold fullB
  rw [h, Bool.eq_iff_iff, beq_iff_eq, beq_iff_eq]
  omega

end Go.Proofs.YtjoeglekcnaebaaGreatDoor

namespace Go.Proofs.YtjoeglekcnaebaaGreatDoor
set_option linter.unusedVariables false
set_option linter.unusedSimpArgs false

/-- A list without repeats inside another is no longer than it. -/
theorem nodup_le : ∀ (l m : List Nat), l.Nodup → (∀ x ∈ l, x ∈ m) → l.length ≤ m.length
  | [], _, _, _ => Nat.zero_le _
  | x :: l, m, hn, hs => by
    have hx : x ∈ m := hs x (by simp)
    have hn' := List.nodup_cons.1 hn
    have := nodup_le l (m.erase x) hn'.2 (fun y hy => (List.mem_erase_of_ne (fun e => hn'.1 (by subst e; exact hy))).2 (hs y (by simp [hy])))
    rw [List.length_erase_of_mem hx] at this
    have hpos : 0 < m.length := List.length_pos_of_mem hx
    simp only [List.length_cons]
    omega

theorem surj_of_inj (f : Nat → Nat) (S : Nat) (hb : ∀ p, p < S → f p < S) (hi : ∀ p q, p < S → q < S → f p = f q → p = q) : ∀ v, v < S → ∃ p, p < S ∧ f p = v := by
  intro v hv
  apply Classical.byContradiction
  intro hno
  have hnd : (v :: (List.range S).map f).Nodup := by
    rw [List.nodup_cons]
    refine ⟨fun hm => ?_, ?_⟩
    · obtain ⟨p, hp, e⟩ := List.mem_map.1 hm
      exact hno ⟨p, List.mem_range.1 hp, e⟩
    · rw [List.Nodup, List.pairwise_map]
      exact List.Pairwise.imp_of_mem (fun {a b} ha hb' hne e => hne (hi a b (List.mem_range.1 ha) (List.mem_range.1 hb') e)) List.nodup_range
  have := nodup_le _ (List.range S) hnd (fun x hx => by
    rcases List.mem_cons.1 hx with rfl | hx
    · exact List.mem_range.2 hv
    · obtain ⟨p, hp, rfl⟩ := List.mem_map.1 hx
      exact List.mem_range.2 (hb p (List.mem_range.1 hp)))
  simp at this
  omega

theorem inj_of_surj (f : Nat → Nat) (S : Nat) (hs : ∀ v, v < S → ∃ p, p < S ∧ f p = v) : ∀ p q, p < S → q < S → f p = f q → p = q := by
  intro p q hp hq e
  apply Classical.byContradiction
  intro hne
  have := nodup_le (List.range S) (((List.range S).erase q).map f) List.nodup_range (fun v hv => by
    obtain ⟨r, hr, rfl⟩ := hs v (List.mem_range.1 hv)
    by_cases hrq : r = q
    · subst hrq
      exact List.mem_map.2 ⟨p, (List.mem_erase_of_ne hne).2 (List.mem_range.2 hp), e⟩
    · exact List.mem_map.2 ⟨r, (List.mem_erase_of_ne hrq).2 (List.mem_range.2 hr), rfl⟩)
  rw [List.length_map, List.length_erase_of_mem (List.mem_range.2 hq), List.length_range] at this
  omega

theorem metN_bit (S c : Nat) : ∀ p v, (metN S c p).testBit v = true ↔ ∃ q, q < p ∧ winV S c q = v
  | 0, v => by simp [metN]
  | p + 1, v => by
    unfold metN
    rw [Nat.testBit_or, Bool.or_eq_true, metN_bit S c p v, Nat.testBit_two_pow]
    simp only [decide_eq_true_eq]
    constructor
    · rintro (⟨q, hq, e⟩ | e)
      · exact ⟨q, by omega, e⟩
      · exact ⟨p, by omega, e⟩
    · rintro ⟨q, hq, e⟩
      by_cases h : q = p
      · subst h; exact .inr e
      · exact .inl ⟨q, by omega, e⟩

theorem fullB_surj (S c : Nat) (hS : 0 < S) : fullB S c = true ↔ ∀ v, v < S → ∃ p, p < S ∧ winV S c p = v := by
  unfold fullB
  rw [beq_iff_eq]
  constructor
  · intro h v hv
    refine (metN_bit S c S v).1 ?_
    rw [h, Nat.testBit_two_pow_sub_one]
    simpa using hv
  · intro h
    apply Nat.eq_of_testBit_eq
    intro v
    rw [Nat.testBit_two_pow_sub_one]
    by_cases hv : v < S
    · rw [(metN_bit S c S v).2 (h v hv)]
      simp [hv]
    · have : ¬ (metN S c S).testBit v = true := fun hb => by
        obtain ⟨q, _, e⟩ := (metN_bit S c S v).1 hb
        have := winV_lt S c q hS
        omega
      simp [hv] at this ⊢
      exact this

theorem fullB_inj (S c : Nat) (hS : 0 < S) : fullB S c = true ↔ ∀ p q, p < S → q < S → winV S c p = winV S c q → p = q := by
  rw [fullB_surj S c hS]
  exact ⟨inj_of_surj _ S, surj_of_inj _ S (fun p _ => winV_lt S c p hS)⟩

theorem winT_bit (S c i : Nat) (hc : c < 2 ^ S) : (winT S c).testBit i = if i < S then c.testBit i else c.testBit (i - S) := by
  unfold winT
  rw [Nat.testBit_or, Nat.testBit_mul_two_pow]
  by_cases h : i < S
  · have : ¬ S ≤ i := by omega
    simp [h, this]
  · have h1 : c.testBit i = false := Nat.testBit_lt_two_pow (Nat.lt_of_lt_of_le hc (Nat.pow_le_pow_right (by omega) (by omega)))
    have : S ≤ i := by omega
    simp [h, this, h1]

/-- Bit j of the window at p. -/
theorem winV_bit (k S c p j : Nat) (hS : S = 2 ^ k) (hc : c < 2 ^ S) (hp : p < S) (hj : j < k) : (winV S c p).testBit j = c.testBit ((p + j) % S) := by
  have hkS : k < S := by rw [hS]; exact Nat.lt_two_pow_self
  unfold winV
  rw [Nat.testBit_and, Nat.testBit_div_two_pow, hS, Nat.testBit_two_pow_sub_one, ← hS, winT_bit S c _ hc]
  simp only [hj, decide_true, Bool.and_true]
  rw [show j + p = p + j by omega]
  by_cases h : p + j < S
  · rw [if_pos h, Nat.mod_eq_of_lt h]
  · rw [if_neg h, Nat.mod_eq_sub_mod (by omega), Nat.mod_eq_of_lt (by omega)]

theorem winV_ext (k S c p q : Nat) (hS : S = 2 ^ k) (hc : c < 2 ^ S) (hp : p < S) (hq : q < S) : winV S c p = winV S c q ↔ ∀ j, j < k → c.testBit ((p + j) % S) = c.testBit ((q + j) % S) := by
  constructor
  · intro h j hj
    rw [← winV_bit k S c p j hS hc hp hj, ← winV_bit k S c q j hS hc hq hj, h]
  · intro h
    apply Nat.eq_of_testBit_eq
    intro j
    by_cases hj : j < k
    · rw [winV_bit k S c p j hS hc hp hj, winV_bit k S c q j hS hc hq hj, h j hj]
    · have hz : ∀ r, r < S → (winV S c r).testBit j = false := fun r _ => Nat.testBit_lt_two_pow (Nat.lt_of_lt_of_le (winV_lt S c r (by omega)) (by rw [hS]; exact Nat.pow_le_pow_right (by omega) (by omega)))
      rw [hz p hp, hz q hq]

end Go.Proofs.YtjoeglekcnaebaaGreatDoor

namespace Go.Proofs.YtjoeglekcnaebaaGreatDoor
set_option linter.unusedVariables false
set_option linter.unusedSimpArgs false

/-- The code of a list of beats. -/
def codeN (n : Int) : List Int → Nat → Nat
  | bs, 0 => 0
  | bs, j + 1 => codeN n bs j ||| 2 ^ (n - 1 - bs.getD j 0).toNat
theorem codeN_bit (n : Int) (bs : List Int) : ∀ j b, (codeN n bs j).testBit b = true ↔ ∃ i, i < j ∧ (n - 1 - bs.getD i 0).toNat = b
  | 0, b => by simp [codeN]
  | j + 1, b => by
    unfold codeN
    rw [Nat.testBit_or, Bool.or_eq_true, codeN_bit n bs j b, Nat.testBit_two_pow]
    simp only [decide_eq_true_eq]
    constructor
    · rintro (⟨i, hi, e⟩ | e)
      · exact ⟨i, by omega, e⟩
      · exact ⟨j, by omega, e⟩
    · rintro ⟨i, hi, e⟩
      by_cases h : i = j
      · subst h; exact .inr e
      · exact .inl ⟨i, by omega, e⟩
theorem codeN_lt (n : Int) (bs : List Int) (h0 : 0 < n) (hb : ∀ i, i < bs.length → 0 ≤ bs.getD i 0 ∧ bs.getD i 0 < n) : ∀ j, j ≤ bs.length → codeN n bs j < 2 ^ n.toNat
  | 0, _ => Nat.two_pow_pos _
  | j + 1, h => Nat.or_lt_two_pow (codeN_lt n bs h0 hb j (by omega)) (Nat.pow_lt_pow_right (by omega) (by have := hb j (by omega); omega))
theorem codeN_has (n : Int) (bs : List Int) (h0 : 0 < n) (hb : ∀ i, i < bs.length → 0 ≤ bs.getD i 0 ∧ bs.getD i 0 < n) (b : Nat) (hbn : (b : Int) < n) : (codeN n bs bs.length).testBit b = hasB bs (n - 1 - b) := by
  rw [Bool.eq_iff_iff, codeN_bit]
  unfold hasB
  rw [decide_eq_true_eq]
  constructor
  · rintro ⟨i, hi, e⟩
    have := hb i hi
    have e2 : n - 1 - (b : Int) = bs.getD i 0 := by omega
    rw [e2, List.getD_eq_getElem?_getD, List.getElem?_eq_getElem hi]
    exact List.getElem_mem hi
  · intro hm
    obtain ⟨i, hi, he⟩ := List.getElem_of_mem hm
    refine ⟨i, hi, ?_⟩
    rw [List.getD_eq_getElem?_getD, List.getElem?_eq_getElem hi]
    simp only [Option.getD_some]
    omega

/-- Where the window of a code lies in the bar. -/
def turnW (S k p : Nat) : Nat := (2 * S - k - p) % S
theorem turnW_at (k S p j : Nat) (hk : (k = 1 ∧ S = 2) ∨ (k = 2 ∧ S = 4) ∨ (k = 3 ∧ S = 8) ∨ (k = 4 ∧ S = 16)) (hp : p < S) (hj : j < k) : (turnW S k p + (k - 1 - j)) % S = S - 1 - (p + j) % S := by
  unfold turnW
  rcases hk with ⟨rfl, rfl⟩ | ⟨rfl, rfl⟩ | ⟨rfl, rfl⟩ | ⟨rfl, rfl⟩ <;> omega
theorem turnW_lt (k S p : Nat) (hk : (k = 1 ∧ S = 2) ∨ (k = 2 ∧ S = 4) ∨ (k = 3 ∧ S = 8) ∨ (k = 4 ∧ S = 16)) : turnW S k p < S := by
  unfold turnW
  rcases hk with ⟨rfl, rfl⟩ | ⟨rfl, rfl⟩ | ⟨rfl, rfl⟩ | ⟨rfl, rfl⟩ <;> omega
theorem turnW_twice (k S p : Nat) (hk : (k = 1 ∧ S = 2) ∨ (k = 2 ∧ S = 4) ∨ (k = 3 ∧ S = 8) ∨ (k = 4 ∧ S = 16)) (hp : p < S) : turnW S k (turnW S k p) = p := by
  unfold turnW
  rcases hk with ⟨rfl, rfl⟩ | ⟨rfl, rfl⟩ | ⟨rfl, rfl⟩ | ⟨rfl, rfl⟩ <;> omega

theorem win_turn (k S : Nat) (bs : List Int) (hk : (k = 1 ∧ S = 2) ∨ (k = 2 ∧ S = 4) ∨ (k = 3 ∧ S = 8) ∨ (k = 4 ∧ S = 16)) (hb : ∀ i, i < bs.length → 0 ≤ bs.getD i 0 ∧ bs.getD i 0 < (S : Int)) (p q : Nat) (hp : p < S) (hq : q < S) :
    winV S (codeN S bs bs.length) p = winV S (codeN S bs bs.length) q ↔ winL S bs (turnW S k p) k = winL S bs (turnW S k q) k := by
  have hS0 : 0 < S := by rcases hk with ⟨_, rfl⟩ | ⟨_, rfl⟩ | ⟨_, rfl⟩ | ⟨_, rfl⟩ <;> omega
  have hS : S = 2 ^ k := by rcases hk with ⟨rfl, rfl⟩ | ⟨rfl, rfl⟩ | ⟨rfl, rfl⟩ | ⟨rfl, rfl⟩ <;> rfl
  have hlt := codeN_lt (S : Int) bs (by omega) hb bs.length (Nat.le_refl _)
  rw [Int.toNat_natCast] at hlt
  rw [winV_ext k S _ p q hS hlt hp hq, winL_ext]
  have hc : ∀ r j, r < S → j < k → (codeN S bs bs.length).testBit ((r + j) % S) = hasB bs (((turnW S k r + (k - 1 - j) : Nat) : Int) % (S : Int)) := by
    intro r j hr hj
    have h1 : (r + j) % S < S := Nat.mod_lt _ hS0
    rw [codeN_has (S : Int) bs (by omega) hb _ (by omega), ← Int.natCast_emod, turnW_at k S r j hk hr hj]
    congr 1
    omega
  constructor
  · intro h i hi
    have := h (k - 1 - i) (by omega)
    rwa [hc p _ hp (by omega), hc q _ hq (by omega), show k - 1 - (k - 1 - i) = i by omega] at this
  · intro h j hj
    rw [hc p j hp hj, hc q j hq hj]
    exact h _ (by omega)

/-- As many windows as pulses: the code is full. -/
theorem full_iff (k S : Nat) (bs : List Int) (hk : (k = 1 ∧ S = 2) ∨ (k = 2 ∧ S = 4) ∨ (k = 3 ∧ S = 8) ∨ (k = 4 ∧ S = 16)) (hb : ∀ i, i < bs.length → 0 ≤ bs.getD i 0 ∧ bs.getD i 0 < (S : Int)) :
    fullB S (codeN S bs bs.length) = decide ((allD S bs k S).length = S) := by
  have hS0 : 0 < S := by rcases hk with ⟨_, rfl⟩ | ⟨_, rfl⟩ | ⟨_, rfl⟩ | ⟨_, rfl⟩ <;> omega
  rw [Bool.eq_iff_iff, decide_eq_true_eq, fullB_inj S _ hS0, allD_full]
  constructor
  · intro h p q hp hq e
    have h1 := turnW_lt k S p hk
    have h2 := turnW_lt k S q hk
    have := h (turnW S k p) (turnW S k q) h1 h2 ((win_turn k S bs hk hb _ _ h1 h2).2 (by rw [turnW_twice k S p hk hp, turnW_twice k S q hk hq]; exact e))
    rw [← turnW_twice k S p hk hp, this, turnW_twice k S q hk hq]
  · intro h p q hp hq e
    have h1 := turnW_lt k S p hk
    have h2 := turnW_lt k S q hk
    have := h _ _ h1 h2 ((win_turn k S bs hk hb p q hp hq).1 e)
    rw [← turnW_twice k S p hk hp, this, turnW_twice k S q hk hq]

end Go.Proofs.YtjoeglekcnaebaaGreatDoor

namespace Go.Proofs.YtjoeglekcnaebaaGreatDoor
set_option linter.unusedVariables false
set_option linter.unusedSimpArgs false

/-- No code above c0 is full, c0 is. -/
def topB (S c0 m : Nat) : Bool := (List.range m).all (fun j => !fullB S (c0 + 1 + j)) && fullB S c0
theorem top_spec {S c0 m : Nat} (h : topB S c0 m = true) : fullB S c0 = true ∧ ∀ c, c0 < c → c < c0 + 1 + m → fullB S c = false := by
  unfold topB at h
  rw [Bool.and_eq_true, List.all_eq_true] at h
  refine ⟨h.2, fun c h1 h2 => ?_⟩
  have := h.1 (c - (c0 + 1)) (List.mem_range.2 (by omega))
  rw [show c0 + 1 + (c - (c0 + 1)) = c by omega] at this
  simpa using this
def topC : Nat → Nat
  | 1 => 2
  | 2 => 12
  | 3 => 232
  | _ => 63056
theorem top_1 : topB 2 2 1 = true := by decide +kernel
theorem top_2 : topB 4 12 3 = true := by decide +kernel
theorem top_3 : topB 8 232 23 = true := by decide +kernel
theorem top_4 : topB 16 63056 2479 = true := by decide +kernel

/-- The beats of a code. -/
def bitsB (n c : Nat) (m : Nat) : List Int := ((List.range m).filter (fun p => c.testBit (n - 1 - p))).map Int.ofNat
theorem bitsB_zero (n c : Nat) : bitsB n c 0 = [] := rfl
theorem bitsB_yes {n c m : Nat} (h : c.testBit (n - 1 - m) = true) : bitsB n c (m + 1) = bitsB n c m ++ [(m : Int)] := by
  simp [bitsB, List.range_succ, h]
theorem bitsB_no {n c m : Nat} (h : c.testBit (n - 1 - m) = false) : bitsB n c (m + 1) = bitsB n c m := by
  simp [bitsB, List.range_succ, h]
theorem bitsB_mem {n c m : Nat} {x : Int} : x ∈ bitsB n c m ↔ ∃ p : Nat, p < m ∧ c.testBit (n - 1 - p) = true ∧ x = p := by
  unfold bitsB
  rw [List.mem_map]
  constructor
  · rintro ⟨p, hp, rfl⟩
    rw [List.mem_filter, List.mem_range] at hp
    exact ⟨p, hp.1, hp.2, rfl⟩
  · rintro ⟨p, h1, h2, rfl⟩
    exact ⟨p, by rw [List.mem_filter, List.mem_range]; exact ⟨h1, h2⟩, rfl⟩
theorem bitsB_len (n c m : Nat) : (bitsB n c m).length ≤ m := by
  unfold bitsB
  rw [List.length_map]
  exact Nat.le_trans (List.length_filter_le _ _) (by simp)
theorem bitsB_range (n c m : Nat) : ∀ i, i < (bitsB n c m).length → 0 ≤ (bitsB n c m).getD i 0 ∧ (bitsB n c m).getD i 0 < m := by
  intro i hi
  obtain ⟨p, hp, _, e⟩ := bitsB_mem.1 (show (bitsB n c m).getD i 0 ∈ bitsB n c m by
    rw [List.getD_eq_getElem?_getD, List.getElem?_eq_getElem hi]; exact List.getElem_mem hi)
  rw [e]
  omega
theorem bitsB_sorted (n c : Nat) : ∀ m, (bitsB n c m).Pairwise (fun a b => a < b)
  | 0 => List.Pairwise.nil
  | m + 1 => by
    cases h : c.testBit (n - 1 - m)
    · rw [bitsB_no h]; exact bitsB_sorted n c m
    · rw [bitsB_yes h, List.pairwise_append]
      refine ⟨bitsB_sorted n c m, by simp, fun a ha b hb => ?_⟩
      rw [List.mem_singleton] at hb
      obtain ⟨p, hp, _, rfl⟩ := bitsB_mem.1 ha
      omega
theorem bitsB_ok (n c : Nat) (h1 : 1 ≤ n) (h24 : n ≤ 24) : RhOk n (bitsB n c n) := by
  refine ⟨by omega, by omega, bitsB_range n c n, fun i hi => ?_⟩
  have := List.pairwise_iff_getElem.1 (bitsB_sorted n c n) i (i + 1) (by omega) hi (by omega)
  rw [List.getD_eq_getElem?_getD, List.getElem?_eq_getElem (by omega), List.getD_eq_getElem?_getD, List.getElem?_eq_getElem hi]
  exact this
theorem bitsB_code (n c : Nat) (hc : c < 2 ^ n) (h0 : 0 < n) : codeN n (bitsB n c n) (bitsB n c n).length = c := by
  apply Nat.eq_of_testBit_eq
  intro b
  by_cases hb : b < n
  · rw [codeN_has (n : Int) _ (by omega) (bitsB_range n c n) b (by omega)]
    unfold hasB
    rw [Bool.eq_iff_iff, decide_eq_true_eq, bitsB_mem]
    constructor
    · rintro ⟨p, hp, h, e⟩
      rwa [show n - 1 - p = b by omega] at h
    · intro h
      exact ⟨n - 1 - b, by omega, by rwa [show n - 1 - (n - 1 - b) = b by omega], by omega⟩
  · have h1 := codeN_lt (n : Int) (bitsB n c n) (by omega) (bitsB_range n c n) _ (Nat.le_refl _)
    rw [Int.toNat_natCast] at h1
    have h2 : (2 : Nat) ^ n ≤ 2 ^ b := Nat.pow_le_pow_right (by omega) (by omega)
    rw [Nat.testBit_lt_two_pow (by omega), Nat.testBit_lt_two_pow (by omega)]

end Go.Proofs.YtjoeglekcnaebaaGreatDoor

