/-
  Covers of a line by a pattern and its mirror, in plain words: the search, what each cover is, the text.
-/
import Derived.Test.YtoofkchhjkhdeaaDoorBlkT
import Derived.Lib.TrailingZeros
namespace Go.Proofs.YtoofkchhjkhdeaaDoor
open Go.RowKit
set_option linter.unusedVariables false
set_option linter.unusedSimpArgs false

/-- The mirror, built from the last place on. -/
def mirP (xs : List Int) (q : Nat) : List Int := (List.range q).map fun j => xs.getD (xs.length - 1) 0 - xs.getD (xs.length - 1 - j) 0
def mirL (xs : List Int) : List Int := mirP xs xs.length
theorem mirP_succ (xs : List Int) (q : Nat) : mirP xs (q + 1) = mirP xs q ++ [xs.getD (xs.length - 1) 0 - xs.getD (xs.length - 1 - q) 0] := by
  unfold mirP
  rw [List.range_succ, List.map_append]
  rfl
theorem mirP_len (xs : List Int) (q : Nat) : (mirP xs q).length = q := by unfold mirP; simp
theorem mirL_len (xs : List Int) : (mirL xs).length = xs.length := mirP_len _ _
theorem mir_at (xs : List Int) {j : Nat} (hj : j < xs.length) : (mirL xs).getD j 0 = xs.getD (xs.length - 1) 0 - xs.getD (xs.length - 1 - j) 0 := by
  unfold mirL mirP
  rw [List.getD_eq_getElem?_getD, List.getElem?_map, List.getElem?_range hj]
  rfl
theorem pat_le {xs : List Int} (h : ∀ j, j < xs.length → patAt xs j = true) : ∀ j i, i < j → j < xs.length → xs.getD i 0 < xs.getD j 0
  | 0, i, hi, _ => absurd hi (by omega)
  | j + 1, i, hi, hj => by
    have h1 := pat_asc (by omega) (h (j + 1) hj)
    rw [Nat.add_sub_cancel] at h1
    by_cases e : i = j
    · rw [e]; exact h1
    · have := pat_le h j i (by omega) (by omega)
      omega
theorem pat_len {xs : List Int} (h : patB xs = true) : xs.length ≤ 13 := by
  obtain ⟨_, h1⟩ := pat_all h
  have hg : ∀ j, j < xs.length → (j : Int) ≤ xs.getD j 0 := fun j => by
    induction j with
    | zero => intro hj; have := pat_in (h1 0 hj); omega
    | succ j ih =>
      intro hj
      have := ih (by omega)
      have := pat_le h1 (j + 1) j (by omega) hj
      omega
  apply Nat.le_of_not_lt
  intro hl
  have h2 := hg (xs.length - 1) (by omega)
  have h3 := pat_in (h1 (xs.length - 1) (by omega))
  omega
theorem mir_ok {xs : List Int} (h : patB xs = true) : patB (mirL xs) = true := by
  obtain ⟨h0, h1⟩ := pat_all h
  have h2 : ∀ j, j < (mirL xs).length → patAt (mirL xs) j = true := fun j hj => by
    rw [mirL_len] at hj
    have a1 := pat_in (h1 (xs.length - 1) (by omega))
    have a2 := pat_in (h1 (xs.length - 1 - j) (by omega))
    have a3 : xs.getD (xs.length - 1 - j) 0 ≤ xs.getD (xs.length - 1) 0 := by
      by_cases e : j = 0
      · subst e; exact Int.le_refl _
      · have := pat_le h1 (xs.length - 1) (xs.length - 1 - j) (by omega) (by omega); omega
    unfold patAt
    rw [Bool.and_eq_true]
    refine ⟨inB_iff.2 (by rw [mir_at xs hj]; omega), ?_⟩
    by_cases e : j = 0
    · subst e
      rw [if_pos rfl, decide_eq_true_eq, mir_at xs hj, Nat.sub_zero]
      omega
    · rw [if_neg e, decide_eq_true_eq, mir_at xs hj, mir_at xs (show j - 1 < xs.length by omega)]
      have := pat_le h1 (xs.length - 1 - (j - 1)) (xs.length - 1 - j) (by omega) (by omega)
      omega
  rw [pat_end h2, mirL_len]
  exact decide_eq_true h0

/-- A mask's bits are the pattern's places. -/
theorem mk_bit {xs : List Int} (h : ∀ j, j < xs.length → patAt xs j = true) (i : Nat) : ∀ k, k ≤ xs.length → ((mkN xs k).testBit i = true ↔ ∃ j, j < k ∧ xs.getD j 0 = (i : Int))
  | 0, _ => by simp [mkN]
  | k + 1, hk => by
    have ih := mk_bit h i k (by omega)
    have h1 := pat_in (h k (by omega))
    rw [← mk_or h k (by omega), Nat.testBit_or, Bool.or_eq_true, ih, Nat.testBit_two_pow, decide_eq_true_eq]
    constructor
    · rintro (⟨j, hj, e⟩ | e)
      · exact ⟨j, by omega, e⟩
      · exact ⟨k, by omega, by omega⟩
    · rintro ⟨j, hj, e⟩
      by_cases c : j = k
      · subst c; exact .inr (by omega)
      · exact .inl ⟨j, by omega, e⟩
theorem pat_bit {xs : List Int} (h : patB xs = true) (i : Nat) : (patM xs).testBit i = true ↔ ∃ j, j < xs.length ∧ xs.getD j 0 = (i : Int) := mk_bit (pat_all h).2 i _ (Nat.le_refl _)
theorem pat_lt {xs : List Int} (h : patB xs = true) : patM xs < 8192 := mk_small (pat_all h).2 _ (Nat.le_refl _)
theorem pat_odd {xs : List Int} (h : patB xs = true) : patM xs % 2 = 1 := mk_odd (pat_all h).2 _ (pat_all h).1 (Nat.le_refl _)

/-- Two patterns of one mask are the same. -/
theorem asc_same : ∀ (k : Nat) (xs ys : List Int), xs.length = k → xs.Pairwise (fun a b => a < b) → ys.Pairwise (fun a b => a < b) → (∀ x, x ∈ xs ↔ x ∈ ys) → xs = ys
  | 0, xs, ys, hk, _, _, hm => by
    have : xs = [] := List.length_eq_zero_iff.1 hk
    subst this
    cases ys with
    | nil => rfl
    | cons y ys => exact absurd ((hm y).2 (by simp)) (by simp)
  | k + 1, xs, ys, hk, hx, hy, hm => by
    cases xs with
    | nil => simp at hk
    | cons x xs =>
      cases ys with
      | nil => exact absurd ((hm x).1 (by simp)) (by simp)
      | cons y ys =>
        rw [List.pairwise_cons] at hx hy
        have e : x = y := by
          rcases List.mem_cons.1 ((hm x).1 (by simp)) with h1 | h1
          · exact h1
          · rcases List.mem_cons.1 ((hm y).2 (by simp)) with h2 | h2
            · exact h2.symm
            · have := hx.1 y h2; have := hy.1 x h1; omega
        subst e
        rw [asc_same k xs ys (by simpa using hk) hx.2 hy.2 fun z => ?_]
        constructor
        · intro hz
          rcases List.mem_cons.1 ((hm z).1 (by simp [hz])) with h1 | h1
          · have := hx.1 z hz; omega
          · exact h1
        · intro hz
          rcases List.mem_cons.1 ((hm z).2 (by simp [hz])) with h1 | h1
          · have := hy.1 z hz; omega
          · exact h1
theorem pat_pair {xs : List Int} (h : patB xs = true) : xs.Pairwise (fun a b => a < b) := by
  rw [List.pairwise_iff_getElem]
  intro i j hi hj hij
  have := pat_le (pat_all h).2 j i hij hj
  rwa [List.getD_eq_getElem?_getD, List.getElem?_eq_getElem hi, List.getD_eq_getElem?_getD, List.getElem?_eq_getElem hj] at this
theorem pat_mem {xs : List Int} (h : patB xs = true) (x : Int) : x ∈ xs ↔ 0 ≤ x ∧ (patM xs).testBit x.toNat = true := by
  constructor
  · intro hx
    obtain ⟨j, hj, e⟩ := List.mem_iff_getElem.1 hx
    have hg : xs.getD j 0 = x := by rw [List.getD_eq_getElem?_getD, List.getElem?_eq_getElem hj]; exact e
    have := pat_in ((pat_all h).2 j hj)
    exact ⟨by omega, (pat_bit h _).2 ⟨j, hj, by omega⟩⟩
  · rintro ⟨h0, hb⟩
    obtain ⟨j, hj, e⟩ := (pat_bit h _).1 hb
    rw [Int.toNat_of_nonneg h0, List.getD_eq_getElem?_getD, List.getElem?_eq_getElem hj] at e
    exact e ▸ List.getElem_mem hj
theorem pat_same {xs ys : List Int} (hx : patB xs = true) (hy : patB ys = true) : patM xs = patM ys ↔ xs = ys := by
  constructor
  · intro e
    exact asc_same _ xs ys rfl (pat_pair hx) (pat_pair hy) fun x => by rw [pat_mem hx, pat_mem hy, e]
  · rintro rfl; rfl

/-- How many times are stripped off: the taken ones ahead, at most d. -/
def stN : Nat → Nat → Nat
  | 0, _ => 0
  | d + 1, s => if s % 2 = 1 then stN d (s / 2) + 1 else 0
theorem stN_le : ∀ d s, stN d s ≤ d
  | 0, _ => Nat.le_refl _
  | d + 1, s => by unfold stN; split; (have := stN_le d (s / 2); omega); omega
theorem stN_one : ∀ d s j, j < stN d s → s.testBit j = true
  | 0, s, j, h => absurd h (by simp [stN])
  | d + 1, s, j, h => by
    unfold stN at h
    by_cases c : s % 2 = 1
    · rw [if_pos c] at h
      cases j with
      | zero => rw [Nat.testBit_zero]; exact decide_eq_true c
      | succ j => rw [Nat.testBit_succ]; exact stN_one d (s / 2) j (by omega)
    · rw [if_neg c] at h; omega
theorem stN_zero : ∀ d s, stN d s < d → s.testBit (stN d s) = false
  | 0, _, h => absurd h (by omega)
  | d + 1, s, h => by
    unfold stN at h ⊢
    by_cases c : s % 2 = 1
    · rw [if_pos c] at h ⊢
      rw [Nat.testBit_succ]
      exact stN_zero d (s / 2) (by omega)
    · rw [if_neg c, Nat.testBit_zero]
      exact decide_eq_false c
theorem stN_pos {d s : Nat} (h : s % 2 = 1) (hd : 1 ≤ d) : 1 ≤ stN d s := by
  obtain ⟨d, rfl⟩ : ∃ e, d = e + 1 := ⟨d - 1, by omega⟩
  unfold stN
  rw [if_pos h]
  omega

/-- A row of times: all ahead of t are taken, s tells the rest. -/
def TS (T t s : Nat) : Prop := ∀ j, T.testBit j = (decide (j < t) || s.testBit (j - t))
theorem TS.zero (s : Nat) : TS s 0 s := fun j => by simp
theorem TS.strip {T t s d : Nat} (h : TS T t s) : TS T (t + stN d s) (s / 2 ^ stN d s) := fun j => by
  rw [h j, Nat.testBit_div_two_pow]
  by_cases c1 : j < t
  · simp [c1, show j < t + stN d s by omega]
  · by_cases c2 : j < t + stN d s
    · rw [stN_one d s (j - t) (by omega)]; simp [c2]
    · simp only [c1, c2, decide_false, Bool.false_or]
      congr 1
      omega
theorem TS.put {T t s m : Nat} (h : TS T t s) : TS (T ||| m * 2 ^ t) t (s ||| m) := fun j => by
  rw [Nat.testBit_or, h j, Nat.testBit_or, Nat.testBit_mul_two_pow]
  by_cases c : j < t
  · simp [c]
  · simp [c, show t ≤ j by omega]
theorem TS.free {T t s m : Nat} (h : TS T t s) : m * 2 ^ t &&& T = 0 ↔ s &&& m = 0 := by
  constructor
  · intro e
    apply Nat.eq_of_testBit_eq
    intro i
    have := congrArg (fun x => x.testBit (i + t)) e
    simp only [Nat.testBit_and, Nat.testBit_mul_two_pow, Nat.zero_testBit, h (i + t)] at this
    rw [Nat.testBit_and, Nat.zero_testBit, Bool.and_comm]
    simpa [show ¬ i + t < t by omega] using this
  · intro e
    apply Nat.eq_of_testBit_eq
    intro i
    rw [Nat.testBit_and, Nat.testBit_mul_two_pow, Nat.zero_testBit, h i]
    by_cases c : i < t
    · simp [c, show ¬ t ≤ i by omega]
    · have := congrArg (fun x => x.testBit (i - t)) e
      simp only [Nat.testBit_and, Nat.zero_testBit] at this
      rw [Bool.and_comm] at this
      simp [c, show t ≤ i by omega]
      simpa using this
theorem fit_iff {m t n : Nat} (ht : t ≤ n) : m * 2 ^ t < 2 ^ n ↔ m / 2 ^ (n - t) = 0 := by
  obtain ⟨d, rfl⟩ : ∃ d, n = t + d := ⟨n - t, by omega⟩
  rw [Nat.add_sub_cancel_left, Nat.pow_add, Nat.mul_comm m, Nat.div_eq_zero_iff, or_iff_right (by have := Nat.two_pow_pos d; omega)]
  exact Nat.mul_lt_mul_left (Nat.two_pow_pos t)
theorem TS.lt {T t s n : Nat} (h : TS T t s) (ht : t ≤ n) (hs : s < 2 ^ (n - t)) : T < 2 ^ n := by
  apply Nat.lt_pow_two_of_testBit
  intro i hi
  rw [h i]
  simp only [show ¬ i < t by omega, decide_false, Bool.false_or]
  exact Nat.testBit_lt_two_pow (Nat.lt_of_lt_of_le hs (Nat.pow_le_pow_right (by decide) (by omega)))
theorem strip_lt {n t s k : Nat} (hk : t + k ≤ n) (hs : s < 2 ^ (n - t)) : s / 2 ^ k < 2 ^ (n - (t + k)) := by
  rw [Nat.div_lt_iff_lt_mul (Nat.two_pow_pos k), ← Nat.pow_add]
  rwa [show n - (t + k) + k = n - t by omega]
theorem or_fit {s m d : Nat} (hs : s < 2 ^ d) (hm : m / 2 ^ d = 0) : s ||| m < 2 ^ d := by
  refine Nat.or_lt_two_pow hs ?_
  rcases Nat.div_eq_zero_iff.1 hm with h | h
  · have := Nat.two_pow_pos d; omega
  · exact h

/-- All covers of what is free from time t on, in order: the codes of the elements still to be laid. -/
def covL (n a b : Nat) : Nat → Nat → Nat → List (List Nat)
  | 0, _, _ => []
  | f + 1, t, s =>
    if t + stN (n - t) s = n then [[]] else
      (if s / 2 ^ stN (n - t) s &&& a = 0 ∧ a / 2 ^ (n - (t + stN (n - t) s)) = 0 then (covL n a b f (t + stN (n - t) s) (s / 2 ^ stN (n - t) s ||| a)).map (List.cons (2 * (t + stN (n - t) s))) else []) ++
      (if b ≠ a ∧ s / 2 ^ stN (n - t) s &&& b = 0 ∧ b / 2 ^ (n - (t + stN (n - t) s)) = 0 then (covL n a b f (t + stN (n - t) s) (s / 2 ^ stN (n - t) s ||| b)).map (List.cons (2 * (t + stN (n - t) s) + 1)) else [])
theorem covL_end {n a b f t s : Nat} (h : t + stN (n - t) s = n) : covL n a b (f + 1) t s = [[]] := by
  unfold covL; rw [if_pos h]
theorem covL_go {n a b f t s t' s' : Nat} (ht : t + stN (n - t) s = t') (hs : s / 2 ^ stN (n - t) s = s') (h : t' ≠ n) : covL n a b (f + 1) t s =
      (if s' &&& a = 0 ∧ a / 2 ^ (n - t') = 0 then (covL n a b f t' (s' ||| a)).map (List.cons (2 * t')) else []) ++
      (if b ≠ a ∧ s' &&& b = 0 ∧ b / 2 ^ (n - t') = 0 then (covL n a b f t' (s' ||| b)).map (List.cons (2 * t' + 1)) else []) := by
  subst ht hs
  rw [covL, if_neg h]
theorem covL_bnd (n a b : Nat) : ∀ f t s, (covL n a b f t s).length ≤ 2 ^ f
  | 0, _, _ => by simp [covL]
  | f + 1, t, s => by
    unfold covL
    split
    · have := Nat.two_pow_pos (f + 1); simp; omega
    · rw [List.length_append, Nat.pow_succ]
      have h1 : ∀ (c : Prop) [Decidable c] (t s : Nat) (x : Nat), (if c then (covL n a b f t s).map (List.cons x) else []).length ≤ 2 ^ f := fun c _ t s x => by
        split
        · rw [List.length_map]; exact covL_bnd n a b f t s
        · simp
      have := h1 (s / 2 ^ stN (n - t) s &&& a = 0 ∧ a / 2 ^ (n - (t + stN (n - t) s)) = 0) (t + stN (n - t) s) (s / 2 ^ stN (n - t) s ||| a) (2 * (t + stN (n - t) s))
      have := h1 (b ≠ a ∧ s / 2 ^ stN (n - t) s &&& b = 0 ∧ b / 2 ^ (n - (t + stN (n - t) s)) = 0) (t + stN (n - t) s) (s / 2 ^ stN (n - t) s ||| b) (2 * (t + stN (n - t) s) + 1)
      omega

/-- What a cover is, element by element. -/
def CovP (n a b : Nat) : Nat → List Nat → Prop
  | T, [] => T = 2 ^ n - 1
  | T, c :: cs => (c % 2 = 1 → b ≠ a) ∧ (if c % 2 = 1 then b else a) * 2 ^ (c / 2) &&& T = 0 ∧ (if c % 2 = 1 then b else a) * 2 ^ (c / 2) < 2 ^ n ∧ (∀ j, j < c / 2 → T.testBit j = true) ∧ T.testBit (c / 2) = false ∧ CovP n a b (T ||| (if c % 2 = 1 then b else a) * 2 ^ (c / 2)) cs
theorem TS.full {T n s : Nat} (h : TS T n s) (hs : s < 2 ^ (n - n)) : T = 2 ^ n - 1 := by
  rw [Nat.sub_self, Nat.pow_zero] at hs
  have : s = 0 := by omega
  subst this
  apply Nat.eq_of_testBit_eq
  intro i
  rw [h i, Nat.testBit_two_pow_sub_one]
  simp
theorem covL_ok {n a b : Nat} : ∀ f t s T, t ≤ n → s < 2 ^ (n - t) → TS T t s → ∀ cs ∈ covL n a b f t s, CovP n a b T cs
  | 0, _, _, _, _, _, _, cs, h => by simp [covL] at h
  | f + 1, t, s, T, ht, hs, hT, cs, h => by
    have hk := stN_le (n - t) s
    have hT' := hT.strip (d := n - t)
    have hs' := strip_lt (k := stN (n - t) s) (show t + stN (n - t) s ≤ n by omega) hs
    have hz := stN_zero (n - t) s
    obtain ⟨t', ht'⟩ : ∃ t', t + stN (n - t) s = t' := ⟨_, rfl⟩
    obtain ⟨s', hs2⟩ : ∃ s', s / 2 ^ stN (n - t) s = s' := ⟨_, rfl⟩
    rw [ht', hs2] at hT' hs'
    by_cases e : t' = n
    · rw [covL_end (ht'.trans e), List.mem_singleton] at h
      subst h
      subst e
      exact hT'.full hs'
    · have hb : T.testBit t' = false := by
        rw [hT t', ← ht']
        simp only [show ¬ t + stN (n - t) s < t by omega, decide_false, Bool.false_or, Nat.add_sub_cancel_left]
        exact hz (by omega)
      have hbj : ∀ j, j < t' → T.testBit j = true := fun j hj => by rw [hT' j]; simp [hj]
      rw [covL_go ht' hs2 e, List.mem_append] at h
      have he2 : (2 * t') % 2 = 0 := by omega
      have he3 : (2 * t') / 2 = t' := by omega
      have ho2 : (2 * t' + 1) % 2 = 1 := by omega
      have ho3 : (2 * t' + 1) / 2 = t' := by omega
      rcases h with h | h
      · split at h
        · rename_i hc
          obtain ⟨ds, hd, rfl⟩ := List.mem_map.1 h
          refine ⟨fun x => by omega, ?_⟩
          rw [he2, he3, if_neg (by decide)]
          exact ⟨hT'.free.2 hc.1, (fit_iff (by omega)).2 hc.2, hbj, hb, covL_ok f t' (s' ||| a) _ (by omega) (or_fit hs' hc.2) hT'.put ds hd⟩
        · simp at h
      · split at h
        · rename_i hc
          obtain ⟨ds, hd, rfl⟩ := List.mem_map.1 h
          refine ⟨fun _ => hc.1, ?_⟩
          rw [ho2, ho3, if_pos rfl]
          exact ⟨hT'.free.2 hc.2.1, (fit_iff (by omega)).2 hc.2.2, hbj, hb, covL_ok f t' (s' ||| b) _ (by omega) (or_fit hs' hc.2.2) hT'.put ds hd⟩
        · simp at h

/-- The covers of n times, and the least n that has one. -/
def covN (xs : List Int) (n : Nat) : List (List Nat) := covL n (patM xs) (patM (mirL xs)) (n + 1) 0 0
def lstC (xs : List Int) : Nat → Nat → Nat
  | 0, _ => 0
  | d + 1, n => if covN xs n = [] then lstC xs d (n + 1) else n
def leastC (xs : List Int) : Nat := lstC xs 24 1

/-- The trailing zeros of what is free. -/
theorem ctz_bit : ∀ m f x : Nat, (∀ j, j < m → x.testBit j = false) → x.testBit m = true → m < f → Lib.ctzFrom f x = m
  | 0, f, x, _, h, hf => by
    obtain ⟨f, rfl⟩ : ∃ e, f = e + 1 := ⟨f - 1, by omega⟩
    rw [Nat.testBit_zero, decide_eq_true_eq] at h
    unfold Lib.ctzFrom
    rw [if_pos h]
  | m + 1, f, x, h0, h, hf => by
    obtain ⟨f, rfl⟩ : ∃ e, f = e + 1 := ⟨f - 1, by omega⟩
    have h1 := h0 0 (by omega)
    rw [Nat.testBit_zero, decide_eq_false_iff_not] at h1
    unfold Lib.ctzFrom
    rw [if_neg h1, ctz_bit m f (x / 2) (fun j hj => by rw [← Nat.testBit_succ]; exact h0 (j + 1) (by omega)) (by rw [← Nat.testBit_succ]; exact h) (by omega)]
    omega
theorem ctz_free {T m : Nat} (hT : T < 2 ^ 24) (h1 : ∀ j, j < m → T.testBit j = true) (h2 : T.testBit m = false) (hm : m < 64) : Lib.ctz 64 (2 ^ 64 - 1 - T) = m := by
  have hb : ∀ i, (2 ^ 64 - 1 - T).testBit i = (decide (i < 64) && !T.testBit i) := fun i => by
    rw [show 2 ^ 64 - 1 - T = 2 ^ 64 - (T + 1) by omega, Nat.testBit_two_pow_sub_succ (by omega)]
  unfold Lib.ctz
  rw [if_neg (by omega)]
  refine ctz_bit m 64 _ (fun j hj => ?_) ?_ hm
  · rw [hb, h1 j hj]; simp
  · rw [hb, h2]; simp [hm]
end Go.Proofs.YtoofkchhjkhdeaaDoor
