/-
  The text of a cover, in plain words: which element takes which time.
-/
import Derived.Test.YtoofkchhjkhdeaaDoorCovT
namespace Go.Proofs.YtoofkchhjkhdeaaDoor
open Go.RowKit
set_option linter.unusedVariables false
set_option linter.unusedSimpArgs false

/-- An element's places. -/
def shp (xs : List Int) (c : Nat) : List Int := if c % 2 = 1 then mirL xs else xs
theorem shp_len (xs : List Int) (c : Nat) : (shp xs c).length = xs.length := by unfold shp; split; exact mirL_len xs; rfl
theorem shp_ok {xs : List Int} (h : patB xs = true) (c : Nat) : patB (shp xs c) = true := by unfold shp; split; exact mir_ok h; exact h
theorem shp_mask (xs : List Int) (c : Nat) : (if c % 2 = 1 then patM (mirL xs) else patM xs) = patM (shp xs c) := by unfold shp; split <;> rfl
def laidL (xs : List Int) (c : Nat) : List Int := (shp xs c).map fun x => ((c / 2 : Nat) : Int) + x
theorem laidL_len (xs : List Int) (c : Nat) : (laidL xs c).length = xs.length := by unfold laidL; rw [List.length_map, shp_len]
theorem laidL_at (xs : List Int) (c : Nat) {j : Nat} (hj : j < xs.length) : (laidL xs c).getD j 0 = ((c / 2 : Nat) : Int) + (shp xs c).getD j 0 := by
  have h : j < (shp xs c).length := by rw [shp_len]; exact hj
  unfold laidL
  rw [List.getD_eq_getElem?_getD, List.getElem?_map, List.getElem?_eq_getElem h, List.getD_eq_getElem?_getD, List.getElem?_eq_getElem h]
  rfl
theorem or_mul (a b p : Nat) : (a ||| b) * 2 ^ p = a * 2 ^ p ||| b * 2 ^ p := by
  rw [← Nat.shiftLeft_eq, ← Nat.shiftLeft_eq, ← Nat.shiftLeft_eq, Nat.shiftLeft_or_distrib]
/-- The mask of what an element takes, place by place. -/
theorem laid_or {xs : List Int} (h : patB xs = true) (c : Nat) {j : Nat} (hj : j < xs.length) :
    mkN (shp xs c) j * 2 ^ (c / 2) ||| 2 ^ ((laidL xs c).getD j 0).toNat = mkN (shp xs c) (j + 1) * 2 ^ (c / 2) := by
  have h1 := pat_all (shp_ok h c)
  have h2 := pat_in (h1.2 j (by rw [shp_len]; exact hj))
  rw [laidL_at xs c hj, show (((c / 2 : Nat) : Int) + (shp xs c).getD j 0).toNat = ((shp xs c).getD j 0).toNat + c / 2 by omega, Nat.pow_add, ← or_mul, mk_or h1.2 j (by rw [shp_len]; exact hj)]
theorem laid_bnd {xs : List Int} (h : patB xs = true) {c : Nat} (hc : c < 50) {j : Nat} (hj : j ≤ xs.length) : mkN (shp xs c) j * 2 ^ (c / 2) < 2 ^ 38 := by
  have h1 := mk_small (pat_all (shp_ok h c)).2 j (by rw [shp_len]; exact hj)
  have h2 : 2 ^ (c / 2) ≤ 2 ^ 24 := Nat.pow_le_pow_right (by decide) (by omega)
  exact Nat.lt_of_le_of_lt (Nat.mul_le_mul (Nat.le_of_lt h1) h2) (by decide)
theorem laid_in {xs : List Int} (h : patB xs = true) (c : Nat) {j : Nat} (hj : j < xs.length) : ((c / 2 : Nat) : Int) ≤ (laidL xs c).getD j 0 ∧ (laidL xs c).getD j 0 ≤ ((c / 2 : Nat) : Int) + 12 := by
  have h2 := pat_in ((pat_all (shp_ok h c)).2 j (by rw [shp_len]; exact hj))
  rw [laidL_at xs c hj]
  omega
theorem laid_fits {xs : List Int} (h : patB xs = true) {c : Nat} (hc : c < 100) : ∀ x ∈ laidL xs c, Fits x := fun x hx => by
  obtain ⟨j, hj, e⟩ := List.mem_iff_getElem.1 hx
  have := laid_in h c (j := j) (by rw [laidL_len] at hj; exact hj)
  rw [List.getD_eq_getElem?_getD, List.getElem?_eq_getElem hj, Option.getD_some, e] at this
  unfold Fits
  omega

/-- Times marked, place by place. -/
def putJ (f : Nat → Int) (L : List Int) (i : Int) : Nat → Nat → Int
  | 0 => f
  | j + 1 => fun t => if (t : Int) = L.getD j 0 then i else putJ f L i j t
theorem putJ_is (f : Nat → Int) (L : List Int) (i : Int) (t : Nat) : ∀ j, (putJ f L i j t = i ∧ ∃ q, q < j ∧ L.getD q 0 = (t : Int)) ∨ (putJ f L i j t = f t ∧ ∀ q, q < j → L.getD q 0 ≠ (t : Int))
  | 0 => .inr ⟨rfl, fun q h => absurd h (by omega)⟩
  | j + 1 => by
    unfold putJ
    by_cases c : (t : Int) = L.getD j 0
    · rw [if_pos c]; exact .inl ⟨rfl, j, by omega, c.symm⟩
    · rw [if_neg c]
      rcases putJ_is f L i t j with ⟨h, q, h1, h2⟩ | ⟨h, h1⟩
      · exact .inl ⟨h, q, by omega, h2⟩
      · refine .inr ⟨h, fun q hq => ?_⟩
        by_cases e : q = j
        · subst e; exact fun e => c e.symm
        · exact h1 q (by omega)
/-- After the first i elements. -/
def takI (xs : List Int) (cs : List Nat) : Nat → Nat → Int
  | 0 => fun _ => -1
  | i + 1 => putJ (takI xs cs i) (laidL xs (cs.getD i 0)) i xs.length

def MarkR (n m : Nat) (f : Nat → Int) (T : Nat) : Prop := ∀ t, t < n → (T.testBit t = false ∧ f t = -1) ∨ (T.testBit t = true ∧ 0 ≤ f t ∧ f t < (m : Int))
theorem markR_zero (n m : Nat) : MarkR n m (fun _ => -1) 0 := fun t _ => .inl ⟨Nat.zero_testBit t, rfl⟩
theorem laid_mem {xs : List Int} (h : patB xs = true) (c t : Nat) : (patM (shp xs c) * 2 ^ (c / 2)).testBit t = true ↔ ∃ q, q < xs.length ∧ (laidL xs c).getD q 0 = (t : Int) := by
  rw [Nat.testBit_mul_two_pow, Bool.and_eq_true, decide_eq_true_eq, pat_bit (shp_ok h c), shp_len]
  constructor
  · rintro ⟨h1, q, hq, e⟩
    exact ⟨q, hq, by rw [laidL_at xs c hq, e]; omega⟩
  · rintro ⟨q, hq, e⟩
    have := laid_in h c hq
    rw [laidL_at xs c hq] at e this
    exact ⟨by omega, q, hq, by omega⟩

theorem cov_step {xs : List Int} {n T c i : Nat} {cs : List Nat} {f : Nat → Int} (hp : patB xs = true) (h : CovP n (patM xs) (patM (mirL xs)) T (c :: cs)) (hR : MarkR n i f T) :
    (c % 2 = 1 → mirL xs ≠ xs) ∧ c / 2 < n ∧ (∀ j, j < xs.length → 0 ≤ (laidL xs c).getD j 0 ∧ (laidL xs c).getD j 0 < n ∧ putJ f (laidL xs c) i j ((laidL xs c).getD j 0).toNat = -1) ∧
      MarkR n (i + 1) (putJ f (laidL xs c) i xs.length) (T ||| patM (shp xs c) * 2 ^ (c / 2)) ∧ (∀ j, j ≤ c / 2 → (T ||| patM (shp xs c) * 2 ^ (c / 2)).testBit j = true) ∧ (∀ j, j < c / 2 → T.testBit j = true) ∧ T.testBit (c / 2) = false ∧ CovP n (patM xs) (patM (mirL xs)) (T ||| patM (shp xs c) * 2 ^ (c / 2)) cs := by
  obtain ⟨h1, h2, h3, h4, h5, h6⟩ := h
  rw [shp_mask] at h2 h3 h6
  have hm : ∀ j, j < xs.length → (patM (shp xs c) * 2 ^ (c / 2)).testBit ((laidL xs c).getD j 0).toNat = true := fun j hj => by
    have := laid_in hp c hj
    exact (laid_mem hp c _).2 ⟨j, hj, by omega⟩
  have hlt : ∀ t, (patM (shp xs c) * 2 ^ (c / 2)).testBit t = true → t < n := fun t ht => by
    apply Nat.lt_of_not_le
    intro hle
    have := Nat.testBit_lt_two_pow (Nat.lt_of_lt_of_le h3 (Nat.pow_le_pow_right (by decide) hle))
    rw [this] at ht
    cases ht
  have hdj : ∀ t, (patM (shp xs c) * 2 ^ (c / 2)).testBit t = true → T.testBit t = false := fun t ht => by
    have := congrArg (fun x => x.testBit t) h2
    simp only [Nat.testBit_and, Nat.zero_testBit, ht, Bool.true_and] at this
    exact this
  have hx0 := (pat_all hp).1
  have hbc : (patM (shp xs c) * 2 ^ (c / 2)).testBit (c / 2) = true := by
    rw [Nat.testBit_mul_two_pow]
    simp only [Nat.le_refl, decide_true, Bool.true_and, Nat.sub_self, Nat.testBit_zero]
    exact decide_eq_true (pat_odd (shp_ok hp c))
  refine ⟨fun e1 e2 => h1 e1 (by rw [e2]), hlt _ hbc, fun j hj => ?_, fun t ht => ?_, fun j hj => ?_, h4, h5, h6⟩
  · have hb := hm j hj
    have hin := laid_in hp c hj
    have hl := hlt _ hb
    refine ⟨by omega, by omega, ?_⟩
    rcases putJ_is f (laidL xs c) i ((laidL xs c).getD j 0).toNat j with ⟨_, q, hq, e⟩ | ⟨e, _⟩
    · have h7 := pat_le (pat_all (shp_ok hp c)).2 j q hq (by rw [shp_len]; exact hj)
      rw [laidL_at xs c hj] at hin
      rw [laidL_at xs c (show q < xs.length by omega), laidL_at xs c hj] at e
      omega
    · rw [e]
      rcases hR _ hl with ⟨_, e2⟩ | ⟨e2, _⟩
      · exact e2
      · rw [hdj _ hb] at e2; cases e2
  · rw [Nat.testBit_or]
    rcases putJ_is f (laidL xs c) i t xs.length with ⟨e, q, hq, e2⟩ | ⟨e, e2⟩
    · rw [(laid_mem hp c t).2 ⟨q, hq, e2⟩, e]
      exact .inr ⟨by simp, by omega, by omega⟩
    · rw [show (patM (shp xs c) * 2 ^ (c / 2)).testBit t = false from Bool.eq_false_iff.2 fun hh => by
        obtain ⟨q, hq, e3⟩ := (laid_mem hp c t).1 hh
        exact e2 q hq e3, Bool.or_false, e]
      rcases hR t ht with h7 | ⟨h7, h8, h9⟩
      · exact .inl h7
      · exact .inr ⟨h7, h8, by omega⟩
  · rw [Nat.testBit_or]
    by_cases e : j = c / 2
    · subst e; rw [hbc, Bool.or_true]
    · rw [h4 j (by omega), Bool.true_or]
theorem cov_next {n a b T c m : Nat} {cs : List Nat} (h : CovP n a b T (c :: cs)) (hm : ∀ j, j ≤ m → T.testBit j = true) : m < c / 2 := by
  obtain ⟨_, _, _, _, h5, _⟩ := h
  apply Nat.lt_of_not_le
  intro hle
  rw [hm _ hle] at h5
  cases h5
theorem covL_len {n a b : Nat} : ∀ f t s, ∀ cs ∈ covL n a b f t s, cs.length + 1 ≤ f
  | 0, _, _, cs, h => by simp [covL] at h
  | f + 1, t, s, cs, h => by
    unfold covL at h
    split at h
    · rw [List.mem_singleton] at h; subst h; simp
    · rw [List.mem_append] at h
      rcases h with h | h
      all_goals
        split at h
        · obtain ⟨ds, hd, rfl⟩ := List.mem_map.1 h
          have := covL_len f _ _ ds hd
          simpa using this
        · simp at h

/-- The bytes of a cover's text. -/
def covS (xs : List Int) (n : Nat) (cs : List Nat) : List UInt8 := (List.range n).map fun t => UInt8.ofNat (97 + (takI xs cs cs.length t).toNat)
theorem covS_len (xs : List Int) (n : Nat) (cs : List Nat) : (covS xs n cs).length = n := by unfold covS; simp
theorem cov_all {xs : List Int} {n : Nat} (hp : patB xs = true) {cs : List Nat} (h : cs ∈ covN xs n) : ∀ i, i ≤ cs.length → ∃ T, MarkR n i (takI xs cs i) T ∧ CovP n (patM xs) (patM (mirL xs)) T (cs.drop i) ∧ (0 < i → ∀ j, j ≤ cs.getD (i - 1) 0 / 2 → T.testBit j = true)
  | 0, _ => ⟨0, markR_zero n 0, covL_ok (n + 1) 0 0 0 (by omega) (Nat.two_pow_pos _) (TS.zero 0) cs h, fun h => absurd h (by omega)⟩
  | i + 1, hi => by
    obtain ⟨T, h1, h2, _⟩ := cov_all hp h i (by omega)
    have hd : cs.drop i = cs.getD i 0 :: cs.drop (i + 1) := by
      rw [List.drop_eq_getElem_cons (show i < cs.length by omega), List.getD_eq_getElem?_getD, List.getElem?_eq_getElem (show i < cs.length by omega)]
      rfl
    rw [hd] at h2
    obtain ⟨_, _, _, h6, h7, _, _, h8⟩ := cov_step hp h2 h1
    exact ⟨_, h6, h8, fun _ => h7⟩
/-- At the end all times are taken. -/
theorem cov_full {xs : List Int} {n : Nat} (hp : patB xs = true) {cs : List Nat} (h : cs ∈ covN xs n) : ∀ t, t < n → 0 ≤ takI xs cs cs.length t ∧ takI xs cs cs.length t < (cs.length : Int) := fun t ht => by
  obtain ⟨T, h1, h2, _⟩ := cov_all hp h cs.length (Nat.le_refl _)
  rw [List.drop_length] at h2
  have h3 : T = 2 ^ n - 1 := h2
  rcases h1 t ht with ⟨h4, _⟩ | ⟨_, h4⟩
  · rw [h3, Nat.testBit_two_pow_sub_one] at h4; simp [ht] at h4
  · exact h4
theorem covN_len {xs : List Int} {n : Nat} {cs : List Nat} (h : cs ∈ covN xs n) : cs.length ≤ n := by
  have := covL_len _ _ _ cs h; omega
/-- What the walk of one element asks. -/
theorem cov_at {xs : List Int} {n : Nat} (hp : patB xs = true) {cs : List Nat} (h : cs ∈ covN xs n) {i : Nat} (hi : i < cs.length) :
    (cs.getD i 0 % 2 = 1 → mirL xs ≠ xs) ∧ cs.getD i 0 / 2 < n ∧ (0 < i → cs.getD (i - 1) 0 < cs.getD i 0) ∧
      ∀ j, j < xs.length → 0 ≤ (laidL xs (cs.getD i 0)).getD j 0 ∧ (laidL xs (cs.getD i 0)).getD j 0 < n ∧ putJ (takI xs cs i) (laidL xs (cs.getD i 0)) i j ((laidL xs (cs.getD i 0)).getD j 0).toNat = -1 := by
  obtain ⟨T, h1, h2, h3⟩ := cov_all hp h i (by omega)
  have hd : cs.drop i = cs.getD i 0 :: cs.drop (i + 1) := by
    rw [List.drop_eq_getElem_cons hi, List.getD_eq_getElem?_getD, List.getElem?_eq_getElem hi]
    rfl
  rw [hd] at h2
  obtain ⟨h4, h5, h6, _⟩ := cov_step hp h2 h1
  exact ⟨h4, h5, fun h0 => by have := cov_next h2 (h3 h0); omega, h6⟩

theorem lstC_at (xs : List Int) : ∀ d n, (lstC xs d n = 0 ∧ ∀ m, n ≤ m → m < n + d → covN xs m = []) ∨ (n ≤ lstC xs d n ∧ lstC xs d n < n + d ∧ covN xs (lstC xs d n) ≠ [])
  | 0, n => .inl ⟨rfl, fun m h1 h2 => absurd h2 (by omega)⟩
  | d + 1, n => by
    unfold lstC
    by_cases c : covN xs n = []
    · rw [if_pos c]
      rcases lstC_at xs d (n + 1) with ⟨h1, h2⟩ | ⟨h1, h2, h3⟩
      · refine .inl ⟨h1, fun m h3 h4 => ?_⟩
        by_cases e : m = n
        · subst e; exact c
        · exact h2 m (by omega) (by omega)
      · exact .inr ⟨by omega, by omega, h3⟩
    · rw [if_neg c]
      exact .inr ⟨by omega, by omega, c⟩
end Go.Proofs.YtoofkchhjkhdeaaDoor
