/-
  Patterns laid on a line, in plain words: the mask, a step, the block and its least period.
-/
import Derived.Test.YtoofkchhjkhdeaaDoorIntW
namespace Go.Proofs.YtoofkchhjkhdeaaDoor
open Go.RowKit
set_option linter.unusedVariables false
set_option linter.unusedSimpArgs false

/-- Place i of a pattern is as it must be. -/
def patAt (xs : List Int) (i : Nat) : Bool := inB (xs.getD i 0) 0 12 && (if i = 0 then decide (xs.getD 0 0 = 0) else decide (xs.getD (i - 1) 0 < xs.getD i 0))
def patB (xs : List Int) : Bool := decide (0 < xs.length) && (List.range xs.length).all (patAt xs)
theorem pat_no {xs : List Int} {k : Nat} (hk : k < xs.length) (h : patAt xs k = false) : patB xs = false := by
  unfold patB
  rw [Bool.and_eq_false_iff]
  refine .inr ?_
  rw [List.all_eq_false]
  exact ⟨k, List.mem_range.2 hk, by rw [h]; decide⟩
theorem pat_end {xs : List Int} (h : ∀ j, j < xs.length → patAt xs j = true) : patB xs = decide (0 < xs.length) := by
  unfold patB
  rw [List.all_eq_true.2 (fun j hj => h j (List.mem_range.1 hj)), Bool.and_true]
theorem pat_all {xs : List Int} (h : patB xs = true) : 0 < xs.length ∧ ∀ j, j < xs.length → patAt xs j = true := by
  unfold patB at h
  rw [Bool.and_eq_true, decide_eq_true_eq, List.all_eq_true] at h
  exact ⟨h.1, fun j hj => h.2 j (List.mem_range.2 hj)⟩
theorem pat_in {xs : List Int} {j : Nat} (h : patAt xs j = true) : 0 ≤ xs.getD j 0 ∧ xs.getD j 0 ≤ 12 := by
  unfold patAt at h
  rw [Bool.and_eq_true] at h
  exact inB_iff.1 h.1
theorem pat_first {xs : List Int} (h : patAt xs 0 = true) : xs.getD 0 0 = 0 := by
  unfold patAt at h
  rw [Bool.and_eq_true, if_pos rfl, decide_eq_true_eq] at h
  exact h.2
theorem pat_asc {xs : List Int} {j : Nat} (h0 : 0 < j) (h : patAt xs j = true) : xs.getD (j - 1) 0 < xs.getD j 0 := by
  unfold patAt at h
  rw [Bool.and_eq_true, if_neg (by omega), decide_eq_true_eq] at h
  exact h.2

/-- The mask of the first k places. -/
def mkN (xs : List Int) : Nat → Nat
  | 0 => 0
  | k + 1 => mkN xs k + 2 ^ (xs.getD k 0).toNat
theorem mk_lt {xs : List Int} (h : ∀ j, j < xs.length → patAt xs j = true) : ∀ k, k < xs.length → mkN xs k < 2 ^ (xs.getD k 0).toNat
  | 0, _ => Nat.two_pow_pos _
  | k + 1, hk => by
    have ih := mk_lt h k (by omega)
    have h1 := pat_in (h k (by omega))
    have h2 := pat_asc (by omega) (h (k + 1) hk)
    rw [Nat.add_sub_cancel] at h2
    have h3 : 2 ^ ((xs.getD k 0).toNat + 1) ≤ 2 ^ (xs.getD (k + 1) 0).toNat := Nat.pow_le_pow_right (by omega) (by omega)
    have h4 : 2 ^ ((xs.getD k 0).toNat + 1) = 2 ^ (xs.getD k 0).toNat * 2 := Nat.pow_succ ..
    show mkN xs k + 2 ^ (xs.getD k 0).toNat < _
    omega
theorem mk_or {xs : List Int} (h : ∀ j, j < xs.length → patAt xs j = true) (k : Nat) (hk : k < xs.length) : mkN xs k ||| 2 ^ (xs.getD k 0).toNat = mkN xs (k + 1) := by
  have := Nat.two_pow_add_eq_or_of_lt (mk_lt h k hk) 1
  rw [Nat.mul_one] at this
  show _ = mkN xs k + 2 ^ (xs.getD k 0).toNat
  rw [Nat.or_comm, ← this, Nat.add_comm]
theorem mk_small {xs : List Int} (h : ∀ j, j < xs.length → patAt xs j = true) (k : Nat) (hk : k ≤ xs.length) : mkN xs k < 8192 := by
  cases k with
  | zero => exact (by decide : (0 : Nat) < 8192)
  | succ k =>
    have ih := mk_lt h k (by omega)
    have h1 := pat_in (h k (by omega))
    have h3 : 2 ^ ((xs.getD k 0).toNat + 1) ≤ 2 ^ 13 := Nat.pow_le_pow_right (by omega) (by omega)
    have h4 : 2 ^ ((xs.getD k 0).toNat + 1) = 2 ^ (xs.getD k 0).toNat * 2 := Nat.pow_succ ..
    show mkN xs k + 2 ^ (xs.getD k 0).toNat < _
    omega
theorem mk_odd {xs : List Int} (h : ∀ j, j < xs.length → patAt xs j = true) : ∀ k, 0 < k → k ≤ xs.length → mkN xs k % 2 = 1
  | 1, _, hk => by
    have := pat_first (h 0 (by omega))
    show (0 + 2 ^ (xs.getD 0 0).toNat) % 2 = 1
    rw [this]; rfl
  | k + 2, _, hk => by
    have ih := mk_odd h (k + 1) (by omega) (by omega)
    have h1 := pat_in (h k (by omega))
    have h2 := pat_asc (by omega) (h (k + 1) (by omega))
    rw [Nat.add_sub_cancel] at h2
    obtain ⟨e, he⟩ : ∃ e, (xs.getD (k + 1) 0).toNat = e + 1 := ⟨(xs.getD (k + 1) 0).toNat - 1, by omega⟩
    show (mkN xs (k + 1) + 2 ^ (xs.getD (k + 1) 0).toNat) % 2 = 1
    rw [he, Nat.pow_succ]
    omega

/-- The ones at the end of a number are struck off; how many they were. -/
def strF : Nat → Nat → Nat × Nat
  | 0, s => (s, 0)
  | f + 1, s => if s % 2 = 1 then ((strF f (s / 2)).1, (strF f (s / 2)).2 + 1) else (s, 0)
theorem strF_even {f s : Nat} (h : s % 2 = 0) : strF f s = (s, 0) := by
  cases f with
  | zero => rfl
  | succ f => show (if s % 2 = 1 then _ else _) = _; rw [if_neg (by omega)]
theorem strF_odd {f s : Nat} (h : s % 2 = 1) : strF (f + 1) s = ((strF f (s / 2)).1, (strF f (s / 2)).2 + 1) := by
  show (if s % 2 = 1 then _ else _) = _; rw [if_pos h]
theorem strF_lt : ∀ (f s : Nat), (strF f s).1 ≤ s ∧ (strF f s).2 ≤ f
  | 0, s => ⟨Nat.le_refl _, Nat.le_refl _⟩
  | f + 1, s => by
    unfold strF
    by_cases h : s % 2 = 1
    · rw [if_pos h]
      have := strF_lt f (s / 2)
      exact ⟨by show (strF f (s / 2)).1 ≤ s; omega, by show (strF f (s / 2)).2 + 1 ≤ f + 1; omega⟩
    · rw [if_neg h]; exact ⟨Nat.le_refl _, Nat.zero_le _⟩

/-- The block: what comes of laying (1: it fails, at the time; 2: it comes back, after the time, with the entries). -/
def runB : Nat → Nat → Nat → Nat → List Nat → Nat × Nat × List Nat
  | 0, _, _, _, _ => (0, 0, [])
  | f + 1, M, s, t, es => if s &&& M = 0 then (if (strF 14 (s + M)).1 = 0 then (2, t + (strF 14 (s + M)).2, es ++ [t]) else runB f M (strF 14 (s + M)).1 (t + (strF 14 (s + M)).2) (es ++ [t])) else (1, t, [])
theorem runB_fail {f M s t : Nat} {es : List Nat} (h : s &&& M ≠ 0) : runB (f + 1) M s t es = (1, t, []) := by unfold runB; rw [if_neg h]
theorem runB_back {f M s t n : Nat} {es : List Nat} (h : s &&& M = 0) (h2 : strF 14 (s + M) = (0, n)) : runB (f + 1) M s t es = (2, t + n, es ++ [t]) := by unfold runB; rw [if_pos h, h2, if_pos rfl]
theorem runB_on {f M s t s' n : Nat} {es : List Nat} (h : s &&& M = 0) (h2 : strF 14 (s + M) = (s', n)) (h0 : s' ≠ 0) : runB (f + 1) M s t es = runB f M s' (t + n) (es ++ [t]) := by
  show (if s &&& M = 0 then _ else _) = _
  rw [if_pos h, h2, if_neg h0]
def blk (M : Nat) : Nat × Nat × List Nat := runB 13 M 0 0 []

/-- Whether a shift by q leaves the entries. -/
def shB (p : Nat) (es : List Nat) (q : Nat) : Bool := es.all fun t => decide ((t + q) % p ∈ es)
def chkB (M : Nat) : Bool :=
  ((blk M).1 == 1 && decide ((blk M).2.1 ≤ 24)) ||
  ((blk M).1 == 2 && decide (1 ≤ (blk M).2.1) && decide ((blk M).2.1 ≤ 24) && decide ((blk M).2.2.length ≤ 13) && (blk M).2.2.all (fun t => decide (t < (blk M).2.1)) &&
    (List.range (blk M).2.1).all fun q => q == 0 || (blk M).2.1 % q != 0 || !(shB (blk M).2.1 (blk M).2.2 q))
theorem blk_chk : ((List.range 4096).all fun h => chkB (2 * h + 1)) = true := by decide +kernel
theorem blk_of {M : Nat} (h1 : M < 8192) (h2 : M % 2 = 1) : chkB M = true := by
  have := List.all_eq_true.1 blk_chk (M / 2) (List.mem_range.2 (by omega))
  rwa [show 2 * (M / 2) + 1 = M by omega] at this
theorem blk_cases {M : Nat} (h1 : M < 8192) (h2 : M % 2 = 1) :
    ((blk M).1 = 1 ∧ (blk M).2.1 ≤ 24) ∨
    ((blk M).1 = 2 ∧ 1 ≤ (blk M).2.1 ∧ (blk M).2.1 ≤ 24 ∧ (blk M).2.2.length ≤ 13 ∧ (∀ t ∈ (blk M).2.2, t < (blk M).2.1) ∧
      ∀ q, 0 < q → q < (blk M).2.1 → (blk M).2.1 % q = 0 → shB (blk M).2.1 (blk M).2.2 q = false) := by
  have h := blk_of h1 h2
  unfold chkB at h
  generalize blk M = r at h ⊢
  simp only [Bool.or_eq_true, Bool.and_eq_true, beq_iff_eq, decide_eq_true_eq, List.all_eq_true, bne_iff_ne, Bool.not_eq_true'] at h
  rcases h with h | ⟨⟨⟨⟨⟨a1, a2⟩, a3⟩, a4⟩, a5⟩, a6⟩
  · exact .inl h
  · refine .inr ⟨a1, a2, a3, a4, a5, fun q h0 hq hz => ?_⟩
    rcases a6 q (List.mem_range.2 hq) with (e | e) | e
    · omega
    · exact absurd hz e
    · exact e

theorem or_add {s M : Nat} (h : s &&& M = 0) (hs : s < 65536) (hM : M < 65536) : s ||| M = s + M := by
  have e := BitVec.add_eq_or_of_and_eq_zero (BitVec.ofNat 32 s) (BitVec.ofNat 32 M) (by
    apply BitVec.eq_of_toNat_eq
    rw [BitVec.toNat_and, BitVec.toNat_ofNat, BitVec.toNat_ofNat, Nat.mod_eq_of_lt (by omega), Nat.mod_eq_of_lt (by omega), h]; rfl)
  have e2 := congrArg BitVec.toNat e
  rw [BitVec.toNat_add, BitVec.toNat_or, BitVec.toNat_ofNat, BitVec.toNat_ofNat, Nat.mod_eq_of_lt (show s < 2 ^ 32 by omega), Nat.mod_eq_of_lt (show M < 2 ^ 32 by omega), Nat.mod_eq_of_lt (by omega)] at e2
  exact e2.symm

/-- What both say of a pattern. -/
def patM (xs : List Int) : Nat := mkN xs xs.length
def lcanV (xs : List Int) : Bool := patB xs && ((blk (patM xs)).1 == 2)
def lperV (xs : List Int) : Nat := if lcanV xs then (blk (patM xs)).2.1 else 0
def lentV (xs : List Int) : List Int := if lcanV xs then (blk (patM xs)).2.2.map (fun (t : Nat) => (t : Int)) else []
def lfailV (xs : List Int) : Int := if patB xs && !lcanV xs then (blk (patM xs)).2.1 else -1

end Go.Proofs.YtoofkchhjkhdeaaDoor
