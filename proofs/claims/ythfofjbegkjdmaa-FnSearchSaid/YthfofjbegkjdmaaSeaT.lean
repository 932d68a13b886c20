/-
  Plain laws on rhythms of a wish: their numbers, their order, their steps.
-/
import Derived.Test.YthfofjbegkjdmaaIdxFor
import Derived.Test.YthfofjbegkjdmaaPick
import Derived.Test.YthfofjbegkjdmaaColl
namespace Go.Proofs.Ythfofjbegkjdmaa
open Go.RowKit
set_option linter.unusedVariables false
set_option linter.unusedSimpArgs false

theorem pk_cnt (lo : Int) (m k : Nat) (n : Int) : ∀ (f j : Nat) (x : Int), cntS lo m k n (pk lo m k n f j x).1 + (pk lo m k n f j x).2 = cntS lo m k n j + x
  | 0, j, x => rfl
  | f + 1, j, x => by
    by_cases hc : stN lo m k (n - (lo + j)) ≤ x
    · rw [pk_go hc, pk_cnt lo m k n f (j + 1)]
      show cntS lo m k n j + stN lo m k (n - (lo + j)) + _ = _
      omega
    · rw [pk_stop (by omega)]
theorem pk_ge (lo : Int) (m k : Nat) (n : Int) : ∀ (f j : Nat) (x : Int), j ≤ (pk lo m k n f j x).1
  | 0, j, x => Nat.le_refl _
  | f + 1, j, x => by
    by_cases hc : stN lo m k (n - (lo + j)) ≤ x
    · rw [pk_go hc]
      have := pk_ge lo m k n f (j + 1) (x - stN lo m k (n - (lo + j)))
      omega
    · rw [pk_stop (by omega)]; exact Nat.le_refl _
theorem pk_mono (lo : Int) (m k : Nat) (n : Int) : ∀ (f j : Nat) (x y : Int), x ≤ y → (pk lo m k n f j x).1 ≤ (pk lo m k n f j y).1
  | 0, j, x, y, _ => Nat.le_refl _
  | f + 1, j, x, y, h => by
    by_cases hc : stN lo m k (n - (lo + j)) ≤ x
    · rw [pk_go hc, pk_go (by omega : stN lo m k (n - (lo + j)) ≤ y)]
      exact pk_mono lo m k n f (j + 1) _ _ (by omega)
    · rw [pk_stop (by omega : x < _)]
      exact pk_ge lo m k n (f + 1) j y

/-- The number of a wished list is the number it was made of. -/
theorem ix_wish (lo : Int) (m : Nat) : ∀ (k : Nat) (n x : Int), 0 ≤ x → x < stN lo m k n → ixL lo m (wishL lo m k n x) n = x
  | 0, n, x, h0, h => by
    have : x = 0 := by unfold stN at h; split at h <;> omega
    rw [this]; rfl
  | k + 1, n, x, h0, h => by
    obtain ⟨h1, h2, h3⟩ := pk_ok h0 h
    have hc := pk_cnt lo m k n m 0 x
    have h00 : cntS lo m k n 0 = 0 := rfl
    rw [wishL_succ]
    show cntS lo m (wishL lo m k _ _).length n _ + ixL lo m _ _ = x
    rw [wishL_len, ix_wish lo m k _ _ h2 h3, show (lo + ((pk lo m k n m 0 x).1 : Int) - lo).toNat = (pk lo m k n m 0 x).1 by omega]
    omega

/-- In lexicographic order, and not the beginning. -/
def befL : List Int → List Int → Bool
  | [], _ => false
  | _ :: _, [] => false
  | x :: a, y :: b => if x = y then befL a b else decide (x < y)
theorem wish_lt (lo : Int) (m : Nat) : ∀ (k : Nat) (n x y : Int), 0 ≤ x → x < y → y < stN lo m k n → befL (wishL lo m k n x) (wishL lo m k n y) = true
  | 0, n, x, y, h0, h1, h2 => by unfold stN at h2; split at h2 <;> omega
  | k + 1, n, x, y, h0, h1, h2 => by
    obtain ⟨a1, a2, a3⟩ := pk_ok h0 (show x < stN lo m (k + 1) n by omega)
    obtain ⟨b1, b2, b3⟩ := pk_ok (show 0 ≤ y by omega) h2
    have ca := pk_cnt lo m k n m 0 x
    have cb := pk_cnt lo m k n m 0 y
    have hm := pk_mono lo m k n m 0 x y (by omega)
    rw [wishL_succ, wishL_succ]
    generalize pk lo m k n m 0 x = px at *
    generalize pk lo m k n m 0 y = py at *
    unfold befL
    by_cases he : px.1 = py.1
    · rw [he, if_pos rfl]
      rw [he] at ca
      exact wish_lt lo m k _ _ _ a2 (by omega) b3
    · rw [if_neg (by omega), decide_eq_true (by omega)]

theorem psum_get : ∀ (L : List Int) (a : Int) (i : Nat), i < L.length → (psum a L).getD i 0 = a + sumL (L.take i)
  | [], _, i, h => by simp at h
  | x :: L, a, 0, _ => by simp [psum, sumL]
  | x :: L, a, i + 1, h => by
    have := psum_get L (a + x) i (by simpa using h)
    show (psum (a + x) L).getD i 0 = a + (x + sumL (L.take i))
    rw [this]; omega
theorem sum_take_succ (L : List Int) (i : Nat) (h : i < L.length) : sumL (L.take (i + 1)) = sumL (L.take i) + L.getD i 0 := by
  rw [List.take_succ_eq_append_getElem h, sumL_snoc, List.getD_eq_getElem?_getD, List.getElem?_eq_getElem h]; rfl
theorem sum_split (L : List Int) (i : Nat) : sumL L = sumL (L.take i) + sumL (L.drop i) := by
  rw [← sumL_append, List.take_append_drop]
theorem steps_psum {n : Int} {L : List Int} (h : sumL L = n) : stepsL n (psum 0 L) = L := by
  have hl : (stepsL n (psum 0 L)).length = L.length := by rw [stepsL_len, psum_len]
  refine List.ext_getElem hl fun i h1 h2 => ?_
  have e0 : (stepsL n (psum 0 L))[i]'h1 = stepAt n (psum 0 L) i := by simp [stepsL, stepsK]
  rw [e0]
  have hg : L.getD i 0 = L[i] := by rw [List.getD_eq_getElem?_getD, List.getElem?_eq_getElem h2]; rfl
  have hs := sum_take_succ L i h2
  unfold stepAt
  rw [psum_len]
  by_cases hi : i + 1 < L.length
  · rw [if_pos hi, psum_get L 0 (i + 1) hi, psum_get L 0 i h2]; omega
  · rw [if_neg hi, psum_get L 0 0 (by omega), psum_get L 0 i h2]
    have : sumL (L.take (i + 1)) = sumL L := by rw [List.take_of_length_le (by omega)]
    have h0 : sumL (L.take 0) = 0 := by simp [sumL]
    omega
theorem psum_ok {n : Int} {L : List Int} (h : sumL L = n) (h1 : 1 ≤ n) (h24 : n ≤ 24) (hp : ∀ x ∈ L, 1 ≤ x) : RhOk n (psum 0 L) := by
  have hge : ∀ i, i < L.length → 1 ≤ L.getD i 0 := fun i hi => by
    rw [List.getD_eq_getElem?_getD, List.getElem?_eq_getElem hi]; exact hp _ (List.getElem_mem hi)
  refine ⟨h1, h24, fun i hi => ?_, fun i hi => ?_⟩
  · rw [psum_len] at hi
    rw [psum_get L 0 i hi]
    have a1 := sumL_nonneg (L.take i) (fun x hx => by have := hp x (List.mem_of_mem_take hx); omega)
    have a2 := sum_split L (i + 1)
    have a3 := sum_take_succ L i hi
    have a4 := sumL_nonneg (L.drop (i + 1)) (fun x hx => by have := hp x (List.mem_of_mem_drop hx); omega)
    have a5 := hge i hi
    omega
  · rw [psum_len] at hi
    rw [psum_get L 0 i (by omega), psum_get L 0 (i + 1) hi, sum_take_succ L i (by omega)]
    have := hge i (by omega)
    omega

/-- The rhythm with a number, and what both say of it. -/
theorem wish_for {n k lo hi x : Int} (hw : wishB n k lo hi = true) (h0 : 0 ≤ x) (h : x < stN lo (width lo hi) k.toNat n) :
    RhOk n (wishBeats n k lo hi x) ∧ stepsL n (wishBeats n k lo hi x) = wishL lo (width lo hi) k.toNat n x ∧ isForB n (wishBeats n k lo hi x) n k lo hi = true ∧ idxI n (wishBeats n k lo hi x) lo hi = x := by
  have hww := hw
  unfold wishB at hw
  simp only [Bool.and_eq_true] at hw
  obtain ⟨⟨⟨w1, w2⟩, w3⟩, w4⟩ := hw
  have w1 := inB_iff.1 w1
  have w2 := inB_iff.1 w2
  have w3 := inB_iff.1 w3
  have w4 := inB_iff.1 w4
  have hwd : (width lo hi : Int) = hi + 1 - lo := by unfold width; omega
  have hsum := wishL_sum lo (width lo hi) k.toNat n x h0 h
  have hfit := wishL_fit lo (width lo hi) k.toNat n x h0 h
  have hlen := wishL_len lo (width lo hi) k.toNat n x
  have hix := ix_wish lo (width lo hi) k.toNat n x h0 h
  have hok : RhOk n (wishBeats n k lo hi x) := psum_ok hsum w1.1 (by omega) (fun y hy => by have := hfit y hy; omega)
  have hst : stepsL n (wishBeats n k lo hi x) = wishL lo (width lo hi) k.toNat n x := steps_psum hsum
  have hbl : ((wishBeats n k lo hi x).length : Int) = k := by unfold wishBeats; rw [psum_len, hlen]; omega
  have hfor : isForB n (wishBeats n k lo hi x) n k lo hi = true := by
    unfold isForB
    rw [hww, rhB_iff.2 hok, decide_eq_true rfl, decide_eq_true hbl, hst]
    simp only [Bool.true_and]
    rw [Bool.and_eq_true]
    constructor
    · unfold wishBeats hasB
      rw [decide_eq_true_eq]
      cases hL : wishL lo (width lo hi) k.toNat n x with
      | nil => rw [hL] at hlen; simp at hlen; omega
      | cons a r => simp [psum]
    · unfold allB
      rw [List.all_eq_true]
      intro y hy
      have := hfit y hy
      exact inB_true ⟨by omega, by omega⟩
  refine ⟨hok, hst, hfor, ?_⟩
  unfold idxI
  rw [hbl, if_pos hfor, hst]
  exact hix

theorem ends_all {xs : List Int} {lo hi : Int} (h : 0 < xs.length) : allB xs lo hi = (decide (lo ≤ (collL xs).getD 0 0) && decide ((collL xs).getD ((collL xs).length - 1) 0 ≤ hi)) := by
  obtain ⟨hp, hm⟩ := collL_asc xs
  have hne : 0 < (collL xs).length := by
    cases hc : collL xs with
    | nil =>
      have := (hm xs[0]).2 (List.getElem_mem h)
      rw [hc] at this; cases this
    | cons a r => simp
  have hget : ∀ i (hi' : i < (collL xs).length), (collL xs).getD i 0 = (collL xs)[i] := fun i hi' => by rw [List.getD_eq_getElem?_getD, List.getElem?_eq_getElem hi']; rfl
  have hmono : ∀ i j (hi' : i < (collL xs).length) (hj : j < (collL xs).length), i ≤ j → (collL xs)[i] ≤ (collL xs)[j] := fun i j hi' hj hij => by
    rcases Nat.lt_or_eq_of_le hij with e | e
    · exact Int.le_of_lt (List.pairwise_iff_getElem.1 hp i j hi' hj e)
    · subst e; exact Int.le_refl _
  rw [hget 0 hne, hget ((collL xs).length - 1) (by omega), Bool.eq_iff_iff, Bool.and_eq_true, decide_eq_true_eq, decide_eq_true_eq]
  unfold allB
  rw [List.all_eq_true]
  constructor
  · intro ha
    exact ⟨(inB_iff.1 (ha _ ((hm _).1 (List.getElem_mem hne)))).1, (inB_iff.1 (ha _ ((hm _).1 (List.getElem_mem (by omega))))).2⟩
  · intro hb y hy
    obtain ⟨i, hi', e⟩ := List.getElem_of_mem ((hm y).2 hy)
    have h1 := hmono 0 i hne hi' (Nat.zero_le _)
    have h2 := hmono i ((collL xs).length - 1) hi' (by omega) (by omega)
    rw [e] at h1 h2
    exact inB_true ⟨by omega, by omega⟩

def chs (n k : Int) : Nat → Int
  | 0 => 1
  | i + 1 => chs n k i * (n - k + ((i + 1 : Nat) : Int)) / ((i + 1 : Nat) : Int)
theorem sumR_front (f : Nat → Int) : ∀ m, sumR f (m + 1) = f 0 + sumR (fun i => f (i + 1)) m
  | 0 => by simp [sumR]
  | m + 1 => by
    have h1 := sumR_front f m
    have h2 : sumR f (m + 1 + 1) = sumR f (m + 1) + f (m + 1) := rfl
    have h3 : sumR (fun i => f (i + 1)) (m + 1) = sumR (fun i => f (i + 1)) m + f (m + 1) := rfl
    omega
theorem pascal (k : Nat) (n : Int) (hn : n ≤ 15) : stN 1 16 (k + 1) (n + 1) = stN 1 16 (k + 1) n + stN 1 16 k n := by
  have e1 : stN 1 16 (k + 1) (n + 1) = sumR (fun i => stN 1 16 k (n - i)) 16 := by
    show sumR (fun i => stN 1 16 k (n + 1 - (1 + (i : Int)))) 16 = _
    congr 1
    funext i
    congr 1
    omega
  have e2 : stN 1 16 (k + 1) n = sumR (fun i => stN 1 16 k (n - ((i + 1 : Nat) : Int))) 16 := by
    show sumR (fun i => stN 1 16 k (n - (1 + (i : Int)))) 16 = _
    congr 1
    funext i
    congr 1
    omega
  have e3 := sumR_front (fun i => stN 1 16 k (n - (i : Int))) 15
  have e4 : sumR (fun i => stN 1 16 k (n - ((i + 1 : Nat) : Int))) 16 = sumR (fun i => stN 1 16 k (n - ((i + 1 : Nat) : Int))) 15 + stN 1 16 k (n - ((15 + 1 : Nat) : Int)) := rfl
  have e5 : stN 1 16 k (n - ((15 + 1 : Nat) : Int)) = 0 := stN_neg 1 16 (by decide) k _ (by omega)
  have e6 : stN 1 16 k (n - ((0 : Nat) : Int)) = stN 1 16 k n := by congr 1; omega
  rw [e1, e2, e3, e4, e5]
  rw [e6]
  omega
def pz : Nat → Nat → Int
  | 0, 0 => 1
  | 0, _ + 1 => 0
  | _ + 1, 0 => 0
  | k + 1, n + 1 => pz (k + 1) n + pz k n
theorem stN_pz : ∀ (n k : Nat), n ≤ 16 → stN 1 16 k (n : Int) = pz k n
  | 0, 0, _ => rfl
  | n + 1, 0, _ => by
    unfold stN pz
    rw [if_neg (by omega)]
  | 0, k + 1, _ => by
    rw [stN_low 1 16 (by decide) (k + 1) _ (by omega)]; rfl
  | n + 1, k + 1, h => by
    show stN 1 16 (k + 1) ((n + 1 : Nat) : Int) = pz (k + 1) n + pz k n
    rw [show ((n + 1 : Nat) : Int) = (n : Int) + 1 by omega, pascal k n (by omega), stN_pz n (k + 1) (by omega), stN_pz n k (by omega)]
theorem pz_chs : ((List.range 11).all fun n => (List.range 11).all fun k => decide (k = 0 ∨ n < k ∨ pz k n = chs n k (k - 1))) = true := by decide +kernel
theorem chs_all {n k : Nat} (h1 : 1 ≤ k) (h2 : k ≤ n) (h3 : n ≤ 10) : stN 1 16 k (n : Int) = chs n k (k - 1) := by
  rw [stN_pz n k (by omega)]
  have := List.all_eq_true.1 (List.all_eq_true.1 pz_chs n (List.mem_range.2 (by omega))) k (List.mem_range.2 (by omega))
  rcases of_decide_eq_true this with h | h | h
  · omega
  · omega
  · exact h

end Go.Proofs.Ythfofjbegkjdmaa
