/-
  The law FnSearch: what its wish says, in plain words.
-/
import Derived.Test.YthfofjbegkjdmaaSeaC
import Derived.Test.YthfofjbegkjdmaaLFnExactRhythmsFor
import Derived.Test.YthfofjbegkjdmaaRfor
import Derived.Test.YthfofjbegkjdmaaStS
namespace Go.Proofs.Ythfofjbegkjdmaa
open Go.RowKit
set_option linter.unusedVariables false
set_option linter.unusedSimpArgs false

/-- The law's wish is one. -/
theorem sea_wish {n k lo hi : Int} (hn : 1 ≤ n ∧ n ≤ 10) (hk : 1 ≤ k ∧ k ≤ n) (hl : 1 ≤ lo ∧ lo ≤ 3) (hh : lo ≤ hi ∧ hi ≤ lo + 4) : wishB n k lo hi = true :=
  wishB_iff.2 ⟨⟨hn.1, by omega⟩, hk, ⟨hl.1, by omega⟩, hh.1, by omega⟩
/-- How many there are. -/
theorem sea_count {n k lo hi : Int} (hw : wishB n k lo hi = true) : ∃ C : Nat, stN lo (width lo hi) k.toNat n = C ∧ C ≤ 65536 := by
  obtain ⟨⟨hn1, hn16⟩, ⟨hk1, hkn⟩, ⟨hl1, hl16⟩, hlh, hh16⟩ := wishB_iff.1 hw
  have h1 := stN_nonneg lo (width lo hi) k.toNat n
  have h2 := stN_small lo (width lo hi) hl1 k.toNat n (by omega)
  obtain ⟨C, hC⟩ := Int.eq_ofNat_of_zero_le h1
  exact ⟨C, hC, by omega⟩
theorem sea_ok {n k lo hi : Int} (hw : wishB n k lo hi = true) {C : Nat} (hC : stN lo (width lo hi) k.toNat n = C) (x : Int) : forOk n k lo hi x = (decide (0 ≤ x) && decide (x < (C : Int))) := by
  unfold forOk
  rw [hw, hC, Bool.true_and]
  unfold inB
  congr 1
  rw [decide_eq_decide]
  omega
theorem sea_yes {n k lo hi : Int} (hw : wishB n k lo hi = true) {C : Nat} (hC : stN lo (width lo hi) k.toNat n = C) (i : Nat) (hi' : i < C) :
    forOk n k lo hi i = true ∧ forN n k lo hi i = n ∧ forL n k lo hi i = rsB n k lo hi i := by
  have h : forOk n k lo hi i = true := by
    rw [sea_ok hw hC, decide_eq_true (Int.natCast_nonneg i), decide_eq_true (by omega)]; rfl
  refine ⟨h, ?_, ?_⟩
  · unfold forN; rw [if_pos h]
  · unfold forL; rw [if_pos h]; rfl
theorem sea_no {n k lo hi : Int} (hw : wishB n k lo hi = true) {C : Nat} (hC : stN lo (width lo hi) k.toNat n = C) : forOk n k lo hi C = false := by
  rw [sea_ok hw hC, decide_eq_false (show ¬ (C : Int) < (C : Int) by omega), Bool.and_false]
theorem sea_last {n k lo hi : Int} (hw : wishB n k lo hi = true) {C : Nat} (hC : stN lo (width lo hi) k.toNat n = C) : lastX n k lo hi = (C : Int) - 1 := by
  unfold lastX; rw [if_pos hw, hC]
theorem sea_at {n k lo hi : Int} (hw : wishB n k lo hi = true) {C : Nat} (hC : stN lo (width lo hi) k.toNat n = C) (i : Nat) (hi' : i < C) :
    RhOk n (rsB n k lo hi i) ∧ stepsOf n (rsB n k lo hi i) = wishL lo (width lo hi) k.toNat n i ∧ isForB n (rsB n k lo hi i) n k lo hi = true ∧ idxI n (rsB n k lo hi i) lo hi = i := by
  obtain ⟨h1, h2, h3, h4⟩ := wish_for hw (Int.natCast_nonneg i) (show (i : Int) < stN lo (width lo hi) k.toNat n by omega)
  exact ⟨h1, (stepsOf_ok (rhB_iff.2 h1)).trans h2, h3, h4⟩
/-- The ends of its steps. -/
theorem sea_ends {n k lo hi : Int} (hw : wishB n k lo hi = true) {C : Nat} (hC : stN lo (width lo hi) k.toNat n = C) (i : Nat) (hi' : i < C) :
    lo ≤ (collL (stepsOf n (rsB n k lo hi i))).getD 0 0 ∧ (collL (stepsOf n (rsB n k lo hi i))).getD ((collL (stepsOf n (rsB n k lo hi i))).length - 1) 0 ≤ hi := by
  obtain ⟨⟨hn1, hn16⟩, ⟨hk1, hkn⟩, ⟨hl1, hl16⟩, hlh, hh16⟩ := wishB_iff.1 hw
  obtain ⟨h1, h2, h3, h4⟩ := sea_at hw hC i hi'
  rw [h2]
  have hlen := wishL_len lo (width lo hi) k.toNat n i
  have hfit := wishL_fit lo (width lo hi) k.toNat n i (Int.natCast_nonneg i) (by omega)
  have hwd : (width lo hi : Int) = hi + 1 - lo := by unfold width; omega
  have he := ends_all (xs := wishL lo (width lo hi) k.toNat n i) (lo := lo) (hi := hi) (by omega)
  have ha : allB (wishL lo (width lo hi) k.toNat n i) lo hi = true := by
    unfold allB
    rw [List.all_eq_true]
    intro y hy
    have := hfit y hy
    exact inB_true ⟨by omega, by omega⟩
  rw [ha] at he
  have he := he.symm
  rw [Bool.and_eq_true, decide_eq_true_eq, decide_eq_true_eq] at he
  exact he
/-- Each stands before the next. -/
theorem sea_next {n k lo hi : Int} (hw : wishB n k lo hi = true) {C : Nat} (hC : stN lo (width lo hi) k.toNat n = C) (i : Nat) (h0 : 0 < i) (hi' : i < C) :
    befL (stepsOf n (rsB n k lo hi (i - 1))) (stepsOf n (rsB n k lo hi i)) = true ∧ (stepsOf n (rsB n k lo hi (i - 1))).length = (stepsOf n (rsB n k lo hi i)).length := by
  rw [(sea_at hw hC (i - 1) (by omega)).2.1, (sea_at hw hC i hi').2.1]
  exact ⟨wish_lt lo (width lo hi) k.toNat n _ _ (by omega) (by omega) (by omega), by rw [wishL_len, wishL_len]⟩
theorem sea_get (n k lo hi : Int) (C i : Nat) (h : i < C) {rs : List RV} (hk : keyR rs = rsP n k lo hi C) (h' : i < rs.length) : rs[i].n = n ∧ rs[i].xs = rsB n k lo hi i := by
  have e : (keyR rs)[i]? = (rsP n k lo hi C)[i]? := by rw [hk]
  have e1 : (keyR rs)[i]? = some (rs[i].n, rs[i].xs) := by unfold keyR; rw [List.getElem?_map, List.getElem?_eq_getElem h']; rfl
  have e2 : (rsP n k lo hi C)[i]? = some (n, rsB n k lo hi i) := by unfold rsP; rw [List.getElem?_map, List.getElem?_range h]; rfl
  rw [e1, e2] at e
  have e := Option.some.inj e
  exact ⟨(Prod.mk.inj e).1, (Prod.mk.inj e).2⟩
theorem sea_chs {n k : Nat} (h1 : 1 ≤ k) (h2 : k ≤ n) (h3 : n ≤ 10) : (if wishB n k 1 16 then stN 1 (width 1 16) (k : Int).toNat n else -1) = chs n k (k - 1) := by
  rw [if_pos (wishB_iff.2 ⟨⟨by omega, by omega⟩, ⟨by omega, by omega⟩, ⟨by omega, by omega⟩, by omega, by omega⟩)]
  exact chs_all h1 h2 h3

theorem cntS_ge (lo : Int) (m k : Nat) (n : Int) : ∀ j, 0 ≤ cntS lo m k n j
  | 0 => Int.le_refl _
  | j + 1 => by
    have h1 := cntS_ge lo m k n j
    have h2 := stN_nonneg lo m k (n - (lo + j))
    show 0 ≤ cntS lo m k n j + stN lo m k (n - (lo + j))
    omega
theorem ixL_ge (lo : Int) (m : Nat) : ∀ (l : List Int) (n : Int), 0 ≤ ixL lo m l n
  | [], _ => Int.le_refl _
  | s :: l, n => by
    have h1 := cntS_ge lo m l.length n (s - lo).toNat
    have h2 := ixL_ge lo m l (n - s)
    show 0 ≤ cntS lo m l.length n (s - lo).toNat + ixL lo m l (n - s)
    omega
theorem sea_idx (n : Int) (bs : List Int) (lo hi : Int) : decide (0 ≤ idxI n bs lo hi) = isForB n bs n bs.length lo hi := by
  unfold idxI
  cases h : isForB n bs n bs.length lo hi
  · simp
  · rw [if_pos rfl]; exact decide_eq_true (ixL_ge _ _ _ _)
/-- A rhythm is one of the wish when its count, its first pulse and its steps fit. -/
theorem sea_fits {n k lo hi : Int} {bs : List Int} (hw : wishB n k lo hi = true) (hok : RhOk n bs) :
    isForB n bs n k lo hi = (decide ((bs.length : Int) = k) && (hasB bs 0 && (decide (lo ≤ (collL (stepsOf n bs)).getD 0 0) && decide ((collL (stepsOf n bs)).getD ((collL (stepsOf n bs)).length - 1) 0 ≤ hi)))) := by
  obtain ⟨⟨hn1, hn16⟩, ⟨hk1, hkn⟩, ⟨hl1, hl16⟩, hlh, hh16⟩ := wishB_iff.1 hw
  unfold isForB
  rw [hw, rhB_iff.2 hok, decide_eq_true rfl, stepsOf_ok (rhB_iff.2 hok)]
  simp only [Bool.true_and]
  by_cases h : (bs.length : Int) = k
  · rw [decide_eq_true h, Bool.true_and, Bool.true_and, ends_all (by rw [stepsL_len]; omega)]
  · rw [decide_eq_false h, Bool.false_and, Bool.false_and]

end Go.Proofs.Ythfofjbegkjdmaa
