/-
  Plain laws on hands: swaps, runs, spans, fewest hands.
-/
import Derived.Test.YthfofjbegkjdmaaGcd
import Derived.Test.YthfofjbegkjdmaaText
import Derived.Test.YthfofjbegkjdmaaSwap
import Derived.Test.YthfofjbegkjdmaaLongest
import Derived.Test.YthfofjbegkjdmaaColl
namespace Go.Proofs.Ythfofjbegkjdmaa
open Go.RowKit
set_option linter.unusedVariables false
set_option linter.unusedSimpArgs false

theorem swapB_swapB (c : UInt8) : swapB (swapB c) = c := by
  unfold swapB
  by_cases h : c = 82
  · subst h; decide
  · by_cases h2 : c = 76
    · subst h2; decide
    · simp [h, h2]
theorem swapL_swapL (l : List UInt8) : swapL (swapL l) = l := by
  unfold swapL
  rw [List.map_map]
  conv => rhs; rw [← List.map_id l]
  exact List.map_congr_left fun c _ => swapB_swapB c

def swI (x : Int) : Int := if x = 82 then 76 else if x = 76 then 82 else x
theorem swI_byte (c : UInt8) : ((swapB c).toNat : Int) = swI (c.toNat : Int) := by
  unfold swapB swI
  by_cases h : c = 82
  · subst h; decide
  · by_cases h2 : c = 76
    · subst h2; decide
    · have e1 : ¬ (c.toNat : Int) = 82 := fun e => h (UInt8.toNat_inj.1 (by show c.toNat = 82; omega))
      have e2 : ¬ (c.toNat : Int) = 76 := fun e => h2 (UInt8.toNat_inj.1 (by show c.toNat = 76; omega))
      rw [if_neg h, if_neg h2, if_neg e1, if_neg e2]
theorem swI_inj (x y : Int) : swI x = swI y ↔ x = y := by unfold swI; constructor <;> intro h <;> (repeat' split at h) <;> (repeat' split) <;> omega
theorem swI_let (x : Int) : (swI x = 82 ∨ swI x = 76) ↔ (x = 82 ∨ x = 76) := by unfold swI; constructor <;> intro h <;> (repeat' split at h) <;> (repeat' split) <;> omega
def swSt (st : Int × Int × Int) : Int × Int × Int := (st.1, st.2.1, swI st.2.2)
theorem lrStep_swap (st : Int × Int × Int) (c : UInt8) : lrStep (swSt st) (swapB c) = swSt (lrStep st c) := by
  unfold lrStep
  rw [swI_byte]
  by_cases h : (c.toNat : Int) = 82 ∨ (c.toNat : Int) = 76
  · rw [if_pos ((swI_let _).2 h), if_pos h]
    by_cases h2 : (c.toNat : Int) = st.2.2
    · rw [if_pos (show swI (c.toNat : Int) = (swSt st).2.2 from (swI_inj _ _).2 h2), if_pos h2]; rfl
    · rw [if_neg (show ¬ swI (c.toNat : Int) = (swSt st).2.2 from fun e => h2 ((swI_inj _ _).1 e)), if_neg h2]; rfl
  · rw [if_neg (fun e => h ((swI_let _).1 e)), if_neg h]
theorem lr_swap (l : List UInt8) : (lr (swapL l)).1 = (lr l).1 := by
  suffices h : ∀ (l : List UInt8) (st : Int × Int × Int), (swapL l).foldl lrStep (swSt st) = swSt (l.foldl lrStep st) by
    have := h l (0, 0, 0)
    unfold lr
    rw [show ((0, 0, 0) : Int × Int × Int) = swSt (0, 0, 0) from rfl, this]
    rfl
  intro l
  induction l with
  | nil => intro st; rfl
  | cons c l ih => intro st; show (swapL l).foldl lrStep (lrStep (swSt st) (swapB c)) = _; rw [lrStep_swap, ih]; rfl

theorem altF_toNat (bs : List Int) (t : Nat) : ((altF bs t).toNat : Int) = if cntB bs t % 2 = 0 then 82 else 76 := by unfold altF; split <;> rfl
theorem natF_toNat (t : Nat) : ((natF t).toNat : Int) = if t % 2 = 0 then 82 else 76 := by unfold natF; split <;> rfl
theorem lr_alt (bs : List Int) : ∀ t : Nat, lr (tabL t (txF bs (altF bs))) = if cntB bs t = 0 then (0, 0, 0) else (1, 1, if cntB bs t % 2 = 1 then 82 else 76)
  | 0 => rfl
  | t + 1 => by
    rw [tabL_succ, lr_snoc, lr_alt bs t]
    cases hb : hasB bs t
    · have e1 : cntB bs (t + 1) = cntB bs t := by show cntB bs t + _ = _; rw [hb]; rfl
      have e2 : txF bs (altF bs) t = 46 := by unfold txF; rw [hb]; rfl
      rw [e1, e2]
      unfold lrStep
      rw [if_neg (by decide)]
    · have e1 : cntB bs (t + 1) = cntB bs t + 1 := by show cntB bs t + _ = _; rw [hb]; rfl
      have e2 : txF bs (altF bs) t = altF bs t := by unfold txF; rw [hb]; rfl
      rw [e1, e2]
      unfold lrStep
      rw [altF_toNat, if_neg (show ¬ cntB bs t + 1 = 0 by omega)]
      by_cases h0 : cntB bs t = 0
      · rw [h0]; rfl
      · by_cases hp : cntB bs t % 2 = 0
        · simp only [h0, hp, if_true, if_false]
          rw [if_pos (show (cntB bs t + 1) % 2 = 1 by omega)]
          rfl
        · have hp1 : cntB bs t % 2 = 1 := by omega
          simp only [h0, hp1, if_true, if_false]
          rw [if_neg (show ¬ (cntB bs t + 1) % 2 = 1 by omega)]
          rfl
theorem lr_let (l : List UInt8) (c : UInt8) (h : (c.toNat : Int) = 82 ∨ (c.toNat : Int) = 76) : 1 ≤ (lr (l ++ [c])).1 := by
  rw [lr_snoc]
  have hb := lr_bound l
  unfold lrStep
  rw [if_pos h]
  split <;> simp <;> omega
theorem lr_more (l : List UInt8) (c : UInt8) : (lr l).1 ≤ (lr (l ++ [c])).1 := by
  rw [lr_snoc]
  unfold lrStep
  split
  · split <;> simp <;> omega
  · exact Int.le_refl _
theorem lr_has (bs : List Int) (F : Nat → UInt8) (hF : ∀ t, ((F t).toNat : Int) = 82 ∨ ((F t).toNat : Int) = 76) : ∀ t : Nat, 0 < cntB bs t → 1 ≤ (lr (tabL t (txF bs F))).1
  | 0, h => by simp [cntB] at h
  | t + 1, h => by
    rw [tabL_succ]
    cases hb : hasB bs t
    · have e1 : cntB bs (t + 1) = cntB bs t := by show cntB bs t + _ = _; rw [hb]; rfl
      have := lr_has bs F hF t (by omega)
      have h2 := lr_more (tabL t (txF bs F)) (txF bs F t)
      omega
    · exact lr_let _ _ (by unfold txF; rw [hb]; exact hF t)
theorem cntB_end {N : Nat} {bs : List Int} (hok : RhOk N bs) : cntB bs N = bs.length :=
  cntB_at hok N bs.length (Nat.le_refl _) (fun i hi => (hok.2.2.1 i hi).2) (fun i h1 h2 => by omega)

/-- What the law asks of the texts. -/
theorem text_law {N : Nat} {bs : List Int} (hok : RhOk N bs) :
    (lr (textF N bs (altF bs))).1 = (if bs.length = 0 then 0 else 1) ∧ (0 < bs.length → 1 ≤ (lr (textF N bs natF)).1) := by
  constructor
  · unfold textF
    rw [lr_alt, cntB_end hok]
    split <;> rfl
  · intro h
    exact lr_has bs natF (fun t => by rw [natF_toNat]; split <;> simp) N (by rw [cntB_end hok]; exact h)
theorem text_at (N : Nat) (bs : List Int) (F : Nat → UInt8) (p : Nat) (h : p < N) : (textF N bs F)[p]? = some (txF bs F p) := tabL_get h

theorem lm_le {xs : List Int} {h : Nat} (h1 : 1 ≤ h) (h0 : 0 < xs.length) (hf : ∀ x ∈ xs, 1 ≤ x ∧ x ≤ 24) : ∀ k : Nat, (∀ i, i < k → lm xs h k ≤ spanN xs i h) ∧ (0 < k → ∃ i, i < k ∧ lm xs h k = spanN xs i h)
  | 0 => ⟨fun i h => by omega, fun h => by omega⟩
  | k + 1 => by
    have ih := lm_le h1 h0 hf k
    by_cases hc : lm xs h k < 0 ∨ spanN xs k h < lm xs h k
    · rw [lm_new hc]
      refine ⟨fun i hi => ?_, fun _ => ⟨k, by omega, rfl⟩⟩
      by_cases e : i = k
      · subst e; exact Int.le_refl _
      · have := ih.1 i (by omega)
        rcases hc with hc | hc
        · have h2 := ih.2 (by omega)
          obtain ⟨j, hj, e2⟩ := h2
          have := spanN_bound xs j h0 hf h
          omega
        · omega
    · rw [lm_old hc]
      have hk : 0 < k := by
        rcases Nat.eq_zero_or_pos k with e | e
        · subst e; exact absurd (Or.inl (by show (-1 : Int) < 0; omega)) hc
        · exact e
      refine ⟨fun i hi => ?_, fun _ => ?_⟩
      · by_cases e : i = k
        · subst e; omega
        · exact ih.1 i (by omega)
      · obtain ⟨j, hj, e2⟩ := ih.2 hk
        exact ⟨j, by omega, e2⟩
theorem span_one (xs : List Int) (i : Nat) (hi : i < xs.length) : spanN xs i 1 = xs.getD i 0 := by
  show 0 + xs.getD ((i + 0) % xs.length) 0 = _
  rw [Nat.add_zero, Nat.mod_eq_of_lt hi, Int.zero_add]
theorem coll_head (xs : List Int) (h : 0 < xs.length) : 0 < (collL xs).length ∧ (collL xs).getD 0 0 ∈ xs ∧ ∀ x ∈ xs, (collL xs).getD 0 0 ≤ x := by
  obtain ⟨hp, hm⟩ := collL_asc xs
  cases hc : collL xs with
  | nil =>
    have := (hm xs[0]).2 (List.getElem_mem h)
    rw [hc] at this
    cases this
  | cons a r =>
    rw [hc] at hp hm
    refine ⟨by simp, (hm a).1 (by simp), fun x hx => ?_⟩
    have := (hm x).2 hx
    rcases List.mem_cons.1 this with e | e
    · subst e; exact Int.le_refl _
    · have := (List.pairwise_cons.1 hp).1 x e
      show a ≤ x
      omega
theorem lm_least {xs : List Int} (h0 : 0 < xs.length) (hf : ∀ x ∈ xs, 1 ≤ x ∧ x ≤ 24) : lm xs 1 xs.length = (collL xs).getD 0 0 := by
  obtain ⟨h1, h2⟩ := lm_le (h := 1) (Nat.le_refl _) h0 hf xs.length
  obtain ⟨i, hi, e⟩ := h2 h0
  obtain ⟨_, hm, hl⟩ := coll_head xs h0
  rw [span_one xs i hi] at e
  have a1 := hl (xs.getD i 0) (by rw [List.getD_eq_getElem?_getD, List.getElem?_eq_getElem hi]; exact List.getElem_mem hi)
  obtain ⟨j, hj, e2⟩ := List.getElem_of_mem hm
  have a2 := h1 j hj
  rw [span_one xs j hj, List.getD_eq_getElem?_getD, List.getElem?_eq_getElem hj, Option.getD_some, e2] at a2
  omega

/-- Sums around. -/
def cyc (xs : List Int) : Nat → Int
  | 0 => 0
  | j + 1 => cyc xs j + xs.getD (j % xs.length) 0
theorem span_cyc (xs : List Int) (i : Nat) : ∀ m, spanN xs i m = cyc xs (i + m) - cyc xs i
  | 0 => by simp [spanN]
  | m + 1 => by
    have e1 : cyc xs (i + (m + 1)) = cyc xs (i + m) + xs.getD ((i + m) % xs.length) 0 := rfl
    have e2 : spanN xs i (m + 1) = spanN xs i m + xs.getD ((i + m) % xs.length) 0 := rfl
    rw [e1, e2, span_cyc xs i m]; omega
theorem cyc_turn (xs : List Int) (h0 : 0 < xs.length) : ∀ j, cyc xs (j + xs.length) = cyc xs j + cyc xs xs.length
  | 0 => by simp [cyc]
  | j + 1 => by
    rw [show j + 1 + xs.length = (j + xs.length) + 1 by omega]
    show cyc xs (j + xs.length) + xs.getD ((j + xs.length) % xs.length) 0 = cyc xs j + xs.getD (j % xs.length) 0 + _
    rw [cyc_turn xs h0 j, Nat.add_mod_right]; omega
theorem span_all (xs : List Int) (h0 : 0 < xs.length) (i : Nat) : spanN xs i xs.length = cyc xs xs.length := by
  rw [span_cyc, cyc_turn xs h0]; omega
theorem steps_get (n : Int) (bs : List Int) (t : Nat) (h : t < bs.length) : (stepsL n bs).getD t 0 = stepAt n bs t := by
  unfold stepsL stepsK
  rw [List.getD_eq_getElem?_getD, List.getElem?_map, List.getElem?_range h]; rfl
theorem cyc_steps (n : Int) (bs : List Int) : ∀ m, m < bs.length → cyc (stepsL n bs) m = bs.getD m 0 - bs.getD 0 0
  | 0, _ => by simp [cyc]
  | m + 1, h => by
    show cyc (stepsL n bs) m + (stepsL n bs).getD (m % (stepsL n bs).length) 0 = _
    rw [stepsL_len, Nat.mod_eq_of_lt (by omega), steps_get n bs m (by omega), cyc_steps n bs m (by omega)]
    unfold stepAt
    rw [if_pos h]; omega
theorem cyc_total (n : Int) (bs : List Int) (h : 0 < bs.length) : cyc (stepsL n bs) bs.length = n := by
  obtain ⟨m, hm⟩ : ∃ m, bs.length = m + 1 := ⟨bs.length - 1, by omega⟩
  have e := cyc_steps n bs m (by omega)
  rw [hm]
  show cyc (stepsL n bs) m + (stepsL n bs).getD (m % (stepsL n bs).length) 0 = _
  rw [stepsL_len, Nat.mod_eq_of_lt (by omega), steps_get n bs m (by omega), e]
  unfold stepAt
  rw [if_neg (by omega)]; omega

theorem least_eq {n : Int} {bs : List Int} (hok : RhOk n bs) (hk : 0 < bs.length) {h : Int} (h1 : 1 ≤ h) (h24 : h ≤ 24) : leastSpan n bs h = lm (stepsL n bs) h.toNat bs.length := by
  unfold leastSpan
  rw [stepsOf_ok (rhB_iff.2 hok), stepsL_len, if_neg (by omega)]
theorem least_one {n : Int} {bs : List Int} (hok : RhOk n bs) (hk : 0 < bs.length) : leastSpan n bs 1 = (collL (stepsOf n bs)).getD 0 0 := by
  rw [least_eq hok hk (by decide) (by decide), stepsOf_ok (rhB_iff.2 hok)]
  have := lm_least (xs := stepsL n bs) (by rw [stepsL_len]; exact hk) (stepsK_fit hok _ (Nat.le_refl _))
  rw [stepsL_len] at this
  exact this
theorem least_all {n : Int} {bs : List Int} (hok : RhOk n bs) (hk : 0 < bs.length) (h24 : bs.length ≤ 24) : leastSpan n bs bs.length = n := by
  rw [least_eq hok hk (by omega) (by omega), Int.toNat_natCast]
  obtain ⟨_, h2⟩ := lm_le (xs := stepsL n bs) (h := bs.length) hk (by rw [stepsL_len]; exact hk) (stepsK_fit hok _ (Nat.le_refl _)) bs.length
  obtain ⟨i, _, e⟩ := h2 hk
  have := span_all (stepsL n bs) (by rw [stepsL_len]; exact hk) i
  rw [stepsL_len] at this
  rw [e, this, cyc_total n bs hk]
theorem least_many {n : Int} {bs : List Int} (hok : RhOk n bs) (hk : 0 < bs.length) {h : Int} (h1 : 1 ≤ h) (h24 : h ≤ 24) : h ≤ leastSpan n bs h := by
  rw [least_eq hok hk h1 h24]
  obtain ⟨_, h2⟩ := lm_le (xs := stepsL n bs) (h := h.toNat) (by omega) (by rw [stepsL_len]; exact hk) (stepsK_fit hok _ (Nat.le_refl _)) bs.length
  obtain ⟨i, _, e⟩ := h2 hk
  have := spanN_bound (stepsL n bs) i (by rw [stepsL_len]; exact hk) (stepsK_fit hok _ (Nat.le_refl _)) h.toNat
  rw [e]; omega
theorem few_spec (p : Int → Bool) : ∀ (f : Nat) (h : Int) (j : Nat), j < f → p (h + j) = true → h ≤ fewFrom p f h ∧ fewFrom p f h ≤ h + j ∧ p (fewFrom p f h) = true ∧ ∀ x, h ≤ x → x < fewFrom p f h → p x = false
  | 0, h, j, hj, _ => by omega
  | f + 1, h, j, hj, hp => by
    cases hh : p h
    · rw [few_no hh]
      have hj0 : j ≠ 0 := by
        rintro rfl
        rw [Int.natCast_zero, Int.add_zero, hh] at hp; cases hp
      obtain ⟨a, b, c, d⟩ := few_spec p f (h + 1) (j - 1) (by omega) (by rw [show h + 1 + ((j - 1 : Nat) : Int) = h + j by omega]; exact hp)
      refine ⟨by omega, by omega, c, fun x hx1 hx2 => ?_⟩
      by_cases e : x = h
      · subst e; exact hh
      · exact d x (by omega) hx2
    · rw [few_yes hh]
      exact ⟨Int.le_refl _, by omega, hh, fun x h1 h2 => by omega⟩
theorem few_law {n : Int} {bs : List Int} (hok : RhOk n bs) (hk : 0 < bs.length) {g : Int} (g1 : 1 ≤ g) (g2 : g ≤ 20) :
    1 ≤ fewest n bs g ∧ fewest n bs g ≤ 24 ∧ playB n bs (fewest n bs g) g = true ∧ (1 < fewest n bs g → playB n bs (fewest n bs g - 1) g = false) := by
  have h24 := least_many hok hk (h := 24) (by decide) (by decide)
  obtain ⟨a, b, c, d⟩ := few_spec (fun h => playB n bs h g) 24 1 23 (by decide) (by
    show playB n bs 24 g = true
    unfold playB
    rw [decide_eq_true g1, decide_eq_true (show g ≤ leastSpan n bs 24 by omega)]; rfl)
  exact ⟨a, by have : fewest n bs g ≤ 1 + 23 := b; omega, c, fun h => d _ (by unfold fewest at h; unfold fewest; omega) (by unfold fewest; omega)⟩
theorem few_none {n : Int} {bs : List Int} (hk : bs.length = 0) (g : Int) (g1 : 1 ≤ g) : fewest n bs g = 0 ∧ (∀ h, leastSpan n bs h = 0) ∧ ∀ h, handBars n bs h = 0 := by
  have hz : ∀ h, leastSpan n bs h = 0 := fun h => by
    apply Classical.byContradiction
    intro hne
    have := (leastSpan_ok hne).2
    omega
  refine ⟨?_, hz, fun h => by unfold handBars; rw [if_pos (hz h)]⟩
  have hp : ∀ h, playB n bs h g = false := fun h => by unfold playB; rw [hz h, decide_eq_false (show ¬ g ≤ 0 by omega), Bool.and_false]
  have : ∀ (f : Nat) (h : Int), fewFrom (fun h => playB n bs h g) f h = 0 := by
    intro f
    induction f with
    | zero => intro h; rfl
    | succ f ih => intro h; rw [few_no (p := fun h => playB n bs h g) (hp h)]; exact ih _
  exact this 24 1

/-- The bars of h hands at k beats. -/
theorem bars_law {n : Int} {bs : List Int} (hok : RhOk n bs) (hk : 0 < bs.length) {h : Int} (h1 : 1 ≤ h) (h24 : h ≤ 24) :
    1 ≤ handBars n bs h ∧ handBars n bs h ≤ h ∧ (handBars n bs h * (bs.length : Int)) % h = 0 := by
  have hl := least_many hok hk h1 h24
  obtain ⟨m, rfl⟩ := Int.eq_ofNat_of_zero_le (show 0 ≤ h by omega)
  unfold handBars
  rw [if_neg (by omega), Int.toNat_natCast]
  have hg : 0 < Nat.gcd m bs.length := Nat.gcd_pos_of_pos_right _ hk
  obtain ⟨a, ha⟩ := Nat.gcd_dvd_left m bs.length
  obtain ⟨b, hb⟩ := Nat.gcd_dvd_right m bs.length
  have e1 : m / Nat.gcd m bs.length = a := by conv => lhs; lhs; rw [ha]
                                              exact Nat.mul_div_cancel_left a hg
  have e2 : (m : Int) / ((Nat.gcd m bs.length : Nat) : Int) = (a : Int) := by rw [← Int.natCast_ediv, e1]
  rw [e2]
  have ha1 : 1 ≤ a := by
    rcases Nat.eq_zero_or_pos a with e | e
    · rw [e, Nat.mul_zero] at ha; omega
    · exact e
  refine ⟨by omega, ?_, ?_⟩
  · have : a ≤ m := by
      rw [← e1]; exact Nat.div_le_self _ _
    omega
  · have : a * bs.length = m * b := by
      conv => lhs; rw [hb]
      conv => rhs; rw [ha]
      rw [← Nat.mul_assoc, Nat.mul_comm a]
    rw [← Int.natCast_mul, this, ← Int.natCast_emod, Nat.mul_mod_right]; rfl

end Go.Proofs.Ythfofjbegkjdmaa
