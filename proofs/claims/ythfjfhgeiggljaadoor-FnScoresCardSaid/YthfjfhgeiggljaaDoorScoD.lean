/-
  Scores, the plain law on depth: the reference's count over the brackets finds the depth that the program's reader found; each letter of a score is played.
-/
import Derived.Test.YthfjfhgeiggljaaDoorScoT
namespace Go.Proofs.YthfjfhgeiggljaaDoor
set_option linter.unusedVariables false
set_option linter.unusedSimpArgs false

/-- The reference's walk over the brackets. -/
def scanD (c : Nat → Int) : Nat → Nat → Int → Int → Int
  | 0, _, _, m => m
  | f + 1, i, d, m => if c i = 91 then scanD c f (i + 1) (d + 1) (max m (d + 1)) else if c i = 93 then scanD c f (i + 1) (d - 1) m else scanD c f (i + 1) d m

theorem scanD_open {c : Nat → Int} {f i : Nat} {d m : Int} (h : c i = 91) : scanD c (f + 1) i d m = scanD c f (i + 1) (d + 1) (max m (d + 1)) := by rw [scanD, if_pos h]
theorem scanD_shut {c : Nat → Int} {f i : Nat} {d m : Int} (h : c i = 93) : scanD c (f + 1) i d m = scanD c f (i + 1) (d - 1) m := by rw [scanD, if_neg (by omega), if_pos h]
theorem scanD_other {c : Nat → Int} {f i : Nat} {d m : Int} (h1 : c i ≠ 91) (h2 : c i ≠ 93) : scanD c (f + 1) i d m = scanD c f (i + 1) d m := by rw [scanD, if_neg h1, if_neg h2]

/-- A row's depth is what the walk finds, and each letter of the row is played. -/
def DepR (c : Nat → Int) (L : Nat) (D : Int) (g : Nat → Row3) : Prop :=
  ∀ i p d e, i ≤ L → g i = some (p, d, e) → D ≤ d ∧ (∀ j : Nat, i ≤ j → j < e → isLet (c j) = true → (j : Int) ∈ p) ∧ ∀ F m, e - i ≤ F → D ≤ m → scanD c F i D m = scanD c (F - (e - i)) e D (max m d)

theorem rep_has {g : List Int} {x : Int} (hx : x ∈ g) : ∀ k, 0 < k → x ∈ rep g k
  | k + 1, _ => List.mem_append.2 (.inr hx)

theorem loopR_dep {c : Nat → Int} {L M : Nat} {D : Int} {inner : Option (Nat → Row3)} (hM : 1 ≤ M) (hin : ∀ g, inner = some g → (∃ M', M = 9 * M' ∧ PassR c L M' g) ∧ DepR c L (D + 1) g) :
    ∀ (f i : Nat) (acc : List Int) (dep : Int) (p : List Int) (d : Int) (e : Nat), L - i ≤ f → i ≤ L → loopR c L inner f i acc dep = some (p, d, e) → D ≤ dep →
      (∀ x ∈ acc, (0 ≤ x ∧ x < L) ∧ isLet (c x.toNat) = true) →
      i ≤ e ∧ dep ≤ d ∧ (∀ x ∈ acc, x ∈ p) ∧ (∀ j : Nat, i ≤ j → j < e → isLet (c j) = true → (j : Int) ∈ p) ∧ ∀ F m, e - i ≤ F → D ≤ m → scanD c F i D (max m dep) = scanD c (F - (e - i)) e D (max m d) := by
  intro f
  induction f with
  | zero =>
    intro i acc dep p d e hf hi h hD hx
    unfold loopR at h
    injection h with h
    injection h with h1 h
    injection h with h2 h3
    subst h1 h2 h3
    exact ⟨Nat.le_refl _, Int.le_refl _, fun _ h => h, fun j h1 h2 => by omega, fun F m _ _ => by rw [Nat.sub_self, Nat.sub_zero]⟩
  | succ f ih =>
    intro i acc dep p d e hf hi h hD hx
    unfold loopR at h
    by_cases h1 : L ≤ i ∨ c i = 93
    · rw [if_pos h1] at h
      injection h with h
      injection h with e1 h
      injection h with e2 e3
      subst e1 e2 e3
      exact ⟨Nat.le_refl _, Int.le_refl _, fun _ h => h, fun j h1 h2 => by omega, fun F m _ _ => by rw [Nat.sub_self, Nat.sub_zero]⟩
    · rw [if_neg h1] at h
      have hiL : i < L := by apply Classical.byContradiction; intro hh; exact h1 (.inl (by omega))
      have h93 : c i ≠ 93 := fun hh => h1 (.inr hh)
      by_cases h2 : c i = 91
      · rw [if_pos h2] at h
        cases hinn : inner with
        | none => rw [hinn] at h; cases h
        | some g =>
          obtain ⟨⟨M', hMM, hpass⟩, hdep⟩ := hin g hinn
          rw [hinn] at h
          cases hg : g (i + 1) with
          | none => simp only [hg] at h; cases h
          | some r =>
            obtain ⟨gp, gd, e1⟩ := r
            simp only [hg] at h
            by_cases h3 : gp = [] ∨ L ≤ e1 + 1 ∨ isDig (c (e1 + 1)) = false
            · rw [if_pos h3] at h; cases h
            · rw [if_neg h3] at h
              have hdig : isDig (c (e1 + 1)) = true := by
                cases hd : isDig (c (e1 + 1))
                · exact absurd (.inr (.inr hd)) h3
                · rfl
              have he1L : e1 + 1 < L := by apply Classical.byContradiction; intro hh; exact h3 (.inr (.inl (by omega)))
              obtain ⟨p1, p2, p3, p4, p5, p6, p7⟩ := hpass (i + 1) gp gd e1 (by omega) hg
              obtain ⟨d1, d2, d3⟩ := hdep (i + 1) gp gd e1 (by omega) hg
              rw [← hinn] at h
              have hd2 := isDig_iff.1 hdig
              obtain ⟨q1, q2, q3, q4, q5⟩ := ih (e1 + 2) _ _ p d e (by omega) (by omega) h (by omega) (fun x hx' => by
                rcases List.mem_append.1 hx' with h | h
                · exact hx x h
                · exact p6 x (rep_mem h))
              have hc1 : c e1 = 93 := p3 (by omega)
              refine ⟨by omega, by omega, fun x h => q3 x (List.mem_append.2 (.inl h)), ?_, ?_⟩
              · intro j hj1 hj2 hl
                have hl2 := isLet_iff.1 hl
                by_cases hji : j = i
                · subst hji; omega
                by_cases hje : j < e1
                · exact q3 _ (List.mem_append.2 (.inr (rep_has (d2 j (by omega) hje hl) _ (by omega))))
                by_cases hj3 : j = e1
                · subst hj3; omega
                by_cases hj4 : j = e1 + 1
                · subst hj4; omega
                exact q4 j (by omega) hj2 hl
              · intro F m hF hm
                obtain ⟨F1, rfl⟩ : ∃ F1, F = F1 + 1 := ⟨F - 1, by omega⟩
                rw [scanD_open h2, d3 F1 _ (by omega) (by omega)]
                obtain ⟨F2, hF2⟩ : ∃ F2, F1 - (e1 - (i + 1)) = F2 + 1 := ⟨F1 - (e1 - (i + 1)) - 1, by omega⟩
                rw [hF2, scanD_shut hc1]
                obtain ⟨F3, rfl⟩ : ∃ F3, F2 = F3 + 1 := ⟨F2 - 1, by omega⟩
                rw [scanD_other (by omega) (by omega), show D + 1 - 1 = D by omega, show max (max (max m dep) (D + 1)) gd = max m (max dep gd) by omega, q5 F3 m (by omega) hm]
                congr 1
                omega
      · rw [if_neg h2] at h
        by_cases h4 : isLet (c i) = true
        · rw [if_pos h4] at h
          have h5 := isLet_iff.1 h4
          obtain ⟨q1, q2, q3, q4, q5⟩ := ih (i + 1) _ _ p d e (by omega) (by omega) h hD (fun x hx' => by
            rcases List.mem_append.1 hx' with h | h
            · exact hx x h
            · simp at h; subst h; exact ⟨⟨by omega, by omega⟩, by simpa using h4⟩)
          refine ⟨by omega, q2, fun x h => q3 x (List.mem_append.2 (.inl h)), ?_, ?_⟩
          · intro j hj1 hj2 hl
            by_cases hji : j = i
            · subst hji; exact q3 _ (List.mem_append.2 (.inr (by simp)))
            · exact q4 j (by omega) hj2 hl
          · intro F m hF hm
            obtain ⟨F1, rfl⟩ : ∃ F1, F = F1 + 1 := ⟨F - 1, by omega⟩
            rw [scanD_other h2 h93, q5 F1 m (by omega) hm]
            congr 1
            omega
        · rw [if_neg h4] at h; cases h

theorem rowR_dep (c : Nat → Int) (L : Nat) : ∀ d : Nat, DepR c L (3 - (d : Int)) (rowR c L d)
  | 0 => by
    intro i p d e hi h
    obtain ⟨q1, q2, q3, q4, q5⟩ := loopR_dep (c := c) (L := L) (M := 1) (D := 3) (inner := none) (by omega) (fun g hg => by cases hg) (L - i) i [] 3 p d e (by omega) hi h (by omega) (fun x hx => by cases hx)
    refine ⟨by simpa using q2, q4, fun F m hF hm => ?_⟩
    have := q5 F m hF (by simpa using hm)
    rw [show max m 3 = m by simp at hm; omega] at this
    simpa using this
  | d' + 1 => by
    intro i p d e hi h
    have hp := rowR_pass c L d'
    have hr := rowR_dep c L d'
    have e1 : (3 - ((d' + 1 : Nat) : Int)) = 3 - ((d' : Int) + 1) := by omega
    rw [e1]
    obtain ⟨q1, q2, q3, q4, q5⟩ := loopR_dep (c := c) (L := L) (M := 9 ^ (d' + 1)) (D := 3 - ((d' : Int) + 1)) (inner := some (rowR c L d')) (Nat.pos_of_ne_zero (by simp)) (fun g hg => by
      injection hg with hg
      subst hg
      refine ⟨⟨9 ^ d', by rw [Nat.pow_succ, Nat.mul_comm], hp⟩, ?_⟩
      rw [show (3 - ((d' : Int) + 1)) + 1 = 3 - (d' : Int) by omega]
      exact hr) (L - i) i [] _ p d e (by omega) hi h (Int.le_refl _) (fun x hx => by cases hx)
    refine ⟨q2, q4, fun F m hF hm => ?_⟩
    have := q5 F m hF hm
    rwa [show max m (3 - ((d' : Int) + 1)) = m by omega] at this

theorem scoreOf_dep {c : Nat → Int} {L : Nat} {p : List Int} {d : Int} (h : scoreOf c L = some (p, d)) : scanD c L 0 0 0 = d ∧ ∀ j : Nat, j < L → isLet (c j) = true → (j : Int) ∈ p := by
  unfold scoreOf at h
  cases hr : rowR c L 3 0 with
  | none => rw [hr] at h; cases h
  | some r =>
    obtain ⟨p', d', e⟩ := r
    rw [hr] at h
    simp only at h
    have hp := rowR_pass c L 3 0 p' d' e (Nat.zero_le _) hr
    obtain ⟨h1, h2, h3⟩ := rowR_dep c L 3 0 p' d' e (Nat.zero_le _) hr
    by_cases h4 : e < L ∨ 500 < p'.length
    · rw [if_pos h4] at h; cases h
    · rw [if_neg h4] at h
      injection h with h
      injection h with e1 e2
      subst e1 e2
      have he : e = L := by have := hp.2.1; omega
      subst he
      have := h3 e 0 (by omega) (by decide)
      refine ⟨?_, fun j hj hl => h2 j (Nat.zero_le _) hj hl⟩
      have hz : (3 : Int) - ((3 : Nat) : Int) = 0 := by decide
      rw [hz] at this h1
      rw [this, Nat.sub_zero, Nat.sub_self]
      unfold scanD
      omega

end Go.Proofs.YthfjfhgeiggljaaDoor
