/-
  Scores, the plain law: what the program's reader of rows and the reference's player compute, and that they agree.
-/
import Derived.Test.YthookknmeajojaaGreatDoorBase
namespace Go.Proofs.YthookknmeajojaaGreatDoor
set_option linter.unusedVariables false
set_option linter.unusedSimpArgs false

def isLet (x : Int) : Bool := decide (97 ≤ x ∧ x ≤ 122)
def isDig (x : Int) : Bool := decide (50 ≤ x ∧ x ≤ 57)
theorem isLet_iff {x : Int} : isLet x = true ↔ 97 ≤ x ∧ x ≤ 122 := by unfold isLet; simp
theorem isDig_iff {x : Int} : isDig x = true ↔ 50 ≤ x ∧ x ≤ 57 := by unfold isDig; simp

def rep (g : List Int) : Nat → List Int
  | 0 => []
  | k + 1 => rep g k ++ g
theorem rep_len (g : List Int) : ∀ k, (rep g k).length = k * g.length
  | 0 => by simp [rep]
  | k + 1 => by simp [rep, rep_len g k, Nat.add_mul]
theorem rep_mem {g : List Int} {x : Int} : ∀ {k}, x ∈ rep g k → x ∈ g
  | 0, h => by simp [rep] at h
  | k + 1, h => by
    rcases List.mem_append.1 (show x ∈ rep g k ++ g from h) with h | h
    · exact rep_mem h
    · exact h

abbrev Row3 := Option (List Int × Int × Nat)

/-- The program's loop over a row. -/
def loopR (c : Nat → Int) (L : Nat) (inner : Option (Nat → Row3)) : Nat → Nat → List Int → Int → Row3
  | 0, i, acc, dep => some (acc, dep, i)
  | f + 1, i, acc, dep =>
    if L ≤ i ∨ c i = 93 then some (acc, dep, i)
    else if c i = 91 then
      match inner with
      | none => none
      | some g =>
        match g (i + 1) with
        | none => none
        | some (gp, gd, e) => if gp = [] ∨ L ≤ e + 1 ∨ isDig (c (e + 1)) = false then none else loopR c L inner f (e + 2) (acc ++ rep gp (c (e + 1) - 48).toNat) (max dep gd)
    else if isLet (c i) = true then loopR c L inner f (i + 1) (acc ++ [(i : Int)]) dep
    else none

def rowR (c : Nat → Int) (L : Nat) : Nat → Nat → Row3
  | 0, i => loopR c L none (L - i) i [] 3
  | d + 1, i => loopR c L (some (rowR c L d)) (L - i) i [] (3 - (d + 1))

/-- The reference's closing bracket. -/
def cloS (c : Nat → Int) (b : Nat) : Nat → Nat → Int → Int
  | 0, _, _ => -1
  | f + 1, i, d =>
    if b ≤ i then -1
    else if c i = 91 then cloS c b f (i + 1) (d + 1)
    else if c i = 93 then (if d - 1 = 0 then i else cloS c b f (i + 1) (d - 1))
    else cloS c b f (i + 1) d

/-- The reference's loop. -/
def loopS (c : Nat → Int) (inner : Option (Nat → Nat → Option (List Int))) (b : Nat) : Nat → Nat → List Int → Option (List Int)
  | 0, _, acc => some acc
  | f + 1, i, acc =>
    if b ≤ i then some acc
    else if isLet (c i) = true then (if 500 < acc.length + 1 then none else loopS c inner b f (i + 1) (acc ++ [(i : Int)]))
    else if c i = 91 then
      if cloS c b (b - i) i 0 < 0 ∨ cloS c b (b - i) i 0 = i + 1 ∨ (b : Int) ≤ cloS c b (b - i) i 0 + 1 then none
      else match inner with
      | none => none
      | some g =>
        if isDig (c ((cloS c b (b - i) i 0).toNat + 1)) = false then none
        else match g (i + 1) (cloS c b (b - i) i 0).toNat with
        | none => none
        | some gp =>
          if 500 < (acc ++ rep gp (c ((cloS c b (b - i) i 0).toNat + 1) - 48).toNat).length then none
          else loopS c inner b f ((cloS c b (b - i) i 0).toNat + 2) (acc ++ rep gp (c ((cloS c b (b - i) i 0).toNat + 1) - 48).toNat)
    else none

def rowS (c : Nat → Int) : Nat → Nat → Nat → Option (List Int)
  | 0, a, b => loopS c none b (b - a) a []
  | d + 1, a, b => loopS c (some (rowS c d)) b (b - a) a []

theorem clo_spec (c : Nat → Int) (b : Nat) : ∀ (f i : Nat) (k : Int), 0 ≤ cloS c b f i k → ∃ e : Nat, cloS c b f i k = e ∧ i ≤ e ∧ e < b ∧ c e = 93
  | 0, i, k, h => by simp [cloS] at h
  | f + 1, i, k, h => by
    unfold cloS at h ⊢
    by_cases h1 : b ≤ i
    · rw [if_pos h1] at h; omega
    · rw [if_neg h1] at h ⊢
      by_cases h2 : c i = 91
      · rw [if_pos h2] at h ⊢
        obtain ⟨e, e1, e2, e3, e4⟩ := clo_spec c b f (i + 1) _ h
        exact ⟨e, e1, by omega, e3, e4⟩
      · rw [if_neg h2] at h ⊢
        by_cases h3 : c i = 93
        · rw [if_pos h3] at h ⊢
          by_cases h4 : k - 1 = 0
          · rw [if_pos h4]; exact ⟨i, rfl, Nat.le_refl _, by omega, h3⟩
          · rw [if_neg h4] at h ⊢
            obtain ⟨e, e1, e2, e3, e4⟩ := clo_spec c b f (i + 1) _ h
            exact ⟨e, e1, by omega, e3, e4⟩
        · rw [if_neg h3] at h ⊢
          obtain ⟨e, e1, e2, e3, e4⟩ := clo_spec c b f (i + 1) _ h
          exact ⟨e, e1, by omega, e3, e4⟩

theorem clo_open {c : Nat → Int} {b f i : Nat} {k : Int} (h : i < b) (hc : c i = 91) : cloS c b (f + 1) i k = cloS c b f (i + 1) (k + 1) := by
  rw [cloS, if_neg (by omega), if_pos hc]
theorem clo_shut {c : Nat → Int} {b f i : Nat} {k : Int} (h : i < b) (hc : c i = 93) (hk : k ≠ 1) : cloS c b (f + 1) i k = cloS c b f (i + 1) (k - 1) := by
  rw [cloS, if_neg (by omega), if_neg (by omega), if_pos hc, if_neg (by omega)]
theorem clo_here {c : Nat → Int} {b f i : Nat} (h : i < b) (hc : c i = 93) : cloS c b (f + 1) i 1 = i := by
  rw [cloS, if_neg (by omega), if_neg (by omega), if_pos hc, if_pos (by omega)]
theorem clo_other {c : Nat → Int} {b f i : Nat} {k : Int} (h : i < b) (h1 : c i ≠ 91) (h2 : c i ≠ 93) : cloS c b (f + 1) i k = cloS c b f (i + 1) k := by
  rw [cloS, if_neg (by omega), if_neg h1, if_neg h2]

/-- What a row's result is good for. -/
def PassR (c : Nat → Int) (L M : Nat) (g : Nat → Row3) : Prop :=
  ∀ i p d e, i ≤ L → g i = some (p, d, e) → i ≤ e ∧ e ≤ L ∧ (e < L → c e = 93) ∧ (e = i → p = []) ∧ p.length ≤ (e - i) * M ∧ (∀ x ∈ p, (0 ≤ x ∧ x < L) ∧ isLet (c x.toNat) = true) ∧
    ∀ b F k, 1 ≤ k → e ≤ b → b ≤ L → b - i ≤ F → cloS c b F i k = cloS c b (F - (e - i)) e k

theorem loopR_pass {c : Nat → Int} {L M : Nat} {inner : Option (Nat → Row3)} (hM : 1 ≤ M) (hin : ∀ g, inner = some g → ∃ M', M = 9 * M' ∧ PassR c L M' g) :
    ∀ (f i : Nat) (acc : List Int) (dep : Int) (p : List Int) (d : Int) (e : Nat), L - i ≤ f → i ≤ L → loopR c L inner f i acc dep = some (p, d, e) →
      (∀ x ∈ acc, (0 ≤ x ∧ x < L) ∧ isLet (c x.toNat) = true) →
      i ≤ e ∧ e ≤ L ∧ (e < L → c e = 93) ∧ (e = i → p = acc) ∧ acc.length ≤ p.length ∧ p.length ≤ acc.length + (e - i) * M ∧ (∀ x ∈ p, (0 ≤ x ∧ x < L) ∧ isLet (c x.toNat) = true) ∧
      ∀ b F k, 1 ≤ k → e ≤ b → b ≤ L → b - i ≤ F → cloS c b F i k = cloS c b (F - (e - i)) e k := by
  intro f
  induction f with
  | zero =>
    intro i acc dep p d e hf hi h hx
    unfold loopR at h
    injection h with h
    injection h with h1 h
    injection h with h2 h3
    subst h1 h3
    exact ⟨Nat.le_refl _, hi, fun h => by omega, fun _ => rfl, Nat.le_refl _, by omega, hx, fun b F k _ _ _ _ => by rw [Nat.sub_self, Nat.sub_zero]⟩
  | succ f ih =>
    intro i acc dep p d e hf hi h hx
    unfold loopR at h
    by_cases h1 : L ≤ i ∨ c i = 93
    · rw [if_pos h1] at h
      injection h with h
      injection h with e1 h
      injection h with e2 e3
      subst e1 e3
      refine ⟨Nat.le_refl _, hi, fun h => ?_, fun _ => rfl, Nat.le_refl _, by omega, hx, fun b F k _ _ _ _ => by rw [Nat.sub_self, Nat.sub_zero]⟩
      rcases h1 with h1 | h1
      · omega
      · exact h1
    · rw [if_neg h1] at h
      have hiL : i < L := by apply Classical.byContradiction; intro hh; exact h1 (.inl (by omega))
      have h93 : c i ≠ 93 := fun hh => h1 (.inr hh)
      by_cases h2 : c i = 91
      · rw [if_pos h2] at h
        cases hinn : inner with
        | none => rw [hinn] at h; cases h
        | some g =>
          obtain ⟨M', hMM, hpass⟩ := hin g hinn
          rw [hinn] at h
          cases hg : g (i + 1) with
          | none => simp only [hg] at h; cases h
          | some r =>
            obtain ⟨gp, gd, e1⟩ := r
            simp only [hg] at h
            by_cases h3 : gp = [] ∨ L ≤ e1 + 1 ∨ isDig (c (e1 + 1)) = false
            · rw [if_pos h3] at h; cases h
            · rw [if_neg h3] at h
              have hgp : gp ≠ [] := fun hh => h3 (.inl hh)
              have hdig : isDig (c (e1 + 1)) = true := by
                cases hd : isDig (c (e1 + 1))
                · exact absurd (.inr (.inr hd)) h3
                · rfl
              have he1L : e1 + 1 < L := by apply Classical.byContradiction; intro hh; exact h3 (.inr (.inl (by omega)))
              obtain ⟨p1, p2, p3, p4, p5, p6, p7⟩ := hpass (i + 1) gp gd e1 (by omega) hg
              rw [← hinn] at h
              have hd2 := isDig_iff.1 hdig
              obtain ⟨q1, q2, q3, q4, q5, q6, q7, q8⟩ := ih (e1 + 2) _ _ p d e (by omega) (by omega) h (fun x hx' => by
                rcases List.mem_append.1 hx' with h | h
                · exact hx x h
                · exact p6 x (rep_mem h))
              have hc1 : c e1 = 93 := p3 (by omega)
              rw [List.length_append, rep_len] at q5 q6
              obtain ⟨kk, hkk⟩ : ∃ kk, (c (e1 + 1) - 48).toNat = kk := ⟨_, rfl⟩
              rw [hkk] at q5 q6
              have hk9 : kk ≤ 9 := by omega
              refine ⟨by omega, q2, q3, fun h => by omega, by omega, ?_, q7, ?_⟩
              · have b1 : kk * gp.length ≤ 9 * ((e1 - (i + 1)) * M') := Nat.mul_le_mul hk9 p5
                have b2 : 9 * ((e1 - (i + 1)) * M') = (e1 - (i + 1)) * M := by rw [hMM, Nat.mul_left_comm]
                have b3 : (e1 - (i + 1)) * M + (e - (e1 + 2)) * M ≤ (e - i) * M := by rw [← Nat.add_mul]; exact Nat.mul_le_mul_right _ (by omega)
                omega
              · intro b F k hk heb hbL hF
                obtain ⟨F1, rfl⟩ : ∃ F1, F = F1 + 1 := ⟨F - 1, by omega⟩
                rw [clo_open (by omega) h2, p7 b F1 (k + 1) (by omega) (by omega) hbL (by omega)]
                obtain ⟨F2, hF2⟩ : ∃ F2, F1 - (e1 - (i + 1)) = F2 + 1 := ⟨F1 - (e1 - (i + 1)) - 1, by omega⟩
                rw [hF2, clo_shut (by omega) hc1 (by omega)]
                obtain ⟨F3, rfl⟩ : ∃ F3, F2 = F3 + 1 := ⟨F2 - 1, by omega⟩
                rw [clo_other (by omega) (by omega) (by omega), show k + 1 - 1 = k by omega, q8 b F3 k hk heb hbL (by omega)]
                congr 1
                omega
      · rw [if_neg h2] at h
        by_cases h4 : isLet (c i) = true
        · rw [if_pos h4] at h
          have h5 := isLet_iff.1 h4
          obtain ⟨q1, q2, q3, q4, q5, q6, q7, q8⟩ := ih (i + 1) _ _ p d e (by omega) (by omega) h (fun x hx' => by
            rcases List.mem_append.1 hx' with h | h
            · exact hx x h
            · simp at h; subst h; exact ⟨⟨by omega, by omega⟩, by simpa using h4⟩)
          rw [List.length_append, List.length_singleton] at q5 q6
          refine ⟨by omega, q2, q3, fun h => by omega, by omega, ?_, q7, ?_⟩
          · have b3 : 1 * M + (e - (i + 1)) * M ≤ (e - i) * M := by rw [← Nat.add_mul]; exact Nat.mul_le_mul_right _ (by omega)
            omega
          · intro b F k hk heb hbL hF
            obtain ⟨F1, rfl⟩ : ∃ F1, F = F1 + 1 := ⟨F - 1, by omega⟩
            rw [clo_other (by omega) h2 h93, q8 b F1 k hk heb hbL (by omega)]
            congr 1
            omega
        · rw [if_neg h4] at h; cases h

theorem rowR_pass (c : Nat → Int) (L : Nat) : ∀ d, PassR c L (9 ^ d) (rowR c L d)
  | 0 => by
    intro i p d e hi h
    have := loopR_pass (c := c) (L := L) (M := 1) (inner := none) (by omega) (fun g hg => by cases hg) (L - i) i [] 3 p d e (by omega) hi h (fun x hx => by cases hx)
    obtain ⟨q1, q2, q3, q4, q5, q6, q7, q8⟩ := this
    exact ⟨q1, q2, q3, q4, by simpa using q6, q7, q8⟩
  | d' + 1 => by
    intro i p d e hi h
    have hp := rowR_pass c L d'
    have := loopR_pass (c := c) (L := L) (M := 9 ^ (d' + 1)) (inner := some (rowR c L d')) (Nat.pos_of_ne_zero (by simp)) (fun g hg => by injection hg with hg; subst hg; exact ⟨9 ^ d', by rw [Nat.pow_succ, Nat.mul_comm], hp⟩) (L - i) i [] _ p d e (by omega) hi h (fun x hx => by cases hx)
    obtain ⟨q1, q2, q3, q4, q5, q6, q7, q8⟩ := this
    exact ⟨q1, q2, q3, q4, by simpa using q6, q7, q8⟩

/-- From the program to the reference. -/
def ToS (L : Nat) (g : Nat → Row3) (gs : Nat → Nat → Option (List Int)) : Prop := ∀ i p d e, i ≤ L → g i = some (p, d, e) → p.length ≤ 500 → gs i e = some p

theorem loop_toS {c : Nat → Int} {L M : Nat} {inner : Option (Nat → Row3)} {innerS : Option (Nat → Nat → Option (List Int))} (hM : 1 ≤ M)
    (hin : (inner = none ∧ innerS = none) ∨ ∃ g gs, inner = some g ∧ innerS = some gs ∧ (∃ M', M = 9 * M' ∧ PassR c L M' g) ∧ ToS L g gs) :
    ∀ (f i : Nat) (acc : List Int) (dep : Int) (p : List Int) (d : Int) (e : Nat), L - i ≤ f → i ≤ L → loopR c L inner f i acc dep = some (p, d, e) →
      (∀ x ∈ acc, (0 ≤ x ∧ x < L) ∧ isLet (c x.toNat) = true) → p.length ≤ 500 → ∀ F, e - i ≤ F → loopS c innerS e F i acc = some p := by
  have hin' : ∀ g, inner = some g → ∃ M', M = 9 * M' ∧ PassR c L M' g := by
    intro g hg
    rcases hin with ⟨h, _⟩ | ⟨g', gs, h1, _, h3, _⟩
    · rw [h] at hg; cases hg
    · rw [h1] at hg; injection hg with hg; subst hg; exact h3
  intro f
  induction f with
  | zero =>
    intro i acc dep p d e hf hi h _ _ F hF
    unfold loopR at h
    injection h with h
    injection h with h1 h
    injection h with h2 h3
    subst h1 h3
    cases F with
    | zero => rfl
    | succ F => unfold loopS; rw [if_pos (Nat.le_refl _)]
  | succ f ih =>
    intro i acc dep p d e hf hi h hx hp F hF
    have hall := loopR_pass hM hin' (f + 1) i acc dep p d e hf hi h hx
    unfold loopR at h
    by_cases h1 : L ≤ i ∨ c i = 93
    · rw [if_pos h1] at h
      injection h with h
      injection h with e1 h
      injection h with e2 e3
      subst e1 e3
      cases F with
      | zero => rfl
      | succ F => unfold loopS; rw [if_pos (Nat.le_refl _)]
    · rw [if_neg h1] at h
      have hiL : i < L := by apply Classical.byContradiction; intro hh; exact h1 (.inl (by omega))
      have h93 : c i ≠ 93 := fun hh => h1 (.inr hh)
      by_cases h2 : c i = 91
      · rw [if_pos h2] at h
        rcases hin with ⟨hn, _⟩ | ⟨g, gs, hg1, hg2, ⟨M', hMM, hpass⟩, hto⟩
        · rw [hn] at h; cases h
        · rw [hg1] at h
          cases hg : g (i + 1) with
          | none => simp only [hg] at h; cases h
          | some r =>
            obtain ⟨gp, gd, e1⟩ := r
            simp only [hg] at h
            by_cases h3 : gp = [] ∨ L ≤ e1 + 1 ∨ isDig (c (e1 + 1)) = false
            · rw [if_pos h3] at h; cases h
            · rw [if_neg h3] at h
              have hgp : gp ≠ [] := fun hh => h3 (.inl hh)
              have hdig : isDig (c (e1 + 1)) = true := by
                cases hd : isDig (c (e1 + 1))
                · exact absurd (.inr (.inr hd)) h3
                · rfl
              have he1L : e1 + 1 < L := by apply Classical.byContradiction; intro hh; exact h3 (.inr (.inl (by omega)))
              obtain ⟨p1, p2, p3, p4, p5, p6, p7⟩ := hpass (i + 1) gp gd e1 (by omega) hg
              rw [← hg1] at h
              have hd2 := isDig_iff.1 hdig
              have hx2 : ∀ x ∈ acc ++ rep gp (c (e1 + 1) - 48).toNat, (0 ≤ x ∧ x < L) ∧ isLet (c x.toNat) = true := by
                intro x hx'
                rcases List.mem_append.1 hx' with h | h
                · exact hx x h
                · exact p6 x (rep_mem h)
              have hq := loopR_pass hM hin' f (e1 + 2) _ _ p d e (by omega) (by omega) h hx2
              obtain ⟨q1, q2, q3, q4, q5, q6, q7, q8⟩ := hq
              have hc1 : c e1 = 93 := p3 (by omega)
              have hne : e1 ≠ i + 1 := fun hh => hgp (p4 hh)
              have hclo : cloS c e (e - i) i 0 = (e1 : Int) := by
                obtain ⟨F1, hF1⟩ : ∃ F1, e - i = F1 + 1 := ⟨e - i - 1, by omega⟩
                rw [hF1, clo_open (by omega) h2, show (0 : Int) + 1 = 1 from rfl, p7 e F1 1 (by omega) (by omega) q2 (by omega)]
                obtain ⟨F2, hF2⟩ : ∃ F2, F1 - (e1 - (i + 1)) = F2 + 1 := ⟨F1 - (e1 - (i + 1)) - 1, by omega⟩
                rw [hF2, clo_here (by omega) hc1]
              obtain ⟨F1, rfl⟩ : ∃ F1, F = F1 + 1 := ⟨F - 1, by omega⟩
              have hglen : gp.length ≤ 500 := by
                rw [List.length_append, rep_len] at q5
                have : 1 * gp.length ≤ (c (e1 + 1) - 48).toNat * gp.length := Nat.mul_le_mul_right _ (by omega)
                omega
              unfold loopS
              have hnl : isLet (c i) = false := by unfold isLet; rw [decide_eq_false_iff_not]; omega
              rw [if_neg (by omega), if_neg (by rw [hnl]; decide), if_pos h2, hclo, if_neg (by omega), hg2]
              simp only [Int.toNat_natCast]
              rw [if_neg (by rw [hdig]; decide)]
              simp only [hto (i + 1) gp gd e1 (by omega) hg hglen]
              rw [if_neg (by omega), ← hg2]
              exact ih (e1 + 2) _ _ p d e (by omega) (by omega) h hx2 hp F1 (by omega)
      · rw [if_neg h2] at h
        by_cases h4 : isLet (c i) = true
        · rw [if_pos h4] at h
          have h5 := isLet_iff.1 h4
          have hx2 : ∀ x ∈ acc ++ [(i : Int)], (0 ≤ x ∧ x < L) ∧ isLet (c x.toNat) = true := by
            intro x hx'
            rcases List.mem_append.1 hx' with h | h
            · exact hx x h
            · simp at h; subst h; exact ⟨⟨by omega, by omega⟩, by simpa using h4⟩
          obtain ⟨q1, q2, q3, q4, q5, q6, q7, q8⟩ := loopR_pass hM hin' f (i + 1) _ _ p d e (by omega) (by omega) h hx2
          rw [List.length_append, List.length_singleton] at q5
          obtain ⟨F1, rfl⟩ : ∃ F1, F = F1 + 1 := ⟨F - 1, by omega⟩
          unfold loopS
          rw [if_neg (by omega), if_pos h4, if_neg (by omega)]
          exact ih (i + 1) _ _ p d e (by omega) (by omega) h hx2 hp F1 (by omega)
        · rw [if_neg h4] at h; cases h

theorem row_toS (c : Nat → Int) (L : Nat) : ∀ d, ToS L (rowR c L d) (rowS c d)
  | 0 => by
    intro i p d e hi h hp
    exact loop_toS (M := 1) (by omega) (.inl ⟨rfl, rfl⟩) (L - i) i [] 3 p d e (by omega) hi h (fun x hx => by cases hx) hp (e - i) (Nat.le_refl _)
  | d' + 1 => by
    intro i p d e hi h hp
    exact loop_toS (M := 9 ^ (d' + 1)) (Nat.pos_of_ne_zero (by simp)) (.inr ⟨_, _, rfl, rfl, ⟨9 ^ d', by rw [Nat.pow_succ, Nat.mul_comm], rowR_pass c L d'⟩, row_toS c L d'⟩) (L - i) i [] _ p d e (by omega) hi h (fun x hx => by cases hx) hp (e - i) (Nat.le_refl _)

/-- From the reference to the program. -/
def ToR (c : Nat → Int) (L : Nat) (g : Nat → Row3) (gs : Nat → Nat → Option (List Int)) : Prop :=
  ∀ a b p, a ≤ b → b ≤ L → (b < L → c b = 93) → gs a b = some p → (∃ d, g a = some (p, d, b)) ∧ p.length ≤ 500 ∧ (a < b → p ≠ [])

theorem loop_toR {c : Nat → Int} {L b : Nat} {inner : Option (Nat → Row3)} {innerS : Option (Nat → Nat → Option (List Int))} (hbL : b ≤ L) (hb93 : b < L → c b = 93)
    (hin : (inner = none ∧ innerS = none) ∨ ∃ g gs, inner = some g ∧ innerS = some gs ∧ ToR c L g gs) :
    ∀ (F i : Nat) (acc p : List Int), b - i ≤ F → i ≤ b → acc.length ≤ 500 → loopS c innerS b F i acc = some p →
      (∀ f dep, L - i ≤ f → ∃ d, loopR c L inner f i acc dep = some (p, d, b)) ∧ p.length ≤ 500 ∧ acc.length ≤ p.length ∧ (i < b → acc.length < p.length) := by
  intro F
  induction F with
  | zero =>
    intro i acc p hF hi hacc h
    unfold loopS at h
    injection h with h
    subst h
    have hib : i = b := by omega
    subst hib
    refine ⟨fun f dep hf => ⟨dep, ?_⟩, hacc, Nat.le_refl _, fun h => by omega⟩
    cases f with
    | zero => rfl
    | succ f =>
      unfold loopR
      rw [if_pos]
      by_cases hh : L ≤ i
      · exact .inl hh
      · exact .inr (hb93 (by omega))
  | succ F ih =>
    intro i acc p hF hi hacc h
    unfold loopS at h
    by_cases h1 : b ≤ i
    · rw [if_pos h1] at h
      injection h with h
      subst h
      have hib : i = b := by omega
      subst hib
      refine ⟨fun f dep hf => ⟨dep, ?_⟩, hacc, Nat.le_refl _, fun h => by omega⟩
      cases f with
      | zero => rfl
      | succ f =>
        unfold loopR
        rw [if_pos]
        by_cases hh : L ≤ i
        · exact .inl hh
        · exact .inr (hb93 (by omega))
    · rw [if_neg h1] at h
      by_cases h2 : isLet (c i) = true
      · rw [if_pos h2] at h
        have h5 := isLet_iff.1 h2
        by_cases h3 : 500 < acc.length + 1
        · rw [if_pos h3] at h; cases h
        · rw [if_neg h3] at h
          obtain ⟨q1, q2, q3, q4⟩ := ih (i + 1) _ p (by omega) (by omega) (by rw [List.length_append, List.length_singleton]; omega) h
          rw [List.length_append, List.length_singleton] at q3
          refine ⟨fun f dep hf => ?_, q2, by omega, fun _ => by omega⟩
          obtain ⟨f', rfl⟩ : ∃ f', f = f' + 1 := ⟨f - 1, by omega⟩
          unfold loopR
          rw [if_neg (by omega), if_neg (by omega), if_pos h2]
          exact q1 f' dep (by omega)
      · rw [if_neg h2] at h
        by_cases h4 : c i = 91
        · rw [if_pos h4] at h
          obtain ⟨E, hE⟩ : ∃ E, cloS c b (b - i) i 0 = E := ⟨_, rfl⟩
          rw [hE] at h
          by_cases h5 : E < 0 ∨ E = i + 1 ∨ (b : Int) ≤ E + 1
          · rw [if_pos h5] at h; cases h
          · rw [if_neg h5] at h
            obtain ⟨e, he, hie, heb, hce⟩ := clo_spec c b (b - i) i 0 (by rw [hE]; omega)
            rw [hE] at he
            subst he
            simp only [Int.toNat_natCast] at h
            have hne : e ≠ i := fun hh => by rw [hh] at hce; omega
            rcases hin with ⟨_, hn⟩ | ⟨g, gs, hg1, hg2, hto⟩
            · rw [hn] at h; cases h
            · rw [hg2] at h
              simp only at h
              by_cases h6 : isDig (c (e + 1)) = false
              · rw [if_pos h6] at h; cases h
              · rw [if_neg h6] at h
                cases hgs : gs (i + 1) e with
                | none => simp only [hgs] at h; cases h
                | some gp =>
                  simp only [hgs] at h
                  by_cases h7 : 500 < (acc ++ rep gp (c (e + 1) - 48).toNat).length
                  · rw [if_pos h7] at h; cases h
                  · rw [if_neg h7] at h
                    obtain ⟨⟨gd, hg⟩, hl5, hne0⟩ := hto (i + 1) e gp (by omega) (by omega) (fun _ => hce) hgs
                    have hgp := hne0 (by omega)
                    rw [← hg2] at h
                    obtain ⟨q1, q2, q3, q4⟩ := ih (e + 2) _ p (by omega) (by omega) (by omega) h
                    have hd1 : isDig (c (e + 1)) = true := by simpa using h6
                    have hd2 := isDig_iff.1 hd1
                    rw [List.length_append, rep_len] at q3
                    have hgl : 0 < gp.length := List.length_pos_iff.2 hgp
                    have hmul : 1 * gp.length ≤ (c (e + 1) - 48).toNat * gp.length := Nat.mul_le_mul_right _ (by omega)
                    refine ⟨fun f dep hf => ?_, q2, by omega, fun _ => by omega⟩
                    obtain ⟨f', rfl⟩ : ∃ f', f = f' + 1 := ⟨f - 1, by omega⟩
                    unfold loopR
                    rw [if_neg (by omega), if_pos h4, hg1]
                    simp only [hg]
                    rw [if_neg, ← hg1]
                    · exact q1 f' _ (by omega)
                    · rintro (hh | hh | hh)
                      · exact hgp hh
                      · omega
                      · exact h6 hh
        · rw [if_neg h4] at h; cases h

theorem row_toR (c : Nat → Int) (L : Nat) : ∀ d, ToR c L (rowR c L d) (rowS c d)
  | 0 => by
    intro a b p hab hbL hb h
    obtain ⟨q1, q2, q3, q4⟩ := loop_toR hbL hb (.inl ⟨rfl, rfl⟩) (b - a) a [] p (Nat.le_refl _) hab (by simp) h
    exact ⟨q1 (L - a) 3 (Nat.le_refl _), q2, fun hh e => by have := q4 hh; rw [e] at this; simp at this⟩
  | d' + 1 => by
    intro a b p hab hbL hb h
    obtain ⟨q1, q2, q3, q4⟩ := loop_toR hbL hb (.inr ⟨_, _, rfl, rfl, row_toR c L d'⟩) (b - a) a [] p (Nat.le_refl _) hab (by simp) h
    exact ⟨q1 (L - a) _ (Nat.le_refl _), q2, fun hh e => by have := q4 hh; rw [e] at this; simp at this⟩

/-- What a score plays: its places and its depth. -/
def scoreOf (c : Nat → Int) (L : Nat) : Option (List Int × Int) :=
  match rowR c L 3 0 with
  | none => none
  | some (p, d, e) => if e < L ∨ 500 < p.length then none else some (p, d)

theorem scoreOf_S (c : Nat → Int) (L : Nat) : rowS c 3 0 L = (scoreOf c L).map (fun r => r.1) := by
  unfold scoreOf
  cases h : rowR c L 3 0 with
  | none =>
    simp only [Option.map_none]
    cases hs : rowS c 3 0 L with
    | none => rfl
    | some p =>
      obtain ⟨⟨d, hd⟩, _⟩ := row_toR c L 3 0 L p (Nat.zero_le _) (Nat.le_refl _) (fun h => by omega) hs
      rw [h] at hd; cases hd
  | some r =>
    obtain ⟨p, d, e⟩ := r
    simp only
    have hp := rowR_pass c L 3 0 p d e (Nat.zero_le _) h
    by_cases h1 : e < L ∨ 500 < p.length
    · rw [if_pos h1]
      simp only [Option.map_none]
      cases hs : rowS c 3 0 L with
      | none => rfl
      | some p' =>
        obtain ⟨⟨d', hd⟩, hl, _⟩ := row_toR c L 3 0 L p' (Nat.zero_le _) (Nat.le_refl _) (fun h => by omega) hs
        rw [h] at hd
        injection hd with hd
        injection hd with e1 hd
        injection hd with e2 e3
        subst e1 e3
        omega
    · rw [if_neg h1]
      simp only [Option.map_some]
      have he : e = L := by have := hp.2.1; omega
      subst he
      exact row_toS c e 3 0 p d e (Nat.zero_le _) h (by omega)

theorem loopS_len (c : Nat → Int) (inner : Option (Nat → Nat → Option (List Int))) (b : Nat) : ∀ (F i : Nat) (acc p : List Int), acc.length ≤ 500 → loopS c inner b F i acc = some p → p.length ≤ 500
  | 0, i, acc, p, ha, h => by unfold loopS at h; injection h with h; subst h; exact ha
  | F + 1, i, acc, p, ha, h => by
    unfold loopS at h
    split at h
    · injection h with h; subst h; exact ha
    · split at h
      · split at h
        · cases h
        · exact loopS_len c inner b F _ _ p (by rw [List.length_append, List.length_singleton]; omega) h
      · split at h
        · split at h
          · cases h
          · split at h
            · cases h
            · split at h
              · cases h
              · split at h
                · cases h
                · split at h
                  · cases h
                  · exact loopS_len c _ b F _ _ p (by omega) h
        · cases h

end Go.Proofs.YthookknmeajojaaGreatDoor
