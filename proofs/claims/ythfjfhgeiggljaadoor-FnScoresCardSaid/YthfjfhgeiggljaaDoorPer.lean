/-
  Periods: the least rotation that gives a rhythm back, and how many
  windows a rhythm has at least.
-/
import Derived.Test.YthfjfhgeiggljaaDoorAllD
import Derived.Test.YthfjfhgeiggljaaDoorRlaw
namespace Go.Proofs.YthfjfhgeiggljaaDoor
set_option linter.unusedVariables false
set_option linter.unusedSimpArgs false

/-- The beats of a rhythm rotated by k: the pulses t with a beat on t - k. -/
def rotL (N : Nat) (bs : List Int) (k : Int) : List Int := ((List.range N).filter (fun t : Nat => hasB bs (((t : Int) - k) % N))).map Int.ofNat
theorem rotL_mem {N : Nat} {bs : List Int} {k x : Int} : x ∈ rotL N bs k ↔ ∃ t : Nat, t < N ∧ hasB bs (((t : Int) - k) % N) = true ∧ x = t := by
  unfold rotL
  rw [List.mem_map]
  constructor
  · rintro ⟨p, hp, rfl⟩
    rw [List.mem_filter, List.mem_range] at hp
    exact ⟨p, hp.1, hp.2, rfl⟩
  · rintro ⟨p, h1, h2, rfl⟩
    exact ⟨p, by rw [List.mem_filter, List.mem_range]; exact ⟨h1, h2⟩, rfl⟩
theorem rotL_sorted (N : Nat) (bs : List Int) (k : Int) : (rotL N bs k).Pairwise (fun a b => a < b) := by
  unfold rotL
  rw [List.pairwise_map]
  exact List.Pairwise.imp (fun {a b} h => by show (a : Int) < b; omega) (List.Pairwise.filter _ List.pairwise_lt_range)
theorem rotL_len (N : Nat) (bs : List Int) (k : Int) : (rotL N bs k).length ≤ N := by
  unfold rotL
  rw [List.length_map]
  exact Nat.le_trans (List.length_filter_le _ _) (by simp)

/-- Strictly ascending lists with the same members are one. -/
theorem asc_unique : ∀ {l m : List Int}, l.Pairwise (fun a b => a < b) → m.Pairwise (fun a b => a < b) → (∀ x, x ∈ l ↔ x ∈ m) → l = m
  | [], [], _, _, _ => rfl
  | [], y :: m, _, _, h => by have := (h y).2 (by simp); cases this
  | x :: l, [], _, _, h => by have := (h x).1 (by simp); cases this
  | x :: l, y :: m, hl, hm, h => by
    have hl' := List.pairwise_cons.1 hl
    have hm' := List.pairwise_cons.1 hm
    have hxy : x = y := by
      apply Classical.byContradiction
      intro hne
      have h1 : x ∈ m := by
        rcases List.mem_cons.1 ((h x).1 (by simp)) with e | e
        · exact absurd e hne
        · exact e
      have h2 : y ∈ l := by
        rcases List.mem_cons.1 ((h y).2 (by simp)) with e | e
        · exact absurd e.symm hne
        · exact e
      have a := hl'.1 y h2
      have b := hm'.1 x h1
      omega
    subst hxy
    rw [asc_unique hl'.2 hm'.2 (fun z => ⟨fun hz => by
      rcases List.mem_cons.1 ((h z).1 (by simp [hz])) with e | e
      · have := hl'.1 z hz; omega
      · exact e, fun hz => by
      rcases List.mem_cons.1 ((h z).2 (by simp [hz])) with e | e
      · have := hm'.1 z hz; omega
      · exact e⟩)]

theorem rhok_asc {n : Int} {bs : List Int} (h : RhOk n bs) : bs.Pairwise (fun a b => a < b) := by
  have hmono : ∀ d a, a + d < bs.length → 0 < d → bs.getD a 0 < bs.getD (a + d) 0 := by
    intro d
    induction d with
    | zero => intro a _ h; omega
    | succ d ih =>
      intro a ha _
      by_cases hd : d = 0
      · subst hd; exact h.2.2.2 a (by omega)
      · have h3 := ih a (by omega) (by omega)
        have h4 := h.2.2.2 (a + d) (by omega)
        rw [show a + d + 1 = a + (d + 1) by omega] at h4
        omega
  rw [List.pairwise_iff_getElem]
  intro i j hi hj hij
  have := hmono (j - i) i (by omega) (by omega)
  rw [show i + (j - i) = j by omega, List.getD_eq_getElem?_getD, List.getElem?_eq_getElem hi, List.getD_eq_getElem?_getD, List.getElem?_eq_getElem hj] at this
  exact this
theorem rhok_range {n : Int} {bs : List Int} (h : RhOk n bs) : ∀ x ∈ bs, 0 ≤ x ∧ x < n := by
  intro x hx
  obtain ⟨i, hi, rfl⟩ := List.getElem_of_mem hx
  have := h.2.2.1 i hi
  rw [List.getD_eq_getElem?_getD, List.getElem?_eq_getElem hi] at this
  exact this

/-- A rotation is the rhythm itself exactly if each beat has a beat k pulses on. -/
theorem rotL_same {N : Nat} {bs : List Int} (h : RhOk N bs) (k : Int) : rotL N bs k = bs ↔ ∀ t : Nat, t < N → hasB bs (((t : Int) - k) % N) = hasB bs (t : Int) := by
  constructor
  · intro e t ht
    have h1 : ((t : Int) ∈ rotL N bs k) ↔ ((t : Int) ∈ bs) := by rw [e]
    rw [rotL_mem] at h1
    unfold hasB at *
    rw [Bool.eq_iff_iff, decide_eq_true_eq, decide_eq_true_eq, ← h1]
    constructor
    · intro hh
      exact ⟨t, ht, by rw [decide_eq_true_eq]; exact hh, rfl⟩
    · rintro ⟨t', ht', hh, e'⟩
      have : t = t' := by omega
      subst this
      rwa [decide_eq_true_eq] at hh
  · intro hh
    refine asc_unique (rotL_sorted N bs k) (rhok_asc h) (fun x => ?_)
    rw [rotL_mem]
    constructor
    · rintro ⟨t, ht, hb, rfl⟩
      rw [hh t ht] at hb
      unfold hasB at hb
      rwa [decide_eq_true_eq] at hb
    · intro hx
      obtain ⟨h1, h2⟩ := rhok_range h x hx
      obtain ⟨t, rfl⟩ := Int.eq_ofNat_of_zero_le h1
      refine ⟨t, by omega, ?_, rfl⟩
      rw [hh t (by omega)]
      unfold hasB
      rwa [decide_eq_true_eq]

def perB (N : Nat) (bs : List Int) (k : Nat) : Bool := eqB (rotL N bs k) bs
theorem perB_iff {N : Nat} {bs : List Int} {k : Nat} : perB N bs k = true ↔ rotL N bs k = bs := by unfold perB eqB; rw [decide_eq_true_eq]
theorem perB_all {N : Nat} {bs : List Int} (h : RhOk N bs) : perB N bs N = true := by
  rw [perB_iff, rotL_same h]
  intro t ht
  congr 1
  rw [Int.sub_emod_right]
  exact Int.emod_eq_of_lt (by omega) (by omega)
/-- The least rotation from k on that is the rhythm itself; f steps at most. -/
def perF (N : Nat) (bs : List Int) : Nat → Nat → Nat
  | 0, k => k
  | f + 1, k => if perB N bs k = true then k else perF N bs f (k + 1)
def perV (N : Nat) (bs : List Int) : Nat := perF N bs (N - 1) 1
theorem perF_spec (N : Nat) (bs : List Int) : ∀ f k, k ≤ perF N bs f k ∧ perF N bs f k ≤ k + f ∧ (∀ j, k ≤ j → j < perF N bs f k → perB N bs j = false) ∧ (perF N bs f k < k + f → perB N bs (perF N bs f k) = true)
  | 0, k => ⟨Nat.le_refl _, Nat.le_refl _, fun j h1 h2 => by unfold perF at h2; omega, fun h => by unfold perF at h; omega⟩
  | f + 1, k => by
    unfold perF
    cases hb : perB N bs k
    · rw [if_neg (by simp)]
      obtain ⟨h1, h2, h3, h4⟩ := perF_spec N bs f (k + 1)
      refine ⟨by omega, by omega, fun j hj1 hj2 => ?_, fun h => h4 (by omega)⟩
      by_cases e : j = k
      · subst e; exact hb
      · exact h3 j (by omega) hj2
    · rw [if_pos rfl]
      exact ⟨Nat.le_refl _, by omega, fun j h1 h2 => by omega, fun _ => hb⟩
theorem perV_is {N : Nat} {bs : List Int} (h : RhOk N bs) : 1 ≤ perV N bs ∧ perV N bs ≤ N ∧ perB N bs (perV N bs) = true ∧ ∀ j, 1 ≤ j → j < perV N bs → perB N bs j = false := by
  have hN : 1 ≤ N := by have := h.1; omega
  obtain ⟨h1, h2, h3, h4⟩ := perF_spec N bs (N - 1) 1
  unfold perV
  refine ⟨h1, by omega, ?_, h3⟩
  by_cases e : perF N bs (N - 1) 1 < 1 + (N - 1)
  · exact h4 e
  · have : perF N bs (N - 1) 1 = N := by omega
    rw [this]
    exact perB_all h
theorem perV_unique {N : Nat} {bs : List Int} (h : RhOk N bs) {k : Nat} (hk : 1 ≤ k) (hb : perB N bs k = true) (hno : ∀ j, 1 ≤ j → j < k → perB N bs j = false) : perV N bs = k := by
  obtain ⟨h1, h2, h3, h4⟩ := perV_is h
  rcases Nat.lt_trichotomy (perV N bs) k with hlt | he | hgt
  · have := hno _ h1 hlt
    rw [h3] at this; cases this
  · exact he
  · have := h4 k hk hgt
    rw [hb] at this; cases this

/-- The windows that are as long as the bar: as many as the period at least. -/
theorem allD_per {N : Nat} {bs : List Int} (h : RhOk N bs) : perV N bs ≤ (allD N bs N N).length := by
  obtain ⟨h1, h2, h3, h4⟩ := perV_is h
  have hinj : ∀ p q, p < q → q < perV N bs → winL (N : Int) bs p N ≠ winL N bs q N := by
    intro p q hpq hq e
    have hd := h4 (q - p) (by omega) (by omega)
    have : perB N bs (q - p) = true := by
      rw [perB_iff, rotL_same h]
      intro t ht
      have he := (winL_ext (N : Int) bs p q N).1 e
      -- take i with (q + i) mod N = t
      have hi := he ((t + N - q % N) % N) (Nat.mod_lt _ (by omega))
      have hqm : q % N = q := Nat.mod_eq_of_lt (by omega)
      rw [hqm] at hi
      by_cases hc : q ≤ t
      · have e1 : (t + N - q) % N = t - q := by rw [show t + N - q = (t - q) + N by omega, Nat.add_mod_right]; exact Nat.mod_eq_of_lt (by omega)
        rw [e1] at hi
        rw [show ((p + (t - q) : Nat) : Int) = (t : Int) - ((q - p : Nat) : Int) by omega, show ((q + (t - q) : Nat) : Int) = (t : Int) by omega] at hi
        rw [hi]
        congr 1
        exact Int.emod_eq_of_lt (by omega) (by omega)
      · have e1 : (t + N - q) % N = t + N - q := Nat.mod_eq_of_lt (by omega)
        rw [e1] at hi
        rw [show ((p + (t + N - q) : Nat) : Int) = (t : Int) - ((q - p : Nat) : Int) + N by omega, show ((q + (t + N - q) : Nat) : Int) = (t : Int) + N by omega, Int.add_emod_right, Int.add_emod_right] at hi
        rw [hi]
        congr 1
        exact Int.emod_eq_of_lt (by omega) (by omega)
    rw [hd] at this
    cases this
  have := nodup_leG ((List.range (perV N bs)).map (fun p => winL (N : Int) bs p N)) (allD N bs N N) (by
    rw [List.Nodup, List.pairwise_map]
    refine List.Pairwise.imp_of_mem (fun {a b} ha hb hne e => ?_) List.nodup_range
    have ha' := List.mem_range.1 ha
    have hb' := List.mem_range.1 hb
    rcases Nat.lt_or_gt_of_ne hne with hlt | hgt
    · exact hinj a b hlt hb' e
    · exact hinj b a hgt ha' e.symm) (fun x hx => by
    obtain ⟨p, hp, rfl⟩ := List.mem_map.1 hx
    exact (allD_mem _ bs N N _).2 ⟨p, by have := List.mem_range.1 hp; omega, rfl⟩)
  simpa using this

end Go.Proofs.YthfjfhgeiggljaaDoor
