/-
  Several texts of this proof in one: AllD, Per, SpcR, ScoT, Rep, Read.
-/
import Derived.Test.YthookknmeajojaaGreatDoorTyC
import Derived.Test.YthookknmeajojaaGreatDoorRlaw
import Derived.Test.YthookknmeajojaaGreatDoorRw
import Derived.Test.YthookknmeajojaaGreatDoorBase
import Derived.Test.YthookknmeajojaaGreatDoorTab
import Derived.Test.YthookknmeajojaaGreatDoorOwn
import Derived.Laws.CopyOwn
import Derived.Test.YthookknmeajojaaGreatDoorShM
import Derived.Test.YthookknmeajojaaGreatDoorCells
import Derived.Test.YthookknmeajojaaGreatDoorStr
namespace Go.Proofs.YthookknmeajojaaGreatDoor
set_option linter.unusedVariables false
set_option linter.unusedSimpArgs false

/-- The order of texts, behind a name. -/
def ltL (a b : List UInt8) : Bool := decide (a < b)
theorem ltL_irrefl (a : List UInt8) : ltL a a = false := by
  unfold ltL; rw [decide_eq_false_iff_not]; exact List.lt_irrefl a
theorem ltL_trans {a b c : List UInt8} (h : ltL a b = true) (h' : ltL b c = true) : ltL a c = true := by
  unfold ltL at *; rw [decide_eq_true_eq] at *; exact List.lt_trans h h'
theorem ltL_tri {a b : List UInt8} (h : ltL a b = false) (hne : a ≠ b) : ltL b a = true := by
  unfold ltL at *; rw [decide_eq_false_iff_not] at h; rw [decide_eq_true_eq]
  rcases Std.lt_trichotomy a b with h1 | h1 | h1
  · exact absurd h1 h
  · exact absurd h1 hne
  · exact h1

/-- From last to first, each once. -/
def DescL (l : List (List UInt8)) : Prop := l.Pairwise (fun a b => ltL b a = true)
theorem DescL.nodup {l : List (List UInt8)} (h : DescL l) : l.Nodup :=
  List.Pairwise.imp (fun {a b} hab e => by subst e; rw [ltL_irrefl] at hab; cases hab) h

/-- Two such lists with the same members are one. -/
theorem DescL.unique : ∀ {l m : List (List UInt8)}, DescL l → DescL m → (∀ x, x ∈ l ↔ x ∈ m) → l = m
  | [], [], _, _, _ => rfl
  | [], y :: m, _, _, h => by have := (h y).2 (by simp); cases this
  | x :: l, [], _, _, h => by have := (h x).1 (by simp); cases this
  | x :: l, y :: m, hl, hm, h => by
    have hl' := List.pairwise_cons.1 hl
    have hm' := List.pairwise_cons.1 hm
    have hxy : x = y := by
      apply Classical.byContradiction
      intro hne
      have h1 : x ∈ m := by
        rcases List.mem_cons.1 ((h x).1 (by simp)) with e | e
        · exact absurd e hne
        · exact e
      have h2 : y ∈ l := by
        rcases List.mem_cons.1 ((h y).2 (by simp)) with e | e
        · exact absurd e.symm hne
        · exact e
      have := ltL_trans (hl'.1 y h2) (hm'.1 x h1)
      rw [ltL_irrefl] at this
      cases this
    subst hxy
    have hxl : ∀ z ∈ l, z ≠ x := fun z hz e => by subst e; have := hl'.1 _ hz; rw [ltL_irrefl] at this; cases this
    have hxm : ∀ z ∈ m, z ≠ x := fun z hz e => by subst e; have := hm'.1 _ hz; rw [ltL_irrefl] at this; cases this
    rw [DescL.unique hl'.2 hm'.2 (fun z => ⟨fun hz => by
      rcases List.mem_cons.1 ((h z).1 (by simp [hz])) with e | e
      · exact absurd e (hxl z hz)
      · exact e, fun hz => by
      rcases List.mem_cons.1 ((h z).2 (by simp [hz])) with e | e
      · exact absurd e (hxm z hz)
      · exact e⟩)]

/-- Where a text belongs: behind those that are later. -/
def posD (w : List UInt8) : List (List UInt8) → Nat
  | [] => 0
  | x :: l => if ltL w x then posD w l + 1 else 0
theorem posD_le (w : List UInt8) : ∀ l, posD w l ≤ l.length
  | [] => Nat.le_refl _
  | x :: l => by unfold posD; split <;> simp [posD_le w l]
theorem posD_before (w : List UInt8) : ∀ (l : List (List UInt8)) i, i < posD w l → ltL w (l.getD i []) = true
  | [], i, h => by simp [posD] at h
  | x :: l, i, h => by
    unfold posD at h
    split at h
    · cases i with
      | zero => simpa
      | succ i => simpa using posD_before w l i (by omega)
    · omega
theorem posD_here (w : List UInt8) : ∀ (l : List (List UInt8)), posD w l < l.length → ltL w (l.getD (posD w l) []) = false
  | [], h => by simp [posD] at h
  | x :: l, h => by
    unfold posD at h ⊢
    split
    · rename_i hx
      rw [if_pos hx] at h
      simpa using posD_here w l (by simpa using h)
    · rename_i hx
      simpa using hx
theorem posD_unique (w : List UInt8) : ∀ (l : List (List UInt8)) k, k ≤ l.length → (∀ i, i < k → ltL w (l.getD i []) = true) → (k < l.length → ltL w (l.getD k []) = false) → posD w l = k
  | [], k, h, _, _ => by simp at h; simp [posD, h]
  | x :: l, 0, _, _, h => by
    have := h (by simp)
    simp at this
    simp [posD, this]
  | x :: l, k + 1, h, h1, h2 => by
    have h0 := h1 0 (by omega)
    simp at h0
    unfold posD
    rw [if_pos h0, posD_unique w l k (by simpa using h) (fun i hi => by simpa using h1 (i + 1) (by omega)) (fun hk => by simpa using h2 (by simpa using hk))]

def insD (w : List UInt8) (l : List (List UInt8)) : List (List UInt8) :=
  if posD w l < l.length ∧ l.getD (posD w l) [] = w then l else l.take (posD w l) ++ [w] ++ l.drop (posD w l)
theorem insD_cons_lt {w x : List UInt8} {l : List (List UInt8)} (h : ltL w x = true) : insD w (x :: l) = x :: insD w l := by
  unfold insD
  have e : posD w (x :: l) = posD w l + 1 := by rw [posD, if_pos h]
  rw [e]
  by_cases hc : posD w l < l.length ∧ l.getD (posD w l) [] = w
  · rw [if_pos hc, if_pos ⟨by simpa using hc.1, by simpa using hc.2⟩]
  · rw [if_neg hc, if_neg (fun hh => hc ⟨by simpa using hh.1, by simpa using hh.2⟩)]
    simp
theorem insD_mem (w : List UInt8) : ∀ (l : List (List UInt8)) x, x ∈ insD w l ↔ x = w ∨ x ∈ l := by
  intro l x
  unfold insD
  split
  · rename_i h
    constructor
    · exact .inr
    · rintro (rfl | h')
      · rw [← h.2, List.getD_eq_getElem?_getD, List.getElem?_eq_getElem h.1]
        exact List.getElem_mem h.1
      · exact h'
  · conv => rhs; rw [← List.take_append_drop (posD w l) l]
    simp only [List.mem_append, List.mem_singleton]
    constructor
    · rintro ((h | h) | h)
      · exact .inr (.inl h)
      · exact .inl h
      · exact .inr (.inr h)
    · rintro (h | h | h)
      · exact .inl (.inr h)
      · exact .inl (.inl h)
      · exact .inr h
theorem insD_desc (w : List UInt8) : ∀ (l : List (List UInt8)), DescL l → DescL (insD w l)
  | [], _ => by simp [insD, posD, DescL]
  | x :: l, h => by
    have h' := List.pairwise_cons.1 h
    by_cases hx : ltL w x = true
    · rw [insD_cons_lt hx]
      refine List.pairwise_cons.2 ⟨fun y hy => ?_, insD_desc w l h'.2⟩
      rcases (insD_mem w l y).1 hy with rfl | hy
      · exact hx
      · exact h'.1 y hy
    · have hx' : ltL w x = false := by simpa using hx
      have e : posD w (x :: l) = 0 := by rw [posD, if_neg hx]
      unfold insD
      rw [e]
      by_cases hc : x = w
      · rw [if_pos ⟨by simp, by simpa using hc⟩]; exact h
      · rw [if_neg (fun hh => hc (by simpa using hh.2))]
        have hw := ltL_tri hx' (fun e => hc e.symm)
        refine List.pairwise_cons.2 ⟨fun y hy => ?_, h⟩
        rcases List.mem_cons.1 hy with rfl | hy
        · exact hw
        · exact ltL_trans (h'.1 y hy) hw

/-- The different windows, from last to first. -/
def allD (n : Int) (bs : List Int) (k : Nat) : Nat → List (List UInt8)
  | 0 => []
  | p + 1 => insD (winL n bs p k) (allD n bs k p)
theorem allD_mem (n : Int) (bs : List Int) (k : Nat) : ∀ m x, x ∈ allD n bs k m ↔ ∃ p, p < m ∧ winL n bs p k = x
  | 0, x => by simp [allD]
  | m + 1, x => by
    unfold allD
    rw [insD_mem, allD_mem n bs k m]
    constructor
    · rintro (rfl | ⟨p, hp, rfl⟩)
      · exact ⟨m, by omega, rfl⟩
      · exact ⟨p, by omega, rfl⟩
    · rintro ⟨p, hp, rfl⟩
      by_cases h : p = m
      · subst h; exact .inl rfl
      · exact .inr ⟨p, by omega, rfl⟩
theorem allD_desc (n : Int) (bs : List Int) (k : Nat) : ∀ m, DescL (allD n bs k m)
  | 0 => List.Pairwise.nil
  | m + 1 => insD_desc _ _ (allD_desc n bs k m)
theorem allD_len (n : Int) (bs : List Int) (k : Nat) : ∀ m, (allD n bs k m).length ≤ m
  | 0 => Nat.le_refl _
  | m + 1 => by
    have := allD_len n bs k m
    unfold allD insD
    split
    · omega
    · simp; omega

theorem nodup_leG {α : Type} [DecidableEq α] : ∀ (l m : List α), l.Nodup → (∀ x ∈ l, x ∈ m) → l.length ≤ m.length
  | [], _, _, _ => Nat.zero_le _
  | x :: l, m, hn, hs => by
    have hx : x ∈ m := hs x (by simp)
    have hn' := List.nodup_cons.1 hn
    have := nodup_leG l (m.erase x) hn'.2 (fun y hy => (List.mem_erase_of_ne (fun e => hn'.1 (by subst e; exact hy))).2 (hs y (by simp [hy])))
    rw [List.length_erase_of_mem hx] at this
    have hpos : 0 < m.length := List.length_pos_of_mem hx
    simp only [List.length_cons]
    omega

theorem allD_full (n : Int) (bs : List Int) (k m : Nat) : (allD n bs k m).length = m ↔ ∀ p q, p < m → q < m → winL n bs p k = winL n bs q k → p = q := by
  constructor
  · intro h p q hp hq e
    apply Classical.byContradiction
    intro hne
    have := nodup_leG (allD n bs k m) (((List.range m).erase q).map (fun p => winL n bs p k)) (allD_desc n bs k m).nodup (fun v hv => by
      obtain ⟨r, hr, rfl⟩ := (allD_mem n bs k m v).1 hv
      by_cases hrq : r = q
      · subst hrq
        exact List.mem_map.2 ⟨p, (List.mem_erase_of_ne hne).2 (List.mem_range.2 hp), e⟩
      · exact List.mem_map.2 ⟨r, (List.mem_erase_of_ne hrq).2 (List.mem_range.2 hr), rfl⟩)
    rw [List.length_map, List.length_erase_of_mem (List.mem_range.2 hq), List.length_range] at this
    omega
  · intro h
    have h1 := allD_len n bs k m
    have h2 := nodup_leG ((List.range m).map (fun p => winL n bs p k)) (allD n bs k m) (by
      rw [List.Nodup, List.pairwise_map]
      exact List.Pairwise.imp_of_mem (fun {a b} ha hb' hne e => hne (h a b (List.mem_range.1 ha) (List.mem_range.1 hb') e)) List.nodup_range) (fun x hx => by
      obtain ⟨p, hp, rfl⟩ := List.mem_map.1 hx
      exact (allD_mem n bs k m _).2 ⟨p, List.mem_range.1 hp, rfl⟩)
    simp at h2
    omega

theorem winL_ext (n : Int) (bs : List Int) (p q k : Nat) : winL n bs p k = winL n bs q k ↔ ∀ i, i < k → hasB bs (((p + i : Nat) : Int) % n) = hasB bs (((q + i : Nat) : Int) % n) := by
  unfold winL
  constructor
  · intro h i hi
    have := congrArg (fun l => l[i]?) h
    simp only [List.getElem?_map, List.getElem?_range hi, Option.map_some, Option.some.injEq] at this
    cases h1 : hasB bs (((p + i : Nat) : Int) % n) <;> cases h2 : hasB bs (((q + i : Nat) : Int) % n) <;> rw [h1, h2] at this <;> first | rfl | (exfalso; revert this; decide)
  · intro h
    apply List.map_congr_left
    intro i hi
    rw [h i (List.mem_range.1 hi)]

end Go.Proofs.YthookknmeajojaaGreatDoor

namespace Go.Proofs.YthookknmeajojaaGreatDoor
set_option linter.unusedVariables false
set_option linter.unusedSimpArgs false

/-- The beats of a rhythm rotated by k: the pulses t with a beat on t - k. -/
def rotL (N : Nat) (bs : List Int) (k : Int) : List Int := ((List.range N).filter (fun t : Nat => hasB bs (((t : Int) - k) % N))).map Int.ofNat
theorem rotL_mem {N : Nat} {bs : List Int} {k x : Int} : x ∈ rotL N bs k ↔ ∃ t : Nat, t < N ∧ hasB bs (((t : Int) - k) % N) = true ∧ x = t := by
  unfold rotL
  rw [List.mem_map]
  constructor
  · rintro ⟨p, hp, rfl⟩
    rw [List.mem_filter, List.mem_range] at hp
    exact ⟨p, hp.1, hp.2, rfl⟩
  · rintro ⟨p, h1, h2, rfl⟩
    exact ⟨p, by rw [List.mem_filter, List.mem_range]; exact ⟨h1, h2⟩, rfl⟩
theorem rotL_sorted (N : Nat) (bs : List Int) (k : Int) : (rotL N bs k).Pairwise (fun a b => a < b) := by
  unfold rotL
  rw [List.pairwise_map]
  exact List.Pairwise.imp (fun {a b} h => by show (a : Int) < b; omega) (List.Pairwise.filter _ List.pairwise_lt_range)
theorem rotL_len (N : Nat) (bs : List Int) (k : Int) : (rotL N bs k).length ≤ N := by
  unfold rotL
  rw [List.length_map]
  exact Nat.le_trans (List.length_filter_le _ _) (by simp)

/-- Strictly ascending lists with the same members are one. -/
theorem asc_unique : ∀ {l m : List Int}, l.Pairwise (fun a b => a < b) → m.Pairwise (fun a b => a < b) → (∀ x, x ∈ l ↔ x ∈ m) → l = m
  | [], [], _, _, _ => rfl
  | [], y :: m, _, _, h => by have := (h y).2 (by simp); cases this
  | x :: l, [], _, _, h => by have := (h x).1 (by simp); cases this
  | x :: l, y :: m, hl, hm, h => by
    have hl' := List.pairwise_cons.1 hl
    have hm' := List.pairwise_cons.1 hm
    have hxy : x = y := by
      apply Classical.byContradiction
      intro hne
      have h1 : x ∈ m := by
        rcases List.mem_cons.1 ((h x).1 (by simp)) with e | e
        · exact absurd e hne
        · exact e
      have h2 : y ∈ l := by
        rcases List.mem_cons.1 ((h y).2 (by simp)) with e | e
        · exact absurd e.symm hne
        · exact e
      have a := hl'.1 y h2
      have b := hm'.1 x h1
      omega
    subst hxy
    rw [asc_unique hl'.2 hm'.2 (fun z => ⟨fun hz => by
      rcases List.mem_cons.1 ((h z).1 (by simp [hz])) with e | e
      · have := hl'.1 z hz; omega
      · exact e, fun hz => by
      rcases List.mem_cons.1 ((h z).2 (by simp [hz])) with e | e
      · have := hm'.1 z hz; omega
      · exact e⟩)]

theorem rhok_asc {n : Int} {bs : List Int} (h : RhOk n bs) : bs.Pairwise (fun a b => a < b) := by
  have hmono : ∀ d a, a + d < bs.length → 0 < d → bs.getD a 0 < bs.getD (a + d) 0 := by
    intro d
    induction d with
    | zero => intro a _ h; omega
    | succ d ih =>
      intro a ha _
      by_cases hd : d = 0
      · subst hd; exact h.2.2.2 a (by omega)
      · have h3 := ih a (by omega) (by omega)
        have h4 := h.2.2.2 (a + d) (by omega)
        rw [show a + d + 1 = a + (d + 1) by omega] at h4
        omega
  rw [List.pairwise_iff_getElem]
  intro i j hi hj hij
  have := hmono (j - i) i (by omega) (by omega)
  rw [show i + (j - i) = j by omega, List.getD_eq_getElem?_getD, List.getElem?_eq_getElem hi, List.getD_eq_getElem?_getD, List.getElem?_eq_getElem hj] at this
  exact this
theorem rhok_range {n : Int} {bs : List Int} (h : RhOk n bs) : ∀ x ∈ bs, 0 ≤ x ∧ x < n := by
  intro x hx
  obtain ⟨i, hi, rfl⟩ := List.getElem_of_mem hx
  have := h.2.2.1 i hi
  rw [List.getD_eq_getElem?_getD, List.getElem?_eq_getElem hi] at this
  exact this

/-- A rotation is the rhythm itself exactly if each beat has a beat k pulses on. -/
theorem rotL_same {N : Nat} {bs : List Int} (h : RhOk N bs) (k : Int) : rotL N bs k = bs ↔ ∀ t : Nat, t < N → hasB bs (((t : Int) - k) % N) = hasB bs (t : Int) := by
  constructor
  · intro e t ht
    have h1 : ((t : Int) ∈ rotL N bs k) ↔ ((t : Int) ∈ bs) := by rw [e]
    rw [rotL_mem] at h1
    unfold hasB at *
    rw [Bool.eq_iff_iff, decide_eq_true_eq, decide_eq_true_eq, ← h1]
    constructor
    · intro hh
      exact ⟨t, ht, by rw [decide_eq_true_eq]; exact hh, rfl⟩
    · rintro ⟨t', ht', hh, e'⟩
      have : t = t' := by omega
      subst this
      rwa [decide_eq_true_eq] at hh
  · intro hh
    refine asc_unique (rotL_sorted N bs k) (rhok_asc h) (fun x => ?_)
    rw [rotL_mem]
    constructor
    · rintro ⟨t, ht, hb, rfl⟩
      rw [hh t ht] at hb
      unfold hasB at hb
      rwa [decide_eq_true_eq] at hb
    · intro hx
      obtain ⟨h1, h2⟩ := rhok_range h x hx
      obtain ⟨t, rfl⟩ := Int.eq_ofNat_of_zero_le h1
      refine ⟨t, by omega, ?_, rfl⟩
      rw [hh t (by omega)]
      unfold hasB
      rwa [decide_eq_true_eq]

def perB (N : Nat) (bs : List Int) (k : Nat) : Bool := eqB (rotL N bs k) bs
theorem perB_iff {N : Nat} {bs : List Int} {k : Nat} : perB N bs k = true ↔ rotL N bs k = bs := by unfold perB eqB; rw [decide_eq_true_eq]
theorem perB_all {N : Nat} {bs : List Int} (h : RhOk N bs) : perB N bs N = true := by
  rw [perB_iff, rotL_same h]
  intro t ht
  congr 1
  rw [Int.sub_emod_right]
  exact Int.emod_eq_of_lt (by omega) (by omega)
/-- The least rotation from k on that is the rhythm itself; f steps at most. -/
def perF (N : Nat) (bs : List Int) : Nat → Nat → Nat
  | 0, k => k
  | f + 1, k => if perB N bs k = true then k else perF N bs f (k + 1)
def perV (N : Nat) (bs : List Int) : Nat := perF N bs (N - 1) 1
theorem perF_spec (N : Nat) (bs : List Int) : ∀ f k, k ≤ perF N bs f k ∧ perF N bs f k ≤ k + f ∧ (∀ j, k ≤ j → j < perF N bs f k → perB N bs j = false) ∧ (perF N bs f k < k + f → perB N bs (perF N bs f k) = true)
  | 0, k => ⟨Nat.le_refl _, Nat.le_refl _, fun j h1 h2 => by unfold perF at h2; omega, fun h => by unfold perF at h; omega⟩
  | f + 1, k => by
    unfold perF
    cases hb : perB N bs k
    · rw [if_neg (by simp)]
      obtain ⟨h1, h2, h3, h4⟩ := perF_spec N bs f (k + 1)
      refine ⟨by omega, by omega, fun j hj1 hj2 => ?_, fun h => h4 (by omega)⟩
      by_cases e : j = k
      · subst e; exact hb
      · exact h3 j (by omega) hj2
    · rw [if_pos rfl]
      exact ⟨Nat.le_refl _, by omega, fun j h1 h2 => by omega, fun _ => hb⟩
theorem perV_is {N : Nat} {bs : List Int} (h : RhOk N bs) : 1 ≤ perV N bs ∧ perV N bs ≤ N ∧ perB N bs (perV N bs) = true ∧ ∀ j, 1 ≤ j → j < perV N bs → perB N bs j = false := by
  have hN : 1 ≤ N := by have := h.1; omega
  obtain ⟨h1, h2, h3, h4⟩ := perF_spec N bs (N - 1) 1
  unfold perV
  refine ⟨h1, by omega, ?_, h3⟩
  by_cases e : perF N bs (N - 1) 1 < 1 + (N - 1)
  · exact h4 e
  · have : perF N bs (N - 1) 1 = N := by omega
    rw [this]
    exact perB_all h
theorem perV_unique {N : Nat} {bs : List Int} (h : RhOk N bs) {k : Nat} (hk : 1 ≤ k) (hb : perB N bs k = true) (hno : ∀ j, 1 ≤ j → j < k → perB N bs j = false) : perV N bs = k := by
  obtain ⟨h1, h2, h3, h4⟩ := perV_is h
  rcases Nat.lt_trichotomy (perV N bs) k with hlt | he | hgt
  · have := hno _ h1 hlt
    rw [h3] at this; cases this
  · exact he
  · have := h4 k hk hgt
    rw [hb] at this; cases this

/-- The windows that are as long as the bar: as many as the period at least. -/
theorem allD_per {N : Nat} {bs : List Int} (h : RhOk N bs) : perV N bs ≤ (allD N bs N N).length := by
  obtain ⟨h1, h2, h3, h4⟩ := perV_is h
  have hinj : ∀ p q, p < q → q < perV N bs → winL (N : Int) bs p N ≠ winL N bs q N := by
    intro p q hpq hq e
    have hd := h4 (q - p) (by omega) (by omega)
    have : perB N bs (q - p) = true := by
      rw [perB_iff, rotL_same h]
      intro t ht
      have he := (winL_ext (N : Int) bs p q N).1 e
      -- take i with (q + i) mod N = t
      have hi := he ((t + N - q % N) % N) (Nat.mod_lt _ (by omega))
      have hqm : q % N = q := Nat.mod_eq_of_lt (by omega)
      rw [hqm] at hi
      by_cases hc : q ≤ t
      · have e1 : (t + N - q) % N = t - q := by rw [show t + N - q = (t - q) + N by omega, Nat.add_mod_right]; exact Nat.mod_eq_of_lt (by omega)
        rw [e1] at hi
        rw [show ((p + (t - q) : Nat) : Int) = (t : Int) - ((q - p : Nat) : Int) by omega, show ((q + (t - q) : Nat) : Int) = (t : Int) by omega] at hi
        rw [hi]
        congr 1
        exact Int.emod_eq_of_lt (by omega) (by omega)
      · have e1 : (t + N - q) % N = t + N - q := Nat.mod_eq_of_lt (by omega)
        rw [e1] at hi
        rw [show ((p + (t + N - q) : Nat) : Int) = (t : Int) - ((q - p : Nat) : Int) + N by omega, show ((q + (t + N - q) : Nat) : Int) = (t : Int) + N by omega, Int.add_emod_right, Int.add_emod_right] at hi
        rw [hi]
        congr 1
        exact Int.emod_eq_of_lt (by omega) (by omega)
    rw [hd] at this
    cases this
  have := nodup_leG ((List.range (perV N bs)).map (fun p => winL (N : Int) bs p N)) (allD N bs N N) (by
    rw [List.Nodup, List.pairwise_map]
    refine List.Pairwise.imp_of_mem (fun {a b} ha hb hne e => ?_) List.nodup_range
    have ha' := List.mem_range.1 ha
    have hb' := List.mem_range.1 hb
    rcases Nat.lt_or_gt_of_ne hne with hlt | hgt
    · exact hinj a b hlt hb' e
    · exact hinj b a hgt ha' e.symm) (fun x hx => by
    obtain ⟨p, hp, rfl⟩ := List.mem_map.1 hx
    exact (allD_mem _ bs N N _).2 ⟨p, by have := List.mem_range.1 hp; omega, rfl⟩)
  simpa using this

end Go.Proofs.YthookknmeajojaaGreatDoor

namespace Go.Proofs.YthookknmeajojaaGreatDoor
open Go.RowKit
set_option linter.unusedVariables false
set_option linter.unusedSimpArgs false

theorem Below.drew4_ {B : Nat} {a w : World} (h : Below B a w) : Below B a w.drew := ⟨h.os, h.tape, h.output, h.size, h.block⟩
theorem Ints.drew4_ {w : World} {B : Nat} {A : Option Addr} {xs : List Int} (h : Ints w B A xs) : Ints w.drew B A xs := h

def ofL (xs : List Int) (q : Nat) : List Int := ((List.range q).filter (fun t : Nat => hasB xs t)).map Int.ofNat
theorem ofL_yes {xs : List Int} {q : Nat} (h : hasB xs q = true) : ofL xs (q + 1) = ofL xs q ++ [(q : Int)] := by
  unfold ofL; rw [List.range_succ, List.filter_append]; simp [h]
theorem ofL_no {xs : List Int} {q : Nat} (h : hasB xs q = false) : ofL xs (q + 1) = ofL xs q := by
  unfold ofL; rw [List.range_succ, List.filter_append]; simp [h]
theorem ofL_len (xs : List Int) (q : Nat) : (ofL xs q).length ≤ q := by
  unfold ofL
  rw [List.length_map]
  exact Nat.le_trans (List.length_filter_le _ _) (by simp)
theorem ofL_mem {xs : List Int} {q : Nat} {x : Int} : x ∈ ofL xs q ↔ ∃ t : Nat, t < q ∧ hasB xs t = true ∧ x = t := by
  unfold ofL
  rw [List.mem_map]
  constructor
  · rintro ⟨p, hp, rfl⟩
    rw [List.mem_filter, List.mem_range] at hp
    exact ⟨p, hp.1, hp.2, rfl⟩
  · rintro ⟨p, h1, h2, rfl⟩
    exact ⟨p, by rw [List.mem_filter, List.mem_range]; exact ⟨h1, h2⟩, rfl⟩
theorem ofL_sorted (xs : List Int) (q : Nat) : (ofL xs q).Pairwise (fun a b => a < b) := by
  unfold ofL
  rw [List.pairwise_map]
  exact List.Pairwise.imp (fun {a b} h => by show (a : Int) < b; omega) (List.Pairwise.filter _ List.pairwise_lt_range)
theorem ofL_fit {xs : List Int} {q : Nat} (hq : q ≤ 1000) : ∀ x ∈ ofL xs q, Fits x := by
  intro x hx
  obtain ⟨t, ht, _, rfl⟩ := ofL_mem.1 hx
  unfold Fits
  omega

def mapL (a b n : Int) (xs : List Int) (j : Nat) : List Int := (xs.take j).map (fun x => (a * x + b) % n)
theorem mapL_succ {a b n : Int} {xs : List Int} {j : Nat} {x : Int} (hj : j < xs.length) (hx : xs.getD j 0 = x) : mapL a b n xs (j + 1) = mapL a b n xs j ++ [(a * x + b) % n] := by
  unfold mapL
  rw [List.take_succ_eq_append_getElem hj, List.map_append, List.map_singleton]
  have : xs[j] = x := by rw [← hx, List.getD_eq_getElem?_getD, List.getElem?_eq_getElem hj]; rfl
  rw [this]
theorem mapL_len (a b n : Int) (xs : List Int) (j : Nat) : (mapL a b n xs j).length ≤ xs.length := by
  unfold mapL
  rw [List.length_map, List.length_take]
  omega
theorem mapL_mem {a b n x : Int} {xs : List Int} : x ∈ mapL a b n xs xs.length ↔ ∃ y ∈ xs, (a * y + b) % n = x := by
  unfold mapL
  rw [List.take_length, List.mem_map]
theorem mapL_fit {a b n : Int} {xs : List Int} (hn : 1 ≤ n) (hn2 : n ≤ 1000000000) (k : Nat) : ∀ x ∈ mapL a b n xs k, Fits x := by
  intro x hx
  unfold mapL at hx
  rw [List.mem_map] at hx
  obtain ⟨y, _, rfl⟩ := hx
  have := Int.emod_nonneg (a * y + b) (show n ≠ 0 by omega)
  have := Int.emod_lt_of_pos (a * y + b) (show 0 < n by omega)
  unfold Fits
  omega

theorem rotL_of {N : Nat} {bs : List Int} (hok : RhOk N bs) (k : Int) : ofL (mapL 1 k N bs bs.length) N = rotL N bs k := by
  refine asc_unique (ofL_sorted _ _) (rotL_sorted _ _ _) fun x => ?_
  rw [ofL_mem, rotL_mem]
  have hN : (0 : Int) < N := by have := hok.1; omega
  have hkey : ∀ t : Nat, t < N → (hasB (mapL 1 k N bs bs.length) t = true ↔ hasB bs (((t : Int) - k) % N) = true) := by
    intro t ht
    unfold hasB
    rw [decide_eq_true_eq, decide_eq_true_eq, mapL_mem]
    constructor
    · rintro ⟨b, hb, h⟩
      have hr := rhok_range hok b hb
      rw [← h, Int.emod_sub_emod, show 1 * b + k - k = b by omega, Int.emod_eq_of_lt hr.1 hr.2]
      exact hb
    · intro hb
      refine ⟨_, hb, ?_⟩
      rw [Int.one_mul, Int.emod_add_emod, show (t : Int) - k + k = t by omega, Int.emod_eq_of_lt (by omega) (by omega)]
  constructor
  · rintro ⟨t, ht, h, rfl⟩; exact ⟨t, ht, (hkey t ht).1 h, rfl⟩
  · rintro ⟨t, ht, h, rfl⟩; exact ⟨t, ht, (hkey t ht).2 h, rfl⟩

set_option maxHeartbeats 400000 in
theorem spec_l02Mod_any (k n : Int) (w : World) (hn : 1 ≤ n) (hn2 : n ≤ 1000000000) :
    Calls Tryz.prog 85 #[.int .i64 k, .int .i64 n] w fun e w' => e = .returned (.int .i64 (k % n)) ∧ w = w' := by
  have h0 : (n = 0) = False := by simp; omega
  have h1 := Int.lt_tmod_of_pos k (show 0 < n by omega)
  have h2 := Int.tmod_lt_of_pos k (show 0 < n by omega)
  have HR := Lib.hid (rem_emod k n)
  have h5 : IntKind.i64.wrap (k.tmod n) = k.tmod n := i64w (by omega)
  have h3 : IntKind.i64.wrap (k.tmod n + n) = k.tmod n + n := i64w (by omega)
  have h4 : (k.tmod n + n).tmod n = (k.tmod n + n) % n := Int.tmod_eq_emod_of_nonneg (by omega)
  have h6 : IntKind.i64.wrap ((k.tmod n + n) % n) = (k.tmod n + n) % n := i64w (by rw [HR.out]; have := Int.emod_nonneg k (show n ≠ 0 by omega); have := Int.emod_lt_of_pos k (show 0 < n by omega); omega)
  go_enter Tryz.func85, Tryz.ntmps85
  go_wp2
  go_ret
  exact ⟨ret_int (by have := HR.out; rw [Int.add_emod_right] at this; exact this), rfl⟩

set_option maxRecDepth 100000 in
set_option maxHeartbeats 1000000 in
theorem spec_l02Of_any (N : Nat) (A : Option Addr) (cap : Nat) (xs : List Int) (w : World) (hA : Ints w w.heap.size A xs) (hn1 : 1 ≤ N) (hn2 : N ≤ 24) :
    Calls Tryz.prog 86 #[.int .i64 N, .slice A xs.length cap] w (RetRh1 w N (ofL xs N)) := by
  have HH := Lib.hid (fun (q : Nat) (V : World) (hV : Below w.heap.size w V) => spec_l02Has_any A cap xs (q : Int) V w.heap.size (hA.below hV))
  clear hA
  go_enter Tryz.func86, Tryz.ntmps86
  go_wp2_with fail
  go_loopw [6] (fun sp wr => ∃ (q : Nat) (v : Value), q ≤ N ∧ sp = .int .i64 q ∧ Cells2 wr (w.heap.size + 1) (.int .i64 N) v ∧ OwnI wr (w.heap.size + 2) v (ofL xs q) ∧ (∃ u1 u2, Cells2 wr w.heap.size u1 u2) ∧ Below w.heap.size w wr ∧ w.heap.size + 2 ≤ wr.heap.size) (fun sp _ => N - (intOf sp).toNat)
  case atStart =>
    refine ⟨0, .slice none 0 0, Nat.zero_le _, rfl, Cells2.new_at _ _ _ _ _ (by simp), OwnI.nil _ _, ⟨_, _, (Cells2.new w _ _ _).alloc _⟩, ?_, by simp⟩
    exact ((Below.refl _ _).alloc (Nat.le_refl _) _).alloc (by first | exact Nat.le_refl _ | (simp; done) | (simp; omega) | omega) _
  case round =>
    obtain ⟨q, v, hq, rfl, hc2, hown, ⟨u1, u2, hc1⟩, hbel, hsz⟩ := hrel
    obtain ⟨wo, rfl⟩ : ∃ wo : World, wo = wr := ⟨_, rfl⟩
    have hple := ofL_len xs q
    have HC2 := Lib.hid hc2
    have HC1 := Lib.hid hc1
    obtain ⟨g0, g1, g2, g3, g4⟩ := HC2.out
    obtain ⟨A1, c1, rfl⟩ := hown.form
    by_cases hlt : q < N
    · have hhb := HH.out q wo hbel
      cases hb : hasB xs q
      · rw [hb] at hhb
        have HHB := Lib.hid hhb
        have HS := Lib.hid (ofL_no hb)
        have HO := Lib.hid hown
        clear hb hown hc1 hc2 hhb
        go_wp2_with (go_at_call 127; refine HHB.out.mono ?_; rintro e w' ⟨rfl, rfl⟩)
        go_roundw
        case rel => exact ⟨q + 1, _, by omega, by go_num, HC2.out, by rw [HS.out]; exact HO.out, ⟨u1, u2, HC1.out⟩, hbel, hsz⟩
        case measure => simp [intOf]; omega
      · rw [hb] at hhb
        have HHB := Lib.hid hhb
        have HS := Lib.hid (ofL_yes hb)
        generalize ofL xs q = L at hown hple HS HC2 hc2 g1
        clear hb hhb
        go_wp2_with (first
          | (go_at_call 127; refine HHB.out.mono ?_; rintro e w' ⟨rfl, rfl⟩)
          | (at_builtin; refine wpList_append_int rfl _ _ rfl (w.heap.size + 2) _ L rfl (hown.alloc _) _ _ rfl (cell_new1 _ _ _) (by omega) (by first | exact Nat.le_refl _ | (simp; done) | (simp; omega) | omega) ?_; intro v' w1 hown1 hg1; obtain ⟨A2, c2, rfl⟩ := hown1.form; obtain ⟨j0, j1, j2, j3, j4⟩ := (HC2.out.alloc (Obj.cells #[Value.int .i64 q] 3)).below hg1 (by omega)))
        clear g0 g1 g2 g3 hown
        have hw1 : w.heap.size + 2 ≤ w1.heap.size := by have := hg1.size; simp only [World.size_alloc] at this; omega
        have HD2 := Lib.hid (Cells2.set1 (((HC2.out.alloc (Obj.cells #[Value.int .i64 q] 3)).below hg1 (by omega))) (.slice A2 (L ++ [(q : Int)]).length c2))
        have HD1 := Lib.hid (((HC1.out.alloc (Obj.cells #[Value.int .i64 q] 3)).below hg1 (by omega)).far (p := ⟨w.heap.size + 1, 1, none⟩) (by simp) (.slice A2 (L ++ [(q : Int)]).length c2))
        have HOW := Lib.hid (hown1.far (p := ⟨w.heap.size + 1, 1, none⟩) (by simp) (.slice A2 (L ++ [(q : Int)]).length c2))
        have HBW := Lib.hid ((((hbel.alloc (by omega) _).trans (hg1.mono (by omega))).setCell (p := ⟨w.heap.size + 1, 1, none⟩) (by simp) (.slice A2 (L ++ [(q : Int)]).length c2)))
        clear j0 j1 j2 j3 j4 hg1 hown1 hbel g4 hc2 hc1
        have hlen : (L ++ [(q : Int)]).length = L.length + 1 := by simp
        rw [hlen] at HD1 HD2 HOW HBW
        clear hlen
        go_wp2_with fail
        go_roundw
        case rel =>
          refine ⟨q + 1, _, by omega, by go_num, HD2.out, by rw [HS.out]; exact HOW.out, ⟨u1, u2, HD1.out⟩, HBW.out, by simpa [World.setCell] using hw1⟩
        case measure => simp [intOf]; omega
    · have hqe : q = N := by omega
      subst hqe
      obtain ⟨f0, f1, f2, f3, f4⟩ := HC1.out
      clear hc1 hc2
      go_wp2_with fail
      refine bodyPost_ret (v := .agg #[.int .i64 q, .slice A1 (ofL xs q).length c1]) (by simp [results, Tryz.results86, go_sem, f0, f1]) rfl ?_
      refine ⟨A1, c1, rfl, ?_, ?_⟩
      · exact (((hown.far (p := ⟨w.heap.size, 0, none⟩) (by simp) _).far (p := ⟨w.heap.size, 1, none⟩) (by simp) _).rw_ (by omega)).mono (by omega)
      · exact (hbel.setCell (Nat.le_refl _) _).setCell (Nat.le_refl _) _

set_option maxRecDepth 100000 in
set_option maxHeartbeats 1000000 in
theorem spec_l02Map_any (N : Nat) (A : Option Addr) (cap : Nat) (bs : List Int) (a b : Int) (w : World) (hA : Ints w w.heap.size A bs) (hok : RhOk N bs) (hab : ∀ x : Int, 0 ≤ x → x < 24 → -1000000 ≤ a * x ∧ a * x ≤ 1000000) (hb : -1000000 ≤ b ∧ b ≤ 1000000) :
    Calls Tryz.prog 49 #[.agg #[.int .i64 N, .slice A bs.length cap], .int .i64 a, .int .i64 b] w (RetRh1 w N (ofL (mapL a b N bs bs.length) N)) := by
  have hn1 := hok.1
  have hn2 := hok.2.1
  have hlen := hA.1
  unfold maxLen at hlen
  have hbl : bs.length ≤ N := by
    have := rotL_len N bs 0
    rwa [(rotL_same hok 0).2 (fun t ht => by rw [show (t : Int) - 0 = t by omega, Int.emod_eq_of_lt (by omega) (by omega)])] at this
  have HC := Lib.hid hA.2.2
  have HOK := Lib.hid hok
  have HAB := Lib.hid hab
  have hro := fun (A2 : Option Addr) (c2 : Nat) (V : World) (hV : Ints V V.heap.size A2 (mapL a b N bs bs.length)) => spec_l02Of_any N A2 c2 (mapL a b N bs bs.length) V hV (by omega) (by omega)
  have hrl := ofL_len (mapL a b N bs bs.length) N
  generalize ofL (mapL a b N bs bs.length) N = R at hro hrl ⊢
  have HRO := Lib.hid hro
  clear hA hok hro hab
  have hW0 := (((Below.refl w.heap.size w).alloc (Nat.le_refl _) (.cells #[.int .i64 N, .slice A bs.length cap] 26)).alloc (by first | exact Nat.le_refl _ | (simp; done) | (simp; omega) | omega) (.cells #[.int .i64 0, .slice none 0 0] 26)).alloc (by first | exact Nat.le_refl _ | (simp; done) | (simp; omega) | omega) (.cells #[] 3)
  have HW := Lib.hid hW0
  have HG := Lib.hid (((Cells2.new w (.int .i64 N) (.slice A bs.length cap) 26).alloc (.cells #[.int .i64 0, .slice none 0 0] 26)).alloc (.cells #[] 3))
  have HN := Lib.hid ((Cells2.new (w.alloc (.cells #[.int .i64 N, .slice A bs.length cap] 26)) (.int .i64 0) (.slice none 0 0) 26).alloc (.cells #[] 3))
  obtain ⟨g0, g1, _, _, _⟩ := HG.out
  clear hW0
  go_enter Tryz.func49, Tryz.ntmps49
  go_wp2_with fail
  clear g0 g1
  go_loopw [7, 14] (fun so i wr => ∃ j : Nat, j ≤ bs.length ∧ i = .int .i64 j ∧ OwnI wr (w.heap.size + 2) so (mapL a b N bs j) ∧ Below (w.heap.size + 2) (((w.alloc (.cells #[.int .i64 N, .slice A bs.length cap] 26)).alloc (.cells #[.int .i64 0, .slice none 0 0] 26)).alloc (.cells #[] 3)) wr) (fun _ i _ => bs.length - (intOf i).toNat)
  case atStart => exact ⟨0, Nat.zero_le _, rfl, OwnI.empty_at _ _ _ (by simp) (by omega), Below.refl _ _⟩
  case round =>
    obtain ⟨j, hj, rfl, hown, hbel⟩ := hrel
    obtain ⟨wo, rfl⟩ : ∃ wo : World, wo = wr := ⟨_, rfl⟩
    have hws : w.heap.size + 3 ≤ wo.heap.size := by have := hbel.size; simpa using this
    have HBE := Lib.hid hbel
    have HO := Lib.hid hown
    obtain ⟨A1, c1, rfl⟩ := hown.form
    have hmk := mapL_len a b N bs j
    clear hbel hown
    obtain ⟨g0, g1, g2, g3, g4⟩ := (HG.out).below (HBE.out.mono (show w.heap.size + 1 ≤ _ by omega)) (by simp)
    by_cases hlt : j < bs.length
    · obtain ⟨b2, off, rfl, hB, hc⟩ := HC.out (by omega)
      have hcell := ((HW.out.trans (HBE.out.mono (by omega))).cell (p := ⟨b2, off + j, none⟩) hB).trans (hc j hlt)
      have hx0 := HOK.out.2.2.1 j hlt
      obtain ⟨x, hx⟩ : ∃ x, bs.getD j 0 = x := ⟨_, rfl⟩
      rw [hx] at hcell hx0
      obtain ⟨hx1, hx2⟩ := hx0
      have HSU := Lib.hid (mapL_succ (a := a) (b := b) (n := (N : Int)) hlt hx)
      have hax := HAB.out x hx1 (by omega)
      have hw1 : IntKind.i64.wrap (a * x) = a * x := i64w (by omega)
      have hw2 : IntKind.i64.wrap (a * x + b) = a * x + b := i64w (by omega)
      have HMD := Lib.hid (fun V => spec_l02Mod_any (a * x + b) N V hn1 (by omega))
      generalize mapL a b N bs j = L at HO HSU hmk ⊢
      clear hc hx
      go_wp2_with (first
        | (go_at_call 85; refine (HMD.out _).mono ?_; rintro e w' ⟨rfl, rfl⟩)
        | (at_builtin; refine wpList_append_int rfl (.tmp 18) (.tmp 27) rfl (w.heap.size + 2) _ L rfl (HO.out.alloc _) _ _ rfl (cell_new1 _ _ _) (by omega) (by simp; omega) ?_; intro v2 w2 hown2 hb2))
      have HO2 := Lib.hid hown2
      have HB2 := Lib.hid ((HBE.out.alloc (by omega) _).trans hb2)
      clear hown2 hb2
      go_wp2_with fail
      go_roundw
      case rel => exact ⟨j + 1, by omega, by go_num, by rw [HSU.out]; exact HO2.out, HB2.out⟩
      case measure => simp [intOf]; omega
    · have hje : j = bs.length := by omega
      subst hje
      have HI := Lib.hid (HO.out.ints (mapL_fit hn1 (by omega) _))
      generalize mapL a b N bs bs.length = L at HO HRO HI hmk ⊢
      go_wp2_with fail
      refine (HRO.out A1 c1 _ HI.out).mono ?_
      rintro e w2 ⟨A2, c2, rfl, hrw, hb2⟩
      have hz2 := hb2.size
      obtain ⟨f0, f1, f2, f3, f4⟩ := (HN.out.below HBE.out (by simp)).below hb2 (by simp; omega)
      simp only [World.size_alloc] at f0 f1 f2 f3
      go_wp2_with fail
      refine bodyPost_ret (v := .agg #[.int .i64 N, .slice A2 R.length c2]) (by simp [results, Tryz.results49, go_sem, f0, f1]) rfl ?_
      refine ⟨A2, c2, rfl, ?_, ?_⟩
      · exact ((hrw.far (p := ⟨w.heap.size + 1, 0, none⟩) (by simp; omega) _).far (p := ⟨w.heap.size + 1, 1, none⟩) (by simp; omega) _).mono (by omega)
      · exact (((HW.out.trans (HBE.out.mono (by omega))).trans (hb2.mono (by omega))).setCell (by simp) _).setCell (by simp) _

end Go.Proofs.YthookknmeajojaaGreatDoor

namespace Go.Proofs.YthookknmeajojaaGreatDoor
set_option linter.unusedVariables false
set_option linter.unusedSimpArgs false

def isLet (x : Int) : Bool := decide (97 ≤ x ∧ x ≤ 122)
def isDig (x : Int) : Bool := decide (50 ≤ x ∧ x ≤ 57)
theorem isLet_iff {x : Int} : isLet x = true ↔ 97 ≤ x ∧ x ≤ 122 := by unfold isLet; simp
theorem isDig_iff {x : Int} : isDig x = true ↔ 50 ≤ x ∧ x ≤ 57 := by unfold isDig; simp

def rep (g : List Int) : Nat → List Int
  | 0 => []
  | k + 1 => rep g k ++ g
theorem rep_len (g : List Int) : ∀ k, (rep g k).length = k * g.length
  | 0 => by simp [rep]
  | k + 1 => by simp [rep, rep_len g k, Nat.add_mul]
theorem rep_mem {g : List Int} {x : Int} : ∀ {k}, x ∈ rep g k → x ∈ g
  | 0, h => by simp [rep] at h
  | k + 1, h => by
    rcases List.mem_append.1 (show x ∈ rep g k ++ g from h) with h | h
    · exact rep_mem h
    · exact h

abbrev Row3 := Option (List Int × Int × Nat)

/-- The program's loop over a row. -/
def loopR (c : Nat → Int) (L : Nat) (inner : Option (Nat → Row3)) : Nat → Nat → List Int → Int → Row3
  | 0, i, acc, dep => some (acc, dep, i)
  | f + 1, i, acc, dep =>
    if L ≤ i ∨ c i = 93 then some (acc, dep, i)
    else if c i = 91 then
      match inner with
      | none => none
      | some g =>
        match g (i + 1) with
        | none => none
        | some (gp, gd, e) => if gp = [] ∨ L ≤ e + 1 ∨ isDig (c (e + 1)) = false then none else loopR c L inner f (e + 2) (acc ++ rep gp (c (e + 1) - 48).toNat) (max dep gd)
    else if isLet (c i) = true then loopR c L inner f (i + 1) (acc ++ [(i : Int)]) dep
    else none

def rowR (c : Nat → Int) (L : Nat) : Nat → Nat → Row3
  | 0, i => loopR c L none (L - i) i [] 3
  | d + 1, i => loopR c L (some (rowR c L d)) (L - i) i [] (3 - (d + 1))

/-- The reference's closing bracket. -/
def cloS (c : Nat → Int) (b : Nat) : Nat → Nat → Int → Int
  | 0, _, _ => -1
  | f + 1, i, d =>
    if b ≤ i then -1
    else if c i = 91 then cloS c b f (i + 1) (d + 1)
    else if c i = 93 then (if d - 1 = 0 then i else cloS c b f (i + 1) (d - 1))
    else cloS c b f (i + 1) d

/-- The reference's loop. -/
def loopS (c : Nat → Int) (inner : Option (Nat → Nat → Option (List Int))) (b : Nat) : Nat → Nat → List Int → Option (List Int)
  | 0, _, acc => some acc
  | f + 1, i, acc =>
    if b ≤ i then some acc
    else if isLet (c i) = true then (if 500 < acc.length + 1 then none else loopS c inner b f (i + 1) (acc ++ [(i : Int)]))
    else if c i = 91 then
      if cloS c b (b - i) i 0 < 0 ∨ cloS c b (b - i) i 0 = i + 1 ∨ (b : Int) ≤ cloS c b (b - i) i 0 + 1 then none
      else match inner with
      | none => none
      | some g =>
        if isDig (c ((cloS c b (b - i) i 0).toNat + 1)) = false then none
        else match g (i + 1) (cloS c b (b - i) i 0).toNat with
        | none => none
        | some gp =>
          if 500 < (acc ++ rep gp (c ((cloS c b (b - i) i 0).toNat + 1) - 48).toNat).length then none
          else loopS c inner b f ((cloS c b (b - i) i 0).toNat + 2) (acc ++ rep gp (c ((cloS c b (b - i) i 0).toNat + 1) - 48).toNat)
    else none

def rowS (c : Nat → Int) : Nat → Nat → Nat → Option (List Int)
  | 0, a, b => loopS c none b (b - a) a []
  | d + 1, a, b => loopS c (some (rowS c d)) b (b - a) a []

theorem clo_spec (c : Nat → Int) (b : Nat) : ∀ (f i : Nat) (k : Int), 0 ≤ cloS c b f i k → ∃ e : Nat, cloS c b f i k = e ∧ i ≤ e ∧ e < b ∧ c e = 93
  | 0, i, k, h => by simp [cloS] at h
  | f + 1, i, k, h => by
    unfold cloS at h ⊢
    by_cases h1 : b ≤ i
    · rw [if_pos h1] at h; omega
    · rw [if_neg h1] at h ⊢
      by_cases h2 : c i = 91
      · rw [if_pos h2] at h ⊢
        obtain ⟨e, e1, e2, e3, e4⟩ := clo_spec c b f (i + 1) _ h
        exact ⟨e, e1, by omega, e3, e4⟩
      · rw [if_neg h2] at h ⊢
        by_cases h3 : c i = 93
        · rw [if_pos h3] at h ⊢
          by_cases h4 : k - 1 = 0
          · rw [if_pos h4]; exact ⟨i, rfl, Nat.le_refl _, by omega, h3⟩
          · rw [if_neg h4] at h ⊢
            obtain ⟨e, e1, e2, e3, e4⟩ := clo_spec c b f (i + 1) _ h
            exact ⟨e, e1, by omega, e3, e4⟩
        · rw [if_neg h3] at h ⊢
          obtain ⟨e, e1, e2, e3, e4⟩ := clo_spec c b f (i + 1) _ h
          exact ⟨e, e1, by omega, e3, e4⟩

theorem clo_open {c : Nat → Int} {b f i : Nat} {k : Int} (h : i < b) (hc : c i = 91) : cloS c b (f + 1) i k = cloS c b f (i + 1) (k + 1) := by
  rw [cloS, if_neg (by omega), if_pos hc]
theorem clo_shut {c : Nat → Int} {b f i : Nat} {k : Int} (h : i < b) (hc : c i = 93) (hk : k ≠ 1) : cloS c b (f + 1) i k = cloS c b f (i + 1) (k - 1) := by
  rw [cloS, if_neg (by omega), if_neg (by omega), if_pos hc, if_neg (by omega)]
theorem clo_here {c : Nat → Int} {b f i : Nat} (h : i < b) (hc : c i = 93) : cloS c b (f + 1) i 1 = i := by
  rw [cloS, if_neg (by omega), if_neg (by omega), if_pos hc, if_pos (by omega)]
theorem clo_other {c : Nat → Int} {b f i : Nat} {k : Int} (h : i < b) (h1 : c i ≠ 91) (h2 : c i ≠ 93) : cloS c b (f + 1) i k = cloS c b f (i + 1) k := by
  rw [cloS, if_neg (by omega), if_neg h1, if_neg h2]

/-- What a row's result is good for. -/
def PassR (c : Nat → Int) (L M : Nat) (g : Nat → Row3) : Prop :=
  ∀ i p d e, i ≤ L → g i = some (p, d, e) → i ≤ e ∧ e ≤ L ∧ (e < L → c e = 93) ∧ (e = i → p = []) ∧ p.length ≤ (e - i) * M ∧ (∀ x ∈ p, (0 ≤ x ∧ x < L) ∧ isLet (c x.toNat) = true) ∧
    ∀ b F k, 1 ≤ k → e ≤ b → b ≤ L → b - i ≤ F → cloS c b F i k = cloS c b (F - (e - i)) e k

theorem loopR_pass {c : Nat → Int} {L M : Nat} {inner : Option (Nat → Row3)} (hM : 1 ≤ M) (hin : ∀ g, inner = some g → ∃ M', M = 9 * M' ∧ PassR c L M' g) :
    ∀ (f i : Nat) (acc : List Int) (dep : Int) (p : List Int) (d : Int) (e : Nat), L - i ≤ f → i ≤ L → loopR c L inner f i acc dep = some (p, d, e) →
      (∀ x ∈ acc, (0 ≤ x ∧ x < L) ∧ isLet (c x.toNat) = true) →
      i ≤ e ∧ e ≤ L ∧ (e < L → c e = 93) ∧ (e = i → p = acc) ∧ acc.length ≤ p.length ∧ p.length ≤ acc.length + (e - i) * M ∧ (∀ x ∈ p, (0 ≤ x ∧ x < L) ∧ isLet (c x.toNat) = true) ∧
      ∀ b F k, 1 ≤ k → e ≤ b → b ≤ L → b - i ≤ F → cloS c b F i k = cloS c b (F - (e - i)) e k := by
  intro f
  induction f with
  | zero =>
    intro i acc dep p d e hf hi h hx
    unfold loopR at h
    injection h with h
    injection h with h1 h
    injection h with h2 h3
    subst h1 h3
    exact ⟨Nat.le_refl _, hi, fun h => by omega, fun _ => rfl, Nat.le_refl _, by omega, hx, fun b F k _ _ _ _ => by rw [Nat.sub_self, Nat.sub_zero]⟩
  | succ f ih =>
    intro i acc dep p d e hf hi h hx
    unfold loopR at h
    by_cases h1 : L ≤ i ∨ c i = 93
    · rw [if_pos h1] at h
      injection h with h
      injection h with e1 h
      injection h with e2 e3
      subst e1 e3
      refine ⟨Nat.le_refl _, hi, fun h => ?_, fun _ => rfl, Nat.le_refl _, by omega, hx, fun b F k _ _ _ _ => by rw [Nat.sub_self, Nat.sub_zero]⟩
      rcases h1 with h1 | h1
      · omega
      · exact h1
    · rw [if_neg h1] at h
      have hiL : i < L := by apply Classical.byContradiction; intro hh; exact h1 (.inl (by omega))
      have h93 : c i ≠ 93 := fun hh => h1 (.inr hh)
      by_cases h2 : c i = 91
      · rw [if_pos h2] at h
        cases hinn : inner with
        | none => rw [hinn] at h; cases h
        | some g =>
          obtain ⟨M', hMM, hpass⟩ := hin g hinn
          rw [hinn] at h
          cases hg : g (i + 1) with
          | none => simp only [hg] at h; cases h
          | some r =>
            obtain ⟨gp, gd, e1⟩ := r
            simp only [hg] at h
            by_cases h3 : gp = [] ∨ L ≤ e1 + 1 ∨ isDig (c (e1 + 1)) = false
            · rw [if_pos h3] at h; cases h
            · rw [if_neg h3] at h
              have hgp : gp ≠ [] := fun hh => h3 (.inl hh)
              have hdig : isDig (c (e1 + 1)) = true := by
                cases hd : isDig (c (e1 + 1))
                · exact absurd (.inr (.inr hd)) h3
                · rfl
              have he1L : e1 + 1 < L := by apply Classical.byContradiction; intro hh; exact h3 (.inr (.inl (by omega)))
              obtain ⟨p1, p2, p3, p4, p5, p6, p7⟩ := hpass (i + 1) gp gd e1 (by omega) hg
              rw [← hinn] at h
              have hd2 := isDig_iff.1 hdig
              obtain ⟨q1, q2, q3, q4, q5, q6, q7, q8⟩ := ih (e1 + 2) _ _ p d e (by omega) (by omega) h (fun x hx' => by
                rcases List.mem_append.1 hx' with h | h
                · exact hx x h
                · exact p6 x (rep_mem h))
              have hc1 : c e1 = 93 := p3 (by omega)
              rw [List.length_append, rep_len] at q5 q6
              obtain ⟨kk, hkk⟩ : ∃ kk, (c (e1 + 1) - 48).toNat = kk := ⟨_, rfl⟩
              rw [hkk] at q5 q6
              have hk9 : kk ≤ 9 := by omega
              refine ⟨by omega, q2, q3, fun h => by omega, by omega, ?_, q7, ?_⟩
              · have b1 : kk * gp.length ≤ 9 * ((e1 - (i + 1)) * M') := Nat.mul_le_mul hk9 p5
                have b2 : 9 * ((e1 - (i + 1)) * M') = (e1 - (i + 1)) * M := by rw [hMM, Nat.mul_left_comm]
                have b3 : (e1 - (i + 1)) * M + (e - (e1 + 2)) * M ≤ (e - i) * M := by rw [← Nat.add_mul]; exact Nat.mul_le_mul_right _ (by omega)
                omega
              · intro b F k hk heb hbL hF
                obtain ⟨F1, rfl⟩ : ∃ F1, F = F1 + 1 := ⟨F - 1, by omega⟩
                rw [clo_open (by omega) h2, p7 b F1 (k + 1) (by omega) (by omega) hbL (by omega)]
                obtain ⟨F2, hF2⟩ : ∃ F2, F1 - (e1 - (i + 1)) = F2 + 1 := ⟨F1 - (e1 - (i + 1)) - 1, by omega⟩
                rw [hF2, clo_shut (by omega) hc1 (by omega)]
                obtain ⟨F3, rfl⟩ : ∃ F3, F2 = F3 + 1 := ⟨F2 - 1, by omega⟩
                rw [clo_other (by omega) (by omega) (by omega), show k + 1 - 1 = k by omega, q8 b F3 k hk heb hbL (by omega)]
                congr 1
                omega
      · rw [if_neg h2] at h
        by_cases h4 : isLet (c i) = true
        · rw [if_pos h4] at h
          have h5 := isLet_iff.1 h4
          obtain ⟨q1, q2, q3, q4, q5, q6, q7, q8⟩ := ih (i + 1) _ _ p d e (by omega) (by omega) h (fun x hx' => by
            rcases List.mem_append.1 hx' with h | h
            · exact hx x h
            · simp at h; subst h; exact ⟨⟨by omega, by omega⟩, by simpa using h4⟩)
          rw [List.length_append, List.length_singleton] at q5 q6
          refine ⟨by omega, q2, q3, fun h => by omega, by omega, ?_, q7, ?_⟩
          · have b3 : 1 * M + (e - (i + 1)) * M ≤ (e - i) * M := by rw [← Nat.add_mul]; exact Nat.mul_le_mul_right _ (by omega)
            omega
          · intro b F k hk heb hbL hF
            obtain ⟨F1, rfl⟩ : ∃ F1, F = F1 + 1 := ⟨F - 1, by omega⟩
            rw [clo_other (by omega) h2 h93, q8 b F1 k hk heb hbL (by omega)]
            congr 1
            omega
        · rw [if_neg h4] at h; cases h

theorem rowR_pass (c : Nat → Int) (L : Nat) : ∀ d, PassR c L (9 ^ d) (rowR c L d)
  | 0 => by
    intro i p d e hi h
    have := loopR_pass (c := c) (L := L) (M := 1) (inner := none) (by omega) (fun g hg => by cases hg) (L - i) i [] 3 p d e (by omega) hi h (fun x hx => by cases hx)
    obtain ⟨q1, q2, q3, q4, q5, q6, q7, q8⟩ := this
    exact ⟨q1, q2, q3, q4, by simpa using q6, q7, q8⟩
  | d' + 1 => by
    intro i p d e hi h
    have hp := rowR_pass c L d'
    have := loopR_pass (c := c) (L := L) (M := 9 ^ (d' + 1)) (inner := some (rowR c L d')) (Nat.pos_of_ne_zero (by simp)) (fun g hg => by injection hg with hg; subst hg; exact ⟨9 ^ d', by rw [Nat.pow_succ, Nat.mul_comm], hp⟩) (L - i) i [] _ p d e (by omega) hi h (fun x hx => by cases hx)
    obtain ⟨q1, q2, q3, q4, q5, q6, q7, q8⟩ := this
    exact ⟨q1, q2, q3, q4, by simpa using q6, q7, q8⟩

/-- From the program to the reference. -/
def ToS (L : Nat) (g : Nat → Row3) (gs : Nat → Nat → Option (List Int)) : Prop := ∀ i p d e, i ≤ L → g i = some (p, d, e) → p.length ≤ 500 → gs i e = some p

theorem loop_toS {c : Nat → Int} {L M : Nat} {inner : Option (Nat → Row3)} {innerS : Option (Nat → Nat → Option (List Int))} (hM : 1 ≤ M)
    (hin : (inner = none ∧ innerS = none) ∨ ∃ g gs, inner = some g ∧ innerS = some gs ∧ (∃ M', M = 9 * M' ∧ PassR c L M' g) ∧ ToS L g gs) :
    ∀ (f i : Nat) (acc : List Int) (dep : Int) (p : List Int) (d : Int) (e : Nat), L - i ≤ f → i ≤ L → loopR c L inner f i acc dep = some (p, d, e) →
      (∀ x ∈ acc, (0 ≤ x ∧ x < L) ∧ isLet (c x.toNat) = true) → p.length ≤ 500 → ∀ F, e - i ≤ F → loopS c innerS e F i acc = some p := by
  have hin' : ∀ g, inner = some g → ∃ M', M = 9 * M' ∧ PassR c L M' g := by
    intro g hg
    rcases hin with ⟨h, _⟩ | ⟨g', gs, h1, _, h3, _⟩
    · rw [h] at hg; cases hg
    · rw [h1] at hg; injection hg with hg; subst hg; exact h3
  intro f
  induction f with
  | zero =>
    intro i acc dep p d e hf hi h _ _ F hF
    unfold loopR at h
    injection h with h
    injection h with h1 h
    injection h with h2 h3
    subst h1 h3
    cases F with
    | zero => rfl
    | succ F => unfold loopS; rw [if_pos (Nat.le_refl _)]
  | succ f ih =>
    intro i acc dep p d e hf hi h hx hp F hF
    have hall := loopR_pass hM hin' (f + 1) i acc dep p d e hf hi h hx
    unfold loopR at h
    by_cases h1 : L ≤ i ∨ c i = 93
    · rw [if_pos h1] at h
      injection h with h
      injection h with e1 h
      injection h with e2 e3
      subst e1 e3
      cases F with
      | zero => rfl
      | succ F => unfold loopS; rw [if_pos (Nat.le_refl _)]
    · rw [if_neg h1] at h
      have hiL : i < L := by apply Classical.byContradiction; intro hh; exact h1 (.inl (by omega))
      have h93 : c i ≠ 93 := fun hh => h1 (.inr hh)
      by_cases h2 : c i = 91
      · rw [if_pos h2] at h
        rcases hin with ⟨hn, _⟩ | ⟨g, gs, hg1, hg2, ⟨M', hMM, hpass⟩, hto⟩
        · rw [hn] at h; cases h
        · rw [hg1] at h
          cases hg : g (i + 1) with
          | none => simp only [hg] at h; cases h
          | some r =>
            obtain ⟨gp, gd, e1⟩ := r
            simp only [hg] at h
            by_cases h3 : gp = [] ∨ L ≤ e1 + 1 ∨ isDig (c (e1 + 1)) = false
            · rw [if_pos h3] at h; cases h
            · rw [if_neg h3] at h
              have hgp : gp ≠ [] := fun hh => h3 (.inl hh)
              have hdig : isDig (c (e1 + 1)) = true := by
                cases hd : isDig (c (e1 + 1))
                · exact absurd (.inr (.inr hd)) h3
                · rfl
              have he1L : e1 + 1 < L := by apply Classical.byContradiction; intro hh; exact h3 (.inr (.inl (by omega)))
              obtain ⟨p1, p2, p3, p4, p5, p6, p7⟩ := hpass (i + 1) gp gd e1 (by omega) hg
              rw [← hg1] at h
              have hd2 := isDig_iff.1 hdig
              have hx2 : ∀ x ∈ acc ++ rep gp (c (e1 + 1) - 48).toNat, (0 ≤ x ∧ x < L) ∧ isLet (c x.toNat) = true := by
                intro x hx'
                rcases List.mem_append.1 hx' with h | h
                · exact hx x h
                · exact p6 x (rep_mem h)
              have hq := loopR_pass hM hin' f (e1 + 2) _ _ p d e (by omega) (by omega) h hx2
              obtain ⟨q1, q2, q3, q4, q5, q6, q7, q8⟩ := hq
              have hc1 : c e1 = 93 := p3 (by omega)
              have hne : e1 ≠ i + 1 := fun hh => hgp (p4 hh)
              have hclo : cloS c e (e - i) i 0 = (e1 : Int) := by
                obtain ⟨F1, hF1⟩ : ∃ F1, e - i = F1 + 1 := ⟨e - i - 1, by omega⟩
                rw [hF1, clo_open (by omega) h2, show (0 : Int) + 1 = 1 from rfl, p7 e F1 1 (by omega) (by omega) q2 (by omega)]
                obtain ⟨F2, hF2⟩ : ∃ F2, F1 - (e1 - (i + 1)) = F2 + 1 := ⟨F1 - (e1 - (i + 1)) - 1, by omega⟩
                rw [hF2, clo_here (by omega) hc1]
              obtain ⟨F1, rfl⟩ : ∃ F1, F = F1 + 1 := ⟨F - 1, by omega⟩
              have hglen : gp.length ≤ 500 := by
                rw [List.length_append, rep_len] at q5
                have : 1 * gp.length ≤ (c (e1 + 1) - 48).toNat * gp.length := Nat.mul_le_mul_right _ (by omega)
                omega
              unfold loopS
              have hnl : isLet (c i) = false := by unfold isLet; rw [decide_eq_false_iff_not]; omega
              rw [if_neg (by omega), if_neg (by rw [hnl]; decide), if_pos h2, hclo, if_neg (by omega), hg2]
              simp only [Int.toNat_natCast]
              rw [if_neg (by rw [hdig]; decide)]
              simp only [hto (i + 1) gp gd e1 (by omega) hg hglen]
              rw [if_neg (by omega), ← hg2]
              exact ih (e1 + 2) _ _ p d e (by omega) (by omega) h hx2 hp F1 (by omega)
      · rw [if_neg h2] at h
        by_cases h4 : isLet (c i) = true
        · rw [if_pos h4] at h
          have h5 := isLet_iff.1 h4
          have hx2 : ∀ x ∈ acc ++ [(i : Int)], (0 ≤ x ∧ x < L) ∧ isLet (c x.toNat) = true := by
            intro x hx'
            rcases List.mem_append.1 hx' with h | h
            · exact hx x h
            · simp at h; subst h; exact ⟨⟨by omega, by omega⟩, by simpa using h4⟩
          obtain ⟨q1, q2, q3, q4, q5, q6, q7, q8⟩ := loopR_pass hM hin' f (i + 1) _ _ p d e (by omega) (by omega) h hx2
          rw [List.length_append, List.length_singleton] at q5
          obtain ⟨F1, rfl⟩ : ∃ F1, F = F1 + 1 := ⟨F - 1, by omega⟩
          unfold loopS
          rw [if_neg (by omega), if_pos h4, if_neg (by omega)]
          exact ih (i + 1) _ _ p d e (by omega) (by omega) h hx2 hp F1 (by omega)
        · rw [if_neg h4] at h; cases h

theorem row_toS (c : Nat → Int) (L : Nat) : ∀ d, ToS L (rowR c L d) (rowS c d)
  | 0 => by
    intro i p d e hi h hp
    exact loop_toS (M := 1) (by omega) (.inl ⟨rfl, rfl⟩) (L - i) i [] 3 p d e (by omega) hi h (fun x hx => by cases hx) hp (e - i) (Nat.le_refl _)
  | d' + 1 => by
    intro i p d e hi h hp
    exact loop_toS (M := 9 ^ (d' + 1)) (Nat.pos_of_ne_zero (by simp)) (.inr ⟨_, _, rfl, rfl, ⟨9 ^ d', by rw [Nat.pow_succ, Nat.mul_comm], rowR_pass c L d'⟩, row_toS c L d'⟩) (L - i) i [] _ p d e (by omega) hi h (fun x hx => by cases hx) hp (e - i) (Nat.le_refl _)

/-- From the reference to the program. -/
def ToR (c : Nat → Int) (L : Nat) (g : Nat → Row3) (gs : Nat → Nat → Option (List Int)) : Prop :=
  ∀ a b p, a ≤ b → b ≤ L → (b < L → c b = 93) → gs a b = some p → (∃ d, g a = some (p, d, b)) ∧ p.length ≤ 500 ∧ (a < b → p ≠ [])

theorem loop_toR {c : Nat → Int} {L b : Nat} {inner : Option (Nat → Row3)} {innerS : Option (Nat → Nat → Option (List Int))} (hbL : b ≤ L) (hb93 : b < L → c b = 93)
    (hin : (inner = none ∧ innerS = none) ∨ ∃ g gs, inner = some g ∧ innerS = some gs ∧ ToR c L g gs) :
    ∀ (F i : Nat) (acc p : List Int), b - i ≤ F → i ≤ b → acc.length ≤ 500 → loopS c innerS b F i acc = some p →
      (∀ f dep, L - i ≤ f → ∃ d, loopR c L inner f i acc dep = some (p, d, b)) ∧ p.length ≤ 500 ∧ acc.length ≤ p.length ∧ (i < b → acc.length < p.length) := by
  intro F
  induction F with
  | zero =>
    intro i acc p hF hi hacc h
    unfold loopS at h
    injection h with h
    subst h
    have hib : i = b := by omega
    subst hib
    refine ⟨fun f dep hf => ⟨dep, ?_⟩, hacc, Nat.le_refl _, fun h => by omega⟩
    cases f with
    | zero => rfl
    | succ f =>
      unfold loopR
      rw [if_pos]
      by_cases hh : L ≤ i
      · exact .inl hh
      · exact .inr (hb93 (by omega))
  | succ F ih =>
    intro i acc p hF hi hacc h
    unfold loopS at h
    by_cases h1 : b ≤ i
    · rw [if_pos h1] at h
      injection h with h
      subst h
      have hib : i = b := by omega
      subst hib
      refine ⟨fun f dep hf => ⟨dep, ?_⟩, hacc, Nat.le_refl _, fun h => by omega⟩
      cases f with
      | zero => rfl
      | succ f =>
        unfold loopR
        rw [if_pos]
        by_cases hh : L ≤ i
        · exact .inl hh
        · exact .inr (hb93 (by omega))
    · rw [if_neg h1] at h
      by_cases h2 : isLet (c i) = true
      · rw [if_pos h2] at h
        have h5 := isLet_iff.1 h2
        by_cases h3 : 500 < acc.length + 1
        · rw [if_pos h3] at h; cases h
        · rw [if_neg h3] at h
          obtain ⟨q1, q2, q3, q4⟩ := ih (i + 1) _ p (by omega) (by omega) (by rw [List.length_append, List.length_singleton]; omega) h
          rw [List.length_append, List.length_singleton] at q3
          refine ⟨fun f dep hf => ?_, q2, by omega, fun _ => by omega⟩
          obtain ⟨f', rfl⟩ : ∃ f', f = f' + 1 := ⟨f - 1, by omega⟩
          unfold loopR
          rw [if_neg (by omega), if_neg (by omega), if_pos h2]
          exact q1 f' dep (by omega)
      · rw [if_neg h2] at h
        by_cases h4 : c i = 91
        · rw [if_pos h4] at h
          obtain ⟨E, hE⟩ : ∃ E, cloS c b (b - i) i 0 = E := ⟨_, rfl⟩
          rw [hE] at h
          by_cases h5 : E < 0 ∨ E = i + 1 ∨ (b : Int) ≤ E + 1
          · rw [if_pos h5] at h; cases h
          · rw [if_neg h5] at h
            obtain ⟨e, he, hie, heb, hce⟩ := clo_spec c b (b - i) i 0 (by rw [hE]; omega)
            rw [hE] at he
            subst he
            simp only [Int.toNat_natCast] at h
            have hne : e ≠ i := fun hh => by rw [hh] at hce; omega
            rcases hin with ⟨_, hn⟩ | ⟨g, gs, hg1, hg2, hto⟩
            · rw [hn] at h; cases h
            · rw [hg2] at h
              simp only at h
              by_cases h6 : isDig (c (e + 1)) = false
              · rw [if_pos h6] at h; cases h
              · rw [if_neg h6] at h
                cases hgs : gs (i + 1) e with
                | none => simp only [hgs] at h; cases h
                | some gp =>
                  simp only [hgs] at h
                  by_cases h7 : 500 < (acc ++ rep gp (c (e + 1) - 48).toNat).length
                  · rw [if_pos h7] at h; cases h
                  · rw [if_neg h7] at h
                    obtain ⟨⟨gd, hg⟩, hl5, hne0⟩ := hto (i + 1) e gp (by omega) (by omega) (fun _ => hce) hgs
                    have hgp := hne0 (by omega)
                    rw [← hg2] at h
                    obtain ⟨q1, q2, q3, q4⟩ := ih (e + 2) _ p (by omega) (by omega) (by omega) h
                    have hd1 : isDig (c (e + 1)) = true := by simpa using h6
                    have hd2 := isDig_iff.1 hd1
                    rw [List.length_append, rep_len] at q3
                    have hgl : 0 < gp.length := List.length_pos_iff.2 hgp
                    have hmul : 1 * gp.length ≤ (c (e + 1) - 48).toNat * gp.length := Nat.mul_le_mul_right _ (by omega)
                    refine ⟨fun f dep hf => ?_, q2, by omega, fun _ => by omega⟩
                    obtain ⟨f', rfl⟩ : ∃ f', f = f' + 1 := ⟨f - 1, by omega⟩
                    unfold loopR
                    rw [if_neg (by omega), if_pos h4, hg1]
                    simp only [hg]
                    rw [if_neg, ← hg1]
                    · exact q1 f' _ (by omega)
                    · rintro (hh | hh | hh)
                      · exact hgp hh
                      · omega
                      · exact h6 hh
        · rw [if_neg h4] at h; cases h

theorem row_toR (c : Nat → Int) (L : Nat) : ∀ d, ToR c L (rowR c L d) (rowS c d)
  | 0 => by
    intro a b p hab hbL hb h
    obtain ⟨q1, q2, q3, q4⟩ := loop_toR hbL hb (.inl ⟨rfl, rfl⟩) (b - a) a [] p (Nat.le_refl _) hab (by simp) h
    exact ⟨q1 (L - a) 3 (Nat.le_refl _), q2, fun hh e => by have := q4 hh; rw [e] at this; simp at this⟩
  | d' + 1 => by
    intro a b p hab hbL hb h
    obtain ⟨q1, q2, q3, q4⟩ := loop_toR hbL hb (.inr ⟨_, _, rfl, rfl, row_toR c L d'⟩) (b - a) a [] p (Nat.le_refl _) hab (by simp) h
    exact ⟨q1 (L - a) _ (Nat.le_refl _), q2, fun hh e => by have := q4 hh; rw [e] at this; simp at this⟩

/-- What a score plays: its places and its depth. -/
def scoreOf (c : Nat → Int) (L : Nat) : Option (List Int × Int) :=
  match rowR c L 3 0 with
  | none => none
  | some (p, d, e) => if e < L ∨ 500 < p.length then none else some (p, d)

theorem scoreOf_S (c : Nat → Int) (L : Nat) : rowS c 3 0 L = (scoreOf c L).map (fun r => r.1) := by
  unfold scoreOf
  cases h : rowR c L 3 0 with
  | none =>
    simp only [Option.map_none]
    cases hs : rowS c 3 0 L with
    | none => rfl
    | some p =>
      obtain ⟨⟨d, hd⟩, _⟩ := row_toR c L 3 0 L p (Nat.zero_le _) (Nat.le_refl _) (fun h => by omega) hs
      rw [h] at hd; cases hd
  | some r =>
    obtain ⟨p, d, e⟩ := r
    simp only
    have hp := rowR_pass c L 3 0 p d e (Nat.zero_le _) h
    by_cases h1 : e < L ∨ 500 < p.length
    · rw [if_pos h1]
      simp only [Option.map_none]
      cases hs : rowS c 3 0 L with
      | none => rfl
      | some p' =>
        obtain ⟨⟨d', hd⟩, hl, _⟩ := row_toR c L 3 0 L p' (Nat.zero_le _) (Nat.le_refl _) (fun h => by omega) hs
        rw [h] at hd
        injection hd with hd
        injection hd with e1 hd
        injection hd with e2 e3
        subst e1 e3
        omega
    · rw [if_neg h1]
      simp only [Option.map_some]
      have he : e = L := by have := hp.2.1; omega
      subst he
      exact row_toS c e 3 0 p d e (Nat.zero_le _) h (by omega)

theorem loopS_len (c : Nat → Int) (inner : Option (Nat → Nat → Option (List Int))) (b : Nat) : ∀ (F i : Nat) (acc p : List Int), acc.length ≤ 500 → loopS c inner b F i acc = some p → p.length ≤ 500
  | 0, i, acc, p, ha, h => by unfold loopS at h; injection h with h; subst h; exact ha
  | F + 1, i, acc, p, ha, h => by
    unfold loopS at h
    split at h
    · injection h with h; subst h; exact ha
    · split at h
      · split at h
        · cases h
        · exact loopS_len c inner b F _ _ p (by rw [List.length_append, List.length_singleton]; omega) h
      · split at h
        · split at h
          · cases h
          · split at h
            · cases h
            · split at h
              · cases h
              · split at h
                · cases h
                · split at h
                  · cases h
                  · exact loopS_len c _ b F _ _ p (by omega) h
        · cases h

end Go.Proofs.YthookknmeajojaaGreatDoor

namespace Go.Proofs.YthookknmeajojaaGreatDoor
open Go.RowKit Go.Shelf
set_option linter.unusedVariables false
set_option linter.unusedSimpArgs false

theorem bits_Mul_any (x y : Nat) (hx : x < 18446744073709551616) (hy : y < 18446744073709551616) (w : World) :
    Calls Tryz.prog 72 #[.int .u64 x, .int .u64 y] w fun e w' => e = .returned (.tuple #[.int .u64 ((x * y / 18446744073709551616 : Nat) : Int), .int .u64 ((x * y % 18446744073709551616 : Nat) : Int)]) ∧ w' = w := Any.bits_Mul Tryz.lays212 x y hx hy w

/-- A list of ints in new memory. -/
def RetI (w : World) (xs : List Int) (e : Ending) (w' : World) : Prop := ∃ A cap, e = .returned (.slice A xs.length cap) ∧ Ints w' w'.heap.size A xs ∧ Below w.heap.size w w'

/-- The cells of a row of which the first n are filled. -/
def fillL (xs : List Int) (n N : Nat) : List Value := (List.range N).map (fun j => .int .i64 (if j < n then xs.getD (j % xs.length) 0 else 0))
def partL (xs : List Int) (m : Nat) : List Value := (List.range m).map (fun j => .int .i64 (xs.getD (j % xs.length) 0))
theorem fillL_len (xs : List Int) (n N : Nat) : (fillL xs n N).length = N := by simp [fillL]
theorem partL_len (xs : List Int) (m : Nat) : (partL xs m).length = m := by simp [partL]
theorem rep_get {xs : List Int} (h0 : 0 < xs.length) : ∀ (k j : Nat), j < k * xs.length → (rep xs k).getD j 0 = xs.getD (j % xs.length) 0
  | 0, j, h => by omega
  | k + 1, j, h => by
    unfold rep
    rw [Nat.add_mul, Nat.one_mul] at h
    by_cases hj : j < k * xs.length
    · rw [List.getD_eq_getElem?_getD, List.getElem?_append_left (by rw [rep_len]; exact hj), ← List.getD_eq_getElem?_getD]
      exact rep_get h0 k j hj
    · rw [List.getD_eq_getElem?_getD, List.getElem?_append_right (by rw [rep_len]; omega), ← List.getD_eq_getElem?_getD, rep_len]
      have : j % xs.length = j - k * xs.length := by
        obtain ⟨t, rfl⟩ : ∃ t, j = k * xs.length + t := ⟨j - k * xs.length, by omega⟩
        rw [Nat.add_sub_cancel_left, Nat.mul_comm k, Nat.mul_add_mod, Nat.mod_eq_of_lt (by omega)]
      rw [this]

theorem splice_fill {xs : List Int} {n m N : Nat} (hd : n % xs.length = 0) (hm : n + m ≤ N) : splice (fillL xs n N) n (partL xs m) = fillL xs (n + m) N := by
  refine List.ext_getElem (by rw [length_splice _ _ _ (by rw [partL_len, fillL_len]; exact hm), fillL_len, fillL_len]) fun j h1 h2 => ?_
  rw [fillL_len] at h2
  apply Option.some.inj
  rw [← List.getElem?_eq_getElem, ← List.getElem?_eq_getElem]
  unfold splice
  have hr : (fillL xs (n + m) N)[j]? = some (.int .i64 (if j < n + m then xs.getD (j % xs.length) 0 else 0)) := by
    simp [fillL, h2]
  rw [hr]
  by_cases hj : j < n
  · rw [List.getElem?_append_left (by rw [List.length_take, fillL_len]; omega), List.getElem?_take_of_lt hj]
    simp [fillL, h2, hj, show j < n + m by omega]
  · have hlt : (List.take n (fillL xs n N)).length = n := by rw [List.length_take, fillL_len]; omega
    rw [List.getElem?_append_right (by omega), hlt]
    by_cases hj2 : j < n + m
    · rw [List.getElem?_append_left (by rw [partL_len]; omega)]
      have e : (j - n) % xs.length = j % xs.length := by
        obtain ⟨t, rfl⟩ : ∃ t, j = n + t := ⟨j - n, by omega⟩
        rw [Nat.add_sub_cancel_left]
        obtain ⟨q, hq⟩ := Nat.dvd_of_mod_eq_zero hd
        rw [hq, Nat.mul_add_mod]
      simp [partL, show j - n < m by omega, hj2, e]
    · rw [List.getElem?_append_right (by rw [partL_len]; omega), partL_len, List.getElem?_drop]
      have e : n + m + (j - n - m) = j := by omega
      rw [e]
      simp [fillL, h2, hj, hj2]

end Go.Proofs.YthookknmeajojaaGreatDoor

namespace Go.Proofs.YthookknmeajojaaGreatDoor
open Go.RowKit
set_option linter.unusedVariables false
set_option linter.unusedSimpArgs false

/-- The bytes of a text, by number. -/
def chr (s : ByteArray) (i : Nat) : Int := if h : i < s.size then ((s[i]'h).toNat : Int) else 0
theorem chr_at {s : ByteArray} {i : Nat} (h : i < s.size) : chr s i = ((s[i]'h).toNat : Int) := by unfold chr; rw [dif_pos h]
theorem chr_bound (s : ByteArray) (i : Nat) : 0 ≤ chr s i ∧ chr s i < 256 := by
  unfold chr
  split
  · rename_i h
    have := (s[i]'h).toNat_lt
    omega
  · omega

theorem ext_one (s : ByteArray) (i : Nat) (h : i < s.size) : (s.extract i (i + 1))[0]'(by have := (str_at s i h).size; simp at this ⊢; omega) = s[i] := by
  have := (str_at s i h).eq
  simp only [this]
  rfl

theorem ints_nil (w : World) (B : Nat) (A : Option Addr) : Ints w B A [] := ⟨Nat.zero_le _, (fun x hx => (List.not_mem_nil hx).elim), fun h => absurd h (Nat.lt_irrefl 0)⟩

def RowRet (w : World) (r : Row3) (e : Ending) (w' : World) : Prop :=
  ∃ (A : Option Addr) (cap : Nat) (p : List Int) (dd en : Int) (ok : Bool), e = .returned (.tuple #[.agg #[.slice A p.length cap, .int .i64 dd], .int .i64 en, .bool ok]) ∧
    Ints w' w'.heap.size A p ∧ Below w.heap.size w w' ∧ (ok = true → ∃ en' : Nat, r = some (p, dd, en') ∧ en = en') ∧ (ok = false → r = none ∧ p = [] ∧ A = none ∧ cap = 0 ∧ dd = 0) ∧ (∀ k, (Value.slice A p.length cap).ownBlock = some k → w.heap.size ≤ k)

end Go.Proofs.YthookknmeajojaaGreatDoor

