/-
  Several texts of this proof in one: AllD, Per, Bal, WdT.
-/
import Derived.Test.YtlejlcnemibgiaaGreatWin
import Derived.Test.YtlejlcnemibgiaaGreatRlaw
import Derived.Lib.Slices
import Derived.Lib.Bytealg
namespace Go.Proofs.YtlejlcnemibgiaaGreat
set_option linter.unusedVariables false
set_option linter.unusedSimpArgs false

/-- The order of texts, behind a name. -/
def ltL (a b : List UInt8) : Bool := decide (a < b)
theorem ltL_irrefl (a : List UInt8) : ltL a a = false := by
  unfold ltL; rw [decide_eq_false_iff_not]; exact List.lt_irrefl a
theorem ltL_trans {a b c : List UInt8} (h : ltL a b = true) (h' : ltL b c = true) : ltL a c = true := by
  unfold ltL at *; rw [decide_eq_true_eq] at *; exact List.lt_trans h h'
theorem ltL_tri {a b : List UInt8} (h : ltL a b = false) (hne : a ≠ b) : ltL b a = true := by
  unfold ltL at *; rw [decide_eq_false_iff_not] at h; rw [decide_eq_true_eq]
  rcases Std.lt_trichotomy a b with h1 | h1 | h1
  · exact absurd h1 h
  · exact absurd h1 hne
  · exact h1

/-- From last to first, each once. -/
def DescL (l : List (List UInt8)) : Prop := l.Pairwise (fun a b => ltL b a = true)
theorem DescL.nodup {l : List (List UInt8)} (h : DescL l) : l.Nodup :=
  List.Pairwise.imp (fun {a b} hab e => by subst e; rw [ltL_irrefl] at hab; cases hab) h

/-- Two such lists with the same members are one. -/
theorem DescL.unique : ∀ {l m : List (List UInt8)}, DescL l → DescL m → (∀ x, x ∈ l ↔ x ∈ m) → l = m
  | [], [], _, _, _ => rfl
  | [], y :: m, _, _, h => by have := (h y).2 (by simp); cases this
  | x :: l, [], _, _, h => by have := (h x).1 (by simp); cases this
  | x :: l, y :: m, hl, hm, h => by
    have hl' := List.pairwise_cons.1 hl
    have hm' := List.pairwise_cons.1 hm
    have hxy : x = y := by
      apply Classical.byContradiction
      intro hne
      have h1 : x ∈ m := by
        rcases List.mem_cons.1 ((h x).1 (by simp)) with e | e
        · exact absurd e hne
        · exact e
      have h2 : y ∈ l := by
        rcases List.mem_cons.1 ((h y).2 (by simp)) with e | e
        · exact absurd e.symm hne
        · exact e
      have := ltL_trans (hl'.1 y h2) (hm'.1 x h1)
      rw [ltL_irrefl] at this
      cases this
    subst hxy
    have hxl : ∀ z ∈ l, z ≠ x := fun z hz e => by subst e; have := hl'.1 _ hz; rw [ltL_irrefl] at this; cases this
    have hxm : ∀ z ∈ m, z ≠ x := fun z hz e => by subst e; have := hm'.1 _ hz; rw [ltL_irrefl] at this; cases this
    rw [DescL.unique hl'.2 hm'.2 (fun z => ⟨fun hz => by
      rcases List.mem_cons.1 ((h z).1 (by simp [hz])) with e | e
      · exact absurd e (hxl z hz)
      · exact e, fun hz => by
      rcases List.mem_cons.1 ((h z).2 (by simp [hz])) with e | e
      · exact absurd e (hxm z hz)
      · exact e⟩)]

/-- Where a text belongs: behind those that are later. -/
def posD (w : List UInt8) : List (List UInt8) → Nat
  | [] => 0
  | x :: l => if ltL w x then posD w l + 1 else 0
theorem posD_le (w : List UInt8) : ∀ l, posD w l ≤ l.length
  | [] => Nat.le_refl _
  | x :: l => by unfold posD; split <;> simp [posD_le w l]
theorem posD_before (w : List UInt8) : ∀ (l : List (List UInt8)) i, i < posD w l → ltL w (l.getD i []) = true
  | [], i, h => by simp [posD] at h
  | x :: l, i, h => by
    unfold posD at h
    split at h
    · cases i with
      | zero => simpa
      | succ i => simpa using posD_before w l i (by omega)
    · omega
theorem posD_here (w : List UInt8) : ∀ (l : List (List UInt8)), posD w l < l.length → ltL w (l.getD (posD w l) []) = false
  | [], h => by simp [posD] at h
  | x :: l, h => by
    unfold posD at h ⊢
    split
    · rename_i hx
      rw [if_pos hx] at h
      simpa using posD_here w l (by simpa using h)
    · rename_i hx
      simpa using hx
theorem posD_unique (w : List UInt8) : ∀ (l : List (List UInt8)) k, k ≤ l.length → (∀ i, i < k → ltL w (l.getD i []) = true) → (k < l.length → ltL w (l.getD k []) = false) → posD w l = k
  | [], k, h, _, _ => by simp at h; simp [posD, h]
  | x :: l, 0, _, _, h => by
    have := h (by simp)
    simp at this
    simp [posD, this]
  | x :: l, k + 1, h, h1, h2 => by
    have h0 := h1 0 (by omega)
    simp at h0
    unfold posD
    rw [if_pos h0, posD_unique w l k (by simpa using h) (fun i hi => by simpa using h1 (i + 1) (by omega)) (fun hk => by simpa using h2 (by simpa using hk))]

def insD (w : List UInt8) (l : List (List UInt8)) : List (List UInt8) :=
  if posD w l < l.length ∧ l.getD (posD w l) [] = w then l else l.take (posD w l) ++ [w] ++ l.drop (posD w l)
theorem insD_cons_lt {w x : List UInt8} {l : List (List UInt8)} (h : ltL w x = true) : insD w (x :: l) = x :: insD w l := by
  unfold insD
  have e : posD w (x :: l) = posD w l + 1 := by rw [posD, if_pos h]
  rw [e]
  by_cases hc : posD w l < l.length ∧ l.getD (posD w l) [] = w
  · rw [if_pos hc, if_pos ⟨by simpa using hc.1, by simpa using hc.2⟩]
  · rw [if_neg hc, if_neg (fun hh => hc ⟨by simpa using hh.1, by simpa using hh.2⟩)]
    simp
theorem insD_mem (w : List UInt8) : ∀ (l : List (List UInt8)) x, x ∈ insD w l ↔ x = w ∨ x ∈ l := by
  intro l x
  unfold insD
  split
  · rename_i h
    constructor
    · exact .inr
    · rintro (rfl | h')
      · rw [← h.2, List.getD_eq_getElem?_getD, List.getElem?_eq_getElem h.1]
        exact List.getElem_mem h.1
      · exact h'
  · conv => rhs; rw [← List.take_append_drop (posD w l) l]
    simp only [List.mem_append, List.mem_singleton]
    constructor
    · rintro ((h | h) | h)
      · exact .inr (.inl h)
      · exact .inl h
      · exact .inr (.inr h)
    · rintro (h | h | h)
      · exact .inl (.inr h)
      · exact .inl (.inl h)
      · exact .inr h
theorem insD_desc (w : List UInt8) : ∀ (l : List (List UInt8)), DescL l → DescL (insD w l)
  | [], _ => by simp [insD, posD, DescL]
  | x :: l, h => by
    have h' := List.pairwise_cons.1 h
    by_cases hx : ltL w x = true
    · rw [insD_cons_lt hx]
      refine List.pairwise_cons.2 ⟨fun y hy => ?_, insD_desc w l h'.2⟩
      rcases (insD_mem w l y).1 hy with rfl | hy
      · exact hx
      · exact h'.1 y hy
    · have hx' : ltL w x = false := by simpa using hx
      have e : posD w (x :: l) = 0 := by rw [posD, if_neg hx]
      unfold insD
      rw [e]
      by_cases hc : x = w
      · rw [if_pos ⟨by simp, by simpa using hc⟩]; exact h
      · rw [if_neg (fun hh => hc (by simpa using hh.2))]
        have hw := ltL_tri hx' (fun e => hc e.symm)
        refine List.pairwise_cons.2 ⟨fun y hy => ?_, h⟩
        rcases List.mem_cons.1 hy with rfl | hy
        · exact hw
        · exact ltL_trans (h'.1 y hy) hw

/-- The different windows, from last to first. -/
def allD (n : Int) (bs : List Int) (k : Nat) : Nat → List (List UInt8)
  | 0 => []
  | p + 1 => insD (winL n bs p k) (allD n bs k p)
theorem allD_mem (n : Int) (bs : List Int) (k : Nat) : ∀ m x, x ∈ allD n bs k m ↔ ∃ p, p < m ∧ winL n bs p k = x
  | 0, x => by simp [allD]
  | m + 1, x => by
    unfold allD
    rw [insD_mem, allD_mem n bs k m]
    constructor
    · rintro (rfl | ⟨p, hp, rfl⟩)
      · exact ⟨m, by omega, rfl⟩
      · exact ⟨p, by omega, rfl⟩
    · rintro ⟨p, hp, rfl⟩
      by_cases h : p = m
      · subst h; exact .inl rfl
      · exact .inr ⟨p, by omega, rfl⟩
theorem allD_desc (n : Int) (bs : List Int) (k : Nat) : ∀ m, DescL (allD n bs k m)
  | 0 => List.Pairwise.nil
  | m + 1 => insD_desc _ _ (allD_desc n bs k m)
theorem allD_len (n : Int) (bs : List Int) (k : Nat) : ∀ m, (allD n bs k m).length ≤ m
  | 0 => Nat.le_refl _
  | m + 1 => by
    have := allD_len n bs k m
    unfold allD insD
    split
    · omega
    · simp; omega

theorem nodup_leG {α : Type} [DecidableEq α] : ∀ (l m : List α), l.Nodup → (∀ x ∈ l, x ∈ m) → l.length ≤ m.length
  | [], _, _, _ => Nat.zero_le _
  | x :: l, m, hn, hs => by
    have hx : x ∈ m := hs x (by simp)
    have hn' := List.nodup_cons.1 hn
    have := nodup_leG l (m.erase x) hn'.2 (fun y hy => (List.mem_erase_of_ne (fun e => hn'.1 (by subst e; exact hy))).2 (hs y (by simp [hy])))
    rw [List.length_erase_of_mem hx] at this
    have hpos : 0 < m.length := List.length_pos_of_mem hx
    simp only [List.length_cons]
    omega

theorem allD_full (n : Int) (bs : List Int) (k m : Nat) : (allD n bs k m).length = m ↔ ∀ p q, p < m → q < m → winL n bs p k = winL n bs q k → p = q := by
  constructor
  · intro h p q hp hq e
    apply Classical.byContradiction
    intro hne
    have := nodup_leG (allD n bs k m) (((List.range m).erase q).map (fun p => winL n bs p k)) (allD_desc n bs k m).nodup (fun v hv => by
      obtain ⟨r, hr, rfl⟩ := (allD_mem n bs k m v).1 hv
      by_cases hrq : r = q
      · subst hrq
        exact List.mem_map.2 ⟨p, (List.mem_erase_of_ne hne).2 (List.mem_range.2 hp), e⟩
      · exact List.mem_map.2 ⟨r, (List.mem_erase_of_ne hrq).2 (List.mem_range.2 hr), rfl⟩)
    rw [List.length_map, List.length_erase_of_mem (List.mem_range.2 hq), List.length_range] at this
    omega
  · intro h
    have h1 := allD_len n bs k m
    have h2 := nodup_leG ((List.range m).map (fun p => winL n bs p k)) (allD n bs k m) (by
      rw [List.Nodup, List.pairwise_map]
      exact List.Pairwise.imp_of_mem (fun {a b} ha hb' hne e => hne (h a b (List.mem_range.1 ha) (List.mem_range.1 hb') e)) List.nodup_range) (fun x hx => by
      obtain ⟨p, hp, rfl⟩ := List.mem_map.1 hx
      exact (allD_mem n bs k m _).2 ⟨p, List.mem_range.1 hp, rfl⟩)
    simp at h2
    omega

theorem winL_ext (n : Int) (bs : List Int) (p q k : Nat) : winL n bs p k = winL n bs q k ↔ ∀ i, i < k → hasB bs (((p + i : Nat) : Int) % n) = hasB bs (((q + i : Nat) : Int) % n) := by
  unfold winL
  constructor
  · intro h i hi
    have := congrArg (fun l => l[i]?) h
    simp only [List.getElem?_map, List.getElem?_range hi, Option.map_some, Option.some.injEq] at this
    cases h1 : hasB bs (((p + i : Nat) : Int) % n) <;> cases h2 : hasB bs (((q + i : Nat) : Int) % n) <;> rw [h1, h2] at this <;> first | rfl | (exfalso; revert this; decide)
  · intro h
    apply List.map_congr_left
    intro i hi
    rw [h i (List.mem_range.1 hi)]

end Go.Proofs.YtlejlcnemibgiaaGreat

namespace Go.Proofs.YtlejlcnemibgiaaGreat
set_option linter.unusedVariables false
set_option linter.unusedSimpArgs false

/-- The beats of a rhythm rotated by k: the pulses t with a beat on t - k. -/
def rotL (N : Nat) (bs : List Int) (k : Int) : List Int := ((List.range N).filter (fun t : Nat => hasB bs (((t : Int) - k) % N))).map Int.ofNat
theorem rotL_mem {N : Nat} {bs : List Int} {k x : Int} : x ∈ rotL N bs k ↔ ∃ t : Nat, t < N ∧ hasB bs (((t : Int) - k) % N) = true ∧ x = t := by
  unfold rotL
  rw [List.mem_map]
  constructor
  · rintro ⟨p, hp, rfl⟩
    rw [List.mem_filter, List.mem_range] at hp
    exact ⟨p, hp.1, hp.2, rfl⟩
  · rintro ⟨p, h1, h2, rfl⟩
    exact ⟨p, by rw [List.mem_filter, List.mem_range]; exact ⟨h1, h2⟩, rfl⟩
theorem rotL_sorted (N : Nat) (bs : List Int) (k : Int) : (rotL N bs k).Pairwise (fun a b => a < b) := by
  unfold rotL
  rw [List.pairwise_map]
  exact List.Pairwise.imp (fun {a b} h => by show (a : Int) < b; omega) (List.Pairwise.filter _ List.pairwise_lt_range)
theorem rotL_len (N : Nat) (bs : List Int) (k : Int) : (rotL N bs k).length ≤ N := by
  unfold rotL
  rw [List.length_map]
  exact Nat.le_trans (List.length_filter_le _ _) (by simp)

/-- Strictly ascending lists with the same members are one. -/
theorem asc_unique : ∀ {l m : List Int}, l.Pairwise (fun a b => a < b) → m.Pairwise (fun a b => a < b) → (∀ x, x ∈ l ↔ x ∈ m) → l = m
  | [], [], _, _, _ => rfl
  | [], y :: m, _, _, h => by have := (h y).2 (by simp); cases this
  | x :: l, [], _, _, h => by have := (h x).1 (by simp); cases this
  | x :: l, y :: m, hl, hm, h => by
    have hl' := List.pairwise_cons.1 hl
    have hm' := List.pairwise_cons.1 hm
    have hxy : x = y := by
      apply Classical.byContradiction
      intro hne
      have h1 : x ∈ m := by
        rcases List.mem_cons.1 ((h x).1 (by simp)) with e | e
        · exact absurd e hne
        · exact e
      have h2 : y ∈ l := by
        rcases List.mem_cons.1 ((h y).2 (by simp)) with e | e
        · exact absurd e.symm hne
        · exact e
      have a := hl'.1 y h2
      have b := hm'.1 x h1
      omega
    subst hxy
    rw [asc_unique hl'.2 hm'.2 (fun z => ⟨fun hz => by
      rcases List.mem_cons.1 ((h z).1 (by simp [hz])) with e | e
      · have := hl'.1 z hz; omega
      · exact e, fun hz => by
      rcases List.mem_cons.1 ((h z).2 (by simp [hz])) with e | e
      · have := hm'.1 z hz; omega
      · exact e⟩)]

theorem rhok_asc {n : Int} {bs : List Int} (h : RhOk n bs) : bs.Pairwise (fun a b => a < b) := by
  have hmono : ∀ d a, a + d < bs.length → 0 < d → bs.getD a 0 < bs.getD (a + d) 0 := by
    intro d
    induction d with
    | zero => intro a _ h; omega
    | succ d ih =>
      intro a ha _
      by_cases hd : d = 0
      · subst hd; exact h.2.2.2 a (by omega)
      · have h3 := ih a (by omega) (by omega)
        have h4 := h.2.2.2 (a + d) (by omega)
        rw [show a + d + 1 = a + (d + 1) by omega] at h4
        omega
  rw [List.pairwise_iff_getElem]
  intro i j hi hj hij
  have := hmono (j - i) i (by omega) (by omega)
  rw [show i + (j - i) = j by omega, List.getD_eq_getElem?_getD, List.getElem?_eq_getElem hi, List.getD_eq_getElem?_getD, List.getElem?_eq_getElem hj] at this
  exact this
theorem rhok_range {n : Int} {bs : List Int} (h : RhOk n bs) : ∀ x ∈ bs, 0 ≤ x ∧ x < n := by
  intro x hx
  obtain ⟨i, hi, rfl⟩ := List.getElem_of_mem hx
  have := h.2.2.1 i hi
  rw [List.getD_eq_getElem?_getD, List.getElem?_eq_getElem hi] at this
  exact this

/-- A rotation is the rhythm itself exactly if each beat has a beat k pulses on. -/
theorem rotL_same {N : Nat} {bs : List Int} (h : RhOk N bs) (k : Int) : rotL N bs k = bs ↔ ∀ t : Nat, t < N → hasB bs (((t : Int) - k) % N) = hasB bs (t : Int) := by
  constructor
  · intro e t ht
    have h1 : ((t : Int) ∈ rotL N bs k) ↔ ((t : Int) ∈ bs) := by rw [e]
    rw [rotL_mem] at h1
    unfold hasB at *
    rw [Bool.eq_iff_iff, decide_eq_true_eq, decide_eq_true_eq, ← h1]
    constructor
    · intro hh
      exact ⟨t, ht, by rw [decide_eq_true_eq]; exact hh, rfl⟩
    · rintro ⟨t', ht', hh, e'⟩
      have : t = t' := by omega
      subst this
      rwa [decide_eq_true_eq] at hh
  · intro hh
    refine asc_unique (rotL_sorted N bs k) (rhok_asc h) (fun x => ?_)
    rw [rotL_mem]
    constructor
    · rintro ⟨t, ht, hb, rfl⟩
      rw [hh t ht] at hb
      unfold hasB at hb
      rwa [decide_eq_true_eq] at hb
    · intro hx
      obtain ⟨h1, h2⟩ := rhok_range h x hx
      obtain ⟨t, rfl⟩ := Int.eq_ofNat_of_zero_le h1
      refine ⟨t, by omega, ?_, rfl⟩
      rw [hh t (by omega)]
      unfold hasB
      rwa [decide_eq_true_eq]

def perB (N : Nat) (bs : List Int) (k : Nat) : Bool := eqB (rotL N bs k) bs
theorem perB_iff {N : Nat} {bs : List Int} {k : Nat} : perB N bs k = true ↔ rotL N bs k = bs := by unfold perB eqB; rw [decide_eq_true_eq]
theorem perB_all {N : Nat} {bs : List Int} (h : RhOk N bs) : perB N bs N = true := by
  rw [perB_iff, rotL_same h]
  intro t ht
  congr 1
  rw [Int.sub_emod_right]
  exact Int.emod_eq_of_lt (by omega) (by omega)
/-- The least rotation from k on that is the rhythm itself; f steps at most. -/
def perF (N : Nat) (bs : List Int) : Nat → Nat → Nat
  | 0, k => k
  | f + 1, k => if perB N bs k = true then k else perF N bs f (k + 1)
def perV (N : Nat) (bs : List Int) : Nat := perF N bs (N - 1) 1
theorem perF_spec (N : Nat) (bs : List Int) : ∀ f k, k ≤ perF N bs f k ∧ perF N bs f k ≤ k + f ∧ (∀ j, k ≤ j → j < perF N bs f k → perB N bs j = false) ∧ (perF N bs f k < k + f → perB N bs (perF N bs f k) = true)
  | 0, k => ⟨Nat.le_refl _, Nat.le_refl _, fun j h1 h2 => by unfold perF at h2; omega, fun h => by unfold perF at h; omega⟩
  | f + 1, k => by
    unfold perF
    cases hb : perB N bs k
    · rw [if_neg (by simp)]
      obtain ⟨h1, h2, h3, h4⟩ := perF_spec N bs f (k + 1)
      refine ⟨by omega, by omega, fun j hj1 hj2 => ?_, fun h => h4 (by omega)⟩
      by_cases e : j = k
      · subst e; exact hb
      · exact h3 j (by omega) hj2
    · rw [if_pos rfl]
      exact ⟨Nat.le_refl _, by omega, fun j h1 h2 => by omega, fun _ => hb⟩
theorem perV_is {N : Nat} {bs : List Int} (h : RhOk N bs) : 1 ≤ perV N bs ∧ perV N bs ≤ N ∧ perB N bs (perV N bs) = true ∧ ∀ j, 1 ≤ j → j < perV N bs → perB N bs j = false := by
  have hN : 1 ≤ N := by have := h.1; omega
  obtain ⟨h1, h2, h3, h4⟩ := perF_spec N bs (N - 1) 1
  unfold perV
  refine ⟨h1, by omega, ?_, h3⟩
  by_cases e : perF N bs (N - 1) 1 < 1 + (N - 1)
  · exact h4 e
  · have : perF N bs (N - 1) 1 = N := by omega
    rw [this]
    exact perB_all h
theorem perV_unique {N : Nat} {bs : List Int} (h : RhOk N bs) {k : Nat} (hk : 1 ≤ k) (hb : perB N bs k = true) (hno : ∀ j, 1 ≤ j → j < k → perB N bs j = false) : perV N bs = k := by
  obtain ⟨h1, h2, h3, h4⟩ := perV_is h
  rcases Nat.lt_trichotomy (perV N bs) k with hlt | he | hgt
  · have := hno _ h1 hlt
    rw [h3] at this; cases this
  · exact he
  · have := h4 k hk hgt
    rw [hb] at this; cases this

/-- The windows that are as long as the bar: as many as the period at least. -/
theorem allD_per {N : Nat} {bs : List Int} (h : RhOk N bs) : perV N bs ≤ (allD N bs N N).length := by
  obtain ⟨h1, h2, h3, h4⟩ := perV_is h
  have hinj : ∀ p q, p < q → q < perV N bs → winL (N : Int) bs p N ≠ winL N bs q N := by
    intro p q hpq hq e
    have hd := h4 (q - p) (by omega) (by omega)
    have : perB N bs (q - p) = true := by
      rw [perB_iff, rotL_same h]
      intro t ht
      have he := (winL_ext (N : Int) bs p q N).1 e
      -- take i with (q + i) mod N = t
      have hi := he ((t + N - q % N) % N) (Nat.mod_lt _ (by omega))
      have hqm : q % N = q := Nat.mod_eq_of_lt (by omega)
      rw [hqm] at hi
      by_cases hc : q ≤ t
      · have e1 : (t + N - q) % N = t - q := by rw [show t + N - q = (t - q) + N by omega, Nat.add_mod_right]; exact Nat.mod_eq_of_lt (by omega)
        rw [e1] at hi
        rw [show ((p + (t - q) : Nat) : Int) = (t : Int) - ((q - p : Nat) : Int) by omega, show ((q + (t - q) : Nat) : Int) = (t : Int) by omega] at hi
        rw [hi]
        congr 1
        exact Int.emod_eq_of_lt (by omega) (by omega)
      · have e1 : (t + N - q) % N = t + N - q := Nat.mod_eq_of_lt (by omega)
        rw [e1] at hi
        rw [show ((p + (t + N - q) : Nat) : Int) = (t : Int) - ((q - p : Nat) : Int) + N by omega, show ((q + (t + N - q) : Nat) : Int) = (t : Int) + N by omega, Int.add_emod_right, Int.add_emod_right] at hi
        rw [hi]
        congr 1
        exact Int.emod_eq_of_lt (by omega) (by omega)
    rw [hd] at this
    cases this
  have := nodup_leG ((List.range (perV N bs)).map (fun p => winL (N : Int) bs p N)) (allD N bs N N) (by
    rw [List.Nodup, List.pairwise_map]
    refine List.Pairwise.imp_of_mem (fun {a b} ha hb hne e => ?_) List.nodup_range
    have ha' := List.mem_range.1 ha
    have hb' := List.mem_range.1 hb
    rcases Nat.lt_or_gt_of_ne hne with hlt | hgt
    · exact hinj a b hlt hb' e
    · exact hinj b a hgt ha' e.symm) (fun x hx => by
    obtain ⟨p, hp, rfl⟩ := List.mem_map.1 hx
    exact (allD_mem _ bs N N _).2 ⟨p, by have := List.mem_range.1 hp; omega, rfl⟩)
  simpa using this

end Go.Proofs.YtlejlcnemibgiaaGreat

namespace Go.Proofs.YtlejlcnemibgiaaGreat
set_option linter.unusedVariables false
set_option linter.unusedSimpArgs false

/-- How many beats a window has. -/
def xcnt (l : List UInt8) : Int := (Lib.countByte l 120 : Nat)
def nCnt (n : Int) (bs : List Int) (p : Nat) : Nat → Nat
  | 0 => 0
  | k + 1 => nCnt n bs p k + if hasB bs (((p + k : Nat) : Int) % n) then 1 else 0
theorem nCnt_le (n : Int) (bs : List Int) (p : Nat) : ∀ k, nCnt n bs p k ≤ k
  | 0 => Nat.le_refl _
  | k + 1 => by have := nCnt_le n bs p k; unfold nCnt; split <;> omega
theorem nCnt_x (n : Int) (bs : List Int) (p : Nat) : ∀ k, xcnt (winL n bs p k) = nCnt n bs p k
  | 0 => rfl
  | k + 1 => by
    have ih := nCnt_x n bs p k
    unfold xcnt Lib.countByte at ih ⊢
    rw [winL_succ, List.count_append]
    unfold nCnt
    cases hasB bs (((p + k : Nat) : Int) % n)
    · simp at ih ⊢; omega
    · simp at ih ⊢; omega

/-- The least and the greatest, as the reference finds them. -/
def lowN (n : Int) (bs : List Int) (k : Nat) : Nat → Nat
  | 0 => k
  | p + 1 => min (lowN n bs k p) (nCnt n bs p k)
def highN (n : Int) (bs : List Int) (k : Nat) : Nat → Nat
  | 0 => 0
  | p + 1 => max (highN n bs k p) (nCnt n bs p k)
theorem lowN_le (n : Int) (bs : List Int) (k : Nat) : ∀ m p, p < m → lowN n bs k m ≤ nCnt n bs p k
  | m + 1, p, h => by
    unfold lowN
    by_cases e : p = m
    · subst e; omega
    · have := lowN_le n bs k m p (by omega); omega
theorem lowN_k (n : Int) (bs : List Int) (k : Nat) : ∀ m, lowN n bs k m ≤ k
  | 0 => Nat.le_refl _
  | m + 1 => by have := lowN_k n bs k m; unfold lowN; omega
theorem highN_k (n : Int) (bs : List Int) (k : Nat) : ∀ m, highN n bs k m ≤ k
  | 0 => Nat.zero_le _
  | m + 1 => by have := highN_k n bs k m; have := nCnt_le n bs m k; unfold highN; omega
theorem lowN_is (n : Int) (bs : List Int) (k : Nat) : ∀ m, 0 < m → ∃ p, p < m ∧ lowN n bs k m = nCnt n bs p k
  | m + 1, _ => by
    unfold lowN
    by_cases hm : m = 0
    · subst hm
      have := nCnt_le n bs 0 k
      exact ⟨0, by omega, by unfold lowN; omega⟩
    · obtain ⟨p, hp, e⟩ := lowN_is n bs k m (by omega)
      by_cases h : lowN n bs k m ≤ nCnt n bs m k
      · exact ⟨p, by omega, by omega⟩
      · exact ⟨m, by omega, by omega⟩
theorem highN_ge (n : Int) (bs : List Int) (k : Nat) : ∀ m p, p < m → nCnt n bs p k ≤ highN n bs k m
  | m + 1, p, h => by
    unfold highN
    by_cases e : p = m
    · subst e; omega
    · have := highN_ge n bs k m p (by omega); omega
theorem highN_is (n : Int) (bs : List Int) (k : Nat) : ∀ m, 0 < m → ∃ p, p < m ∧ highN n bs k m = nCnt n bs p k
  | m + 1, _ => by
    unfold highN
    by_cases hm : m = 0
    · subst hm
      exact ⟨0, by omega, by unfold highN; omega⟩
    · obtain ⟨p, hp, e⟩ := highN_is n bs k m (by omega)
      by_cases h : nCnt n bs m k ≤ highN n bs k m
      · exact ⟨p, by omega, by omega⟩
      · exact ⟨m, by omega, by omega⟩

theorem foldl_max_ge : ∀ (l : List Int) (a : Int), a ≤ l.foldl max a ∧ (∀ x ∈ l, x ≤ l.foldl max a) ∧ (l.foldl max a = a ∨ l.foldl max a ∈ l)
  | [], a => ⟨Int.le_refl _, (fun x hx => by cases hx), .inl rfl⟩
  | y :: l, a => by
    obtain ⟨h1, h2, h3⟩ := foldl_max_ge l (max a y)
    rw [List.foldl_cons]
    refine ⟨by omega, fun x hx => ?_, ?_⟩
    · rcases List.mem_cons.1 hx with rfl | hx
      · omega
      · exact h2 x hx
    · rcases h3 with h3 | h3
      · by_cases h : y ≤ a
        · exact .inl (by rw [h3]; omega)
        · exact .inr (List.mem_cons.2 (.inl (by rw [h3]; omega)))
      · exact .inr (List.mem_cons.2 (.inr h3))
theorem foldl_min_le : ∀ (l : List Int) (a : Int), l.foldl min a ≤ a ∧ (∀ x ∈ l, l.foldl min a ≤ x) ∧ (l.foldl min a = a ∨ l.foldl min a ∈ l)
  | [], a => ⟨Int.le_refl _, (fun x hx => by cases hx), .inl rfl⟩
  | y :: l, a => by
    obtain ⟨h1, h2, h3⟩ := foldl_min_le l (min a y)
    rw [List.foldl_cons]
    refine ⟨by omega, fun x hx => ?_, ?_⟩
    · rcases List.mem_cons.1 hx with rfl | hx
      · omega
      · exact h2 x hx
    · rcases h3 with h3 | h3
      · by_cases h : a ≤ y
        · exact .inl (by rw [h3]; omega)
        · exact .inr (List.mem_cons.2 (.inl (by rw [h3]; omega)))
      · exact .inr (List.mem_cons.2 (.inr h3))
theorem maxOf_spec (l : List Int) (h : 0 < l.length) : (∀ x ∈ l, x ≤ Lib.maxOf l) ∧ Lib.maxOf l ∈ l := by
  cases l with
  | nil => simp at h
  | cons y l =>
    unfold Lib.maxOf
    obtain ⟨h1, h2, h3⟩ := foldl_max_ge (y :: l) y
    refine ⟨h2, ?_⟩
    rcases h3 with h3 | h3
    · show (y :: l).foldl max y ∈ y :: l
      rw [h3]; simp
    · exact h3
theorem minOf_spec (l : List Int) (h : 0 < l.length) : (∀ x ∈ l, Lib.minOf l ≤ x) ∧ Lib.minOf l ∈ l := by
  cases l with
  | nil => simp at h
  | cons y l =>
    unfold Lib.minOf
    obtain ⟨h1, h2, h3⟩ := foldl_min_le (y :: l) y
    refine ⟨h2, ?_⟩
    rcases h3 with h3 | h3
    · show (y :: l).foldl min y ∈ y :: l
      rw [h3]; simp
    · exact h3

/-- The counts of the different windows have the reference's greatest and least. -/
theorem counts_max (n : Int) (bs : List Int) (k m : Nat) (hm : 0 < m) : Lib.maxOf ((allD n bs k m).map xcnt) = highN n bs k m ∧ Lib.minOf ((allD n bs k m).map xcnt) = lowN n bs k m := by
  have hpos : 0 < ((allD n bs k m).map xcnt).length := by
    rw [List.length_map]
    exact List.length_pos_of_mem ((allD_mem n bs k m _).2 ⟨0, hm, rfl⟩)
  have hmem : ∀ x, x ∈ (allD n bs k m).map xcnt ↔ ∃ p, p < m ∧ x = nCnt n bs p k := by
    intro x
    rw [List.mem_map]
    constructor
    · rintro ⟨l, hl, rfl⟩
      obtain ⟨p, hp, rfl⟩ := (allD_mem n bs k m l).1 hl
      exact ⟨p, hp, nCnt_x n bs p k⟩
    · rintro ⟨p, hp, rfl⟩
      exact ⟨winL n bs p k, (allD_mem n bs k m _).2 ⟨p, hp, rfl⟩, nCnt_x n bs p k⟩
  obtain ⟨a1, a2⟩ := maxOf_spec _ hpos
  obtain ⟨b1, b2⟩ := minOf_spec _ hpos
  obtain ⟨p, hp, e1⟩ := (hmem _).1 a2
  obtain ⟨q, hq, e2⟩ := (hmem _).1 b2
  obtain ⟨p', hp', e3⟩ := highN_is n bs k m hm
  obtain ⟨q', hq', e4⟩ := lowN_is n bs k m hm
  constructor
  · have h1 := a1 _ ((hmem _).2 ⟨p', hp', rfl⟩)
    have h2 := highN_ge n bs k m p hp
    omega
  · have h1 := b1 _ ((hmem _).2 ⟨q', hq', rfl⟩)
    have h2 := lowN_le n bs k m q hq
    omega
def unbB (n : Int) (bs : List Int) (k m : Nat) : Bool := decide (1 < (highN n bs k m : Int) - lowN n bs k m)

noncomputable def balV (n : Int) (bs : List Int) : Bool := rhB n bs && (List.range n.toNat).all (fun k => k == 0 || !unbB n bs k n.toNat)
theorem balV_no {N k : Nat} {bs : List Int} (h1 : 1 ≤ k) (h2 : k < N) (h : unbB N bs k N = true) : balV N bs = false := by
  cases hb : balV N bs
  · rfl
  · exfalso
    unfold balV at hb
    rw [Bool.and_eq_true, List.all_eq_true, Int.toNat_natCast] at hb
    have := hb.2 k (List.mem_range.2 h2)
    rw [h] at this
    simp at this
    omega
theorem balV_yes {N : Nat} {bs : List Int} (hr : rhB N bs = true) (h : ∀ k, k < N → 1 ≤ k → unbB N bs k N = false) : balV N bs = true := by
  unfold balV
  rw [Bool.and_eq_true, List.all_eq_true, Int.toNat_natCast]
  refine ⟨hr, fun k hk => ?_⟩
  by_cases h0 : k = 0
  · subst h0; rfl
  · rw [h k (List.mem_range.1 hk) (by omega)]; simp
theorem balV_bad {n : Int} {bs : List Int} (h : rhB n bs = false) : balV n bs = false := by unfold balV; rw [h]; rfl

end Go.Proofs.YtlejlcnemibgiaaGreat

namespace Go.Proofs.YtlejlcnemibgiaaGreat
open Go.RowKit
set_option linter.unusedVariables false
set_option linter.unusedSimpArgs false

section
variable {N : Nat} {bs : List Int}
/-- The number of windows of k pulses. -/
def cwN (N : Nat) (bs : List Int) (k : Nat) : Nat := (allD N bs k N).length
def chB (N : Nat) (bs : List Int) (p : Nat) : Bool := hasB bs ((p : Int) % (N : Int))
theorem win_ext (p q k : Nat) : winL N bs p k = winL N bs q k ↔ ∀ i, i < k → chB N bs (p + i) = chB N bs (q + i) := winL_ext _ _ _ _ _
theorem chB_N (p : Nat) : chB N bs (p + N) = chB N bs p := by
  unfold chB
  rw [Int.natCast_add, Int.add_emod_right]
theorem chB_mod (p : Nat) : chB N bs (p % N) = chB N bs p := by
  unfold chB
  rw [Int.natCast_emod, Int.emod_emod_of_dvd _ (Int.dvd_refl _)]
theorem win_mod (p k : Nat) : winL N bs (p % N) k = winL N bs p k := by
  rw [win_ext]
  intro i _
  rw [← chB_mod (p % N + i), ← chB_mod (p + i), Nat.mod_add_mod]
theorem win_in (h : 1 ≤ N) (p k : Nat) : winL N bs p k ∈ allD N bs k N := by
  rw [allD_mem]
  exact ⟨p % N, Nat.mod_lt _ (by omega), win_mod p k⟩
theorem win_take (p k m : Nat) (h : k ≤ m) : (winL N bs p m).take k = winL N bs p k := by
  unfold winL
  rw [← List.map_take, List.take_range, Nat.min_eq_left h]
theorem chB_per (h : RhOk N bs) (p : Nat) : chB N bs (p + perV N bs) = chB N bs p := by
  obtain ⟨h1, h2, h3, _⟩ := perV_is h
  have hn : 1 ≤ N := by omega
  rw [perB_iff, rotL_same h] at h3
  have := h3 ((p + perV N bs) % N) (Nat.mod_lt _ (by omega))
  rw [← chB_mod (p + perV N bs)]
  unfold chB
  rw [Int.emod_eq_of_lt (Int.natCast_nonneg _) (Int.ofNat_lt.2 (Nat.mod_lt _ (by omega))), ← this, Int.natCast_emod, Int.emod_sub_emod]
  congr 2
  omega
theorem win_per (h : RhOk N bs) (p k : Nat) : ∀ m, winL N bs (p + m * perV N bs) k = winL N bs p k
  | 0 => by rw [Nat.zero_mul, Nat.add_zero]
  | m + 1 => by
    rw [← win_per h p k m, win_ext]
    intro i _
    rw [show p + (m + 1) * perV N bs + i = p + m * perV N bs + i + perV N bs by rw [Nat.add_mul]; omega, chB_per h]
theorem cw_le_per (h : RhOk N bs) (k : Nat) : cwN N bs k ≤ perV N bs := by
  obtain ⟨h1, _, _, _⟩ := perV_is h
  have := nodup_leG (allD N bs k N) ((List.range (perV N bs)).map fun p => winL N bs p k) (DescL.nodup (allD_desc _ _ _ _)) (fun x hx => by
    obtain ⟨p, _, rfl⟩ := (allD_mem _ _ _ _ _).1 hx
    refine List.mem_map.2 ⟨p % perV N bs, List.mem_range.2 (Nat.mod_lt _ (by omega)), ?_⟩
    have := win_per h (p % perV N bs) k (p / perV N bs)
    rw [← this]
    congr 1
    rw [Nat.mul_comm]; exact Nat.mod_add_div _ _)
  simpa [cwN] using this
theorem cw_pos (h : 1 ≤ N) (k : Nat) : 1 ≤ cwN N bs k := List.length_pos_of_mem (win_in h 0 k)
theorem cw_mono (h : 1 ≤ N) (k : Nat) : cwN N bs k ≤ cwN N bs (k + 1) := by
  have := nodup_leG (allD N bs k N) ((allD N bs (k + 1) N).map (List.take k)) (DescL.nodup (allD_desc _ _ _ _)) (fun x hx => by
    obtain ⟨p, _, rfl⟩ := (allD_mem _ _ _ _ _).1 hx
    exact List.mem_map.2 ⟨_, win_in h p (k + 1), win_take p k (k + 1) (by omega)⟩)
  rwa [List.length_map] at this
/-- No more windows of one pulse more: then a window tells the next pulse. -/
theorem cw_same (h : 1 ≤ N) {k : Nat} (he : cwN N bs (k + 1) = cwN N bs k) {p q : Nat} (hpq : winL N bs p k = winL N bs q k) : winL N bs p (k + 1) = winL N bs q (k + 1) := by
  apply Classical.byContradiction
  intro hne
  have hq := win_in (bs := bs) h q (k + 1)
  have := nodup_leG (allD N bs k N) (((allD N bs (k + 1) N).erase (winL N bs q (k + 1))).map (List.take k)) (DescL.nodup (allD_desc _ _ _ _)) (fun x hx => by
    obtain ⟨r, _, rfl⟩ := (allD_mem _ _ _ _ _).1 hx
    by_cases hr : winL N bs r (k + 1) = winL N bs q (k + 1)
    · refine List.mem_map.2 ⟨winL N bs p (k + 1), (List.mem_erase_of_ne hne).2 (win_in h p (k + 1)), ?_⟩
      rw [win_take p k (k + 1) (by omega), hpq, ← win_take q k (k + 1) (by omega), ← hr, win_take r k (k + 1) (by omega)]
    · exact List.mem_map.2 ⟨_, (List.mem_erase_of_ne hr).2 (win_in h r (k + 1)), win_take r k (k + 1) (by omega)⟩)
  rw [List.length_map, List.length_erase_of_mem hq] at this
  unfold cwN at he
  have := List.length_pos_of_mem hq
  omega
theorem win_drop {p q k : Nat} (h : winL N bs p (k + 1) = winL N bs q (k + 1)) : winL N bs (p + 1) k = winL N bs (q + 1) k := by
  rw [win_ext] at h ⊢
  intro i hi
  have := h (i + 1) (by omega)
  rwa [show p + (i + 1) = p + 1 + i by omega, show q + (i + 1) = q + 1 + i by omega] at this
theorem cw_same_on (h : 1 ≤ N) {k : Nat} (he : cwN N bs (k + 1) = cwN N bs k) {p q : Nat} (hpq : winL N bs p k = winL N bs q k) : ∀ j, winL N bs (p + j) k = winL N bs (q + j) k
  | 0 => hpq
  | j + 1 => win_drop (cw_same h he (cw_same_on h he hpq j))
theorem cw_same_per (h : RhOk N bs) {k : Nat} (hk : k ≤ N) (he : cwN N bs (k + 1) = cwN N bs k) : perV N bs ≤ cwN N bs k := by
  have hn : 1 ≤ N := by have := h.1; omega
  refine Nat.le_trans (allD_per h) ?_
  have hinj : ∀ p q, winL N bs p k = winL N bs q k → winL N bs p N = winL N bs q N := fun p q hpq => by
    rw [win_ext]
    intro i _
    have := cw_same hn he (cw_same_on hn he hpq i) |> (win_ext (N := N) (bs := bs) _ _ _).1
    have := this 0 (by omega)
    simpa using this
  have := nodup_leG ((allD N bs N N).map (List.take k)) (allD N bs k N) (by
    rw [List.Nodup, List.pairwise_map]
    refine List.Pairwise.imp_of_mem (fun {a b} ha hb hne e => ?_) (DescL.nodup (allD_desc N bs N N))
    obtain ⟨p, _, rfl⟩ := (allD_mem _ _ _ _ _).1 ha
    obtain ⟨q, _, rfl⟩ := (allD_mem _ _ _ _ _).1 hb
    rw [win_take p k N hk, win_take q k N hk] at e
    exact hne (hinj p q e)) (fun x hx => by
    obtain ⟨y, hy, rfl⟩ := List.mem_map.1 hx
    obtain ⟨p, _, rfl⟩ := (allD_mem _ _ _ _ _).1 hy
    rw [win_take p k N hk]
    exact win_in hn p k)
  rwa [List.length_map] at this
theorem cw_last (h : RhOk N bs) : cwN N bs N = perV N bs := Nat.le_antisymm (cw_le_per h N) (allD_per h)
theorem cw_grow (h : RhOk N bs) : ∀ k, k ≤ N → min (k + 1) (perV N bs) ≤ cwN N bs k
  | 0, _ => by
    have := cw_pos (bs := bs) (show 1 ≤ N by have := h.1; omega) 0
    omega
  | k + 1, hk => by
    have hn : 1 ≤ N := by have := h.1; omega
    have ih := cw_grow h k (by omega)
    have hm := cw_mono (bs := bs) hn k
    by_cases e : cwN N bs (k + 1) = cwN N bs k
    · have := cw_same_per h (by omega) e
      omega
    · omega

/-- Balanced: two windows of one length have as many beats, or one more. -/
theorem bal_two (hb : balV N bs = true) {k : Nat} (h1 : 1 ≤ k) (h2 : k < N) (p q : Nat) : nCnt N bs p k ≤ nCnt N bs q k + 1 := by
  unfold balV at hb
  rw [Bool.and_eq_true, List.all_eq_true] at hb
  have := hb.2 k (List.mem_range.2 (by rw [Int.toNat_natCast]; exact h2))
  rw [Bool.or_eq_true, beq_iff_eq, Bool.not_eq_true'] at this
  rcases this with h | h
  · omega
  · unfold unbB at h
    have hh := of_decide_eq_false h
    rw [Int.toNat_natCast] at hh
    have hmod : ∀ p, nCnt N bs (p % N) k = nCnt N bs p k := fun p => by
      have e1 := nCnt_x N bs (p % N) k
      have e2 := nCnt_x N bs p k
      rw [win_mod] at e1
      omega
    have hl := lowN_le N bs k N (q % N) (Nat.mod_lt _ (by omega))
    have hg := highN_ge N bs k N (p % N) (Nat.mod_lt _ (by omega))
    rw [hmod] at hl hg
    omega
theorem nCnt_succ (p k : Nat) : nCnt N bs p (k + 1) = nCnt N bs p k + if hasB bs (((p + k : Nat) : Int) % (N : Int)) then 1 else 0 := rfl
theorem nCnt_add (p k m : Nat) : nCnt N bs p (k + m) = nCnt N bs p k + nCnt N bs (p + k) m := by
  induction m with
  | zero => rfl
  | succ m ih =>
    rw [← Nat.add_assoc, nCnt_succ, nCnt_succ, ih, show p + k + m = p + (k + m) by omega]
    omega
theorem nCnt_same {p q : Nat} : ∀ {k : Nat}, (∀ i, i < k → chB N bs (p + i) = chB N bs (q + i)) → nCnt N bs p k = nCnt N bs q k
  | 0, _ => rfl
  | k + 1, h => by
    unfold nCnt
    rw [nCnt_same (k := k) (fun i hi => h i (by omega))]
    have := h k (by omega)
    unfold chB at this
    rw [this]
theorem nCnt_one (p : Nat) : nCnt N bs p 1 = if chB N bs p then 1 else 0 := by
  unfold nCnt nCnt chB
  rw [Nat.add_zero, Nat.zero_add]
/-- At most one window of a length can go on in two ways. -/
theorem bal_special (hb : balV N bs = true) {k : Nat} (hk : k + 1 < N) {p q p' q' : Nat} (h1 : winL N bs p k = winL N bs q k) (h2 : winL N bs p' k = winL N bs q' k)
    (c1 : chB N bs (p + k) = true) (c2 : chB N bs (q + k) = false) (c3 : chB N bs (p' + k) = true) (c4 : chB N bs (q' + k) = false) : winL N bs p k = winL N bs p' k := by
  rw [win_ext] at h1 h2 ⊢
  have key : ∀ j, j ≤ k → ∀ i, k - j ≤ i → i < k → chB N bs (p + i) = chB N bs (p' + i) := by
    intro j
    induction j with
    | zero => intro _ i a b; omega
    | succ j ih =>
      intro hj i ha hbk
      have ih := ih (by omega)
      by_cases hi : k - j ≤ i
      · exact ih i hi hbk
      · have hie : i = k - (j + 1) := by omega
        have hm : k = i + 1 + j := by omega
        have base : ∀ x y : Nat, (∀ t, i + 1 ≤ t → t < k → chB N bs (x + t) = chB N bs (y + t)) → nCnt N bs (x + i) (1 + j + 1) + (if chB N bs (y + i) then 1 else 0) + (if chB N bs (y + k) then 1 else 0) = nCnt N bs (y + i) (1 + j + 1) + (if chB N bs (x + i) then 1 else 0) + (if chB N bs (x + k) then 1 else 0) := fun x y hxy => by
          rw [nCnt_add, nCnt_add (x + i) 1 j, nCnt_add (y + i) (1 + j) 1, nCnt_add (y + i) 1 j, nCnt_one, nCnt_one, nCnt_one, nCnt_one]
          rw [show x + i + (1 + j) = x + k by omega, show y + i + (1 + j) = y + k by omega]
          have : nCnt N bs (x + i + 1) j = nCnt N bs (y + i + 1) j := nCnt_same fun t ht => by
            have := hxy (i + 1 + t) (by omega) (by omega)
            rwa [show x + (i + 1 + t) = x + i + 1 + t by omega, show y + (i + 1 + t) = y + i + 1 + t by omega] at this
          omega
        apply Classical.byContradiction
        intro hne
        cases hc : chB N bs (p + i)
        · have hc' : chB N bs (p' + i) = true := by
            cases h : chB N bs (p' + i)
            · exact absurd (hc.trans h.symm) hne
            · rfl
          have b := base p' q (fun t a b => by rw [← ih t (by omega) b]; exact h1 t b)
          rw [hc', c3, c2, ← h1 i hbk, hc] at b
          have := bal_two hb (k := 1 + j + 1) (by omega) (by omega) (p' + i) (q + i)
          simp at b
          omega
        · have hc' : chB N bs (p' + i) = false := by
            cases h : chB N bs (p' + i)
            · rfl
            · exact absurd (hc.trans h.symm) hne
          have b := base p q' (fun t a b => by rw [ih t (by omega) b]; exact h2 t b)
          rw [hc, c1, c4, ← h2 i hbk, hc'] at b
          have := bal_two hb (k := 1 + j + 1) (by omega) (by omega) (p + i) (q' + i)
          simp at b
          omega
  intro i hi
  exact key k (Nat.le_refl _) i (by omega) hi
theorem win_eq_succ {p q k : Nat} (h : winL N bs p k = winL N bs q k) (hc : chB N bs (p + k) = chB N bs (q + k)) : winL N bs p (k + 1) = winL N bs q (k + 1) := by
  rw [win_ext] at h ⊢
  intro i hi
  by_cases e : i = k
  · subst e; exact hc
  · exact h i (by omega)
theorem cw_bal_succ (hn : 1 ≤ N) (hb : balV N bs = true) {k : Nat} (hk : k + 1 < N) : cwN N bs (k + 1) ≤ cwN N bs k + 1 := by
  by_cases hsp : ∃ p q, winL N bs p k = winL N bs q k ∧ chB N bs (p + k) = true ∧ chB N bs (q + k) = false
  · obtain ⟨p, q, hpq, cp, cq⟩ := hsp
    have hq := win_in (bs := bs) hn q (k + 1)
    have hnd := DescL.nodup (allD_desc N bs (k + 1) N)
    have := nodup_leG (((allD N bs (k + 1) N).erase (winL N bs q (k + 1))).map (List.take k)) (allD N bs k N) (by
      rw [List.Nodup, List.pairwise_map]
      refine List.Pairwise.imp_of_mem (fun {a b} ha hb' hne e => ?_) (hnd.sublist (List.erase_sublist))
      have hma := List.Nodup.mem_erase_iff hnd |>.1 ha
      have hmb := List.Nodup.mem_erase_iff hnd |>.1 hb'
      obtain ⟨r, _, rfl⟩ := (allD_mem _ _ _ _ _).1 hma.2
      obtain ⟨s, _, rfl⟩ := (allD_mem _ _ _ _ _).1 hmb.2
      rw [win_take r k (k + 1) (by omega), win_take s k (k + 1) (by omega)] at e
      have fin : ∀ r s, winL N bs r k = winL N bs s k → winL N bs s (k + 1) ≠ winL N bs q (k + 1) → chB N bs (r + k) = true → chB N bs (s + k) = false → False := fun r s e hs c1 c2 => by
        have := bal_special hb hk hpq e cp cq c1 c2
        exact hs (win_eq_succ (e.symm.trans (this.symm.trans hpq)) (c2.trans cq.symm))
      cases c1 : chB N bs (r + k) <;> cases c2 : chB N bs (s + k)
      · exact hne (win_eq_succ e (c1.trans c2.symm))
      · exact fin s r e.symm hma.1 c2 c1
      · exact fin r s e hmb.1 c1 c2
      · exact hne (win_eq_succ e (c1.trans c2.symm))) (fun x hx => by
      obtain ⟨y, hy, rfl⟩ := List.mem_map.1 hx
      obtain ⟨r, _, rfl⟩ := (allD_mem _ _ _ _ _).1 (List.mem_of_mem_erase hy)
      rw [win_take r k (k + 1) (by omega)]
      exact win_in hn r k)
    rw [List.length_map, List.length_erase_of_mem hq] at this
    unfold cwN
    omega
  · have := nodup_leG ((allD N bs (k + 1) N).map (List.take k)) (allD N bs k N) (by
      rw [List.Nodup, List.pairwise_map]
      refine List.Pairwise.imp_of_mem (fun {a b} ha hb' hne e => ?_) (DescL.nodup (allD_desc N bs (k + 1) N))
      obtain ⟨r, _, rfl⟩ := (allD_mem _ _ _ _ _).1 ha
      obtain ⟨s, _, rfl⟩ := (allD_mem _ _ _ _ _).1 hb'
      rw [win_take r k (k + 1) (by omega), win_take s k (k + 1) (by omega)] at e
      cases c1 : chB N bs (r + k) <;> cases c2 : chB N bs (s + k)
      · exact hne (win_eq_succ e (c1.trans c2.symm))
      · exact hsp ⟨s, r, e.symm, c2, c1⟩
      · exact hsp ⟨r, s, e, c1, c2⟩
      · exact hne (win_eq_succ e (c1.trans c2.symm))) (fun x hx => by
      obtain ⟨y, hy, rfl⟩ := List.mem_map.1 hx
      obtain ⟨r, _, rfl⟩ := (allD_mem _ _ _ _ _).1 hy
      rw [win_take r k (k + 1) (by omega)]
      exact win_in hn r k)
    rw [List.length_map] at this
    unfold cwN
    omega
theorem cw_bal_le (h : RhOk N bs) (hb : balV N bs = true) : ∀ k, k < N → cwN N bs k ≤ k + 1
  | 0, _ => by
    have := nodup_leG (allD N bs 0 N) [[]] (DescL.nodup (allD_desc _ _ _ _)) (fun x hx => by
      obtain ⟨p, _, rfl⟩ := (allD_mem _ _ _ _ _).1 hx
      simp [winL])
    simpa [cwN] using this
  | k + 1, hk => by
    have := cw_bal_le h hb k (by omega)
    have := cw_bal_succ (bs := bs) (show 1 ≤ N by omega) hb hk
    omega
theorem cw_bal (h : RhOk N bs) (hb : balV N bs = true) {k : Nat} (hk : k ≤ N) : cwN N bs k = min (k + 1) (perV N bs) := by
  have h1 := cw_grow h k hk
  have h2 := cw_le_per h k
  have h3 := (perV_is h).2.1
  by_cases e : k < N
  · have := cw_bal_le h hb k e
    omega
  · omega
end

end Go.Proofs.YtlejlcnemibgiaaGreat

