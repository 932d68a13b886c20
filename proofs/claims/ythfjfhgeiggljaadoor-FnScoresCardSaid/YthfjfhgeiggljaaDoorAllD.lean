/-
  Windows as texts: the list of the different ones, from last to first.
-/
import Derived.Test.YthfjfhgeiggljaaDoorWin
namespace Go.Proofs.YthfjfhgeiggljaaDoor
set_option linter.unusedVariables false
set_option linter.unusedSimpArgs false

/-- The order of texts, behind a name. -/
def ltL (a b : List UInt8) : Bool := decide (a < b)
theorem ltL_irrefl (a : List UInt8) : ltL a a = false := by
  unfold ltL; rw [decide_eq_false_iff_not]; exact List.lt_irrefl a
theorem ltL_trans {a b c : List UInt8} (h : ltL a b = true) (h' : ltL b c = true) : ltL a c = true := by
  unfold ltL at *; rw [decide_eq_true_eq] at *; exact List.lt_trans h h'
theorem ltL_tri {a b : List UInt8} (h : ltL a b = false) (hne : a ≠ b) : ltL b a = true := by
  unfold ltL at *; rw [decide_eq_false_iff_not] at h; rw [decide_eq_true_eq]
  rcases Std.lt_trichotomy a b with h1 | h1 | h1
  · exact absurd h1 h
  · exact absurd h1 hne
  · exact h1

/-- From last to first, each once. -/
def DescL (l : List (List UInt8)) : Prop := l.Pairwise (fun a b => ltL b a = true)
theorem DescL.nodup {l : List (List UInt8)} (h : DescL l) : l.Nodup :=
  List.Pairwise.imp (fun {a b} hab e => by subst e; rw [ltL_irrefl] at hab; cases hab) h

/-- Two such lists with the same members are one. -/
theorem DescL.unique : ∀ {l m : List (List UInt8)}, DescL l → DescL m → (∀ x, x ∈ l ↔ x ∈ m) → l = m
  | [], [], _, _, _ => rfl
  | [], y :: m, _, _, h => by have := (h y).2 (by simp); cases this
  | x :: l, [], _, _, h => by have := (h x).1 (by simp); cases this
  | x :: l, y :: m, hl, hm, h => by
    have hl' := List.pairwise_cons.1 hl
    have hm' := List.pairwise_cons.1 hm
    have hxy : x = y := by
      apply Classical.byContradiction
      intro hne
      have h1 : x ∈ m := by
        rcases List.mem_cons.1 ((h x).1 (by simp)) with e | e
        · exact absurd e hne
        · exact e
      have h2 : y ∈ l := by
        rcases List.mem_cons.1 ((h y).2 (by simp)) with e | e
        · exact absurd e.symm hne
        · exact e
      have := ltL_trans (hl'.1 y h2) (hm'.1 x h1)
      rw [ltL_irrefl] at this
      cases this
    subst hxy
    have hxl : ∀ z ∈ l, z ≠ x := fun z hz e => by subst e; have := hl'.1 _ hz; rw [ltL_irrefl] at this; cases this
    have hxm : ∀ z ∈ m, z ≠ x := fun z hz e => by subst e; have := hm'.1 _ hz; rw [ltL_irrefl] at this; cases this
    rw [DescL.unique hl'.2 hm'.2 (fun z => ⟨fun hz => by
      rcases List.mem_cons.1 ((h z).1 (by simp [hz])) with e | e
      · exact absurd e (hxl z hz)
      · exact e, fun hz => by
      rcases List.mem_cons.1 ((h z).2 (by simp [hz])) with e | e
      · exact absurd e (hxm z hz)
      · exact e⟩)]

/-- Where a text belongs: behind those that are later. -/
def posD (w : List UInt8) : List (List UInt8) → Nat
  | [] => 0
  | x :: l => if ltL w x then posD w l + 1 else 0
theorem posD_le (w : List UInt8) : ∀ l, posD w l ≤ l.length
  | [] => Nat.le_refl _
  | x :: l => by unfold posD; split <;> simp [posD_le w l]
theorem posD_before (w : List UInt8) : ∀ (l : List (List UInt8)) i, i < posD w l → ltL w (l.getD i []) = true
  | [], i, h => by simp [posD] at h
  | x :: l, i, h => by
    unfold posD at h
    split at h
    · cases i with
      | zero => simpa
      | succ i => simpa using posD_before w l i (by omega)
    · omega
theorem posD_here (w : List UInt8) : ∀ (l : List (List UInt8)), posD w l < l.length → ltL w (l.getD (posD w l) []) = false
  | [], h => by simp [posD] at h
  | x :: l, h => by
    unfold posD at h ⊢
    split
    · rename_i hx
      rw [if_pos hx] at h
      simpa using posD_here w l (by simpa using h)
    · rename_i hx
      simpa using hx
theorem posD_unique (w : List UInt8) : ∀ (l : List (List UInt8)) k, k ≤ l.length → (∀ i, i < k → ltL w (l.getD i []) = true) → (k < l.length → ltL w (l.getD k []) = false) → posD w l = k
  | [], k, h, _, _ => by simp at h; simp [posD, h]
  | x :: l, 0, _, _, h => by
    have := h (by simp)
    simp at this
    simp [posD, this]
  | x :: l, k + 1, h, h1, h2 => by
    have h0 := h1 0 (by omega)
    simp at h0
    unfold posD
    rw [if_pos h0, posD_unique w l k (by simpa using h) (fun i hi => by simpa using h1 (i + 1) (by omega)) (fun hk => by simpa using h2 (by simpa using hk))]

def insD (w : List UInt8) (l : List (List UInt8)) : List (List UInt8) :=
  if posD w l < l.length ∧ l.getD (posD w l) [] = w then l else l.take (posD w l) ++ [w] ++ l.drop (posD w l)
theorem insD_cons_lt {w x : List UInt8} {l : List (List UInt8)} (h : ltL w x = true) : insD w (x :: l) = x :: insD w l := by
  unfold insD
  have e : posD w (x :: l) = posD w l + 1 := by rw [posD, if_pos h]
  rw [e]
  by_cases hc : posD w l < l.length ∧ l.getD (posD w l) [] = w
  · rw [if_pos hc, if_pos ⟨by simpa using hc.1, by simpa using hc.2⟩]
  · rw [if_neg hc, if_neg (fun hh => hc ⟨by simpa using hh.1, by simpa using hh.2⟩)]
    simp
theorem insD_mem (w : List UInt8) : ∀ (l : List (List UInt8)) x, x ∈ insD w l ↔ x = w ∨ x ∈ l := by
  intro l x
  unfold insD
  split
  · rename_i h
    constructor
    · exact .inr
    · rintro (rfl | h')
      · rw [← h.2, List.getD_eq_getElem?_getD, List.getElem?_eq_getElem h.1]
        exact List.getElem_mem h.1
      · exact h'
  · conv => rhs; rw [← List.take_append_drop (posD w l) l]
    simp only [List.mem_append, List.mem_singleton]
    constructor
    · rintro ((h | h) | h)
      · exact .inr (.inl h)
      · exact .inl h
      · exact .inr (.inr h)
    · rintro (h | h | h)
      · exact .inl (.inr h)
      · exact .inl (.inl h)
      · exact .inr h
theorem insD_desc (w : List UInt8) : ∀ (l : List (List UInt8)), DescL l → DescL (insD w l)
  | [], _ => by simp [insD, posD, DescL]
  | x :: l, h => by
    have h' := List.pairwise_cons.1 h
    by_cases hx : ltL w x = true
    · rw [insD_cons_lt hx]
      refine List.pairwise_cons.2 ⟨fun y hy => ?_, insD_desc w l h'.2⟩
      rcases (insD_mem w l y).1 hy with rfl | hy
      · exact hx
      · exact h'.1 y hy
    · have hx' : ltL w x = false := by simpa using hx
      have e : posD w (x :: l) = 0 := by rw [posD, if_neg hx]
      unfold insD
      rw [e]
      by_cases hc : x = w
      · rw [if_pos ⟨by simp, by simpa using hc⟩]; exact h
      · rw [if_neg (fun hh => hc (by simpa using hh.2))]
        have hw := ltL_tri hx' (fun e => hc e.symm)
        refine List.pairwise_cons.2 ⟨fun y hy => ?_, h⟩
        rcases List.mem_cons.1 hy with rfl | hy
        · exact hw
        · exact ltL_trans (h'.1 y hy) hw

/-- The different windows, from last to first. -/
def allD (n : Int) (bs : List Int) (k : Nat) : Nat → List (List UInt8)
  | 0 => []
  | p + 1 => insD (winL n bs p k) (allD n bs k p)
theorem allD_mem (n : Int) (bs : List Int) (k : Nat) : ∀ m x, x ∈ allD n bs k m ↔ ∃ p, p < m ∧ winL n bs p k = x
  | 0, x => by simp [allD]
  | m + 1, x => by
    unfold allD
    rw [insD_mem, allD_mem n bs k m]
    constructor
    · rintro (rfl | ⟨p, hp, rfl⟩)
      · exact ⟨m, by omega, rfl⟩
      · exact ⟨p, by omega, rfl⟩
    · rintro ⟨p, hp, rfl⟩
      by_cases h : p = m
      · subst h; exact .inl rfl
      · exact .inr ⟨p, by omega, rfl⟩
theorem allD_desc (n : Int) (bs : List Int) (k : Nat) : ∀ m, DescL (allD n bs k m)
  | 0 => List.Pairwise.nil
  | m + 1 => insD_desc _ _ (allD_desc n bs k m)
theorem allD_len (n : Int) (bs : List Int) (k : Nat) : ∀ m, (allD n bs k m).length ≤ m
  | 0 => Nat.le_refl _
  | m + 1 => by
    have := allD_len n bs k m
    unfold allD insD
    split
    · omega
    · simp; omega

theorem nodup_leG {α : Type} [DecidableEq α] : ∀ (l m : List α), l.Nodup → (∀ x ∈ l, x ∈ m) → l.length ≤ m.length
  | [], _, _, _ => Nat.zero_le _
  | x :: l, m, hn, hs => by
    have hx : x ∈ m := hs x (by simp)
    have hn' := List.nodup_cons.1 hn
    have := nodup_leG l (m.erase x) hn'.2 (fun y hy => (List.mem_erase_of_ne (fun e => hn'.1 (by subst e; exact hy))).2 (hs y (by simp [hy])))
    rw [List.length_erase_of_mem hx] at this
    have hpos : 0 < m.length := List.length_pos_of_mem hx
    simp only [List.length_cons]
    omega

theorem allD_full (n : Int) (bs : List Int) (k m : Nat) : (allD n bs k m).length = m ↔ ∀ p q, p < m → q < m → winL n bs p k = winL n bs q k → p = q := by
  constructor
  · intro h p q hp hq e
    apply Classical.byContradiction
    intro hne
    have := nodup_leG (allD n bs k m) (((List.range m).erase q).map (fun p => winL n bs p k)) (allD_desc n bs k m).nodup (fun v hv => by
      obtain ⟨r, hr, rfl⟩ := (allD_mem n bs k m v).1 hv
      by_cases hrq : r = q
      · subst hrq
        exact List.mem_map.2 ⟨p, (List.mem_erase_of_ne hne).2 (List.mem_range.2 hp), e⟩
      · exact List.mem_map.2 ⟨r, (List.mem_erase_of_ne hrq).2 (List.mem_range.2 hr), rfl⟩)
    rw [List.length_map, List.length_erase_of_mem (List.mem_range.2 hq), List.length_range] at this
    omega
  · intro h
    have h1 := allD_len n bs k m
    have h2 := nodup_leG ((List.range m).map (fun p => winL n bs p k)) (allD n bs k m) (by
      rw [List.Nodup, List.pairwise_map]
      exact List.Pairwise.imp_of_mem (fun {a b} ha hb' hne e => hne (h a b (List.mem_range.1 ha) (List.mem_range.1 hb') e)) List.nodup_range) (fun x hx => by
      obtain ⟨p, hp, rfl⟩ := List.mem_map.1 hx
      exact (allD_mem n bs k m _).2 ⟨p, List.mem_range.1 hp, rfl⟩)
    simp at h2
    omega

theorem winL_ext (n : Int) (bs : List Int) (p q k : Nat) : winL n bs p k = winL n bs q k ↔ ∀ i, i < k → hasB bs (((p + i : Nat) : Int) % n) = hasB bs (((q + i : Nat) : Int) % n) := by
  unfold winL
  constructor
  · intro h i hi
    have := congrArg (fun l => l[i]?) h
    simp only [List.getElem?_map, List.getElem?_range hi, Option.map_some, Option.some.injEq] at this
    cases h1 : hasB bs (((p + i : Nat) : Int) % n) <;> cases h2 : hasB bs (((q + i : Nat) : Int) % n) <;> rw [h1, h2] at this <;> first | rfl | (exfalso; revert this; decide)
  · intro h
    apply List.map_congr_left
    intro i hi
    rw [h i (List.mem_range.1 hi)]

end Go.Proofs.YthfjfhgeiggljaaDoor
