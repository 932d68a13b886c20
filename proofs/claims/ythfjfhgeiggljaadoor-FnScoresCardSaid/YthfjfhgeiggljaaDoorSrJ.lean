/-
  The steps of the quicksort in plain words: what is left to do.
-/
import Derived.Test.YthfjfhgeiggljaaDoorSrI
namespace Go.Proofs.YthfjfhgeiggljaaDoor
open Go.Sort
set_option linter.unusedVariables false
set_option linter.unusedSimpArgs false

/-- Of the task 'sort [a, b) of d' the part [a', b') of dk is left. -/
def Todo (a b : Nat) (d : Array Int) (a' b' : Nat) (dk : Array Int) : Prop :=
  PermIn a b d dk ∧ ∀ d', PermIn a' b' dk d' → SortedIn ltZ a' b' d' → SortedIn ltZ a b d'
theorem swoZ : SWO ltZ := swo_ltInt
theorem todo_start (a b : Nat) (d : Array Int) : Todo a b d a b d := ⟨permIn_refl d a b, fun _ _ h => h⟩
theorem perm_size {a b : Nat} {d d' : Array Int} (h : PermIn a b d d') : d'.size = d.size := h.1
theorem perm_out {a b : Nat} {d d' : Array Int} (h : PermIn a b d d') (i : Nat) (hi : i < a ∨ b ≤ i) : d'[i]! = d[i]! := h.2.1 i hi
section
variable {a b a' b' : Nat} {d dk d2 : Array Int}
theorem todo_perm (h : Todo a b d a' b' dk) (ha : a ≤ a') (hb : b' ≤ b) (hs : b ≤ dk.size) (hp : PermIn a' b' dk d2) : Todo a b d a' b' d2 :=
  ⟨permIn_trans d dk d2 a b h.1 (permIn_mono dk d2 a' b' a b ha hb hs hp), fun d' h1 h2 => h.2 d' (permIn_trans dk d2 d' a' b' hp h1) h2⟩
theorem todo_end (h : Todo a b d a' b' dk) (hs : SortedIn ltZ a' b' dk) : PermIn a b d dk ∧ SortedIn ltZ a b dk := ⟨h.1, h.2 dk (permIn_refl dk a' b') hs⟩
theorem todo_eq (h : Todo a b d a' b' dk) (ha : a ≤ a') (hb : b' ≤ b) (hs : b ≤ dk.size) (hB : Below ltZ a' b' dk) (p : Nat) (hp1 : a' ≤ p) (hp2 : p < b') (h0 : 0 < a') (hl : ltZ dk[a' - 1]! dk[p]! = false) :
    a' < (partitionEqual ltZ dk a' b' p).1 ∧ (partitionEqual ltZ dk a' b' p).1 ≤ b' ∧ Below ltZ (partitionEqual ltZ dk a' b' p).1 b' (partitionEqual ltZ dk a' b' p).2 ∧ Todo a b d (partitionEqual ltZ dk a' b' p).1 b' (partitionEqual ltZ dk a' b' p).2 := by
  have hge : ∀ i, a' ≤ i → i < b' → ltZ dk[i]! dk[p]! = false := fun i h1 h2 => by
    rcases hB with hB | hB
    · omega
    · exact swoZ.ntrans _ _ _ (hB i h1 h2) hl
  obtain ⟨h1, h2, hP, h3, h4⟩ := partitionEqual_holds (lt := ltZ) swoZ dk a' b' p hp1 hp2 (by omega) hge
  generalize partitionEqual ltZ dk a' b' p = r at *
  obtain ⟨m, d4⟩ := r
  dsimp only at *
  have hlo : ∀ i, a' ≤ i → i < b' → ltZ d4[i]! dk[p]! = false := permIn_all dk d4 a' b' (fun x => ltZ x dk[p]! = false) (by omega) hP hge
  have hs4 := perm_size hP
  refine ⟨h1, h2, .inr fun i hi1 hi2 => ?_, ?_⟩
  · cases e : ltZ d4[i]! d4[m - 1]! with
    | false => rfl
    | true =>
      have e2 := swoZ.trans _ _ _ (h4 i hi1 hi2) e
      rw [h3 (m - 1) (by omega) (by omega)] at e2
      cases e2
  · refine ⟨permIn_trans d dk d4 a b h.1 (permIn_mono dk d4 a' b' a b ha hb hs hP), fun d' hp' hs' => ?_⟩
    refine h.2 d' (permIn_trans dk d4 d' a' b' hP (permIn_mono d4 d' m b' a' b' (by omega) (Nat.le_refl _) (by omega) hp')) ?_
    refine sorted_glue_eq swoZ (mid := m) dk[p]! hs' (fun i h5 h6 => ?_) (fun i h5 h6 => ?_) (fun i h5 h6 => ?_)
    · rw [perm_out hp' i (.inl h6)]; exact h3 i h5 h6
    · rw [perm_out hp' i (.inl h6)]; exact hlo i h5 (by omega)
    · exact permIn_all d4 d' m b' (fun x => ltZ dk[p]! x = true) (by omega) hp' h4 i h5 h6
/-- The partition's facts under names. -/
theorem part_facts (hB : Below ltZ a' b' dk) (p : Nat) (hp1 : a' ≤ p) (hp2 : p < b') (hs : b' ≤ dk.size) :
    ∃ (m : Nat) (f : Bool) (d4 : Array Int), partition ltZ dk a' b' p = (m, f, d4) ∧ a' ≤ m ∧ m < b' ∧ PermIn a' b' dk d4 ∧ (∀ i, a' ≤ i → i < m → ltZ d4[i]! d4[m]! = true) ∧ (∀ i, m < i → i < b' → ltZ d4[i]! d4[m]! = false) ∧ Below ltZ a' m d4 ∧ Below ltZ (m + 1) b' d4 := by
  obtain ⟨h1, h2, hP, h3, h4⟩ := partition_holds (lt := ltZ) swoZ dk a' b' p hp1 hp2 hs
  generalize partition ltZ dk a' b' p = r at *
  obtain ⟨m, f, d4⟩ := r
  dsimp only at *
  exact ⟨m, f, d4, rfl, h1, h2, hP, h3, h4, (hB.perm hs hP).mono (by omega), .inr fun i h5 h6 => h4 i (by omega) h6⟩
theorem todo_left (h : Todo a b d a' b' dk) (ha : a ≤ a') (hb : b' ≤ b) (hs : b ≤ dk.size) {m : Nat} {d4 d5 : Array Int} (hm1 : a' ≤ m) (hm2 : m < b') (hP : PermIn a' b' dk d4) (h3 : ∀ i, a' ≤ i → i < m → ltZ d4[i]! d4[m]! = true) (h4 : ∀ i, m < i → i < b' → ltZ d4[i]! d4[m]! = false)
    (hp5 : PermIn a' m d4 d5) (hs5 : SortedIn ltZ a' m d5) : Below ltZ (m + 1) b' d5 ∧ Todo a b d (m + 1) b' d5 := by
  have z4 := perm_size hP
  have z5 := perm_size hp5
  have hm : d5[m]! = d4[m]! := perm_out hp5 m (.inr (Nat.le_refl _))
  have hhi : ∀ i, m + 1 ≤ i → i < b' → ltZ d5[i]! d5[m]! = false := fun i h5 h6 => by rw [perm_out hp5 i (.inr (by omega)), hm]; exact h4 i (by omega) h6
  have hlo : ∀ i, a' ≤ i → i < m → ltZ d5[i]! d5[m]! = true := by rw [hm]; exact permIn_all d4 d5 a' m (fun x => ltZ x d4[m]! = true) (by omega) hp5 h3
  have hP5 : PermIn a' b' dk d5 := permIn_trans dk d4 d5 a' b' hP (permIn_mono d4 d5 a' m a' b' (Nat.le_refl _) (by omega) (by omega) hp5)
  refine ⟨.inr hhi, permIn_trans d dk d5 a b h.1 (permIn_mono dk d5 a' b' a b ha hb hs hP5), fun d' hp' hs' => ?_⟩
  have hm' : d'[m]! = d5[m]! := perm_out hp' m (.inl (Nat.lt_succ_self _))
  refine h.2 d' (permIn_trans dk d5 d' a' b' hP5 (permIn_mono d5 d' (m + 1) b' a' b' (by omega) (Nat.le_refl _) (by omega) hp')) ?_
  refine sorted_glue swoZ (mid := m) (hs5.congr (fun i h5 h6 => perm_out hp' i (.inl (by omega)))) hs' (fun i h5 h6 => ?_) (fun i h5 h6 => ?_)
  · rw [hm', perm_out hp' i (.inl (by omega))]; exact hlo i h5 h6
  · rw [hm']; exact permIn_all d5 d' (m + 1) b' (fun x => ltZ x d5[m]! = false) (by omega) hp' hhi i h5 h6
theorem todo_right (h : Todo a b d a' b' dk) (ha : a ≤ a') (hb : b' ≤ b) (hs : b ≤ dk.size) (hB : Below ltZ a' b' dk) {m : Nat} {d4 d5 : Array Int} (hm1 : a' ≤ m) (hm2 : m < b') (hP : PermIn a' b' dk d4) (h3 : ∀ i, a' ≤ i → i < m → ltZ d4[i]! d4[m]! = true) (h4 : ∀ i, m < i → i < b' → ltZ d4[i]! d4[m]! = false)
    (hp5 : PermIn (m + 1) b' d4 d5) (hs5 : SortedIn ltZ (m + 1) b' d5) : Below ltZ a' m d5 ∧ Todo a b d a' m d5 := by
  have z4 := perm_size hP
  have z5 := perm_size hp5
  have hm : d5[m]! = d4[m]! := perm_out hp5 m (.inl (Nat.lt_succ_self _))
  have hlo : ∀ i, a' ≤ i → i < m → ltZ d5[i]! d5[m]! = true := fun i h5 h6 => by rw [perm_out hp5 i (.inl (by omega)), hm]; exact h3 i h5 h6
  have hhi : ∀ i, m + 1 ≤ i → i < b' → ltZ d5[i]! d5[m]! = false := by
    rw [hm]; exact permIn_all d4 d5 (m + 1) b' (fun x => ltZ x d4[m]! = false) (by omega) hp5 (fun i h5 h6 => h4 i (by omega) h6)
  have hP5 : PermIn a' b' dk d5 := permIn_trans dk d4 d5 a' b' hP (permIn_mono d4 d5 (m + 1) b' a' b' (by omega) (Nat.le_refl _) (by omega) hp5)
  refine ⟨(hB.perm (by omega) hP5).mono (by omega), permIn_trans d dk d5 a b h.1 (permIn_mono dk d5 a' b' a b ha hb hs hP5), fun d' hp' hs' => ?_⟩
  have hm' : d'[m]! = d5[m]! := perm_out hp' m (.inr (Nat.le_refl _))
  refine h.2 d' (permIn_trans dk d5 d' a' b' hP5 (permIn_mono d5 d' a' m a' b' (Nat.le_refl _) (by omega) (by omega) hp')) ?_
  refine sorted_glue swoZ (mid := m) hs' (hs5.congr (fun i h5 h6 => perm_out hp' i (.inr (by omega)))) (fun i h5 h6 => ?_) (fun i h5 h6 => ?_)
  · rw [hm']; exact permIn_all d5 d' a' m (fun x => ltZ x d5[m]! = true) (by omega) hp' hlo i h5 h6
  · rw [hm', perm_out hp' i (.inr (by omega))]; exact hhi i (by omega) h6
end

end Go.Proofs.YthfjfhgeiggljaaDoor
