/-
  The different numbers of a list in order, by insertion: in plain words.
-/
import Derived.Test.YtabjklhnghdfoaaGreatDoorColl
import Derived.Test.YtabjklhnghdfoaaGreatDoorPer
namespace Go.Proofs.YtabjklhnghdfoaaGreatDoor
open Go.RowKit
set_option linter.unusedVariables false
set_option linter.unusedSimpArgs false

def posI (out : List Int) (x : Int) : Nat := (out.takeWhile fun y => decide (y < x)).length
def insI (out : List Int) (x : Int) : List Int := if out[posI out x]? = some x then out else out.take (posI out x) ++ (x :: out.drop (posI out x))
def szsN (xs : List Int) : Nat → List Int
  | 0 => []
  | m + 1 => insI (szsN xs m) (xs.getD m 0)
theorem posI_le (out : List Int) (x : Int) : posI out x ≤ out.length := by
  unfold posI
  exact List.Sublist.length_le (List.takeWhile_sublist _)
theorem posI_before : ∀ {out : List Int} {x : Int} {i : Nat} (h : i < out.length), i < posI out x → out[i] < x
  | [], x, i, h, _ => by simp at h
  | y :: out, x, i, h, hi => by
    unfold posI at hi
    rw [List.takeWhile_cons] at hi
    by_cases hy : y < x
    · rw [if_pos (by simpa using hy)] at hi
      match i, h, hi with
      | 0, _, _ => exact hy
      | i + 1, h, hi =>
        have := posI_before (out := out) (x := x) (i := i) (by simpa using h) (by unfold posI; simpa using hi)
        simpa using this
    · rw [if_neg (by simpa using hy)] at hi
      simp at hi
theorem posI_at : ∀ {out : List Int} {x : Int} (h : posI out x < out.length), ¬ out[posI out x] < x
  | [], x, h => by simp at h
  | y :: out, x, h => by
    by_cases hy : y < x
    · have e : posI (y :: out) x = posI out x + 1 := by
        unfold posI
        rw [List.takeWhile_cons, if_pos (by simpa using hy)]; rfl
      have h2 : posI out x < out.length := by rw [e] at h; simpa using h
      have := posI_at h2
      simp only [e, List.getElem_cons_succ]
      exact this
    · have e : posI (y :: out) x = 0 := by
        unfold posI
        rw [List.takeWhile_cons, if_neg (by simpa using hy)]; rfl
      simp only [e, List.getElem_cons_zero]
      exact hy
theorem insI_len (out : List Int) (x : Int) : (insI out x).length ≤ out.length + 1 := by
  unfold insI
  split
  · omega
  · rw [List.length_append, List.length_cons, List.length_take, List.length_drop]; omega
theorem szsN_len (xs : List Int) : ∀ m, (szsN xs m).length ≤ m
  | 0 => Nat.le_refl _
  | m + 1 => by
    have := szsN_len xs m
    have := insI_len (szsN xs m) (xs.getD m 0)
    show (insI _ _).length ≤ _
    omega
theorem insI_asc {out : List Int} {x : Int} (h : out.Pairwise (fun a b => a < b)) : (insI out x).Pairwise (fun a b => a < b) ∧ ∀ y, y ∈ insI out x ↔ y ∈ out ∨ y = x := by
  have hle := posI_le out x
  unfold insI
  split
  · rename_i he
    refine ⟨h, fun y => ⟨fun hy => .inl hy, ?_⟩⟩
    rintro (hy | rfl)
    · exact hy
    · exact List.mem_of_getElem? he
  · rename_i he
    have hb : ∀ a ∈ out.take (posI out x), a < x := fun a ha => by
      obtain ⟨i, hi, rfl⟩ := List.getElem_of_mem ha
      rw [List.length_take] at hi
      rw [List.getElem_take]
      exact posI_before (by omega) (by omega)
    have hd : ∀ a ∈ out.drop (posI out x), x < a := fun a ha => by
      obtain ⟨i, hi, rfl⟩ := List.getElem_of_mem ha
      rw [List.length_drop] at hi
      rw [List.getElem_drop]
      have hp : posI out x < out.length := by omega
      have h1 := posI_at hp
      have h2 : out[posI out x] ≠ x := fun e => he (by rw [List.getElem?_eq_getElem hp, e])
      by_cases h0 : i = 0
      · subst h0
        simp only [Nat.add_zero]
        omega
      · have := List.pairwise_iff_getElem.1 h (posI out x) (posI out x + i) hp (by omega) (by omega)
        omega
    refine ⟨?_, fun y => ?_⟩
    · rw [List.pairwise_append]
      refine ⟨h.sublist (List.take_sublist _ _), ?_, fun a ha b hb' => ?_⟩
      · rw [List.pairwise_cons]
        exact ⟨hd, h.sublist (List.drop_sublist _ _)⟩
      · rcases List.mem_cons.1 hb' with rfl | h3
        · exact hb a ha
        · have := hb a ha; have := hd b h3; omega
    · rw [List.mem_append, List.mem_cons]
      conv => rhs; rw [← List.take_append_drop (posI out x) out, List.mem_append]
      constructor
      · rintro (h1 | rfl | h1)
        · exact .inl (.inl h1)
        · exact .inr rfl
        · exact .inl (.inr h1)
      · rintro ((h1 | h1) | rfl)
        · exact .inl h1
        · exact .inr (.inr h1)
        · exact .inr (.inl rfl)
theorem szsN_asc (xs : List Int) : ∀ m, m ≤ xs.length → (szsN xs m).Pairwise (fun a b => a < b) ∧ ∀ y, y ∈ szsN xs m ↔ y ∈ xs.take m
  | 0, _ => ⟨List.Pairwise.nil, fun y => by simp [szsN]⟩
  | m + 1, h => by
    obtain ⟨a, b⟩ := szsN_asc xs m (by omega)
    obtain ⟨c, d⟩ := insI_asc (x := xs.getD m 0) a
    refine ⟨c, fun y => ?_⟩
    rw [show szsN xs (m + 1) = insI (szsN xs m) (xs.getD m 0) from rfl, d, b, List.take_succ_eq_append_getElem (by omega), List.mem_append, List.mem_singleton, List.getD_eq_getElem?_getD, List.getElem?_eq_getElem (by omega : m < xs.length)]
    rfl
/-- By insertion, or by sorting: the same. -/
theorem szs_eq (xs : List Int) : szsN xs xs.length = collL xs := by
  obtain ⟨a, b⟩ := szsN_asc xs xs.length (Nat.le_refl _)
  obtain ⟨c, d⟩ := collL_asc xs
  exact asc_unique a c fun y => by rw [b, d, List.take_length]

end Go.Proofs.YtabjklhnghdfoaaGreatDoor
