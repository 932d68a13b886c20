/-
  A row of one-cell elements of the call's own, over what sorts it, compacts it, turns it round.
-/
import Derived.Test.YtjoeglekcnaebaaGreatDoorOwn
import Derived.Lib.SlicesCompact
import Derived.Sort.Grow
import Derived.Sort.EncStr
namespace Go.Proofs.YtjoeglekcnaebaaGreatDoor
open Go.RowKit Go.Sort
set_option linter.unusedVariables false
set_option linter.unusedSimpArgs false

section
variable {α : Type}

def RowE (enc : α → Value) (e : TypeId) (w : World) (base g cap : Nat) (xs : List α) : Prop :=
  base ≤ g ∧ xs.length ≤ cap ∧ cap ≤ maxLen ∧ ∃ cur : Array Value, w.heap[g]? = some (.cells cur e (0, 0)) ∧ cur.size = cap ∧ cur.toList.take xs.length = xs.map enc

variable {enc : α → Value} {e : TypeId} {w w' : World} {base g cap : Nat} {xs ys : List α}

theorem RowE.lt (h : RowE enc e w base g cap xs) : g < w.heap.size := by
  obtain ⟨_, _, _, cur, hh, _⟩ := h
  exact (Array.getElem?_eq_some_iff.1 hh).1
theorem RowE.get (h : RowE enc e w base g cap xs) {j : Nat} (hj : j < xs.length) : w.cell? ⟨g, j, none⟩ = some (enc xs[j]) := by
  obtain ⟨_, hl, _, cur, hh, hs, ht⟩ := h
  rw [cell_of_row _ _ _ _ _ _ hh, ← Array.getElem?_toList]
  have : (cur.toList.take xs.length)[j]? = (xs.map enc)[j]? := by rw [ht]
  rw [List.getElem?_take_of_lt hj] at this
  rw [this, List.getElem?_map, List.getElem?_eq_getElem hj]
  rfl
theorem RowE.holds [Inhabited α] (h : RowE enc e w base g cap xs) : Holds enc w g 0 xs.toArray := by
  intro j hj
  have hj' : j < xs.length := by simpa using hj
  refine ⟨?_, ?_⟩
  · rw [Nat.zero_add, h.get hj', getElem!_pos _ j (by simpa using hj')]
    simp
  · obtain ⟨_, _, _, cur, hh, _⟩ := h
    exact frozen_of_row _ _ _ _ _ hh
theorem RowE.put [Inhabited α] (h : RowE enc e w base g cap xs) (hl : ys.length = xs.length) {n : Nat} {os : Array Obj} (hw : w' = grow (putRow enc (Sort.ahead w n) g 0 ys.toArray) os) : RowE enc e w' base g cap ys ∧ Below base w w' := by
  have hlt := h.lt
  obtain ⟨hb, hle, hm, cur, hh, hs, ht⟩ := h
  have hhe : w'.heap = w.heap.modify g (onCells (putCells enc 0 ys.toArray)) ++ os := by subst hw; rfl
  refine ⟨⟨hb, by omega, hm, putCells enc 0 ys.toArray cur, ?_, by simp [putCells, hs], ?_⟩, ?_⟩
  · rw [hhe, Array.getElem?_append_left (by simpa using hlt), Array.getElem?_modify, if_pos rfl, hh]
    rfl
  · refine List.ext_getElem? fun j => ?_
    by_cases hj : j < ys.length
    · have hjc : j < cur.size := by omega
      rw [List.getElem?_take_of_lt hj, Array.getElem?_toList, List.getElem?_map, List.getElem?_eq_getElem hj]
      unfold putCells
      rw [Array.getElem?_mapIdx, Array.getElem?_eq_getElem hjc]
      simp only [Option.map_some, Nat.zero_le, true_and, Nat.zero_add, Nat.sub_zero, List.size_toArray, if_pos hj]
      rw [getElem!_pos _ j (by simpa using hj)]
      simp
    · rw [List.getElem?_eq_none (by rw [List.length_take]; omega), List.getElem?_eq_none (by rw [List.length_map]; omega)]
  · refine ⟨by subst hw; rfl, by subst hw; rfl, by subst hw; rfl, by rw [hhe]; simp, fun k hk => ?_⟩
    rw [hhe]
    by_cases hkw : k < w.heap.size
    · rw [Array.getElem?_append_left (by simpa using hkw), Array.getElem?_modify, if_neg (by omega)]
    · omega
theorem RowE.cut (h : RowE enc e w base g cap (xs ++ ys)) : RowE enc e w base g cap xs := by
  obtain ⟨hb, hle, hm, cur, hh, hs, ht⟩ := h
  rw [List.length_append] at hle
  refine ⟨hb, by omega, hm, cur, hh, hs, ?_⟩
  have := congrArg (List.take xs.length) ht
  rw [List.take_take, List.length_append, Nat.min_eq_left (by omega), List.map_append, List.take_left' (by simp)] at this
  exact this
end

end Go.Proofs.YtjoeglekcnaebaaGreatDoor
