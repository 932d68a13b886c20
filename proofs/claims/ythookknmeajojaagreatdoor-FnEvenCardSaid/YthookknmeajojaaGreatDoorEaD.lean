/-
  Several texts of this proof in one: RowE, CmpT.
-/
import Derived.Test.YthookknmeajojaaGreatDoorEaC
import Derived.Lib.SlicesCompact
import Derived.Sort.Grow
import Derived.Sort.EncStr
import Derived.Test.YthookknmeajojaaGreatDoorChecked
namespace Go.Proofs.YthookknmeajojaaGreatDoor
open Go.RowKit Go.Sort
set_option linter.unusedVariables false
set_option linter.unusedSimpArgs false

section
variable {α : Type}

def RowE (enc : α → Value) (e : TypeId) (w : World) (base g cap : Nat) (xs : List α) : Prop :=
  base ≤ g ∧ xs.length ≤ cap ∧ cap ≤ maxLen ∧ ∃ cur : Array Value, w.heap[g]? = some (.cells cur e (0, 0)) ∧ cur.size = cap ∧ cur.toList.take xs.length = xs.map enc

variable {enc : α → Value} {e : TypeId} {w w' : World} {base g cap : Nat} {xs ys : List α}

theorem RowE.lt (h : RowE enc e w base g cap xs) : g < w.heap.size := by
  obtain ⟨_, _, _, cur, hh, _⟩ := h
  exact (Array.getElem?_eq_some_iff.1 hh).1
theorem RowE.get (h : RowE enc e w base g cap xs) {j : Nat} (hj : j < xs.length) : w.cell? ⟨g, j, none⟩ = some (enc xs[j]) := by
  obtain ⟨_, hl, _, cur, hh, hs, ht⟩ := h
  rw [cell_of_row _ _ _ _ _ _ hh, ← Array.getElem?_toList]
  have : (cur.toList.take xs.length)[j]? = (xs.map enc)[j]? := by rw [ht]
  rw [List.getElem?_take_of_lt hj] at this
  rw [this, List.getElem?_map, List.getElem?_eq_getElem hj]
  rfl
theorem RowE.holds [Inhabited α] (h : RowE enc e w base g cap xs) : Holds enc w g 0 xs.toArray := by
  intro j hj
  have hj' : j < xs.length := by simpa using hj
  refine ⟨?_, ?_⟩
  · rw [Nat.zero_add, h.get hj', getElem!_pos _ j (by simpa using hj')]
    simp
  · obtain ⟨_, _, _, cur, hh, _⟩ := h
    exact frozen_of_row _ _ _ _ _ hh
theorem RowE.put [Inhabited α] (h : RowE enc e w base g cap xs) (hl : ys.length = xs.length) {n : Nat} {os : Array Obj} (hw : w' = grow (putRow enc (Sort.ahead w n) g 0 ys.toArray) os) : RowE enc e w' base g cap ys ∧ Below base w w' := by
  have hlt := h.lt
  obtain ⟨hb, hle, hm, cur, hh, hs, ht⟩ := h
  have hhe : w'.heap = w.heap.modify g (onCells (putCells enc 0 ys.toArray)) ++ os := by subst hw; rfl
  refine ⟨⟨hb, by omega, hm, putCells enc 0 ys.toArray cur, ?_, by simp [putCells, hs], ?_⟩, ?_⟩
  · rw [hhe, Array.getElem?_append_left (by simpa using hlt), Array.getElem?_modify, if_pos rfl, hh]
    rfl
  · refine List.ext_getElem? fun j => ?_
    by_cases hj : j < ys.length
    · have hjc : j < cur.size := by omega
      rw [List.getElem?_take_of_lt hj, Array.getElem?_toList, List.getElem?_map, List.getElem?_eq_getElem hj]
      unfold putCells
      rw [Array.getElem?_mapIdx, Array.getElem?_eq_getElem hjc]
      simp only [Option.map_some, Nat.zero_le, true_and, Nat.zero_add, Nat.sub_zero, List.size_toArray, if_pos hj]
      rw [getElem!_pos _ j (by simpa using hj)]
      simp
    · rw [List.getElem?_eq_none (by rw [List.length_take]; omega), List.getElem?_eq_none (by rw [List.length_map]; omega)]
  · refine ⟨by subst hw; rfl, by subst hw; rfl, by subst hw; rfl, by rw [hhe]; simp, fun k hk => ?_⟩
    rw [hhe]
    by_cases hkw : k < w.heap.size
    · rw [Array.getElem?_append_left (by simpa using hkw), Array.getElem?_modify, if_neg (by omega)]
    · omega
theorem RowE.cut (h : RowE enc e w base g cap (xs ++ ys)) : RowE enc e w base g cap xs := by
  obtain ⟨hb, hle, hm, cur, hh, hs, ht⟩ := h
  rw [List.length_append] at hle
  refine ⟨hb, by omega, hm, cur, hh, hs, ?_⟩
  have := congrArg (List.take xs.length) ht
  rw [List.take_take, List.length_append, Nat.min_eq_left (by omega), List.map_append, List.take_left' (by simp)] at this
  exact this
end

end Go.Proofs.YthookknmeajojaaGreatDoor

namespace Go.Proofs.YthookknmeajojaaGreatDoor
set_option linter.unusedVariables false
set_option linter.unusedSimpArgs false

section
variable {α : Type} [Inhabited α] [DecidableEq α]

/-- Sorted numbers or texts, each once: what stays is strictly ascending and has the same members. -/
theorem compactUpTo_sorted (lt : α → α → Bool) (htr : ∀ a b c, lt a b = true → lt b c = true → lt a c = true) (d : Array α) (hs : ∀ i j, i < j → j < d.size → d[i]! = d[j]! ∨ lt d[i]! d[j]! = true) :
    ∀ m, m ≤ d.size → (Lib.compactUpTo d m).Pairwise (fun a b => lt a b = true) ∧ (∀ x, x ∈ Lib.compactUpTo d m ↔ ∃ j, j < m ∧ d[j]! = x) ∧ ∀ x ∈ Lib.compactUpTo d m, 0 < m → x = d[m - 1]! ∨ lt x d[m - 1]! = true
  | 0, _ => by
    refine ⟨by simp [Lib.compactUpTo], fun x => by simp [Lib.compactUpTo], fun x hx => by simp [Lib.compactUpTo] at hx⟩
  | m + 1, h => by
    obtain ⟨h1, h2, h3⟩ := compactUpTo_sorted lt htr d hs m (by omega)
    rw [Lib.compactUpTo_succ]
    by_cases hm : m = 0
    · subst hm
      rw [Lib.keeps_lt_one d 0 (by omega), if_pos rfl, show Lib.compactUpTo d 0 = [] by simp [Lib.compactUpTo]]
      refine ⟨by simp, fun x => ?_, fun x hx _ => ?_⟩
      · simp only [List.nil_append, List.mem_singleton]
        constructor
        · rintro rfl; exact ⟨0, by omega, rfl⟩
        · rintro ⟨j, hj, rfl⟩
          have : j = 0 := by omega
          subst this; rfl
      · simp only [List.nil_append, List.mem_singleton] at hx
        subst hx
        exact .inl rfl
    · by_cases heq : d[m]! = d[m - 1]!
      · rw [Lib.keeps_neg (by omega) heq, if_neg (by simp), List.append_nil]
        refine ⟨h1, fun x => ?_, fun x hx _ => ?_⟩
        · rw [h2]
          constructor
          · rintro ⟨j, hj, rfl⟩; exact ⟨j, by omega, rfl⟩
          · rintro ⟨j, hj, rfl⟩
            by_cases e : j = m
            · subst e; exact ⟨j - 1, by omega, heq.symm⟩
            · exact ⟨j, by omega, rfl⟩
        · rw [Nat.add_sub_cancel, heq]
          exact h3 x hx (by omega)
      · rw [Lib.keeps_pos heq, if_pos rfl]
        have hlt : ∀ x ∈ Lib.compactUpTo d m, lt x d[m]! = true := by
          intro x hx
          have hstep : lt d[m - 1]! d[m]! = true := by
            rcases hs (m - 1) m (by omega) (by omega) with e | e
            · exact absurd e.symm heq
            · exact e
          rcases h3 x hx (by omega) with e | e
          · rw [e]; exact hstep
          · exact htr _ _ _ e hstep
        refine ⟨?_, fun x => ?_, fun x hx _ => ?_⟩
        · rw [List.pairwise_append]
          refine ⟨h1, by simp, fun a ha b hb => ?_⟩
          rw [List.mem_singleton] at hb
          subst hb
          exact hlt a ha
        · rw [List.mem_append, h2, List.mem_singleton]
          constructor
          · rintro (⟨j, hj, rfl⟩ | rfl)
            · exact ⟨j, by omega, rfl⟩
            · exact ⟨m, by omega, rfl⟩
          · rintro ⟨j, hj, rfl⟩
            by_cases e : j = m
            · subst e; exact .inr rfl
            · exact .inl ⟨j, by omega, rfl⟩
        · rw [Nat.add_sub_cancel]
          rcases List.mem_append.1 hx with hx | hx
          · exact .inr (hlt x hx)
          · rw [List.mem_singleton] at hx; exact .inl hx

theorem compact_sorted (lt : α → α → Bool) (htr : ∀ a b c, lt a b = true → lt b c = true → lt a c = true) (zs : List α) (hs : zs.Pairwise (fun a b => a = b ∨ lt a b = true)) :
    (Lib.compact zs).Pairwise (fun a b => lt a b = true) ∧ ∀ x, x ∈ Lib.compact zs ↔ x ∈ zs := by
  have hget : ∀ i, i < zs.length → zs.toArray[i]! = zs[i]! := by
    intro i hi
    rw [getElem!_pos _ i (by simpa using hi), getElem!_pos _ i hi]
    simp
  obtain ⟨h1, h2, _⟩ := compactUpTo_sorted lt htr zs.toArray (fun i j hij hj => by
    have hj' : j < zs.length := by simpa using hj
    rw [hget i (by omega), hget j hj', getElem!_pos _ i (by omega), getElem!_pos _ j hj']
    exact List.pairwise_iff_getElem.1 hs i j (by omega) hj' hij) zs.length (by simp)
  refine ⟨h1, fun x => (h2 x).trans ?_⟩
  constructor
  · rintro ⟨j, hj, rfl⟩
    rw [hget j hj, getElem!_pos _ j hj]
    exact List.getElem_mem hj
  · intro hx
    obtain ⟨j, hj, rfl⟩ := List.getElem_of_mem hx
    exact ⟨j, hj, by rw [hget j hj, getElem!_pos _ j hj]⟩
end

end Go.Proofs.YthookknmeajojaaGreatDoor

