/-
  slices.Compact of a sorted list: strictly ascending, with the same members.
-/
import Derived.Test.YtjoeglekcnaebaaGreatDoorChecked
import Derived.Lib.SlicesCompact
namespace Go.Proofs.YtjoeglekcnaebaaGreatDoor
set_option linter.unusedVariables false
set_option linter.unusedSimpArgs false

section
variable {α : Type} [Inhabited α] [DecidableEq α]

/-- Sorted numbers or texts, each once: what stays is strictly ascending and has the same members. -/
theorem compactUpTo_sorted (lt : α → α → Bool) (htr : ∀ a b c, lt a b = true → lt b c = true → lt a c = true) (d : Array α) (hs : ∀ i j, i < j → j < d.size → d[i]! = d[j]! ∨ lt d[i]! d[j]! = true) :
    ∀ m, m ≤ d.size → (Lib.compactUpTo d m).Pairwise (fun a b => lt a b = true) ∧ (∀ x, x ∈ Lib.compactUpTo d m ↔ ∃ j, j < m ∧ d[j]! = x) ∧ ∀ x ∈ Lib.compactUpTo d m, 0 < m → x = d[m - 1]! ∨ lt x d[m - 1]! = true
  | 0, _ => by
    refine ⟨by simp [Lib.compactUpTo], fun x => by simp [Lib.compactUpTo], fun x hx => by simp [Lib.compactUpTo] at hx⟩
  | m + 1, h => by
    obtain ⟨h1, h2, h3⟩ := compactUpTo_sorted lt htr d hs m (by omega)
    rw [Lib.compactUpTo_succ]
    by_cases hm : m = 0
    · subst hm
      rw [Lib.keeps_lt_one d 0 (by omega), if_pos rfl, show Lib.compactUpTo d 0 = [] by simp [Lib.compactUpTo]]
      refine ⟨by simp, fun x => ?_, fun x hx _ => ?_⟩
      · simp only [List.nil_append, List.mem_singleton]
        constructor
        · rintro rfl; exact ⟨0, by omega, rfl⟩
        · rintro ⟨j, hj, rfl⟩
          have : j = 0 := by omega
          subst this; rfl
      · simp only [List.nil_append, List.mem_singleton] at hx
        subst hx
        exact .inl rfl
    · by_cases heq : d[m]! = d[m - 1]!
      · rw [Lib.keeps_neg (by omega) heq, if_neg (by simp), List.append_nil]
        refine ⟨h1, fun x => ?_, fun x hx _ => ?_⟩
        · rw [h2]
          constructor
          · rintro ⟨j, hj, rfl⟩; exact ⟨j, by omega, rfl⟩
          · rintro ⟨j, hj, rfl⟩
            by_cases e : j = m
            · subst e; exact ⟨j - 1, by omega, heq.symm⟩
            · exact ⟨j, by omega, rfl⟩
        · rw [Nat.add_sub_cancel, heq]
          exact h3 x hx (by omega)
      · rw [Lib.keeps_pos heq, if_pos rfl]
        have hlt : ∀ x ∈ Lib.compactUpTo d m, lt x d[m]! = true := by
          intro x hx
          have hstep : lt d[m - 1]! d[m]! = true := by
            rcases hs (m - 1) m (by omega) (by omega) with e | e
            · exact absurd e.symm heq
            · exact e
          rcases h3 x hx (by omega) with e | e
          · rw [e]; exact hstep
          · exact htr _ _ _ e hstep
        refine ⟨?_, fun x => ?_, fun x hx _ => ?_⟩
        · rw [List.pairwise_append]
          refine ⟨h1, by simp, fun a ha b hb => ?_⟩
          rw [List.mem_singleton] at hb
          subst hb
          exact hlt a ha
        · rw [List.mem_append, h2, List.mem_singleton]
          constructor
          · rintro (⟨j, hj, rfl⟩ | rfl)
            · exact ⟨j, by omega, rfl⟩
            · exact ⟨m, by omega, rfl⟩
          · rintro ⟨j, hj, rfl⟩
            by_cases e : j = m
            · subst e; exact .inr rfl
            · exact .inl ⟨j, by omega, rfl⟩
        · rw [Nat.add_sub_cancel]
          rcases List.mem_append.1 hx with hx | hx
          · exact .inr (hlt x hx)
          · rw [List.mem_singleton] at hx; exact .inl hx

theorem compact_sorted (lt : α → α → Bool) (htr : ∀ a b c, lt a b = true → lt b c = true → lt a c = true) (zs : List α) (hs : zs.Pairwise (fun a b => a = b ∨ lt a b = true)) :
    (Lib.compact zs).Pairwise (fun a b => lt a b = true) ∧ ∀ x, x ∈ Lib.compact zs ↔ x ∈ zs := by
  have hget : ∀ i, i < zs.length → zs.toArray[i]! = zs[i]! := by
    intro i hi
    rw [getElem!_pos _ i (by simpa using hi), getElem!_pos _ i hi]
    simp
  obtain ⟨h1, h2, _⟩ := compactUpTo_sorted lt htr zs.toArray (fun i j hij hj => by
    have hj' : j < zs.length := by simpa using hj
    rw [hget i (by omega), hget j hj', getElem!_pos _ i (by omega), getElem!_pos _ j hj']
    exact List.pairwise_iff_getElem.1 hs i j (by omega) hj' hij) zs.length (by simp)
  refine ⟨h1, fun x => (h2 x).trans ?_⟩
  constructor
  · rintro ⟨j, hj, rfl⟩
    rw [hget j hj, getElem!_pos _ j hj]
    exact List.getElem_mem hj
  · intro hx
    obtain ⟨j, hj, rfl⟩ := List.getElem_of_mem hx
    exact ⟨j, hj, by rw [hget j hj, getElem!_pos _ j hj]⟩
end

end Go.Proofs.YtjoeglekcnaebaaGreatDoor
