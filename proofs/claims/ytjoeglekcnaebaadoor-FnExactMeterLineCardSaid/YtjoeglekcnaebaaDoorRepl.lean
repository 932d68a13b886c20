/-
  strings.ReplaceAll of a letter by a letter: letter by letter.
-/
import Derived.Test.YtjoeglekcnaebaaDoorChecked
import Derived.Lib.Replace
namespace Go.Proofs.YtjoeglekcnaebaaDoor
open Go.Lib
set_option linter.unusedVariables false
set_option linter.unusedSimpArgs false
theorem idx_cons (c a : UInt8) (l : List UInt8) : index (c :: l) [a] = if c = a then 0 else if index l [a] = -1 then -1 else index l [a] + 1 := by
  show (if ([a] : List UInt8).isPrefixOf (c :: l) then (0 : Int) else if index l [a] == -1 then -1 else index l [a] + 1) = _
  by_cases h : c = a
  · subst h; simp [List.isPrefixOf]
  · have : ([a] : List UInt8).isPrefixOf (c :: l) = false := by
      simp [List.isPrefixOf]; exact fun e => h e.symm
    rw [this, if_neg (by simp), if_neg h]
    by_cases h2 : index l [a] = -1
    · simp [h2]
    · rw [if_neg (by simpa using h2), if_neg h2]
theorem idx_none (a : UInt8) : ∀ l : List UInt8, index l [a] = -1 → a ∉ l
  | [], _ => by simp
  | c :: l, h => by
    rw [idx_cons] at h
    by_cases e : c = a
    · rw [if_pos e] at h; omega
    · rw [if_neg e] at h
      by_cases h2 : index l [a] = -1
      · have := idx_none a l h2
        simp; exact ⟨fun q => e q.symm, this⟩
      · rw [if_neg h2] at h; have := index_ge l [a]; omega
theorem map_none (a b : UInt8) (l : List UInt8) (h : a ∉ l) : l.map (fun c => if c = a then b else c) = l := by
  conv => rhs; rw [← List.map_id l]
  exact List.map_congr_left fun c hc => by
    have : ¬ c = a := fun e => h (e ▸ hc)
    simp [this]
theorem replK (a b : UInt8) : ∀ (s : List UInt8) (k : Nat), s.count a ≤ k → replaceK [a] [b] k s = s.map (fun c => if c = a then b else c)
  | s, 0, h => by
    show s = _
    rw [map_none]
    exact List.count_eq_zero.1 (by omega)
  | [], k + 1, _ => by simp [replaceK, index]
  | c :: l, k + 1, h => by
    by_cases e : c = a
    · subst e
      rw [replaceK_hit [c] [b] k (c :: l) 0 (by rw [idx_cons, if_pos rfl]; rfl)]
      have hl : l.count c ≤ k := by rw [List.count_cons_self] at h; omega
      simp
      exact replK c b l k hl
    · have hl : l.count a ≤ k + 1 := by rw [List.count_cons_of_ne (fun q => e q)] at h; exact h
      have ih := replK a b l (k + 1) hl
      by_cases h2 : index l [a] = -1
      · have hno := idx_none a l h2
        have : index (c :: l) [a] = -1 := by rw [idx_cons, if_neg e, if_pos h2]
        rw [replaceK, this, if_pos (by decide), map_none]
        simp; exact ⟨fun q => e q.symm, hno⟩
      · obtain ⟨i, hi⟩ := Int.eq_ofNat_of_zero_le (show 0 ≤ index l [a] by have := index_ge l [a]; omega)
        rw [replaceK_hit [a] [b] k (c :: l) (i + 1) (by rw [idx_cons, if_neg e, if_neg h2, hi]; rfl)]
        rw [replaceK_hit [a] [b] k l i hi] at ih
        simp [e] at ih ⊢
        exact ih
theorem replAll1 (a b : UInt8) (s : List UInt8) : replaceAll s [a] [b] = s.map (fun c => if c = a then b else c) := by
  unfold replaceAll replace
  by_cases h : a = b
  · subst h
    rw [if_pos (by simp)]
    conv => lhs; rw [← List.map_id s]
    exact List.map_congr_left fun c _ => by
      by_cases e : c = a
      · simp [e]
      · simp [e]
  · rw [if_neg (by simpa using h)]
    refine replK a b s _ ?_
    unfold replaceNum
    rw [if_pos (.inl (by decide)), count_one]
    exact Nat.le_refl _

end Go.Proofs.YtjoeglekcnaebaaDoor
