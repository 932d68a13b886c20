/-
  The windows sorted, each once, from last to first: the list that the reference builds.
-/
import Derived.Test.YthookknmeajojaaGreatDoorEaB
import Derived.Test.YthookknmeajojaaGreatDoorEaD
namespace Go.Proofs.YthookknmeajojaaGreatDoor
set_option linter.unusedVariables false
set_option linter.unusedSimpArgs false

theorem le_total_L (a b : List UInt8) : (decide (a ≤ b) || decide (b ≤ a)) = true := by
  rcases Std.le_total (a := a) (b := b) with h | h <;> simp [h]
theorem le_trans_L (a b c : List UInt8) : decide (a ≤ b) = true → decide (b ≤ c) = true → decide (a ≤ c) = true := by
  simp only [decide_eq_true_eq]
  exact fun h h' => Std.le_trans h h'
theorem le_cases_L {a b : List UInt8} (h : decide (a ≤ b) = true) : a = b ∨ ltL a b = true := by
  by_cases e : a = b
  · exact .inl e
  · right
    rw [decide_eq_true_eq] at h
    cases hlt : ltL a b
    · have := ltL_tri hlt e
      unfold ltL at this
      rw [decide_eq_true_eq] at this
      exact absurd h (List.not_le.2 this)
    · rfl

theorem sortD (l : List (List UInt8)) : DescL (Lib.compact (l.mergeSort fun x y => decide (x ≤ y))).reverse ∧ ∀ x, x ∈ (Lib.compact (l.mergeSort fun x y => decide (x ≤ y))).reverse ↔ x ∈ l := by
  have hs : (l.mergeSort fun x y => decide (x ≤ y)).Pairwise (fun a b => a = b ∨ ltL a b = true) :=
    List.Pairwise.imp (fun {a b} h => le_cases_L h) (List.pairwise_mergeSort le_trans_L le_total_L l)
  obtain ⟨h1, h2⟩ := compact_sorted ltL (fun a b c => ltL_trans) _ hs
  refine ⟨?_, fun x => ?_⟩
  · unfold DescL
    rw [List.pairwise_reverse]
    exact h1
  · rw [List.mem_reverse, h2, List.mem_mergeSort]

def winsL (n : Int) (bs : List Int) (k m : Nat) : List (List UInt8) := (List.range m).map (fun p => winL n bs p k)
theorem winsL_succ (n : Int) (bs : List Int) (k m : Nat) : winsL n bs k (m + 1) = winsL n bs k m ++ [winL n bs m k] := by simp [winsL, List.range_succ]
theorem winsL_len (n : Int) (bs : List Int) (k m : Nat) : (winsL n bs k m).length = m := by simp [winsL]
theorem wins_allD (n : Int) (bs : List Int) (k m : Nat) : (Lib.compact ((winsL n bs k m).mergeSort fun x y => decide (x ≤ y))).reverse = allD n bs k m := by
  obtain ⟨h1, h2⟩ := sortD (winsL n bs k m)
  refine DescL.unique h1 (allD_desc n bs k m) (fun x => ?_)
  rw [h2, allD_mem]
  unfold winsL
  rw [List.mem_map]
  simp only [List.mem_range]

end Go.Proofs.YthookknmeajojaaGreatDoor
