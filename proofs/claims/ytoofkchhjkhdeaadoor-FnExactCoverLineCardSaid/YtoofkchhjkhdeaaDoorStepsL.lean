/-
  The steps of a rhythm: the plain list, the program's and the reference's.
-/
import Derived.Test.YtoofkchhjkhdeaaDoorOwn
namespace Go.Proofs.YtoofkchhjkhdeaaDoor
open Go.RowKit
set_option linter.unusedVariables false
set_option linter.unusedSimpArgs false

def stepAt (n : Int) (bs : List Int) (i : Nat) : Int := if i + 1 < bs.length then bs.getD (i + 1) 0 - bs.getD i 0 else n + bs.getD 0 0 - bs.getD i 0
/-- The first k steps. -/
def stepsK (n : Int) (bs : List Int) (k : Nat) : List Int := (List.range k).map (stepAt n bs)
def stepsL (n : Int) (bs : List Int) : List Int := stepsK n bs bs.length
theorem stepsK_zero (n : Int) (bs : List Int) : stepsK n bs 0 = [] := rfl
theorem stepsK_succ (n : Int) (bs : List Int) (k : Nat) : stepsK n bs (k + 1) = stepsK n bs k ++ [stepAt n bs k] := by simp [stepsK, List.range_succ]
theorem stepsK_len (n : Int) (bs : List Int) (k : Nat) : (stepsK n bs k).length = k := by simp [stepsK]
theorem stepsL_len (n : Int) (bs : List Int) : (stepsL n bs).length = bs.length := stepsK_len _ _ _
theorem stepAt_more {n : Int} {bs : List Int} {k : Nat} {x y : Int} (h : k + 1 < bs.length) (hx : bs.getD k 0 = x) (hy : bs.getD (k + 1) 0 = y) : stepAt n bs k = y - x := by
  unfold stepAt; rw [if_pos h, hx, hy]
theorem stepAt_last {n : Int} {bs : List Int} {k : Nat} {x z : Int} (h : ¬ k + 1 < bs.length) (hx : bs.getD k 0 = x) (hz : bs.getD 0 0 = z) : stepAt n bs k = n + z - x := by
  unfold stepAt; rw [if_neg h, hx, hz]

theorem RhOk.beat {n : Int} {bs : List Int} (h : RhOk n bs) {i : Nat} (hi : i < bs.length) : 0 ≤ bs.getD i 0 ∧ bs.getD i 0 < n := h.2.2.1 i hi
theorem RhOk.mono {n : Int} {bs : List Int} (h : RhOk n bs) : ∀ (j i : Nat), i < j → j < bs.length → bs.getD i 0 + (j - i : Int) ≤ bs.getD j 0
  | 0, i, hi, _ => by omega
  | j + 1, i, hi, hj => by
    have h1 := h.2.2.2 j hj
    by_cases e : i = j
    · subst e; omega
    · have := RhOk.mono h j i (by omega) (by omega)
      omega
theorem RhOk.len {n : Int} {bs : List Int} (h : RhOk n bs) : (bs.length : Int) ≤ n := by
  by_cases h0 : bs.length = 0
  · have := h.1; omega
  · have h1 := h.beat (i := bs.length - 1) (by omega)
    by_cases h2 : bs.length = 1
    · have := h.1; omega
    · have h3 := h.mono (bs.length - 1) 0 (by omega) (by omega)
      have h4 := h.beat (i := 0) (by omega)
      omega
theorem stepAt_pos {n : Int} {bs : List Int} (h : RhOk n bs) {i : Nat} (hi : i < bs.length) : 1 ≤ stepAt n bs i ∧ stepAt n bs i ≤ n := by
  unfold stepAt
  split
  · rename_i h1
    have a := h.beat h1
    have b := h.beat hi
    have c := h.2.2.2 i h1
    omega
  · have b := h.beat hi
    have a := h.beat (i := 0) (by omega)
    by_cases e : i = 0
    · subst e; have := h.1; omega
    · have c := h.mono i 0 (by omega) hi
      omega
theorem stepsK_fit {n : Int} {bs : List Int} (h : RhOk n bs) (k : Nat) (hk : k ≤ bs.length) : ∀ x ∈ stepsK n bs k, 1 ≤ x ∧ x ≤ 24 := by
  intro x hx
  obtain ⟨i, hi, rfl⟩ := List.mem_map.1 hx
  have hi := List.mem_range.1 hi
  have := stepAt_pos h (i := i) (by omega)
  have := h.2.1
  omega

/-- A list of ints in new memory: what a call hands back. -/
def RetInts (w : World) (xs : List Int) (e : Ending) (w' : World) : Prop := ∃ A cap, e = .returned (.slice A xs.length cap) ∧ Ints w' w'.heap.size A xs ∧ Below w.heap.size w w'

end Go.Proofs.YtoofkchhjkhdeaaDoor
