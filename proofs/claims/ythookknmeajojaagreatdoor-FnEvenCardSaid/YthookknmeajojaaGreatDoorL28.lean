/-
  The reference's list of the different windows.
-/
import Derived.Test.YthookknmeajojaaGreatDoorEaB
import Derived.Test.YthookknmeajojaaGreatDoorStrs
import Derived.WalkLawsBesides
namespace Go.Proofs.YthookknmeajojaaGreatDoor
open Go.RowKit
set_option linter.unusedVariables false
set_option linter.unusedSimpArgs false

def RetStr (w : World) (L : List Txt) (e : Ending) (w' : World) : Prop := ∃ v, e = .returned v ∧ OwnS w' w.heap.size v L ∧ Below w.heap.size w w'

theorem OwnS.pos {w : World} {base : Nat} {v : Value} {xs : List Txt} (h : OwnS w base v xs) (hp : 0 < xs.length) : ∃ g c, v = .slice (some ⟨g, 0, none⟩) xs.length c ∧ xs.length ≤ c ∧ c ≤ maxLen ∧ base ≤ g ∧ g < w.heap.size := by
  rcases h.2 with ⟨rfl, h0⟩ | ⟨g, cap, cur, rfl, hg, hh, hnc, hm, _⟩
  · omega
  · exact ⟨g, cap, rfl, hnc, hm, hg, (Array.getElem?_eq_some_iff.1 hh).1⟩

theorem toList_mkS (l : List UInt8) : (mkS l).toList = l := by
  rw [Lib.toList_data]; exact str_mk l
theorem less_ltL : ∀ a b : List UInt8, Op.bytesLess a b = ltL a b
  | [], [] => by simp [Op.bytesLess, ltL]
  | _ :: _, [] => by simp [Op.bytesLess, ltL]
  | [], _ :: _ => by simp [Op.bytesLess, ltL]
  | a :: x, b :: y => by
    rw [Op.bytesLess, less_ltL x y]
    unfold ltL
    rw [Bool.eq_iff_iff]
    simp [List.cons_lt_cons_iff]

/-- What the comparison of two texts gives, in the walk's words. -/
theorem gtr_yes {X W : ByteArray} {x t : List UInt8} (hX : mkS x = X) (hW : mkS t = W) (h : ltL t x = true) : Op.bytesLess X.toList W.toList = false ∧ (X.toList == W.toList) = false ∧ ¬ X = W := by
  subst hX hW
  rw [toList_mkS, toList_mkS, less_ltL]
  have hne : x ≠ t := fun e => by subst e; rw [ltL_irrefl] at h; cases h
  refine ⟨?_, beq_eq_false_iff_ne.2 hne, fun e => hne (mkS_inj e)⟩
  cases hh : ltL x t
  · rfl
  · have := ltL_trans h hh; rw [ltL_irrefl] at this; cases this
theorem gtr_same {X W : ByteArray} {x t : List UInt8} (hX : mkS x = X) (hW : mkS t = W) (h : x = t) : Op.bytesLess X.toList W.toList = false ∧ (X.toList == W.toList) = true ∧ X = W := by
  subst h
  subst hX hW
  rw [toList_mkS, less_ltL]
  exact ⟨ltL_irrefl _, beq_self_eq_true _, rfl⟩
theorem gtr_no {X W : ByteArray} {x t : List UInt8} (hX : mkS x = X) (hW : mkS t = W) (h : ltL t x = false) (hne : x ≠ t) : Op.bytesLess X.toList W.toList = true ∧ (X.toList == W.toList) = false ∧ ¬ X = W := by
  subst hX hW
  rw [toList_mkS, toList_mkS, less_ltL]
  exact ⟨ltL_tri h (fun e => hne e.symm), beq_eq_false_iff_ne.2 hne, fun e => hne (mkS_inj e)⟩

end Go.Proofs.YthookknmeajojaaGreatDoor
