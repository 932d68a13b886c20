/-
  RhythmLine of both.
-/
import Derived.Test.YtcolbkgceaboaabGreatDoorFmtR
import Derived.Test.YtcolbkgceaboaabGreatDoorVecW
import Derived.Test.YtcolbkgceaboaabGreatDoorSpcP
import Derived.Test.YtcolbkgceaboaabGreatDoorEqs
import Derived.Test.YtcolbkgceaboaabGreatDoorCells
import Derived.Deep.AppendLies
namespace Go.Proofs.YtcolbkgceaboaabGreatDoor
open Go.RowKit
set_option linter.unusedVariables false
set_option linter.unusedSimpArgs false

set_option maxRecDepth 100000 in
/-- 'append(s, y)' onto a slice of strings of the call's own; an old block that is not its own stays as it was, and is not its own. -/
theorem wpList_append_str_away {w : World} {ops : Array Oper} {rest : List Oper} {o : Oper} {a : Act} {Q : Exit → Act → World → Prop} (hgd : o.guard = none) (s x : Operand)
    (ho : o.op = .call { callee := .builtin .append, args := #[s, x], argTypes := #[49, 49] })
    (base : Nat) (v : Value) (xs : List Txt) (hs : a.eval s = v) (hown : OwnS w base v xs) (g : Nat) (y : Txt) (hx : a.eval x = .slice (some ⟨g, 0, none⟩) 1 1)
    (hcell : w.cell? ⟨g, 0, none⟩ = some (emS y)) (hlen : xs.length < 1048576) (hbase : base ≤ w.heap.size) (b0 : Nat) (hb0 : b0 < w.heap.size) (hne : ∀ g, v.ownBlock = some g → g ≠ b0)
    (h : ∀ v' w', OwnS w' base v' (xs ++ [y]) → Below base w w' → w'.heap[b0]? = w.heap[b0]? → (∀ g, v'.ownBlock = some g → g ≠ b0) → b0 < w'.heap.size → wpList Tryz.prog ops Q rest (a.put o.dst v') w') : wpList Tryz.prog ops Q (o :: rest) a w := by
  obtain ⟨i, hi, hz, hsz, hby⟩ := info_parts Tryz.infoString
  refine wpList_append_lies w hgd s x _ ho base 9 i _ 1 16 Tryz.underlying49 hi hz hsz hby rfl (by omega) v xs.length _ hs hown ⟨g, 0, none⟩ 1 1 [emS y] hx rfl ?_ ?_ (by omega) (by unfold maxLen; omega) (by omega) hbase _ rfl ?_
  · intro j u hj
    match j, hj with
    | 0, hj => simp at hj; subst hj; exact hcell
  · intro u hu
    simp at hu
    subst hu; rfl
  · intro g' cap w' hown' hgrow hat hlt'
    refine h _ w' ?_ ((Below.refl base w).grown hgrow hbase (fun k hk => (World.ownsRow.lt hown k hk).1)) (hgrow.block b0 hb0 (fun e => hne _ e.symm rfl)) ?_ (Nat.lt_of_lt_of_le hb0 hgrow.size)
    · unfold OwnS
      rw [List.length_append, List.map_append]
      exact hown'
    · intro g2 hg2
      have : g' = g2 := by simpa [Value.ownBlock] using hg2
      subst this
      rcases hat with h1 | h1
      · exact hne g' h1
      · omega

/-- The steps as they stand in the line. -/
noncomputable def stpL (n : Int) (bs : List Int) : Txt := if stpV n bs = [] then [45] else stpV n bs
noncomputable def linL (N : Nat) (bs : List Int) : Txt := joinT [textF N bs (fun _ => 120), [115, 116, 101, 112, 115], stpL N bs, [112, 101, 114, 105, 111, 100], itoL (perV N bs), [118, 101, 99, 116, 111, 114], numsT (vecV N bs)] [32]
noncomputable def linV (n : Int) (bs : List Int) : Txt := if rhB n bs = true then linL n.toNat bs else [110, 111, 110, 101]

theorem stpV_len (n : Int) (bs : List Int) : (stpV n bs).length ≤ 504 := by
  have hsf := stepsOf_fit n bs
  have hjl := joinT_len [43] 20 ((stepsOf n bs).map itoL) (nums_mem (fun x hx => by have := hsf.2 x hx; unfold Fits; omega))
  rw [List.length_map] at hjl
  have : (stepsOf n bs).length * (20 + 1) ≤ 24 * 21 := Nat.mul_le_mul hsf.1 (Nat.le_refl _)
  exact Nat.le_trans hjl this
theorem stpL_len (n : Int) (bs : List Int) : (stpL n bs).length ≤ 504 := by
  unfold stpL
  split
  · simp
  · exact stpV_len n bs
theorem numsT_len {xs : List Int} (h : ∀ x ∈ xs, Fits x) (hl : xs.length ≤ 24) : (numsT xs).length ≤ 504 := by
  unfold numsT
  split
  · simp
  · have hjl := joinT_len [44] 20 (xs.map itoL) (nums_mem h)
    rw [List.length_map] at hjl
    have : xs.length * (20 + 1) ≤ 24 * 21 := Nat.mul_le_mul hl (Nat.le_refl _)
    exact Nat.le_trans hjl this
theorem linL_eq (N : Nat) (bs : List Int) : linL N bs = textF N bs (fun _ => 120) ++ [32, 115, 116, 101, 112, 115, 32] ++ stpL N bs ++ [32, 112, 101, 114, 105, 111, 100, 32] ++ itoL (perV N bs) ++ [32, 118, 101, 99, 116, 111, 114, 32] ++ numsT (vecV N bs) := by
  unfold linL joinT
  rw [Lib.join_cons]
  unfold Lib.joinTail
  simp

end Go.Proofs.YtcolbkgceaboaabGreatDoor
