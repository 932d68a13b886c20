/-
  Blocks of two cells; append of several ints onto a slice of the call's own.
-/
import Derived.Test.YtoofkchhjkhdeaaDoorOwn
import Derived.Deep.RegionLaw
namespace Go.Proofs.YtoofkchhjkhdeaaDoor
open Go.RowKit
set_option linter.unusedVariables false
set_option linter.unusedSimpArgs false

/-- A block of two cells that may be written. -/
def Cells2 (w : World) (g : Nat) (u v : Value) : Prop :=
  w.cell? ⟨g, 0, none⟩ = some u ∧ w.cell? ⟨g, 1, none⟩ = some v ∧ w.frozen? ⟨g, 0, none⟩ = false ∧ w.frozen? ⟨g, 1, none⟩ = false ∧ g < w.heap.size
section
variable {w w' : World} {g : Nat} {u v : Value}
theorem Cells2.below {B : Nat} (h : Cells2 w g u v) (hb : Below B w w') (hg : g < B) : Cells2 w' g u v :=
  ⟨(hb.cell (p := ⟨g, 0, none⟩) hg).trans h.1, (hb.cell (p := ⟨g, 1, none⟩) hg).trans h.2.1, (hb.frozen (p := ⟨g, 0, none⟩) hg).trans h.2.2.1, (hb.frozen (p := ⟨g, 1, none⟩) hg).trans h.2.2.2.1, Nat.lt_of_lt_of_le h.2.2.2.2 hb.size⟩
theorem Cells2.new (w : World) (u v : Value) (t : TypeId) : Cells2 (w.alloc (.cells #[u, v] t)) w.heap.size u v := by
  have hh : (w.alloc (.cells #[u, v] t)).heap[w.heap.size]? = some (.cells #[u, v] t (0, 0)) := heap_alloc_new w _
  exact ⟨by rw [cell_of_row _ _ _ _ _ _ hh]; rfl, by rw [cell_of_row _ _ _ _ _ _ hh]; rfl, frozen_of_row _ _ _ _ _ hh, frozen_of_row _ _ _ _ _ hh, by simp⟩
theorem Cells2.new_at (w : World) (u v : Value) (t : TypeId) (g : Nat) (hg : w.heap.size = g) : Cells2 (w.alloc (.cells #[u, v] t)) g u v := by subst hg; exact Cells2.new w u v t
theorem Cells2.alloc (h : Cells2 w g u v) (o : Obj) : Cells2 (w.alloc o) g u v := h.below ((Below.refl _ _).alloc (Nat.le_refl _) o) h.2.2.2.2
theorem Cells2.drewN (h : Cells2 w g u v) (n : Nat) : Cells2 (w.drewN n) g u v := h
theorem Cells2.far (h : Cells2 w g u v) {p : Addr} (hp : g ≠ p.block) (x : Value) : Cells2 (w.setCell p x) g u v := by
  have hh : (w.setCell p x).heap[g]? = w.heap[g]? := Below.heap_setCell w p x g hp
  refine ⟨?_, ?_, ?_, ?_, by simpa [World.setCell] using h.2.2.2.2⟩
  · rw [World.cell?_of_block (w := w) (w' := w.setCell p x) (a := ⟨g, 0, none⟩) hh]; exact h.1
  · rw [World.cell?_of_block (w := w) (w' := w.setCell p x) (a := ⟨g, 1, none⟩) hh]; exact h.2.1
  · rw [World.frozen?_of_block (w := w) (w' := w.setCell p x) (a := ⟨g, 0, none⟩) hh]; exact h.2.2.1
  · rw [World.frozen?_of_block (w := w) (w' := w.setCell p x) (a := ⟨g, 1, none⟩) hh]; exact h.2.2.2.1
theorem Cells2.set1 (h : Cells2 w g u v) (x : Value) : Cells2 (w.setCell ⟨g, 1, none⟩ x) g u x := by
  refine ⟨?_, World.cell?_setCell_same w _ _ h.2.1, ?_, ?_, by simpa [World.setCell] using h.2.2.2.2⟩
  · rw [World.cell?_setCell_other w _ _ _ (fun q => by injection q; omega)]; exact h.1
  · rw [World.frozen?_setCell]; exact h.2.2.1
  · rw [World.frozen?_setCell]; exact h.2.2.2.1
theorem OwnI.far {base : Nat} {x : Value} {xs : List Int} (h : OwnI w base x xs) {p : Addr} (hp : p.block < base) (y : Value) : OwnI (w.setCell p y) base x xs := ownsRow_setCell_below h hp y
end

theorem Cells2.grown {w w' : World} {g : Nat} {u v : Value} {r : Option Nat} (h : Cells2 w g u v) (hg : w.grownBy w' r) (hr : some g ≠ r) : Cells2 w' g u v := by
  have hh : w'.heap[g]? = w.heap[g]? := hg.block g h.2.2.2.2 hr
  refine ⟨?_, ?_, ?_, ?_, Nat.lt_of_lt_of_le h.2.2.2.2 hg.size⟩
  · rw [World.cell?_of_block (w := w) (w' := w') (a := ⟨g, 0, none⟩) hh]; exact h.1
  · rw [World.cell?_of_block (w := w) (w' := w') (a := ⟨g, 1, none⟩) hh]; exact h.2.1
  · rw [World.frozen?_of_block (w := w) (w' := w') (a := ⟨g, 0, none⟩) hh]; exact h.2.2.1
  · rw [World.frozen?_of_block (w := w) (w' := w') (a := ⟨g, 1, none⟩) hh]; exact h.2.2.2.1
theorem Cells2.set0 {w : World} {g : Nat} {u v : Value} (h : Cells2 w g u v) (x : Value) : Cells2 (w.setCell ⟨g, 0, none⟩ x) g x v := by
  refine ⟨World.cell?_setCell_same w _ _ h.1, ?_, ?_, ?_, by simpa [World.setCell] using h.2.2.2.2⟩
  · rw [World.cell?_setCell_other w _ _ _ (fun q => by injection q; omega)]; exact h.2.1
  · rw [World.frozen?_setCell]; exact h.2.2.1
  · rw [World.frozen?_setCell]; exact h.2.2.2.1

theorem news_ints {w : World} {b off : Nat} {ys : List Int} (hc : ∀ i, i < ys.length → w.cell? ⟨b, off + i, none⟩ = some (.int .i64 (ys.getD i 0))) :
    (∀ j u, (ys.map (Value.int .i64))[j]? = some u → w.cell? ((⟨b, off, none⟩ : Addr).add j) = some u) ∧ ∀ u ∈ ys.map (Value.int .i64), u.oneCell' = true := by
  refine ⟨fun j u hu => ?_, fun u hu => ?_⟩
  · rw [List.getElem?_map] at hu
    have hj : j < ys.length := by
      apply Classical.byContradiction
      intro hh
      rw [List.getElem?_eq_none (by omega)] at hu
      cases hu
    rw [Addr.add_lit, hc j hj, List.getD_eq_getElem?_getD]
    rw [List.getElem?_eq_getElem hj] at hu ⊢
    exact hu
  · obtain ⟨t, _, rfl⟩ := List.mem_map.1 hu
    rfl

/-- 'append(s, ys...)' onto a slice of the call's own. -/
theorem wpList_append_ints {w : World} {ops : Array Oper} {rest : List Oper} {o : Oper} {a : Act} {Q : Exit → Act → World → Prop} (hgd : o.guard = none) (s x : Operand)
    (ho : o.op = .call { callee := .builtin .append, args := #[s, x], argTypes := #[22, 22] })
    (base : Nat) (v : Value) (xs : List Int) (hs : a.eval s = v) (hown : OwnI w base v xs) (b off c : Nat) (ys : List Int) (hx : a.eval x = .slice (some ⟨b, off, none⟩) ys.length c)
    (hc : ∀ i, i < ys.length → w.cell? ⟨b, off + i, none⟩ = some (.int .i64 (ys.getD i 0))) (hlen : xs.length + ys.length ≤ 1000000000) (hbase : base ≤ w.heap.size)
    (h : ∀ v' w', OwnI w' base v' (xs ++ ys) → Below base w w' → w.grownBy w' v.ownBlock → wpList Tryd.prog ops Q rest (a.put o.dst v') w') : wpList Tryd.prog ops Q (o :: rest) a w := by
  obtain ⟨i, hi, hz, hsz, hby⟩ := info_parts Tryd.infoInt
  refine wpList_append_own _ hgd s x _ ho base 3 i _ 1 8 Tryd.underlying22 hi hz hsz hby rfl (by omega) v xs.length _ hs hown ⟨b, off, none⟩ ys.length c (ys.map (Value.int .i64)) hx (by simp) (news_ints hc).1 (news_ints hc).2 (by unfold maxLen; omega) (by omega) hbase ?_
  intro v' w' hown' hgrow _
  refine h v' w' ?_ ?_ hgrow
  · unfold OwnI
    rw [List.length_append, List.map_append]
    exact hown'
  · exact (Below.refl base w).grown hgrow hbase (fun k hk => (hown.lt k hk).1)

theorem step_append_ints {w : World} {ops : Array Oper} {o : Oper} {a : Act} {K : Act → World → Prop} {Q : Exit → Act → World → Prop} {E : Prop} (hgd : o.guard = none) (s x : Operand)
    (ho : o.op = .call { callee := .builtin .append, args := #[s, x], argTypes := #[22, 22] })
    (base : Nat) (v : Value) (xs : List Int) (hs : a.eval s = v) (hown : OwnI w base v xs) (b off c : Nat) (ys : List Int) (hx : a.eval x = .slice (some ⟨b, off, none⟩) ys.length c)
    (hc : ∀ i, i < ys.length → w.cell? ⟨b, off + i, none⟩ = some (.int .i64 (ys.getD i 0))) (hlen : xs.length + ys.length ≤ 1000000000) (hbase : base ≤ w.heap.size)
    (h : ∀ v' w', OwnI w' base v' (xs ++ ys) → Below base w w' → w.grownBy w' v.ownBlock → K (a.put o.dst v') w') : if Region.wanted o (yielded ops a.tmps) = true then Oper.wp Tryd.prog o a w K Q else E := by
  have hw : Region.wanted o (yielded ops a.tmps) = true := by simp [Region.wanted, hgd]
  rw [if_pos hw]
  obtain ⟨i, hi, hz, hsz, hby⟩ := info_parts Tryd.infoInt
  refine wp_append_own w s x _ ho base 3 i _ 1 8 Tryd.underlying22 hi hz hsz hby rfl (by omega) v xs.length _ hs hown ⟨b, off, none⟩ ys.length c (ys.map (Value.int .i64)) hx (by simp) (news_ints hc).1 (news_ints hc).2 (by unfold maxLen; omega) (by omega) hbase ?_
  intro v' w' hown' hgrow _
  refine h v' w' ?_ ?_ hgrow
  · unfold OwnI
    rw [List.length_append, List.map_append]
    exact hown'
  · exact (Below.refl base w).grown hgrow hbase (fun k hk => (hown.lt k hk).1)

end Go.Proofs.YtoofkchhjkhdeaaDoor
