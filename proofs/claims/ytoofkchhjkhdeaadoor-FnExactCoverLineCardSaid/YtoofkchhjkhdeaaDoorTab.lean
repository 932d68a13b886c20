/-
  A block of ints as a function of the index, over draws, new blocks, stores and callees; make of such a block.
-/
import Derived.Test.YtoofkchhjkhdeaaDoorIntW
import Derived.Laws.MakeOwn
import Derived.Laws.NewBlocks
namespace Go.Proofs.YtoofkchhjkhdeaaDoor
open Go.RowKit
set_option linter.unusedVariables false
set_option linter.unusedSimpArgs false

/-- Cells 0 .. N-1 of block b hold f, and may be written. -/
def Tab (w : World) (b N : Nat) (f : Nat → Int) : Prop :=
  b < w.heap.size ∧ ∀ t, t < N → w.cell? ⟨b, t, none⟩ = some (.int .i64 (f t)) ∧ w.frozen? ⟨b, t, none⟩ = false

section
variable {w w' : World} {b N : Nat} {f g : Nat → Int}
theorem Tab.get (h : Tab w b N f) {t : Nat} (ht : t < N) {v : Int} (hv : f t = v) : w.cell? ⟨b, t, none⟩ = some (.int .i64 v) := by rw [← hv]; exact (h.2 t ht).1
theorem Tab.frz (h : Tab w b N f) {t : Nat} (ht : t < N) : w.frozen? ⟨b, t, none⟩ = false := (h.2 t ht).2
theorem Tab.below {B : Nat} (h : Tab w b N f) (hb : Below B w w') (hB : b < B) : Tab w' b N f :=
  ⟨Nat.lt_of_lt_of_le h.1 hb.size, fun t ht => ⟨(hb.cell (p := ⟨b, t, none⟩) hB).trans (h.2 t ht).1, (hb.frozen (p := ⟨b, t, none⟩) hB).trans (h.2 t ht).2⟩⟩
theorem Tab.alloc (h : Tab w b N f) (o : Obj) : Tab (w.alloc o) b N f := h.below ((Below.refl _ _).alloc (Nat.le_refl _) o) h.1
theorem Tab.drew (h : Tab w b N f) : Tab w.drew b N f := h
theorem Tab.congr (h : Tab w b N f) (hfg : ∀ t, t < N → f t = g t) : Tab w b N g := ⟨h.1, fun t ht => ⟨by rw [← hfg t ht]; exact (h.2 t ht).1, (h.2 t ht).2⟩⟩
theorem Tab.far (h : Tab w b N f) {p : Addr} (hp : b ≠ p.block) (u : Value) : Tab (w.setCell p u) b N f := by
  have hh : (w.setCell p u).heap[b]? = w.heap[b]? := Below.heap_setCell w p u b hp
  refine ⟨by simpa [World.setCell] using h.1, fun t ht => ⟨?_, ?_⟩⟩
  · rw [World.cell?_of_block (w := w) (w' := w.setCell p u) (a := ⟨b, t, none⟩) hh]; exact (h.2 t ht).1
  · rw [World.frozen?_of_block (w := w) (w' := w.setCell p u) (a := ⟨b, t, none⟩) hh]; exact (h.2 t ht).2
theorem Tab.set_ (h : Tab w b N f) (j : Nat) (u : Int) (hj : j < N) (hu : g j = u) (hg : ∀ t, t < N → t ≠ j → g t = f t) : Tab (w.setCell ⟨b, j, none⟩ (.int .i64 u)) b N g := by
  refine ⟨by simpa [World.setCell] using h.1, fun t ht => ⟨?_, ?_⟩⟩
  · by_cases e : t = j
    · subst e
      rw [World.cell?_setCell_same w _ _ (h.2 t ht).1, hu]
    · rw [World.cell?_setCell_other w _ _ _ (fun q => e (by injection q; omega)), (h.2 t ht).1, hg t ht e]
  · rw [World.frozen?_setCell]; exact (h.2 t ht).2

theorem tab_made (w : World) (N : Nat) (e : TypeId) : Tab (w.alloc (.cells (madeCells #[.int .i64 0] N) e)) w.heap.size N (fun _ => 0) := by
  have hh : (w.alloc (.cells (madeCells #[.int .i64 0] N) e)).heap[w.heap.size]? = some (.cells (madeCells #[.int .i64 0] N) e (0, 0)) := heap_alloc_new w _
  refine ⟨by simp, fun t ht => ⟨?_, frozen_of_row _ _ _ _ _ hh⟩⟩
  rw [cell_of_row _ _ _ _ _ _ hh, ← Array.getElem?_toList, toList_madeCells_one]
  simp [ht]
end

theorem run_make_ints {P : Program} (t e : TypeId) (i : TypeInfo) (ht : P.underlying t = some (.slice e)) (hi : P.info? e = some i) (hz : i.zero = some (.int .i64 0)) (hsz : i.size = 1) (hby : i.bytes = 8)
    (n : Nat) (hn : n ≤ 16777216) (w : World) :
    (Instr.makeSlice t (.int .i64 (n : Int)) (.int .i64 (n : Int))).run P w = .ok (.slice (some ⟨w.heap.size, 0, none⟩) n n) (w.alloc (.cells (madeCells #[.int .i64 0] n) e)) := by
  have hr := run_make (P := P) w t e i _ ht hi hz .i64 .i64 n n (by omega) (by omega) (by rw [hby]; omega) (by omega)
  simp only [Int.toNat_natCast, hsz, Nat.mul_one] at hr
  exact hr

theorem Tryd.infoInt : (Tryd.prog.info? 3).map (fun i => (i.zero, i.size, i.bytes)) = some (some (.int .i64 0), 1, 8) := by kernel_rfl

theorem run_make_int (n : Nat) (hn : n ≤ 16777216) (w : World) :
    (Instr.makeSlice 22 (.int .i64 (n : Int)) (.int .i64 (n : Int))).run Tryd.prog w = .ok (.slice (some ⟨w.heap.size, 0, none⟩) n n) (w.alloc (.cells (madeCells #[.int .i64 0] n) 3)) := by
  obtain ⟨i, hi, hz, hs, hb⟩ := info_parts Tryd.infoInt
  exact run_make_ints _ _ i Tryd.underlying22 hi hz hs hb n hn w

theorem box2 {w w1 : World} {u v : Value} {t : TypeId} (h : Below (w.heap.size + 1) (w.alloc (.cells #[u, v] t)) w1) : w1.cell? ⟨w.heap.size, 0, none⟩ = some u ∧ w1.cell? ⟨w.heap.size, 1, none⟩ = some v :=
  ⟨(h.cell (p := ⟨w.heap.size, 0, none⟩) (Nat.lt_succ_self _)).trans (by rw [cell_of_row _ _ _ _ _ _ (heap_alloc_new w _)]; rfl), (h.cell (p := ⟨w.heap.size, 1, none⟩) (Nat.lt_succ_self _)).trans (by rw [cell_of_row _ _ _ _ _ _ (heap_alloc_new w _)]; rfl)⟩

end Go.Proofs.YtoofkchhjkhdeaaDoor
