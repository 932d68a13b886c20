/-
  A block of bytes as a function of the index; string() of it; copy of equal bytes within it.
-/
import Derived.Test.YtoofkchhjkhdeaaDoorTab
import Derived.Test.YtoofkchhjkhdeaaDoorStr
import Derived.Laws.BytesArg
import Derived.Laws.IdiomCopy
import Derived.Lib.MakeNoZero
namespace Go.Proofs.YtoofkchhjkhdeaaDoor
open Go.RowKit
set_option linter.unusedVariables false
set_option linter.unusedSimpArgs false

/-- Cells 0 .. N-1 of block b hold the bytes f, and may be written. -/
def TabU (w : World) (b N : Nat) (f : Nat → UInt8) : Prop :=
  b < w.heap.size ∧ ∀ t, t < N → w.cell? ⟨b, t, none⟩ = some (.int .u8 ((f t).toNat : Int)) ∧ w.frozen? ⟨b, t, none⟩ = false

section
variable {w w' : World} {b N : Nat} {f g : Nat → UInt8}
theorem TabU.frz (h : TabU w b N f) {t : Nat} (ht : t < N) : w.frozen? ⟨b, t, none⟩ = false := (h.2 t ht).2
theorem TabU.below {B : Nat} (h : TabU w b N f) (hb : Below B w w') (hB : b < B) : TabU w' b N f :=
  ⟨Nat.lt_of_lt_of_le h.1 hb.size, fun t ht => ⟨(hb.cell (p := ⟨b, t, none⟩) hB).trans (h.2 t ht).1, (hb.frozen (p := ⟨b, t, none⟩) hB).trans (h.2 t ht).2⟩⟩
theorem TabU.alloc (h : TabU w b N f) (o : Obj) : TabU (w.alloc o) b N f := h.below ((Below.refl _ _).alloc (Nat.le_refl _) o) h.1
theorem TabU.drewN (h : TabU w b N f) (n : Nat) : TabU (w.drewN n) b N f := h
theorem TabU.congr (h : TabU w b N f) (hfg : ∀ t, t < N → f t = g t) : TabU w b N g := ⟨h.1, fun t ht => ⟨by rw [← hfg t ht]; exact (h.2 t ht).1, (h.2 t ht).2⟩⟩
theorem TabU.far (h : TabU w b N f) {p : Addr} (hp : b ≠ p.block) (u : Value) : TabU (w.setCell p u) b N f := by
  have hh : (w.setCell p u).heap[b]? = w.heap[b]? := Below.heap_setCell w p u b hp
  refine ⟨by simpa [World.setCell] using h.1, fun t ht => ⟨?_, ?_⟩⟩
  · rw [World.cell?_of_block (w := w) (w' := w.setCell p u) (a := ⟨b, t, none⟩) hh]; exact (h.2 t ht).1
  · rw [World.frozen?_of_block (w := w) (w' := w.setCell p u) (a := ⟨b, t, none⟩) hh]; exact (h.2 t ht).2
theorem TabU.set_ (h : TabU w b N f) (j : Nat) (u : UInt8) (hj : j < N) (v : Value) (hv : v = .int .u8 (u.toNat : Int)) : TabU (w.setCell ⟨b, j, none⟩ v) b N (fun t => if t = j then u else f t) := by
  subst hv
  refine ⟨by simpa [World.setCell] using h.1, fun t ht => ⟨?_, ?_⟩⟩
  · by_cases e : t = j
    · subst e
      rw [World.cell?_setCell_same w _ _ (h.2 t ht).1]; simp
    · rw [World.cell?_setCell_other w _ _ _ (fun q => e (by injection q; omega)), (h.2 t ht).1]; simp [e]
  · rw [World.frozen?_setCell]; exact (h.2 t ht).2

/-- The text that a block of bytes holds. -/
def tabL (N : Nat) (f : Nat → UInt8) : List UInt8 := (List.range N).map f
theorem tabL_len (N : Nat) (f : Nat → UInt8) : (tabL N f).length = N := by simp [tabL]
theorem tabL_get {N : Nat} {f : Nat → UInt8} {i : Nat} (hi : i < N) : (tabL N f)[i]? = some (f i) := by simp [tabL, hi]

/-- 'string(b)' of it. -/
theorem TabU.string (h : TabU w b N f) (cap : Nat) : (convert 34 9 (.slice (some ⟨b, 0, none⟩) N cap)).run Tryd.prog w = .ok (.string (mkS (tabL N f))) w := by
  rw [run_convert_bytes_arg (P := Tryd.prog) w 34 5 Tryd.underlying34 Tryd.underlying5 b 0 N cap ((tabL N f).map fun x => (x.toNat : Int)) (by rw [List.length_map, tabL_len]) (fun i hi => ?_) _ Tryd.underlying9]
  · congr 2
    unfold strOfNums mkS
    congr 1
    rw [List.map_map]
    congr 1
    conv => rhs; rw [← List.map_id (tabL N f)]
    apply List.map_congr_left
    intro x _
    simp
  · rw [Nat.zero_add, (h.2 i hi).1, List.getD_eq_getElem?_getD, List.getElem?_map, tabL_get hi]
    rfl
end

theorem tabU_made (w : World) (N : Nat) (e : TypeId) : TabU (w.alloc (.cells (madeCells #[.int .u8 0] N) e)) w.heap.size N (fun _ => 0) := by
  have hh : (w.alloc (.cells (madeCells #[.int .u8 0] N) e)).heap[w.heap.size]? = some (.cells (madeCells #[.int .u8 0] N) e (0, 0)) := heap_alloc_new w _
  refine ⟨by simp, fun t ht => ⟨?_, frozen_of_row _ _ _ _ _ hh⟩⟩
  rw [cell_of_row _ _ _ _ _ _ hh, ← Array.getElem?_toList, toList_madeCells_one]
  simp [ht]

theorem Tryd.infoByte : (Tryd.prog.info? 5).map (fun i => (i.zero, i.size, i.bytes)) = some (some (.int .u8 0), 1, 1) := by kernel_rfl

theorem run_make_byte (n : Nat) (hn : n ≤ 16777216) (w : World) :
    (Instr.makeSlice 34 (.int .i64 (n : Int)) (.int .i64 (n : Int))).run Tryd.prog w = .ok (.slice (some ⟨w.heap.size, 0, none⟩) n n) (w.alloc (.cells (madeCells #[.int .u8 0] n) 5)) := by
  obtain ⟨i, hi, hz, hs, hb⟩ := info_parts Tryd.infoByte
  have hr := run_make (P := Tryd.prog) w 34 5 i _ Tryd.underlying34 hi hz .i64 .i64 n n (by omega) (by omega) (by rw [hb]; omega) (by omega)
  simp only [Int.toNat_natCast, hs, Nat.mul_one] at hr
  exact hr

end Go.Proofs.YtoofkchhjkhdeaaDoor
