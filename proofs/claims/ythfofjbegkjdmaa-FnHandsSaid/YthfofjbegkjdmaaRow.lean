/-
  A row of cells that may be read and written: its values as a list, over draws, new blocks, stores and callees.
-/
import Derived.Test.YthfofjbegkjdmaaStr
import Derived.Laws.IdiomStrings
namespace Go.Proofs.Ythfofjbegkjdmaa
open Go.RowKit
set_option linter.unusedVariables false
set_option linter.unusedSimpArgs false

/-- Cells off, off+1, .. of block b hold the list, and may be written. -/
def Row (w : World) (b off : Nat) (xs : List Value) : Prop :=
  b < w.heap.size ∧ ∀ j v, xs[j]? = some v → w.cell? ⟨b, off + j, none⟩ = some v ∧ w.frozen? ⟨b, off + j, none⟩ = false

section
variable {w w' : World} {b off : Nat} {xs : List Value}
theorem Row.at0 (h : Row w b 0 xs) {j : Nat} {v : Value} (hj : xs[j]? = some v) : w.cell? ⟨b, j, none⟩ = some v ∧ w.frozen? ⟨b, j, none⟩ = false := by
  have := h.2 j v hj
  rwa [Nat.zero_add] at this
theorem Row.below {B : Nat} (h : Row w b off xs) (hb : Below B w w') (hB : b < B) : Row w' b off xs :=
  ⟨Nat.lt_of_lt_of_le h.1 hb.size, fun j v hj => ⟨(hb.cell (p := ⟨b, off + j, none⟩) hB).trans (h.2 j v hj).1, (hb.frozen (p := ⟨b, off + j, none⟩) hB).trans (h.2 j v hj).2⟩⟩
theorem Row.alloc (h : Row w b off xs) (o : Obj) : Row (w.alloc o) b off xs := h.below ((Below.refl _ _).alloc (Nat.le_refl _) o) h.1
theorem Row.drew (h : Row w b off xs) : Row w.drew b off xs := h
theorem Row.drewN (h : Row w b off xs) (n : Nat) : Row (w.drewN n) b off xs := h
theorem Row.far (h : Row w b off xs) {p : Addr} (hp : b ≠ p.block) (u : Value) : Row (w.setCell p u) b off xs := by
  have hh : (w.setCell p u).heap[b]? = w.heap[b]? := Below.heap_setCell w p u b hp
  refine ⟨by simpa [World.setCell] using h.1, fun j v hj => ⟨?_, ?_⟩⟩
  · rw [World.cell?_of_block (w := w) (w' := w.setCell p u) (a := ⟨b, off + j, none⟩) hh]; exact (h.2 j v hj).1
  · rw [World.frozen?_of_block (w := w) (w' := w.setCell p u) (a := ⟨b, off + j, none⟩) hh]; exact (h.2 j v hj).2
theorem Row.set_ (h : Row w b off xs) (j : Nat) (u : Value) (hj : j < xs.length) : Row (w.setCell ⟨b, off + j, none⟩ u) b off (xs.set j u) := by
  refine ⟨by simpa [World.setCell] using h.1, fun i v hi => ?_⟩
  have hil : i < xs.length := by
    have := (List.getElem?_eq_some_iff.1 hi).1
    simpa using this
  obtain ⟨hc, hf⟩ := h.2 i _ (List.getElem?_eq_getElem hil)
  obtain ⟨hcj, _⟩ := h.2 j _ (List.getElem?_eq_getElem hj)
  refine ⟨?_, ?_⟩
  · by_cases e : j = i
    · subst e
      rw [World.cell?_setCell_same w _ u hcj]
      simpa [hj] using hi
    · rw [World.cell?_setCell_other w _ _ u (fun q => e (by injection q; omega)), hc]
      rw [List.getElem?_set_ne (by omega), List.getElem?_eq_getElem hil] at hi
      exact hi
  · rw [World.frozen?_setCell]; exact hf
theorem Row.set0 (h : Row w b 0 xs) (j : Nat) (u : Value) (hj : j < xs.length) : Row (w.setCell ⟨b, j, none⟩ u) b 0 (xs.set j u) := by
  have := h.set_ j u hj
  rwa [Nat.zero_add] at this
end

def bv (c : UInt8) : Value := .int .u8 (c.toNat : Int)

/-- What a conversion of a string to bytes makes. -/
theorem row_of_bytes (w : World) (e : TypeId) (s : ByteArray) (cap : Nat) :
    Row (w.drew.alloc (.cells (bytesRow s cap) e ((bytesRow s cap).size, (bytesRow s cap).size + 1))) w.heap.size 0 (s.data.toList.map bv) := by
  refine ⟨by simp, fun j v hj => ?_⟩
  rw [Nat.zero_add]
  have hjl : j < s.data.size := by
    have := (List.getElem?_eq_some_iff.1 hj).1
    simpa using this
  have e1 := World.cell?_alloc_mark w.drew (bytesRow s cap) e ((bytesRow s cap).size, (bytesRow s cap).size + 1) j
  have e2 := World.frozen?_alloc_mark w.drew (bytesRow s cap) e (bytesRow s cap).size ((bytesRow s cap).size + 1) j
  have hz : w.drew.heap.size = w.heap.size := rfl
  rw [hz] at e1 e2
  refine ⟨?_, ?_⟩
  · rw [e1, bytesRow_at s cap j hjl, ← hj]
    rw [List.getElem?_map, Array.getElem?_toList, Array.getElem?_eq_getElem hjl]
    rfl
  · rw [e2]
    have : (bytesRow s cap).size ≥ s.data.size := by simp [bytesRow]
    simp; omega

theorem Row.string {w : World} {b cap : Nat} {l : List UInt8} (h : Row w b 0 (l.map bv)) (src dst e : TypeId) (hs : Try.prog.underlying src = some (.slice e)) (he : Try.prog.underlying e = some (.int .u8)) (hd : Try.prog.underlying dst = some .string) :
    (convert src dst (.slice (some ⟨b, 0, none⟩) l.length cap)).run Try.prog w = .ok (.string (mkS l)) w := by
  refine run_convert_bytes_back w src dst e ⟨b, 0, none⟩ cap l hs he hd (fun j hj => ?_)
  have := (h.at0 (j := j) (v := bv l[j]) (by simp [hj])).1
  have ea : (⟨b, 0, none⟩ : Addr).add j = ⟨b, j, none⟩ := by
    rw [Go.WideShapes.add_plain, Nat.zero_add]
  rw [ea]
  exact this

end Go.Proofs.Ythfofjbegkjdmaa
