/-
  Sorting a block of bytes: the block as an array, swaps; cmp.Less on bytes.
-/
import Derived.Test.YthfjfhgeiggljaaDoorFrm
import Derived.Sort.AssemblyPlain
import Derived.Shelf.Sort.Plain
namespace Go.Proofs.YthfjfhgeiggljaaDoor
open Go.RowKit
set_option linter.unusedVariables false
set_option linter.unusedSimpArgs false

abbrev ltZ : Int → Int → Bool := Go.Sort.ltInt
/-- Block g, from off on, holds the numbers of d, one byte each, and may be written. -/
def AD (w : World) (g off : Nat) (d : Array Int) : Prop := g < w.heap.size ∧ ∀ t, t < d.size → w.cell? ⟨g, off + t, none⟩ = some (.int .u8 d[t]!) ∧ w.frozen? ⟨g, off + t, none⟩ = false
section
variable {w w' : World} {g off : Nat} {d : Array Int}
theorem AD.get (h : AD w g off d) {t : Nat} (ht : t < d.size) : w.cell? ⟨g, off + t, none⟩ = some (.int .u8 d[t]!) := (h.2 t ht).1
theorem AD.frz (h : AD w g off d) {t : Nat} (ht : t < d.size) : w.frozen? ⟨g, off + t, none⟩ = false := (h.2 t ht).2
theorem swp_size (d : Array Int) (i j : Nat) : (Go.Sort.swp d i j).size = d.size := by simp [Go.Sort.swp]
theorem swp_at (d : Array Int) (i j t : Nat) (hi : i < d.size) (hj : j < d.size) (ht : t < d.size) : (Go.Sort.swp d i j)[t]! = if t = j then d[i]! else if t = i then d[j]! else d[t]! := by
  by_cases e : t = j
  · subst e; rw [if_pos rfl]; exact Go.Sort.swp_right d i t hj
  · rw [if_neg e]
    by_cases e2 : t = i
    · subst e2; rw [if_pos rfl]; exact Go.Sort.swp_left d t j hi e
    · rw [if_neg e2]; exact Go.Sort.swp_other d i j t e2 e
/-- 'data[i], data[j] = data[j], data[i]', the stores in this order. -/
theorem AD.swap (h : AD w g off d) {i j : Nat} (hi : i < d.size) (hj : j < d.size) : AD ((w.setCell ⟨g, off + i, none⟩ (.int .u8 d[j]!)).setCell ⟨g, off + j, none⟩ (.int .u8 d[i]!)) g off (Go.Sort.swp d i j) := by
  have h1 : ∀ t, t < d.size → (w.setCell ⟨g, off + i, none⟩ (.int .u8 d[j]!)).cell? ⟨g, off + t, none⟩ = some (if t = i then .int .u8 d[j]! else .int .u8 d[t]!) := fun t ht => by
    by_cases e : t = i
    · subst e; rw [World.cell?_setCell_same w _ _ (h.2 t ht).1, if_pos rfl]
    · rw [World.cell?_setCell_other w _ _ _ (fun q => e (by injection q; omega)), (h.2 t ht).1, if_neg e]
  refine ⟨by simpa [World.setCell] using h.1, fun t ht => ⟨?_, ?_⟩⟩
  · rw [swp_size] at ht
    rw [swp_at d i j t hi hj ht]
    by_cases e : t = j
    · subst e; rw [World.cell?_setCell_same _ _ _ (h1 t ht), if_pos rfl]
    · rw [World.cell?_setCell_other _ _ _ _ (fun q => e (by injection q; omega)), h1 t ht, if_neg e]
      by_cases e2 : t = i
      · rw [if_pos e2, if_pos e2]
      · rw [if_neg e2, if_neg e2]
  · rw [swp_size] at ht
    rw [World.frozen?_setCell, World.frozen?_setCell]; exact (h.2 t ht).2
end
def OneB (g : Nat) : Nat → Prop := fun c => c = g

end Go.Proofs.YthfjfhgeiggljaaDoor
