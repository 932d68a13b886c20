/-
  What a call leaves as it was, block by block; the laws' marks on ints, with that.
-/
import Derived.Test.YtoofkchhjkhdeaaDoorRlaw
namespace Go.Proofs.YtoofkchhjkhdeaaDoor
open Go.RowKit
set_option linter.unusedVariables false
set_option linter.unusedSimpArgs false

/-- Old blocks outside S are as they were. -/
structure Frm (S : Nat → Prop) (w w' : World) : Prop where
  os : w'.os = w.os
  tape : w'.tape = w.tape
  output : w'.output = w.output
  size : w.heap.size ≤ w'.heap.size
  block : ∀ c, c < w.heap.size → ¬ S c → w'.heap[c]? = w.heap[c]?

def Rng (a b : Nat) (c : Nat) : Prop := a ≤ c ∧ c < b

section
variable {S T : Nat → Prop} {w w' w1 w2 : World}
theorem Frm.refl (S : Nat → Prop) (w : World) : Frm S w w := ⟨rfl, rfl, rfl, Nat.le_refl _, fun _ _ _ => rfl⟩
theorem Frm.trans (h : Frm S w w1) (k : Frm S w1 w2) : Frm S w w2 :=
  ⟨k.os.trans h.os, k.tape.trans h.tape, k.output.trans h.output, Nat.le_trans h.size k.size, fun c hc hS => (k.block c (Nat.lt_of_lt_of_le hc h.size) hS).trans (h.block c hc hS)⟩
theorem Frm.mono (h : Frm S w w') (hS : ∀ c, S c → T c) : Frm T w w' := ⟨h.os, h.tape, h.output, h.size, fun c hc hT => h.block c hc (fun hs => hT (hS c hs))⟩
theorem Frm.of_below {B : Nat} (h : Below B w w') (hS : ∀ c, c < w.heap.size → B ≤ c → S c) : Frm S w w' :=
  ⟨h.os, h.tape, h.output, h.size, fun c hc hn => h.block c (by
    apply Classical.byContradiction
    intro hh
    exact hn (hS c hc (by omega)))⟩
theorem Frm.pure (h : Below w.heap.size w w') (S : Nat → Prop) : Frm S w w' := Frm.of_below h (fun c h1 h2 => by omega)
theorem Frm.below {B : Nat} (h : Frm S w w') (hS : ∀ c, S c → B ≤ c) (hB : B ≤ w.heap.size) : Below B w w' :=
  ⟨h.os, h.tape, h.output, h.size, fun c hc => h.block c (by omega) (fun hs => by have := hS c hs; omega)⟩
theorem Frm.setCell (h : Frm S w w') {p : Addr} (hp : S p.block) (u : Value) : Frm S w (w'.setCell p u) :=
  ⟨h.os, h.tape, h.output, by simpa [World.setCell] using h.size, fun c hc hS => (Below.heap_setCell w' p u c (fun e => by subst e; exact hS hp)).trans (h.block c hc hS)⟩
theorem Below.drew5_ {B : Nat} {a w : World} (h : Below B a w) : Below B a w.drew := ⟨h.os, h.tape, h.output, h.size, h.block⟩
theorem Frm.alloc (h : Frm S w w') (o : Obj) : Frm S w (w'.alloc o) := h.trans (Frm.pure ((Below.refl _ _).alloc (Nat.le_refl _) o) S)
theorem Frm.drew (h : Frm S w w') : Frm S w w'.drew := ⟨h.os, h.tape, h.output, h.size, h.block⟩
theorem Frm.drewN (h : Frm S w w') (n : Nat) : Frm S w (w'.drewN n) := ⟨h.os, h.tape, h.output, h.size, h.block⟩
theorem Frm.cell (h : Frm S w w') {c o : Nat} (hc : c < w.heap.size) (hS : ¬ S c) : w'.cell? ⟨c, o, none⟩ = w.cell? ⟨c, o, none⟩ := World.cell?_of_block (a := ⟨c, o, none⟩) (h.block c hc hS)
theorem Frm.frozen (h : Frm S w w') {c o : Nat} (hc : c < w.heap.size) (hS : ¬ S c) : w'.frozen? ⟨c, o, none⟩ = w.frozen? ⟨c, o, none⟩ := World.frozen?_of_block (a := ⟨c, o, none⟩) (h.block c hc hS)
end

/-- Cells 0 .. N-1 of block b hold f, and may be written. -/
def TabV (w : World) (b N : Nat) (f : Nat → Value) : Prop := b < w.heap.size ∧ ∀ t, t < N → w.cell? ⟨b, t, none⟩ = some (f t) ∧ w.frozen? ⟨b, t, none⟩ = false
section
variable {w w' : World} {b N : Nat} {f g : Nat → Value} {S : Nat → Prop}
theorem TabV.frm (h : TabV w b N f) (hf : Frm S w w') (hb : ¬ S b) : TabV w' b N f :=
  ⟨Nat.lt_of_lt_of_le h.1 hf.size, fun t ht => ⟨(hf.cell h.1 hb).trans (h.2 t ht).1, (hf.frozen h.1 hb).trans (h.2 t ht).2⟩⟩
theorem TabV.get (h : TabV w b N f) {t : Nat} (ht : t < N) {v : Value} (hv : f t = v) : w.cell? ⟨b, t, none⟩ = some v := by rw [← hv]; exact (h.2 t ht).1
theorem TabV.congr (h : TabV w b N f) (hfg : ∀ t, t < N → f t = g t) : TabV w b N g := ⟨h.1, fun t ht => ⟨by rw [← hfg t ht]; exact (h.2 t ht).1, (h.2 t ht).2⟩⟩
theorem TabV.set_ (h : TabV w b N f) (j : Nat) (u : Value) (hj : j < N) (hu : g j = u) (hg : ∀ t, t < N → t ≠ j → g t = f t) : TabV (w.setCell ⟨b, j, none⟩ u) b N g := by
  refine ⟨by simpa [World.setCell] using h.1, fun t ht => ⟨?_, ?_⟩⟩
  · by_cases e : t = j
    · subst e
      rw [World.cell?_setCell_same w _ _ (h.2 t ht).1, hu]
    · rw [World.cell?_setCell_other w _ _ _ (fun q => e (by injection q; omega)), (h.2 t ht).1, hg t ht e]
  · rw [World.frozen?_setCell]; exact (h.2 t ht).2
theorem Tab.tabV {f : Nat → Int} (h : Tab w b N f) : TabV w b N (fun t => .int .i64 (f t)) := h
end

/-- A list's block, if it has one, lies between base and top. -/
def HeldV (w : World) (A : Option Addr) (N : Nat) (f : Nat → Value) (base top : Nat) : Prop :=
  0 < N → ∃ b, A = some ⟨b, 0, none⟩ ∧ base ≤ b ∧ b < top ∧ TabV w b N f
theorem HeldV.frm {w w' : World} {A : Option Addr} {N base top : Nat} {f : Nat → Value} {S : Nat → Prop} (h : HeldV w A N f base top) (hf : Frm S w w') (hS : ∀ c, base ≤ c → c < top → ¬ S c) : HeldV w' A N f base top := by
  intro hn
  obtain ⟨b, e, h1, h2, h3⟩ := h hn
  exact ⟨b, e, h1, h2, h3.frm hf (hS b h1 h2)⟩
theorem HeldV.congr {w : World} {A : Option Addr} {N base top : Nat} {f g : Nat → Value} (h : HeldV w A N f base top) (hfg : ∀ t, t < N → f t = g t) : HeldV w A N g base top := by
  intro hn
  obtain ⟨b, e, h1, h2, h3⟩ := h hn
  exact ⟨b, e, h1, h2, h3.congr hfg⟩

end Go.Proofs.YtoofkchhjkhdeaaDoor
