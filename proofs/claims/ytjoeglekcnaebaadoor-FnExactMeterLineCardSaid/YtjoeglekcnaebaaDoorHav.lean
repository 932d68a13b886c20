/-
  A rhythm in a box, its beats readable: one word for both.
-/
import Derived.Test.YtjoeglekcnaebaaDoorRw
import Derived.Test.YtjoeglekcnaebaaDoorCells
import Derived.Test.YtjoeglekcnaebaaDoorFrm
namespace Go.Proofs.YtjoeglekcnaebaaDoor
open Go.RowKit
set_option linter.unusedVariables false
set_option linter.unusedSimpArgs false

def Hav (w : World) (N : Nat) (g : Nat) (A : Option Addr) (c : Nat) (xs : List Int) : Prop := Cells2 w g (.int .i64 N) (.slice A xs.length c) ∧ Ints w w.heap.size A xs
theorem Hav.lift {w w' : World} {N g c : Nat} {A : Option Addr} {xs : List Int} (h : Hav w N g A c xs) (hb : Below w.heap.size w w') : Hav w' N g A c xs :=
  ⟨h.1.below hb h.1.2.2.2.2, h.2.lift hb⟩
theorem Hav.drew {w : World} {N g c : Nat} {A : Option Addr} {xs : List Int} (h : Hav w N g A c xs) : Hav w.drew N g A c xs := h
theorem Hav.alloc {w : World} {N g c : Nat} {A : Option Addr} {xs : List Int} (h : Hav w N g A c xs) (o : Obj) : Hav (w.alloc o) N g A c xs :=
  h.lift ((Below.refl _ _).alloc (Nat.le_refl _) o)
theorem Hav.boxed {w : World} {A : Option Addr} {xs : List Int} (h : Ints w w.heap.size A xs) (N c : Nat) : Hav (w.alloc (.cells #[.int .i64 N, .slice A xs.length c] 27)) N w.heap.size A c xs :=
  ⟨Cells2.new w _ _ _, h.lift ((Below.refl _ _).alloc (Nat.le_refl _) _)⟩
theorem Below.drewH_ {B : Nat} {a w : World} (h : Below B a w) : Below B a w.drew := ⟨h.os, h.tape, h.output, h.size, h.block⟩

/-- A rhythm in a row of rhythms, its beats readable. -/
def HavR (w : World) (N : Nat) (g o : Nat) (A : Option Addr) (c : Nat) (xs : List Int) : Prop := (g < w.heap.size ∧ w.cell? ⟨g, o, none⟩ = some (.int .i64 N) ∧ w.cell? ⟨g, o + 1, none⟩ = some (.slice A xs.length c)) ∧ Ints w w.heap.size A xs
theorem HavR.lift {w w' : World} {N g o c : Nat} {A : Option Addr} {xs : List Int} (h : HavR w N g o A c xs) (hb : Below w.heap.size w w') : HavR w' N g o A c xs :=
  ⟨⟨Nat.lt_of_lt_of_le h.1.1 hb.size, (hb.cell (p := ⟨g, o, none⟩) h.1.1).trans h.1.2.1, (hb.cell (p := ⟨g, o + 1, none⟩) h.1.1).trans h.1.2.2⟩, h.2.lift hb⟩
theorem HavR.drew {w : World} {N g o c : Nat} {A : Option Addr} {xs : List Int} (h : HavR w N g o A c xs) : HavR w.drew N g o A c xs := h

end Go.Proofs.YtjoeglekcnaebaaDoor
