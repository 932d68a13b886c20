/-
  The laws' own marks: a block of ints written with running numbers, and the test that it still holds them.
-/
import Derived.Test.YtlejlcnemibgiaaGreatTab
import Derived.Test.YtlejlcnemibgiaaGreatRlaw
namespace Go.Proofs.YtlejlcnemibgiaaGreat
open Go.RowKit
set_option linter.unusedVariables false
set_option linter.unusedSimpArgs false

/-- A list's block, if it has one, lies between base and top. -/
def Held (w : World) (base top : Nat) (A : Option Addr) (N : Nat) (f : Nat → Int) : Prop :=
  0 < N → ∃ b, A = some ⟨b, 0, none⟩ ∧ base ≤ b ∧ b < top ∧ Tab w b N f

theorem Held.below {w w' : World} {base top : Nat} {A : Option Addr} {N : Nat} {f : Nat → Int} (h : Held w base top A N f) {B : Nat} (hb : Below B w w') (ht : top ≤ B) : Held w' base top A N f := by
  intro hn
  obtain ⟨b, e, h1, h2, h3⟩ := h hn
  exact ⟨b, e, h1, h2, h3.below hb (by omega)⟩

def SameFrom (top : Nat) (w w' : World) : Prop := w.heap.size ≤ w'.heap.size ∧ ∀ c o, top ≤ c → w'.cell? ⟨c, o, none⟩ = w.cell? ⟨c, o, none⟩

theorem sameFrom_set {top : Nat} {w w' : World} (h : SameFrom top w w') (p : Addr) (hp : p.block < top) (u : Value) : SameFrom top w (w'.setCell p u) := by
  refine ⟨by simpa [World.setCell] using h.1, fun c o hc => ?_⟩
  rw [World.cell?_setCell_other _ _ _ _ (fun e => by subst e; simp at hp; omega)]
  exact h.2 c o hc

end Go.Proofs.YtlejlcnemibgiaaGreat
