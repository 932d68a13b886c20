/-
  A rhythm that a call hands back, its beats in memory of the call's own.
-/
import Derived.Test.YthookknmeajojaaGreatDoorTab
import Derived.Test.YthookknmeajojaaGreatDoorOwn
import Derived.Test.YthookknmeajojaaGreatDoorCells
namespace Go.Proofs.YthookknmeajojaaGreatDoor
open Go.RowKit
set_option linter.unusedVariables false
set_option linter.unusedSimpArgs false

/-- The rhythm that a call hands back: its beats in memory of the call's own. -/
def RW (w : World) (base : Nat) (A : Option Addr) (xs : List Int) : Prop :=
  xs.length ≤ 1048576 ∧ (0 < xs.length → ∃ b, A = some ⟨b, 0, none⟩ ∧ base ≤ b ∧ Tab w b xs.length (fun t => xs.getD t 0))
theorem RW.below {w w' : World} {base : Nat} {A : Option Addr} {xs : List Int} (h : RW w base A xs) (hb : Below w.heap.size w w') : RW w' base A xs := by
  refine ⟨h.1, fun hn => ?_⟩
  obtain ⟨b, e, hge, ht⟩ := h.2 hn
  exact ⟨b, e, hge, ht.below hb ht.1⟩
theorem RW.ints {w : World} {base : Nat} {A : Option Addr} {xs : List Int} (h : RW w base A xs) (hf : ∀ x ∈ xs, Fits x) : Ints w w.heap.size A xs := by
  refine ⟨by have := h.1; unfold maxLen; omega, hf, fun hn => ?_⟩
  obtain ⟨b, e, _, ht⟩ := h.2 hn
  exact ⟨b, 0, e, ht.1, fun i hi => by rw [Nat.zero_add]; exact (ht.2 i hi).1⟩
theorem OwnI.rw_ {w : World} {base : Nat} {A : Option Addr} {cap : Nat} {xs : List Int} (h : OwnI w base (.slice A xs.length cap) xs) (hl : xs.length ≤ 1048576) : RW w base A xs := by
  refine ⟨hl, fun hn => ?_⟩
  rcases h.2 with ⟨hv, h0⟩ | ⟨g, cap', cur, hv, hge, hh, hnc, hm, hsz, hxs⟩
  · omega
  · have hA : A = some ⟨g, 0, none⟩ := by injection hv
    subst hA
    refine ⟨g, rfl, hge, (h.lt g rfl).2, fun t ht => ⟨?_, ?_⟩⟩
    · have := World.ownsRow.cells h (g := g) rfl t (.int .i64 (xs.getD t 0)) (by rw [List.getElem?_map, List.getElem?_eq_getElem ht]; simp [List.getD_eq_getElem?_getD, ht])
      rwa [Go.WideShapes.add_plain, Nat.zero_add] at this
    · exact frozen_of_row _ _ _ _ _ hh
theorem RW.mono {w : World} {base base' : Nat} {A : Option Addr} {xs : List Int} (h : RW w base A xs) (hb : base' ≤ base) : RW w base' A xs :=
  ⟨h.1, fun hn => by obtain ⟨b, e, hge, ht⟩ := h.2 hn; exact ⟨b, e, by omega, ht⟩⟩

def RetRh1 (w : World) (n : Int) (xs : List Int) (e : Ending) (w' : World) : Prop := ∃ A cap, e = .returned (.agg #[.int .i64 n, .slice A xs.length cap]) ∧ RW w' w.heap.size A xs ∧ Below w.heap.size w w'
def RetRh2 (w : World) (n : Int) (xs : List Int) (ok : Bool) (e : Ending) (w' : World) : Prop := ∃ A cap, e = .returned (.tuple #[.agg #[.int .i64 n, .slice A xs.length cap], .bool ok]) ∧ RW w' w.heap.size A xs ∧ Below w.heap.size w w'
theorem RW.far {w : World} {base : Nat} {A : Option Addr} {xs : List Int} (h : RW w base A xs) {p : Addr} (hp : p.block < base) (u : Value) : RW (w.setCell p u) base A xs :=
  ⟨h.1, fun hn => by obtain ⟨b, e, hge, ht⟩ := h.2 hn; exact ⟨b, e, hge, ht.far (by omega) u⟩⟩

end Go.Proofs.YthookknmeajojaaGreatDoor
