/-
  A rhythm with its beats in a block of their own.
-/
import Derived.Test.YtlejlcnemibgiaaFrm
import Derived.Test.YtlejlcnemibgiaaRw
import Derived.Deep.AppendLies
namespace Go.Proofs.Ytlejlcnemibgiaa
open Go.RowKit
set_option linter.unusedVariables false
set_option linter.unusedSimpArgs false

/-- A rhythm in a slice: its size, beats, and where they lie. -/
structure RV where
  n : Int
  xs : List Int
  A : Option Addr
  c : Nat
  b : Nat
instance : Inhabited RV := ⟨⟨0, [], none, 0, 0⟩⟩
def RV.slc (r : RV) : Value := .slice r.A r.xs.length r.c
def RV.cells (r : RV) : List Value := [.int .i64 r.n, r.slc]
def cellsR : List RV → List Value
  | [] => []
  | r :: rs => .int .i64 r.n :: r.slc :: cellsR rs
theorem cellsR_len : ∀ rs, (cellsR rs).length = rs.length * 2
  | [] => rfl
  | r :: rs => by simp [cellsR, cellsR_len rs]; omega
theorem cellsR_app : ∀ rs ss, cellsR (rs ++ ss) = cellsR rs ++ cellsR ss
  | [], ss => rfl
  | r :: rs, ss => by simp [cellsR, cellsR_app rs ss]
theorem cellsR_get : ∀ (rs : List RV) (i : Nat) (h : i < rs.length), (cellsR rs)[i * 2]? = some (.int .i64 rs[i].n) ∧ (cellsR rs)[i * 2 + 1]? = some rs[i].slc
  | r :: rs, 0, _ => ⟨rfl, rfl⟩
  | r :: rs, i + 1, h => by
    have := cellsR_get rs i (by simpa using h)
    rw [show (i + 1) * 2 = i * 2 + 1 + 1 by omega]
    simpa [cellsR] using this

/-- The beats of r lie in block r.b. -/
def RV.Lies (r : RV) (w : World) (base : Nat) : Prop :=
  r.xs.length ≤ 1048576 ∧ base ≤ r.b ∧ r.b < w.heap.size ∧ (0 < r.xs.length → r.A = some ⟨r.b, 0, none⟩ ∧ TabV w r.b r.xs.length (fun t => .int .i64 (r.xs.getD t 0)))
theorem RV.Lies.frm {r : RV} {w w' : World} {base : Nat} {S : Nat → Prop} (h : r.Lies w base) (hf : Frm S w w') (hS : ¬ S r.b) : r.Lies w' base :=
  ⟨h.1, h.2.1, Nat.lt_of_lt_of_le h.2.2.1 hf.size, fun hn => ⟨(h.2.2.2 hn).1, (h.2.2.2 hn).2.frm hf hS⟩⟩
theorem RV.Lies.mono {r : RV} {w : World} {base base' : Nat} (h : r.Lies w base) (hb : base' ≤ base) : r.Lies w base' := ⟨h.1, by have := h.2.1; omega, h.2.2⟩
theorem RV.Lies.ints {r : RV} {w : World} {base : Nat} (h : r.Lies w base) (hf : ∀ x ∈ r.xs, Fits x) : Ints w w.heap.size r.A r.xs := by
  refine ⟨by have := h.1; unfold maxLen; omega, hf, fun hn => ?_⟩
  obtain ⟨e, ht⟩ := h.2.2.2 hn
  exact ⟨r.b, 0, e, ht.1, fun i hi => by rw [Nat.zero_add]; exact (ht.2 i hi).1⟩
theorem RW.rv {w : World} {base : Nat} {A : Option Addr} {xs : List Int} (h : RW w base A xs) (hb : base < w.heap.size) (n : Int) (c : Nat) : ∃ b, (RV.mk n xs A c b).Lies w base := by
  by_cases hn : 0 < xs.length
  · obtain ⟨b, e, hge, ht⟩ := h.2 hn
    exact ⟨b, h.1, hge, ht.1, fun _ => ⟨e, ht.tabV⟩⟩
  · exact ⟨base, h.1, Nat.le_refl _, hb, fun h' => absurd h' hn⟩

end Go.Proofs.Ytlejlcnemibgiaa
