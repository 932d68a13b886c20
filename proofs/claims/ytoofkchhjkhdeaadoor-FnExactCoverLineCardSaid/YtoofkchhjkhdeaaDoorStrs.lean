/-
  Slices of strings: one that reads as a list of texts; one that the call itself grows.
-/
import Derived.Test.YtoofkchhjkhdeaaDoorStr
import Derived.Test.YtoofkchhjkhdeaaDoorOwn
import Derived.Laws.AppendOwnNone
namespace Go.Proofs.YtoofkchhjkhdeaaDoor
open Go.RowKit
set_option linter.unusedVariables false
set_option linter.unusedSimpArgs false

theorem Tryd.infoString : (Tryd.prog.info? 9).map (fun i => (i.zero, i.size, i.bytes)) = some (some (.string ByteArray.empty), 1, 16) := by kernel_rfl

abbrev Txt := List UInt8
def emS (l : Txt) : Value := .string (mkS l)

/-- A slice of strings that lies below block B and reads as the list. -/
def Strs (w : World) (B : Nat) (A : Option Addr) (xs : List Txt) : Prop :=
  xs.length ≤ 1048576 ∧ (0 < xs.length → ∃ b off, A = some ⟨b, off, none⟩ ∧ b < B ∧ ∀ i, i < xs.length → w.cell? ⟨b, off + i, none⟩ = some (emS (xs.getD i [])))
section
variable {w w' : World} {B B' : Nat} {A : Option Addr} {xs : List Txt}
theorem Strs.below (h : Strs w B A xs) (hb : Below B w w') : Strs w' B A xs :=
  ⟨h.1, fun hn => by
    obtain ⟨b, off, rfl, hlt, hc⟩ := h.2 hn
    exact ⟨b, off, rfl, hlt, fun i hi => (hb.cell (p := ⟨b, off + i, none⟩) hlt).trans (hc i hi)⟩⟩
theorem Strs.mono (h : Strs w B A xs) (hB : B ≤ B') : Strs w B' A xs :=
  ⟨h.1, fun hn => by
    obtain ⟨b, off, rfl, hlt, hc⟩ := h.2 hn
    exact ⟨b, off, rfl, by omega, hc⟩⟩
theorem Strs.lift (h : Strs w w.heap.size A xs) (hb : Below w.heap.size w w') : Strs w' w'.heap.size A xs := (h.below hb).mono hb.size
theorem Strs.drewN (h : Strs w B A xs) (n : Nat) : Strs (w.drewN n) B A xs := h
theorem Strs.nil (w : World) (B : Nat) (A : Option Addr) : Strs w B A [] := ⟨Nat.zero_le _, fun h => absurd h (by simp)⟩
theorem Strs.take (h : Strs w B A xs) (k : Nat) : Strs w B A (xs.take k) :=
  ⟨by rw [List.length_take]; have := h.1; omega, fun hn => by
    rw [List.length_take] at hn
    obtain ⟨b, off, rfl, hlt, hc⟩ := h.2 (by omega)
    refine ⟨b, off, rfl, hlt, fun i hi => ?_⟩
    rw [List.length_take] at hi
    rw [hc i (by omega), List.getD_eq_getElem?_getD, List.getD_eq_getElem?_getD, List.getElem?_take_of_lt (by omega)]⟩
theorem Strs.drop {b off : Nat} (h : Strs w B (some ⟨b, off, none⟩) xs) (k : Nat) : Strs w B (some ⟨b, off + k, none⟩) (xs.drop k) :=
  ⟨by rw [List.length_drop]; have := h.1; omega, fun hn => by
    rw [List.length_drop] at hn
    obtain ⟨b', off', e, hlt, hc⟩ := h.2 (by omega)
    injection e with e
    injection e with e1 e2
    subst e1 e2
    refine ⟨b, off + k, rfl, hlt, fun i hi => ?_⟩
    rw [List.length_drop] at hi
    rw [Nat.add_assoc, hc (k + i) (by omega), List.getD_eq_getElem?_getD, List.getD_eq_getElem?_getD, List.getElem?_drop]⟩
end

/-- v is a slice of strings of the call's own, in blocks from base on, that holds the list. -/
def OwnS (w : World) (base : Nat) (v : Value) (xs : List Txt) : Prop := w.ownsRow base 9 1 v xs.length (xs.map emS)
section
variable {w w' : World} {base : Nat} {v : Value} {xs : List Txt}
theorem OwnS.nil (w : World) (base : Nat) : OwnS w base (.slice none 0 0) [] := World.ownsRow_nil _ _ _ _
theorem OwnS.empty_at (w : World) (base g : Nat) (hg : w.heap.size = g) (hb : base ≤ g) : OwnS (w.alloc (.cells #[] 9)) base (.slice (some ⟨g, 0, none⟩) 0 0) [] := by
  subst hg
  exact ⟨rfl, .inr ⟨w.heap.size, 0, #[], rfl, hb, heap_alloc_new w _, Nat.le_refl _, Nat.zero_le _, rfl, rfl⟩⟩
theorem OwnS.alloc (h : OwnS w base v xs) (o : Obj) : OwnS (w.alloc o) base v xs := World.ownsRow.alloc h o
theorem OwnS.drew (h : OwnS w base v xs) : OwnS w.drew base v xs := h
theorem OwnS.drewN (h : OwnS w base v xs) (n : Nat) : OwnS (w.drewN n) base v xs := h
theorem OwnS.mono {base' : Nat} (h : OwnS w base v xs) (hb : base' ≤ base) : OwnS w base' v xs := by
  refine ⟨h.1, ?_⟩
  rcases h.2 with h | ⟨g, cap, cur, e, hg, r⟩
  · exact .inl h
  · exact .inr ⟨g, cap, cur, e, by omega, r⟩
theorem OwnS.form (h : OwnS w base v xs) : ∃ A cap, v = .slice A xs.length cap ∧ xs.length ≤ cap ∧ (0 < cap → ∃ g, A = some ⟨g, 0, none⟩ ∧ base ≤ g ∧ g < w.heap.size) ∧ cap ≤ maxLen := by
  rcases h.2 with ⟨rfl, h0⟩ | ⟨g, cap, cur, rfl, hg, hh, hnc, hm, _⟩
  · exact ⟨none, 0, by rw [h0], by omega, fun h => by omega, by unfold maxLen; omega⟩
  · exact ⟨some ⟨g, 0, none⟩, cap, rfl, hnc, fun _ => ⟨g, rfl, hg, (Array.getElem?_eq_some_iff.1 hh).1⟩, hm⟩
theorem OwnS.lt (h : OwnS w base v xs) : ∀ k, v.ownBlock = some k → base ≤ k ∧ k < w.heap.size := World.ownsRow.lt h
theorem OwnS.grown (h : OwnS w base v xs) (hb : Below w.heap.size w w') : OwnS w' base v xs := by
  refine ⟨h.1, ?_⟩
  rcases h.2 with ⟨rfl, h0⟩ | ⟨g, cap, cur, rfl, hg, hh, r⟩
  · exact .inl ⟨rfl, h0⟩
  · have hlt : g < w.heap.size := (Array.getElem?_eq_some_iff.1 hh).1
    exact .inr ⟨g, cap, cur, rfl, hg, by rw [hb.block g hlt]; exact hh, r⟩
theorem OwnS.strs {A : Option Addr} {cap : Nat} (h : OwnS w base (.slice A xs.length cap) xs) (hl : xs.length ≤ 1048576) : Strs w w.heap.size A xs := by
  rcases h.2 with ⟨hv, h0⟩ | ⟨g, cap', cur, hv, _, hh, hnc, hm, hsz, hxs⟩
  · exact ⟨hl, fun hn => absurd h0 (by omega)⟩
  · refine ⟨hl, fun hn => ?_⟩
    have hA : A = some ⟨g, 0, none⟩ := by injection hv
    subst hA
    have hlt := (h.lt g rfl).2
    refine ⟨g, 0, rfl, hlt, fun i hi => ?_⟩
    have := World.ownsRow.cells h (g := g) rfl i (emS (xs.getD i [])) (by rw [List.getElem?_map, List.getElem?_eq_getElem hi]; simp [List.getD_eq_getElem?_getD, hi])
    rwa [Go.WideShapes.add_plain] at this
end

theorem news_strs {w : World} {b off : Nat} {ys : List Txt} (hc : ∀ i, i < ys.length → w.cell? ⟨b, off + i, none⟩ = some (emS (ys.getD i []))) :
    (∀ j u, (ys.map emS)[j]? = some u → w.cell? ((⟨b, off, none⟩ : Addr).add j) = some u) ∧ ∀ u ∈ ys.map emS, u.oneCell' = true := by
  refine ⟨fun j u hu => ?_, fun u hu => ?_⟩
  · rw [List.getElem?_map] at hu
    have hj : j < ys.length := by
      apply Classical.byContradiction
      intro hh
      rw [List.getElem?_eq_none (by omega)] at hu
      cases hu
    rw [Addr.add_lit, hc j hj, List.getD_eq_getElem?_getD]
    rw [List.getElem?_eq_getElem hj] at hu ⊢
    exact hu
  · obtain ⟨t, _, rfl⟩ := List.mem_map.1 hu
    rfl

theorem strs_cells (w : World) (g : Nat) (xs : List Txt) (hl : xs.length ≤ 1048576) (hg : w.heap.size = g) : Strs (w.alloc (.cells (xs.map emS).toArray 9)) (w.alloc (.cells (xs.map emS).toArray 9)).heap.size (some ⟨g, 0, none⟩) xs := by
  subst hg
  refine ⟨hl, fun _ => ⟨w.heap.size, 0, rfl, by simp, fun i hi => ?_⟩⟩
  rw [cell_of_row _ _ _ _ _ _ (heap_alloc_new w _), Nat.zero_add]
  rw [List.getElem?_toArray, List.getElem?_map, List.getElem?_eq_getElem hi, List.getD_eq_getElem?_getD, List.getElem?_eq_getElem hi]
  rfl

end Go.Proofs.YtoofkchhjkhdeaaDoor
