/-
  Several texts of this proof in one: Own, Cells, Rw, Rem, Rlaw, Per, SpcR.
-/
import Derived.Test.YthookknmeajojaaGreatDoorEaB
import Derived.StillTailTactics
import Derived.Deep.RegionLaw
import Derived.Test.YthookknmeajojaaGreatDoorIntW
import Derived.Deep.Light
import Derived.Deep.QuietTactic
import Derived.BigQuiet
namespace Go.Proofs.YthookknmeajojaaGreatDoor
open Go.RowKit
set_option linter.unusedVariables false
set_option linter.unusedSimpArgs false

/-- v is a slice of the call's own, in blocks from base on, that holds the list. -/
def OwnI (w : World) (base : Nat) (v : Value) (xs : List Int) : Prop := w.ownsRow base 3 1 v xs.length (xs.map (Value.int .i64))

theorem OwnI.nil (w : World) (base : Nat) : OwnI w base (.slice none 0 0) [] := World.ownsRow_nil _ _ _ _
theorem OwnI.empty (w : World) (base : Nat) (hb : base ≤ w.heap.size) : OwnI (w.alloc (.cells #[] 3)) base (.slice (some ⟨w.heap.size, 0, none⟩) 0 0) [] :=
  ⟨rfl, .inr ⟨w.heap.size, 0, #[], rfl, hb, heap_alloc_new w _, Nat.le_refl _, Nat.zero_le _, rfl, rfl⟩⟩
theorem OwnI.empty_at (w : World) (base g : Nat) (hg : w.heap.size = g) (hb : base ≤ g) : OwnI (w.alloc (.cells #[] 3)) base (.slice (some ⟨g, 0, none⟩) 0 0) [] := by
  subst hg; exact OwnI.empty w base hb
theorem OwnI.alloc {w : World} {base : Nat} {v : Value} {xs : List Int} (h : OwnI w base v xs) (o : Obj) : OwnI (w.alloc o) base v xs := World.ownsRow.alloc h o
theorem OwnI.drew {w : World} {base : Nat} {v : Value} {xs : List Int} (h : OwnI w base v xs) : OwnI w.drew base v xs := h
theorem OwnI.drewN {w : World} {base : Nat} {v : Value} {xs : List Int} (h : OwnI w base v xs) (n : Nat) : OwnI (w.drewN n) base v xs := h
theorem OwnI.form {w : World} {base : Nat} {v : Value} {xs : List Int} (h : OwnI w base v xs) : ∃ A cap, v = .slice A xs.length cap := by
  rcases h.2 with ⟨rfl, h0⟩ | ⟨g, cap, cur, rfl, _⟩
  · exact ⟨none, 0, by rw [h0]⟩
  · exact ⟨some ⟨g, 0, none⟩, cap, rfl⟩
theorem OwnI.lt {w : World} {base : Nat} {v : Value} {xs : List Int} (h : OwnI w base v xs) : ∀ k, v.ownBlock = some k → base ≤ k ∧ k < w.heap.size := World.ownsRow.lt h
theorem OwnI.grown {w w' : World} {base : Nat} {v : Value} {xs : List Int} (h : OwnI w base v xs) (hb : Below w.heap.size w w') : OwnI w' base v xs := by
  refine ⟨h.1, ?_⟩
  rcases h.2 with ⟨rfl, h0⟩ | ⟨g, cap, cur, rfl, hg, hh, r⟩
  · exact .inl ⟨rfl, h0⟩
  · have hlt : g < w.heap.size := by
      rcases Nat.lt_or_ge g w.heap.size with h | h'
      · exact h
      · rw [Array.getElem?_eq_none h'] at hh; cases hh
    exact .inr ⟨g, cap, cur, rfl, hg, by rw [hb.block g hlt]; exact hh, r⟩
theorem OwnI.ints {w : World} {base : Nat} {A : Option Addr} {cap : Nat} {xs : List Int} (h : OwnI w base (.slice A xs.length cap) xs) (hf : ∀ x ∈ xs, Fits x) : Ints w w.heap.size A xs := by
  rcases h.2 with ⟨hv, h0⟩ | ⟨g, cap', cur, hv, _, hh, hnc, hm, hsz, hxs⟩
  · exact ⟨by rw [h0]; exact Nat.zero_le _, hf, fun hn => absurd h0 (by omega)⟩
  · refine ⟨by omega, hf, fun hn => ?_⟩
    have hA : A = some ⟨g, 0, none⟩ := by injection hv
    subst hA
    have hlt := (h.lt g rfl).2
    refine ⟨g, 0, rfl, hlt, fun i hi => ?_⟩
    have := World.ownsRow.cells h (g := g) rfl i (.int .i64 (xs.getD i 0)) (by rw [List.getElem?_map, List.getElem?_eq_getElem hi]; simp [List.getD_eq_getElem?_getD, hi])
    rwa [Go.WideShapes.add_plain] at this

theorem bcellB {B : Nat} {W w1 : World} (hb : Below B W w1) : (∀ b o, b < B → w1.cell? ⟨b, o, none⟩ = W.cell? ⟨b, o, none⟩) ∧ (∀ b o, b < B → w1.frozen? ⟨b, o, none⟩ = W.frozen? ⟨b, o, none⟩) :=
  ⟨fun b o h => hb.cell (p := ⟨b, o, none⟩) h, fun b o h => hb.frozen (p := ⟨b, o, none⟩) h⟩

theorem cell_new1 (w : World) (v : Value) (t : TypeId) : (w.alloc (.cells #[v] t)).cell? ⟨w.heap.size, 0, none⟩ = some v := by
  rw [cell_of_row _ _ _ _ _ _ (heap_alloc_new w _)]; rfl

/-- 'append(s, y)' onto a slice of the call's own: what follows is walked at a slice and a world of which this is known. -/
theorem wpList_append_int {w : World} {ops : Array Oper} {rest : List Oper} {o : Oper} {a : Act} {Q : Exit → Act → World → Prop} (hgd : o.guard = none) (s x : Operand)
    (ho : o.op = .call { callee := .builtin .append, args := #[s, x], argTypes := #[24, 24] })
    (base : Nat) (v : Value) (xs : List Int) (hs : a.eval s = v) (hown : OwnI w base v xs) (g : Nat) (y : Int) (hx : a.eval x = .slice (some ⟨g, 0, none⟩) 1 1)
    (hcell : w.cell? ⟨g, 0, none⟩ = some (.int .i64 y)) (hlen : xs.length ≤ 1048576) (hbase : base ≤ w.heap.size)
    (h : ∀ v' w', OwnI w' base v' (xs ++ [y]) → Below base w w' → wpList Tryz.prog ops Q rest (a.put o.dst v') w') : wpList Tryz.prog ops Q (o :: rest) a w := by
  obtain ⟨i, hi, hz, hsz, hby⟩ := info_parts Tryz.infoInt
  refine wpList_append_own _ hgd s x _ ho base 3 i _ 1 8 Tryz.underlying24 hi hz hsz hby rfl (by omega) v xs.length _ hs hown ⟨g, 0, none⟩ 1 1 [.int .i64 y] hx rfl ?_ ?_ (by unfold maxLen; omega) (by omega) hbase ?_
  · intro j u hj
    match j, hj with
    | 0, hj =>
      simp at hj
      subst hj
      exact hcell
  · intro u hu
    simp at hu
    subst hu
    rfl
  · intro v' w' hown' hgrow _
    refine h v' w' ?_ ?_
    · unfold OwnI
      simpa using hown'
    · exact (Below.refl base w).grown hgrow hbase (fun k hk => (hown.lt k hk).1)

/-- The same inside a statement that draws its order. -/
theorem step_append_int {w : World} {ops : Array Oper} {o : Oper} {a : Act} {K : Act → World → Prop} {Q : Exit → Act → World → Prop} {E : Prop} (hgd : o.guard = none) (s x : Operand)
    (ho : o.op = .call { callee := .builtin .append, args := #[s, x], argTypes := #[24, 24] })
    (base : Nat) (v : Value) (xs : List Int) (hs : a.eval s = v) (hown : OwnI w base v xs) (g : Nat) (y : Int) (hx : a.eval x = .slice (some ⟨g, 0, none⟩) 1 1)
    (hcell : w.cell? ⟨g, 0, none⟩ = some (.int .i64 y)) (hlen : xs.length ≤ 1048576) (hbase : base ≤ w.heap.size)
    (h : ∀ v' w', OwnI w' base v' (xs ++ [y]) → Below base w w' → K (a.put o.dst v') w') : if Region.wanted o (yielded ops a.tmps) = true then Oper.wp Tryz.prog o a w K Q else E := by
  have hw : Region.wanted o (yielded ops a.tmps) = true := by simp [Region.wanted, hgd]
  rw [if_pos hw]
  obtain ⟨i, hi, hz, hsz, hby⟩ := info_parts Tryz.infoInt
  refine wp_append_own w s x _ ho base 3 i _ 1 8 Tryz.underlying24 hi hz hsz hby rfl (by omega) v xs.length _ hs hown ⟨g, 0, none⟩ 1 1 [.int .i64 y] hx rfl ?_ ?_ (by unfold maxLen; omega) (by omega) hbase ?_
  · intro j u hj
    match j, hj with
    | 0, hj =>
      simp at hj
      subst hj
      exact hcell
  · intro u hu
    simp at hu
    subst hu
    rfl
  · intro v' w' hown' hgrow _
    refine h v' w' ?_ ?_
    · unfold OwnI
      simpa using hown'
    · exact (Below.refl base w).grown hgrow hbase (fun k hk => (hown.lt k hk).1)

end Go.Proofs.YthookknmeajojaaGreatDoor

namespace Go.Proofs.YthookknmeajojaaGreatDoor
open Go.RowKit
set_option linter.unusedVariables false
set_option linter.unusedSimpArgs false

/-- A block of two cells that may be written. -/
def Cells2 (w : World) (g : Nat) (u v : Value) : Prop :=
  w.cell? ⟨g, 0, none⟩ = some u ∧ w.cell? ⟨g, 1, none⟩ = some v ∧ w.frozen? ⟨g, 0, none⟩ = false ∧ w.frozen? ⟨g, 1, none⟩ = false ∧ g < w.heap.size
section
variable {w w' : World} {g : Nat} {u v : Value}
theorem Cells2.below {B : Nat} (h : Cells2 w g u v) (hb : Below B w w') (hg : g < B) : Cells2 w' g u v :=
  ⟨(hb.cell (p := ⟨g, 0, none⟩) hg).trans h.1, (hb.cell (p := ⟨g, 1, none⟩) hg).trans h.2.1, (hb.frozen (p := ⟨g, 0, none⟩) hg).trans h.2.2.1, (hb.frozen (p := ⟨g, 1, none⟩) hg).trans h.2.2.2.1, Nat.lt_of_lt_of_le h.2.2.2.2 hb.size⟩
theorem Cells2.new (w : World) (u v : Value) (t : TypeId) : Cells2 (w.alloc (.cells #[u, v] t)) w.heap.size u v := by
  have hh : (w.alloc (.cells #[u, v] t)).heap[w.heap.size]? = some (.cells #[u, v] t (0, 0)) := heap_alloc_new w _
  exact ⟨by rw [cell_of_row _ _ _ _ _ _ hh]; rfl, by rw [cell_of_row _ _ _ _ _ _ hh]; rfl, frozen_of_row _ _ _ _ _ hh, frozen_of_row _ _ _ _ _ hh, by simp⟩
theorem Cells2.new_at (w : World) (u v : Value) (t : TypeId) (g : Nat) (hg : w.heap.size = g) : Cells2 (w.alloc (.cells #[u, v] t)) g u v := by subst hg; exact Cells2.new w u v t
theorem Cells2.alloc (h : Cells2 w g u v) (o : Obj) : Cells2 (w.alloc o) g u v := h.below ((Below.refl _ _).alloc (Nat.le_refl _) o) h.2.2.2.2
theorem Cells2.drewN (h : Cells2 w g u v) (n : Nat) : Cells2 (w.drewN n) g u v := h
theorem Cells2.far (h : Cells2 w g u v) {p : Addr} (hp : g ≠ p.block) (x : Value) : Cells2 (w.setCell p x) g u v := by
  have hh : (w.setCell p x).heap[g]? = w.heap[g]? := Below.heap_setCell w p x g hp
  refine ⟨?_, ?_, ?_, ?_, by simpa [World.setCell] using h.2.2.2.2⟩
  · rw [World.cell?_of_block (w := w) (w' := w.setCell p x) (a := ⟨g, 0, none⟩) hh]; exact h.1
  · rw [World.cell?_of_block (w := w) (w' := w.setCell p x) (a := ⟨g, 1, none⟩) hh]; exact h.2.1
  · rw [World.frozen?_of_block (w := w) (w' := w.setCell p x) (a := ⟨g, 0, none⟩) hh]; exact h.2.2.1
  · rw [World.frozen?_of_block (w := w) (w' := w.setCell p x) (a := ⟨g, 1, none⟩) hh]; exact h.2.2.2.1
theorem Cells2.set1 (h : Cells2 w g u v) (x : Value) : Cells2 (w.setCell ⟨g, 1, none⟩ x) g u x := by
  refine ⟨?_, World.cell?_setCell_same w _ _ h.2.1, ?_, ?_, by simpa [World.setCell] using h.2.2.2.2⟩
  · rw [World.cell?_setCell_other w _ _ _ (fun q => by injection q; omega)]; exact h.1
  · rw [World.frozen?_setCell]; exact h.2.2.1
  · rw [World.frozen?_setCell]; exact h.2.2.2.1
theorem OwnI.far {base : Nat} {x : Value} {xs : List Int} (h : OwnI w base x xs) {p : Addr} (hp : p.block < base) (y : Value) : OwnI (w.setCell p y) base x xs := ownsRow_setCell_below h hp y
end

theorem Cells2.grown {w w' : World} {g : Nat} {u v : Value} {r : Option Nat} (h : Cells2 w g u v) (hg : w.grownBy w' r) (hr : some g ≠ r) : Cells2 w' g u v := by
  have hh : w'.heap[g]? = w.heap[g]? := hg.block g h.2.2.2.2 hr
  refine ⟨?_, ?_, ?_, ?_, Nat.lt_of_lt_of_le h.2.2.2.2 hg.size⟩
  · rw [World.cell?_of_block (w := w) (w' := w') (a := ⟨g, 0, none⟩) hh]; exact h.1
  · rw [World.cell?_of_block (w := w) (w' := w') (a := ⟨g, 1, none⟩) hh]; exact h.2.1
  · rw [World.frozen?_of_block (w := w) (w' := w') (a := ⟨g, 0, none⟩) hh]; exact h.2.2.1
  · rw [World.frozen?_of_block (w := w) (w' := w') (a := ⟨g, 1, none⟩) hh]; exact h.2.2.2.1
theorem Cells2.set0 {w : World} {g : Nat} {u v : Value} (h : Cells2 w g u v) (x : Value) : Cells2 (w.setCell ⟨g, 0, none⟩ x) g x v := by
  refine ⟨World.cell?_setCell_same w _ _ h.1, ?_, ?_, ?_, by simpa [World.setCell] using h.2.2.2.2⟩
  · rw [World.cell?_setCell_other w _ _ _ (fun q => by injection q; omega)]; exact h.2.1
  · rw [World.frozen?_setCell]; exact h.2.2.1
  · rw [World.frozen?_setCell]; exact h.2.2.2.1

theorem news_ints {w : World} {b off : Nat} {ys : List Int} (hc : ∀ i, i < ys.length → w.cell? ⟨b, off + i, none⟩ = some (.int .i64 (ys.getD i 0))) :
    (∀ j u, (ys.map (Value.int .i64))[j]? = some u → w.cell? ((⟨b, off, none⟩ : Addr).add j) = some u) ∧ ∀ u ∈ ys.map (Value.int .i64), u.oneCell' = true := by
  refine ⟨fun j u hu => ?_, fun u hu => ?_⟩
  · rw [List.getElem?_map] at hu
    have hj : j < ys.length := by
      apply Classical.byContradiction
      intro hh
      rw [List.getElem?_eq_none (by omega)] at hu
      cases hu
    rw [Addr.add_lit, hc j hj, List.getD_eq_getElem?_getD]
    rw [List.getElem?_eq_getElem hj] at hu ⊢
    exact hu
  · obtain ⟨t, _, rfl⟩ := List.mem_map.1 hu
    rfl

/-- 'append(s, ys...)' onto a slice of the call's own. -/
theorem wpList_append_ints {w : World} {ops : Array Oper} {rest : List Oper} {o : Oper} {a : Act} {Q : Exit → Act → World → Prop} (hgd : o.guard = none) (s x : Operand)
    (ho : o.op = .call { callee := .builtin .append, args := #[s, x], argTypes := #[24, 24] })
    (base : Nat) (v : Value) (xs : List Int) (hs : a.eval s = v) (hown : OwnI w base v xs) (b off c : Nat) (ys : List Int) (hx : a.eval x = .slice (some ⟨b, off, none⟩) ys.length c)
    (hc : ∀ i, i < ys.length → w.cell? ⟨b, off + i, none⟩ = some (.int .i64 (ys.getD i 0))) (hlen : xs.length + ys.length ≤ 1000000000) (hbase : base ≤ w.heap.size)
    (h : ∀ v' w', OwnI w' base v' (xs ++ ys) → Below base w w' → w.grownBy w' v.ownBlock → wpList Tryz.prog ops Q rest (a.put o.dst v') w') : wpList Tryz.prog ops Q (o :: rest) a w := by
  obtain ⟨i, hi, hz, hsz, hby⟩ := info_parts Tryz.infoInt
  refine wpList_append_own _ hgd s x _ ho base 3 i _ 1 8 Tryz.underlying24 hi hz hsz hby rfl (by omega) v xs.length _ hs hown ⟨b, off, none⟩ ys.length c (ys.map (Value.int .i64)) hx (by simp) (news_ints hc).1 (news_ints hc).2 (by unfold maxLen; omega) (by omega) hbase ?_
  intro v' w' hown' hgrow _
  refine h v' w' ?_ ?_ hgrow
  · unfold OwnI
    rw [List.length_append, List.map_append]
    exact hown'
  · exact (Below.refl base w).grown hgrow hbase (fun k hk => (hown.lt k hk).1)

theorem step_append_ints {w : World} {ops : Array Oper} {o : Oper} {a : Act} {K : Act → World → Prop} {Q : Exit → Act → World → Prop} {E : Prop} (hgd : o.guard = none) (s x : Operand)
    (ho : o.op = .call { callee := .builtin .append, args := #[s, x], argTypes := #[24, 24] })
    (base : Nat) (v : Value) (xs : List Int) (hs : a.eval s = v) (hown : OwnI w base v xs) (b off c : Nat) (ys : List Int) (hx : a.eval x = .slice (some ⟨b, off, none⟩) ys.length c)
    (hc : ∀ i, i < ys.length → w.cell? ⟨b, off + i, none⟩ = some (.int .i64 (ys.getD i 0))) (hlen : xs.length + ys.length ≤ 1000000000) (hbase : base ≤ w.heap.size)
    (h : ∀ v' w', OwnI w' base v' (xs ++ ys) → Below base w w' → w.grownBy w' v.ownBlock → K (a.put o.dst v') w') : if Region.wanted o (yielded ops a.tmps) = true then Oper.wp Tryz.prog o a w K Q else E := by
  have hw : Region.wanted o (yielded ops a.tmps) = true := by simp [Region.wanted, hgd]
  rw [if_pos hw]
  obtain ⟨i, hi, hz, hsz, hby⟩ := info_parts Tryz.infoInt
  refine wp_append_own w s x _ ho base 3 i _ 1 8 Tryz.underlying24 hi hz hsz hby rfl (by omega) v xs.length _ hs hown ⟨b, off, none⟩ ys.length c (ys.map (Value.int .i64)) hx (by simp) (news_ints hc).1 (news_ints hc).2 (by unfold maxLen; omega) (by omega) hbase ?_
  intro v' w' hown' hgrow _
  refine h v' w' ?_ ?_ hgrow
  · unfold OwnI
    rw [List.length_append, List.map_append]
    exact hown'
  · exact (Below.refl base w).grown hgrow hbase (fun k hk => (hown.lt k hk).1)

end Go.Proofs.YthookknmeajojaaGreatDoor

namespace Go.Proofs.YthookknmeajojaaGreatDoor
open Go.RowKit
set_option linter.unusedVariables false
set_option linter.unusedSimpArgs false

/-- The rhythm that a call hands back: its beats in memory of the call's own. -/
def RW (w : World) (base : Nat) (A : Option Addr) (xs : List Int) : Prop :=
  xs.length ≤ 1048576 ∧ (0 < xs.length → ∃ b, A = some ⟨b, 0, none⟩ ∧ base ≤ b ∧ Tab w b xs.length (fun t => xs.getD t 0))
theorem RW.below {w w' : World} {base : Nat} {A : Option Addr} {xs : List Int} (h : RW w base A xs) (hb : Below w.heap.size w w') : RW w' base A xs := by
  refine ⟨h.1, fun hn => ?_⟩
  obtain ⟨b, e, hge, ht⟩ := h.2 hn
  exact ⟨b, e, hge, ht.below hb ht.1⟩
theorem RW.ints {w : World} {base : Nat} {A : Option Addr} {xs : List Int} (h : RW w base A xs) (hf : ∀ x ∈ xs, Fits x) : Ints w w.heap.size A xs := by
  refine ⟨by have := h.1; unfold maxLen; omega, hf, fun hn => ?_⟩
  obtain ⟨b, e, _, ht⟩ := h.2 hn
  exact ⟨b, 0, e, ht.1, fun i hi => by rw [Nat.zero_add]; exact (ht.2 i hi).1⟩
theorem OwnI.rw_ {w : World} {base : Nat} {A : Option Addr} {cap : Nat} {xs : List Int} (h : OwnI w base (.slice A xs.length cap) xs) (hl : xs.length ≤ 1048576) : RW w base A xs := by
  refine ⟨hl, fun hn => ?_⟩
  rcases h.2 with ⟨hv, h0⟩ | ⟨g, cap', cur, hv, hge, hh, hnc, hm, hsz, hxs⟩
  · omega
  · have hA : A = some ⟨g, 0, none⟩ := by injection hv
    subst hA
    refine ⟨g, rfl, hge, (h.lt g rfl).2, fun t ht => ⟨?_, ?_⟩⟩
    · have := World.ownsRow.cells h (g := g) rfl t (.int .i64 (xs.getD t 0)) (by rw [List.getElem?_map, List.getElem?_eq_getElem ht]; simp [List.getD_eq_getElem?_getD, ht])
      rwa [Go.WideShapes.add_plain, Nat.zero_add] at this
    · exact frozen_of_row _ _ _ _ _ hh
theorem RW.mono {w : World} {base base' : Nat} {A : Option Addr} {xs : List Int} (h : RW w base A xs) (hb : base' ≤ base) : RW w base' A xs :=
  ⟨h.1, fun hn => by obtain ⟨b, e, hge, ht⟩ := h.2 hn; exact ⟨b, e, by omega, ht⟩⟩

def RetRh1 (w : World) (n : Int) (xs : List Int) (e : Ending) (w' : World) : Prop := ∃ A cap, e = .returned (.agg #[.int .i64 n, .slice A xs.length cap]) ∧ RW w' w.heap.size A xs ∧ Below w.heap.size w w'
def RetRh2 (w : World) (n : Int) (xs : List Int) (ok : Bool) (e : Ending) (w' : World) : Prop := ∃ A cap, e = .returned (.tuple #[.agg #[.int .i64 n, .slice A xs.length cap], .bool ok]) ∧ RW w' w.heap.size A xs ∧ Below w.heap.size w w'
theorem RW.far {w : World} {base : Nat} {A : Option Addr} {xs : List Int} (h : RW w base A xs) {p : Addr} (hp : p.block < base) (u : Value) : RW (w.setCell p u) base A xs :=
  ⟨h.1, fun hn => by obtain ⟨b, e, hge, ht⟩ := h.2 hn; exact ⟨b, e, hge, ht.far (by omega) u⟩⟩

end Go.Proofs.YthookknmeajojaaGreatDoor

namespace Go.Proofs.YthookknmeajojaaGreatDoor
open Go.RowKit
set_option linter.unusedVariables false
set_option linter.unusedSimpArgs false

theorem rem_emod (k n : Int) : (k.tmod n + n) % n = k % n := by
  rw [Int.add_emod_right]
  have e := Int.mul_tdiv_add_tmod k n
  have : k.tmod n = k - n * k.tdiv n := by omega
  rw [this, Int.sub_mul_emod_self_left]

set_option maxHeartbeats 400000 in
theorem impl_remainder_any (k n : Int) (w : World) (hn : 1 ≤ n) (hn2 : n ≤ 1000000000) :
    Calls Tryz.prog 129 #[.int .i64 k, .int .i64 n] w fun e w' => e = .returned (.int .i64 (k % n)) ∧ w = w' := by
  have h0 : (n = 0) = False := by simp; omega
  have h1 := Int.lt_tmod_of_pos k (show 0 < n by omega)
  have h2 := Int.tmod_lt_of_pos k (show 0 < n by omega)
  have HR := Lib.hid (rem_emod k n)
  have h5 : IntKind.i64.wrap (k.tmod n) = k.tmod n := i64w (by omega)
  have h3 : IntKind.i64.wrap (k.tmod n + n) = k.tmod n + n := i64w (by omega)
  have h4 : (k.tmod n + n).tmod n = (k.tmod n + n) % n := Int.tmod_eq_emod_of_nonneg (by omega)
  have h6 : IntKind.i64.wrap ((k.tmod n + n) % n) = (k.tmod n + n) % n := i64w (by rw [HR.out]; have := Int.emod_nonneg k (show n ≠ 0 by omega); have := Int.emod_lt_of_pos k (show 0 < n by omega); omega)
  go_enter Tryz.func129, Tryz.ntmps129
  go_wp2
  go_ret
  exact ⟨ret_int (by have := HR.out; rw [Int.add_emod_right] at this; exact this), rfl⟩

end Go.Proofs.YthookknmeajojaaGreatDoor

namespace Go.Proofs.YthookknmeajojaaGreatDoor
open Go.RowKit
set_option linter.unusedVariables false
set_option linter.unusedSimpArgs false


theorem Tab.ints {w : World} {b : Nat} {xs : List Int} {B : Nat} (h : Tab w b xs.length (fun t => xs.getD t 0)) (hB : b < B) (hl : xs.length ≤ maxLen) (hf : ∀ x ∈ xs, Fits x) : Ints w B (some ⟨b, 0, none⟩) xs :=
  ⟨hl, hf, fun _ => ⟨b, 0, rfl, hB, fun i hi => by rw [Nat.zero_add]; exact (h.2 i hi).1⟩⟩

def eqB (xs ys : List Int) : Bool := decide (xs = ys)
theorem eqB_self (xs : List Int) : eqB xs xs = true := by simp [eqB]
theorem eqB_len {xs ys : List Int} (h : xs.length ≠ ys.length) : eqB xs ys = false := by
  unfold eqB; rw [decide_eq_false_iff_not]; exact fun e => h (by rw [e])
theorem eqB_at {xs ys : List Int} {k : Nat} (h : xs.getD k 0 ≠ ys.getD k 0) : eqB xs ys = false := by
  unfold eqB; rw [decide_eq_false_iff_not]; exact fun e => h (by rw [e])
theorem eqB_all {xs ys : List Int} (hl : xs.length = ys.length) (h : ∀ i, i < xs.length → xs.getD i 0 = ys.getD i 0) : eqB xs ys = true := by
  unfold eqB; rw [decide_eq_true_eq]
  refine List.ext_getElem hl fun i h1 h2 => ?_
  have := h i h1
  simpa [List.getD_eq_getElem?_getD, h1, h2] using this

end Go.Proofs.YthookknmeajojaaGreatDoor

namespace Go.Proofs.YthookknmeajojaaGreatDoor
set_option linter.unusedVariables false
set_option linter.unusedSimpArgs false

/-- The beats of a rhythm rotated by k: the pulses t with a beat on t - k. -/
def rotL (N : Nat) (bs : List Int) (k : Int) : List Int := ((List.range N).filter (fun t : Nat => hasB bs (((t : Int) - k) % N))).map Int.ofNat
theorem rotL_mem {N : Nat} {bs : List Int} {k x : Int} : x ∈ rotL N bs k ↔ ∃ t : Nat, t < N ∧ hasB bs (((t : Int) - k) % N) = true ∧ x = t := by
  unfold rotL
  rw [List.mem_map]
  constructor
  · rintro ⟨p, hp, rfl⟩
    rw [List.mem_filter, List.mem_range] at hp
    exact ⟨p, hp.1, hp.2, rfl⟩
  · rintro ⟨p, h1, h2, rfl⟩
    exact ⟨p, by rw [List.mem_filter, List.mem_range]; exact ⟨h1, h2⟩, rfl⟩
theorem rotL_sorted (N : Nat) (bs : List Int) (k : Int) : (rotL N bs k).Pairwise (fun a b => a < b) := by
  unfold rotL
  rw [List.pairwise_map]
  exact List.Pairwise.imp (fun {a b} h => by show (a : Int) < b; omega) (List.Pairwise.filter _ List.pairwise_lt_range)
theorem rotL_len (N : Nat) (bs : List Int) (k : Int) : (rotL N bs k).length ≤ N := by
  unfold rotL
  rw [List.length_map]
  exact Nat.le_trans (List.length_filter_le _ _) (by simp)

/-- Strictly ascending lists with the same members are one. -/
theorem asc_unique : ∀ {l m : List Int}, l.Pairwise (fun a b => a < b) → m.Pairwise (fun a b => a < b) → (∀ x, x ∈ l ↔ x ∈ m) → l = m
  | [], [], _, _, _ => rfl
  | [], y :: m, _, _, h => by have := (h y).2 (by simp); cases this
  | x :: l, [], _, _, h => by have := (h x).1 (by simp); cases this
  | x :: l, y :: m, hl, hm, h => by
    have hl' := List.pairwise_cons.1 hl
    have hm' := List.pairwise_cons.1 hm
    have hxy : x = y := by
      apply Classical.byContradiction
      intro hne
      have h1 : x ∈ m := by
        rcases List.mem_cons.1 ((h x).1 (by simp)) with e | e
        · exact absurd e hne
        · exact e
      have h2 : y ∈ l := by
        rcases List.mem_cons.1 ((h y).2 (by simp)) with e | e
        · exact absurd e.symm hne
        · exact e
      have a := hl'.1 y h2
      have b := hm'.1 x h1
      omega
    subst hxy
    rw [asc_unique hl'.2 hm'.2 (fun z => ⟨fun hz => by
      rcases List.mem_cons.1 ((h z).1 (by simp [hz])) with e | e
      · have := hl'.1 z hz; omega
      · exact e, fun hz => by
      rcases List.mem_cons.1 ((h z).2 (by simp [hz])) with e | e
      · have := hm'.1 z hz; omega
      · exact e⟩)]

theorem rhok_asc {n : Int} {bs : List Int} (h : RhOk n bs) : bs.Pairwise (fun a b => a < b) := by
  have hmono : ∀ d a, a + d < bs.length → 0 < d → bs.getD a 0 < bs.getD (a + d) 0 := by
    intro d
    induction d with
    | zero => intro a _ h; omega
    | succ d ih =>
      intro a ha _
      by_cases hd : d = 0
      · subst hd; exact h.2.2.2 a (by omega)
      · have h3 := ih a (by omega) (by omega)
        have h4 := h.2.2.2 (a + d) (by omega)
        rw [show a + d + 1 = a + (d + 1) by omega] at h4
        omega
  rw [List.pairwise_iff_getElem]
  intro i j hi hj hij
  have := hmono (j - i) i (by omega) (by omega)
  rw [show i + (j - i) = j by omega, List.getD_eq_getElem?_getD, List.getElem?_eq_getElem hi, List.getD_eq_getElem?_getD, List.getElem?_eq_getElem hj] at this
  exact this
theorem rhok_range {n : Int} {bs : List Int} (h : RhOk n bs) : ∀ x ∈ bs, 0 ≤ x ∧ x < n := by
  intro x hx
  obtain ⟨i, hi, rfl⟩ := List.getElem_of_mem hx
  have := h.2.2.1 i hi
  rw [List.getD_eq_getElem?_getD, List.getElem?_eq_getElem hi] at this
  exact this

/-- A rotation is the rhythm itself exactly if each beat has a beat k pulses on. -/
theorem rotL_same {N : Nat} {bs : List Int} (h : RhOk N bs) (k : Int) : rotL N bs k = bs ↔ ∀ t : Nat, t < N → hasB bs (((t : Int) - k) % N) = hasB bs (t : Int) := by
  constructor
  · intro e t ht
    have h1 : ((t : Int) ∈ rotL N bs k) ↔ ((t : Int) ∈ bs) := by rw [e]
    rw [rotL_mem] at h1
    unfold hasB at *
    rw [Bool.eq_iff_iff, decide_eq_true_eq, decide_eq_true_eq, ← h1]
    constructor
    · intro hh
      exact ⟨t, ht, by rw [decide_eq_true_eq]; exact hh, rfl⟩
    · rintro ⟨t', ht', hh, e'⟩
      have : t = t' := by omega
      subst this
      rwa [decide_eq_true_eq] at hh
  · intro hh
    refine asc_unique (rotL_sorted N bs k) (rhok_asc h) (fun x => ?_)
    rw [rotL_mem]
    constructor
    · rintro ⟨t, ht, hb, rfl⟩
      rw [hh t ht] at hb
      unfold hasB at hb
      rwa [decide_eq_true_eq] at hb
    · intro hx
      obtain ⟨h1, h2⟩ := rhok_range h x hx
      obtain ⟨t, rfl⟩ := Int.eq_ofNat_of_zero_le h1
      refine ⟨t, by omega, ?_, rfl⟩
      rw [hh t (by omega)]
      unfold hasB
      rwa [decide_eq_true_eq]

def perB (N : Nat) (bs : List Int) (k : Nat) : Bool := eqB (rotL N bs k) bs
theorem perB_iff {N : Nat} {bs : List Int} {k : Nat} : perB N bs k = true ↔ rotL N bs k = bs := by unfold perB eqB; rw [decide_eq_true_eq]
theorem perB_all {N : Nat} {bs : List Int} (h : RhOk N bs) : perB N bs N = true := by
  rw [perB_iff, rotL_same h]
  intro t ht
  congr 1
  rw [Int.sub_emod_right]
  exact Int.emod_eq_of_lt (by omega) (by omega)
/-- The least rotation from k on that is the rhythm itself; f steps at most. -/
def perF (N : Nat) (bs : List Int) : Nat → Nat → Nat
  | 0, k => k
  | f + 1, k => if perB N bs k = true then k else perF N bs f (k + 1)
def perV (N : Nat) (bs : List Int) : Nat := perF N bs (N - 1) 1
theorem perF_spec (N : Nat) (bs : List Int) : ∀ f k, k ≤ perF N bs f k ∧ perF N bs f k ≤ k + f ∧ (∀ j, k ≤ j → j < perF N bs f k → perB N bs j = false) ∧ (perF N bs f k < k + f → perB N bs (perF N bs f k) = true)
  | 0, k => ⟨Nat.le_refl _, Nat.le_refl _, fun j h1 h2 => by unfold perF at h2; omega, fun h => by unfold perF at h; omega⟩
  | f + 1, k => by
    unfold perF
    cases hb : perB N bs k
    · rw [if_neg (by simp)]
      obtain ⟨h1, h2, h3, h4⟩ := perF_spec N bs f (k + 1)
      refine ⟨by omega, by omega, fun j hj1 hj2 => ?_, fun h => h4 (by omega)⟩
      by_cases e : j = k
      · subst e; exact hb
      · exact h3 j (by omega) hj2
    · rw [if_pos rfl]
      exact ⟨Nat.le_refl _, by omega, fun j h1 h2 => by omega, fun _ => hb⟩
theorem perV_is {N : Nat} {bs : List Int} (h : RhOk N bs) : 1 ≤ perV N bs ∧ perV N bs ≤ N ∧ perB N bs (perV N bs) = true ∧ ∀ j, 1 ≤ j → j < perV N bs → perB N bs j = false := by
  have hN : 1 ≤ N := by have := h.1; omega
  obtain ⟨h1, h2, h3, h4⟩ := perF_spec N bs (N - 1) 1
  unfold perV
  refine ⟨h1, by omega, ?_, h3⟩
  by_cases e : perF N bs (N - 1) 1 < 1 + (N - 1)
  · exact h4 e
  · have : perF N bs (N - 1) 1 = N := by omega
    rw [this]
    exact perB_all h
theorem perV_unique {N : Nat} {bs : List Int} (h : RhOk N bs) {k : Nat} (hk : 1 ≤ k) (hb : perB N bs k = true) (hno : ∀ j, 1 ≤ j → j < k → perB N bs j = false) : perV N bs = k := by
  obtain ⟨h1, h2, h3, h4⟩ := perV_is h
  rcases Nat.lt_trichotomy (perV N bs) k with hlt | he | hgt
  · have := hno _ h1 hlt
    rw [h3] at this; cases this
  · exact he
  · have := h4 k hk hgt
    rw [hb] at this; cases this

/-- The windows that are as long as the bar: as many as the period at least. -/
theorem allD_per {N : Nat} {bs : List Int} (h : RhOk N bs) : perV N bs ≤ (allD N bs N N).length := by
  obtain ⟨h1, h2, h3, h4⟩ := perV_is h
  have hinj : ∀ p q, p < q → q < perV N bs → winL (N : Int) bs p N ≠ winL N bs q N := by
    intro p q hpq hq e
    have hd := h4 (q - p) (by omega) (by omega)
    have : perB N bs (q - p) = true := by
      rw [perB_iff, rotL_same h]
      intro t ht
      have he := (winL_ext (N : Int) bs p q N).1 e
      -- take i with (q + i) mod N = t
      have hi := he ((t + N - q % N) % N) (Nat.mod_lt _ (by omega))
      have hqm : q % N = q := Nat.mod_eq_of_lt (by omega)
      rw [hqm] at hi
      by_cases hc : q ≤ t
      · have e1 : (t + N - q) % N = t - q := by rw [show t + N - q = (t - q) + N by omega, Nat.add_mod_right]; exact Nat.mod_eq_of_lt (by omega)
        rw [e1] at hi
        rw [show ((p + (t - q) : Nat) : Int) = (t : Int) - ((q - p : Nat) : Int) by omega, show ((q + (t - q) : Nat) : Int) = (t : Int) by omega] at hi
        rw [hi]
        congr 1
        exact Int.emod_eq_of_lt (by omega) (by omega)
      · have e1 : (t + N - q) % N = t + N - q := Nat.mod_eq_of_lt (by omega)
        rw [e1] at hi
        rw [show ((p + (t + N - q) : Nat) : Int) = (t : Int) - ((q - p : Nat) : Int) + N by omega, show ((q + (t + N - q) : Nat) : Int) = (t : Int) + N by omega, Int.add_emod_right, Int.add_emod_right] at hi
        rw [hi]
        congr 1
        exact Int.emod_eq_of_lt (by omega) (by omega)
    rw [hd] at this
    cases this
  have := nodup_leG ((List.range (perV N bs)).map (fun p => winL (N : Int) bs p N)) (allD N bs N N) (by
    rw [List.Nodup, List.pairwise_map]
    refine List.Pairwise.imp_of_mem (fun {a b} ha hb hne e => ?_) List.nodup_range
    have ha' := List.mem_range.1 ha
    have hb' := List.mem_range.1 hb
    rcases Nat.lt_or_gt_of_ne hne with hlt | hgt
    · exact hinj a b hlt hb' e
    · exact hinj b a hgt ha' e.symm) (fun x hx => by
    obtain ⟨p, hp, rfl⟩ := List.mem_map.1 hx
    exact (allD_mem _ bs N N _).2 ⟨p, by have := List.mem_range.1 hp; omega, rfl⟩)
  simpa using this

end Go.Proofs.YthookknmeajojaaGreatDoor

namespace Go.Proofs.YthookknmeajojaaGreatDoor
open Go.RowKit
set_option linter.unusedVariables false
set_option linter.unusedSimpArgs false

theorem Below.drew4_ {B : Nat} {a w : World} (h : Below B a w) : Below B a w.drew := ⟨h.os, h.tape, h.output, h.size, h.block⟩
theorem Ints.drew4_ {w : World} {B : Nat} {A : Option Addr} {xs : List Int} (h : Ints w B A xs) : Ints w.drew B A xs := h

def ofL (xs : List Int) (q : Nat) : List Int := ((List.range q).filter (fun t : Nat => hasB xs t)).map Int.ofNat
theorem ofL_yes {xs : List Int} {q : Nat} (h : hasB xs q = true) : ofL xs (q + 1) = ofL xs q ++ [(q : Int)] := by
  unfold ofL; rw [List.range_succ, List.filter_append]; simp [h]
theorem ofL_no {xs : List Int} {q : Nat} (h : hasB xs q = false) : ofL xs (q + 1) = ofL xs q := by
  unfold ofL; rw [List.range_succ, List.filter_append]; simp [h]
theorem ofL_len (xs : List Int) (q : Nat) : (ofL xs q).length ≤ q := by
  unfold ofL
  rw [List.length_map]
  exact Nat.le_trans (List.length_filter_le _ _) (by simp)
theorem ofL_mem {xs : List Int} {q : Nat} {x : Int} : x ∈ ofL xs q ↔ ∃ t : Nat, t < q ∧ hasB xs t = true ∧ x = t := by
  unfold ofL
  rw [List.mem_map]
  constructor
  · rintro ⟨p, hp, rfl⟩
    rw [List.mem_filter, List.mem_range] at hp
    exact ⟨p, hp.1, hp.2, rfl⟩
  · rintro ⟨p, h1, h2, rfl⟩
    exact ⟨p, by rw [List.mem_filter, List.mem_range]; exact ⟨h1, h2⟩, rfl⟩
theorem ofL_sorted (xs : List Int) (q : Nat) : (ofL xs q).Pairwise (fun a b => a < b) := by
  unfold ofL
  rw [List.pairwise_map]
  exact List.Pairwise.imp (fun {a b} h => by show (a : Int) < b; omega) (List.Pairwise.filter _ List.pairwise_lt_range)
theorem ofL_fit {xs : List Int} {q : Nat} (hq : q ≤ 1000) : ∀ x ∈ ofL xs q, Fits x := by
  intro x hx
  obtain ⟨t, ht, _, rfl⟩ := ofL_mem.1 hx
  unfold Fits
  omega

def mapL (a b n : Int) (xs : List Int) (j : Nat) : List Int := (xs.take j).map (fun x => (a * x + b) % n)
theorem mapL_succ {a b n : Int} {xs : List Int} {j : Nat} {x : Int} (hj : j < xs.length) (hx : xs.getD j 0 = x) : mapL a b n xs (j + 1) = mapL a b n xs j ++ [(a * x + b) % n] := by
  unfold mapL
  rw [List.take_succ_eq_append_getElem hj, List.map_append, List.map_singleton]
  have : xs[j] = x := by rw [← hx, List.getD_eq_getElem?_getD, List.getElem?_eq_getElem hj]; rfl
  rw [this]
theorem mapL_len (a b n : Int) (xs : List Int) (j : Nat) : (mapL a b n xs j).length ≤ xs.length := by
  unfold mapL
  rw [List.length_map, List.length_take]
  omega
theorem mapL_mem {a b n x : Int} {xs : List Int} : x ∈ mapL a b n xs xs.length ↔ ∃ y ∈ xs, (a * y + b) % n = x := by
  unfold mapL
  rw [List.take_length, List.mem_map]
theorem mapL_fit {a b n : Int} {xs : List Int} (hn : 1 ≤ n) (hn2 : n ≤ 1000000000) (k : Nat) : ∀ x ∈ mapL a b n xs k, Fits x := by
  intro x hx
  unfold mapL at hx
  rw [List.mem_map] at hx
  obtain ⟨y, _, rfl⟩ := hx
  have := Int.emod_nonneg (a * y + b) (show n ≠ 0 by omega)
  have := Int.emod_lt_of_pos (a * y + b) (show 0 < n by omega)
  unfold Fits
  omega

theorem rotL_of {N : Nat} {bs : List Int} (hok : RhOk N bs) (k : Int) : ofL (mapL 1 k N bs bs.length) N = rotL N bs k := by
  refine asc_unique (ofL_sorted _ _) (rotL_sorted _ _ _) fun x => ?_
  rw [ofL_mem, rotL_mem]
  have hN : (0 : Int) < N := by have := hok.1; omega
  have hkey : ∀ t : Nat, t < N → (hasB (mapL 1 k N bs bs.length) t = true ↔ hasB bs (((t : Int) - k) % N) = true) := by
    intro t ht
    unfold hasB
    rw [decide_eq_true_eq, decide_eq_true_eq, mapL_mem]
    constructor
    · rintro ⟨b, hb, h⟩
      have hr := rhok_range hok b hb
      rw [← h, Int.emod_sub_emod, show 1 * b + k - k = b by omega, Int.emod_eq_of_lt hr.1 hr.2]
      exact hb
    · intro hb
      refine ⟨_, hb, ?_⟩
      rw [Int.one_mul, Int.emod_add_emod, show (t : Int) - k + k = t by omega, Int.emod_eq_of_lt (by omega) (by omega)]
  constructor
  · rintro ⟨t, ht, h, rfl⟩; exact ⟨t, ht, (hkey t ht).1 h, rfl⟩
  · rintro ⟨t, ht, h, rfl⟩; exact ⟨t, ht, (hkey t ht).2 h, rfl⟩

set_option maxHeartbeats 400000 in
theorem spec_l02Mod_any (k n : Int) (w : World) (hn : 1 ≤ n) (hn2 : n ≤ 1000000000) :
    Calls Tryz.prog 85 #[.int .i64 k, .int .i64 n] w fun e w' => e = .returned (.int .i64 (k % n)) ∧ w = w' := by
  have h0 : (n = 0) = False := by simp; omega
  have h1 := Int.lt_tmod_of_pos k (show 0 < n by omega)
  have h2 := Int.tmod_lt_of_pos k (show 0 < n by omega)
  have HR := Lib.hid (rem_emod k n)
  have h5 : IntKind.i64.wrap (k.tmod n) = k.tmod n := i64w (by omega)
  have h3 : IntKind.i64.wrap (k.tmod n + n) = k.tmod n + n := i64w (by omega)
  have h4 : (k.tmod n + n).tmod n = (k.tmod n + n) % n := Int.tmod_eq_emod_of_nonneg (by omega)
  have h6 : IntKind.i64.wrap ((k.tmod n + n) % n) = (k.tmod n + n) % n := i64w (by rw [HR.out]; have := Int.emod_nonneg k (show n ≠ 0 by omega); have := Int.emod_lt_of_pos k (show 0 < n by omega); omega)
  go_enter Tryz.func85, Tryz.ntmps85
  go_wp2
  go_ret
  exact ⟨ret_int (by have := HR.out; rw [Int.add_emod_right] at this; exact this), rfl⟩

/-- The rhythm that a call hands back, its length within its cap. -/
def RetRh1c (w : World) (n : Int) (xs : List Int) (e : Ending) (w' : World) : Prop := ∃ A cap, e = .returned (.agg #[.int .i64 n, .slice A xs.length cap]) ∧ xs.length ≤ cap ∧ RW w' w.heap.size A xs ∧ Below w.heap.size w w'
theorem RetRh1c.plain {w w' : World} {n : Int} {xs : List Int} {e : Ending} (h : RetRh1c w n xs e w') : RetRh1 w n xs e w' := by
  obtain ⟨A, c, h1, _, h3⟩ := h
  exact ⟨A, c, h1, h3⟩
theorem OwnI.capC_ {w : World} {base : Nat} {A : Option Addr} {cap : Nat} {xs : List Int} (h : OwnI w base (.slice A xs.length cap) xs) : xs.length ≤ cap := by
  rcases h.2 with ⟨hv, h0⟩ | ⟨g, cap', cur, hv, _, hh, hnc, hm, hsz, hxs⟩
  · omega
  · injection hv with _ _ h3; omega

set_option maxRecDepth 100000 in
set_option maxHeartbeats 1000000 in
theorem spec_l02Of_cap (N : Nat) (A : Option Addr) (cap : Nat) (xs : List Int) (w : World) (hA : Ints w w.heap.size A xs) (hn1 : 1 ≤ N) (hn2 : N ≤ 24) :
    Calls Tryz.prog 86 #[.int .i64 N, .slice A xs.length cap] w (RetRh1c w N (ofL xs N)) := by
  have HH := Lib.hid (fun (q : Nat) (V : World) (hV : Below w.heap.size w V) => spec_l02Has_any A cap xs (q : Int) V w.heap.size (hA.below hV))
  clear hA
  go_enter Tryz.func86, Tryz.ntmps86
  go_wp2_with fail
  go_loopw [6] (fun sp wr => ∃ (q : Nat) (v : Value), q ≤ N ∧ sp = .int .i64 q ∧ Cells2 wr (w.heap.size + 1) (.int .i64 N) v ∧ OwnI wr (w.heap.size + 2) v (ofL xs q) ∧ (∃ u1 u2, Cells2 wr w.heap.size u1 u2) ∧ Below w.heap.size w wr ∧ w.heap.size + 2 ≤ wr.heap.size) (fun sp _ => N - (intOf sp).toNat)
  case atStart =>
    refine ⟨0, .slice none 0 0, Nat.zero_le _, rfl, Cells2.new_at _ _ _ _ _ (by simp), OwnI.nil _ _, ⟨_, _, (Cells2.new w _ _ _).alloc _⟩, ?_, by simp⟩
    exact ((Below.refl _ _).alloc (Nat.le_refl _) _).alloc (by first | exact Nat.le_refl _ | (simp; done) | (simp; omega) | omega) _
  case round =>
    obtain ⟨q, v, hq, rfl, hc2, hown, ⟨u1, u2, hc1⟩, hbel, hsz⟩ := hrel
    obtain ⟨wo, rfl⟩ : ∃ wo : World, wo = wr := ⟨_, rfl⟩
    have hple := ofL_len xs q
    have HC2 := Lib.hid hc2
    have HC1 := Lib.hid hc1
    obtain ⟨g0, g1, g2, g3, g4⟩ := HC2.out
    obtain ⟨A1, c1, rfl⟩ := hown.form
    by_cases hlt : q < N
    · have hhb := HH.out q wo hbel
      cases hb : hasB xs q
      · rw [hb] at hhb
        have HHB := Lib.hid hhb
        have HS := Lib.hid (ofL_no hb)
        have HO := Lib.hid hown
        clear hb hown hc1 hc2 hhb
        go_wp2_with (go_at_call 127; refine HHB.out.mono ?_; rintro e w' ⟨rfl, rfl⟩)
        go_roundw
        case rel => exact ⟨q + 1, _, by omega, by go_num, HC2.out, by rw [HS.out]; exact HO.out, ⟨u1, u2, HC1.out⟩, hbel, hsz⟩
        case measure => simp [intOf]; omega
      · rw [hb] at hhb
        have HHB := Lib.hid hhb
        have HS := Lib.hid (ofL_yes hb)
        generalize ofL xs q = L at hown hple HS HC2 hc2 g1
        clear hb hhb
        go_wp2_with (first
          | (go_at_call 127; refine HHB.out.mono ?_; rintro e w' ⟨rfl, rfl⟩)
          | (at_builtin; refine wpList_append_int rfl _ _ rfl (w.heap.size + 2) _ L rfl (hown.alloc _) _ _ rfl (cell_new1 _ _ _) (by omega) (by first | exact Nat.le_refl _ | (simp; done) | (simp; omega) | omega) ?_; intro v' w1 hown1 hg1; obtain ⟨A2, c2, rfl⟩ := hown1.form; obtain ⟨j0, j1, j2, j3, j4⟩ := (HC2.out.alloc (Obj.cells #[Value.int .i64 q] 3)).below hg1 (by omega)))
        clear g0 g1 g2 g3 hown
        have hw1 : w.heap.size + 2 ≤ w1.heap.size := by have := hg1.size; simp only [World.size_alloc] at this; omega
        have HD2 := Lib.hid (Cells2.set1 (((HC2.out.alloc (Obj.cells #[Value.int .i64 q] 3)).below hg1 (by omega))) (.slice A2 (L ++ [(q : Int)]).length c2))
        have HD1 := Lib.hid (((HC1.out.alloc (Obj.cells #[Value.int .i64 q] 3)).below hg1 (by omega)).far (p := ⟨w.heap.size + 1, 1, none⟩) (by simp) (.slice A2 (L ++ [(q : Int)]).length c2))
        have HOW := Lib.hid (hown1.far (p := ⟨w.heap.size + 1, 1, none⟩) (by simp) (.slice A2 (L ++ [(q : Int)]).length c2))
        have HBW := Lib.hid ((((hbel.alloc (by omega) _).trans (hg1.mono (by omega))).setCell (p := ⟨w.heap.size + 1, 1, none⟩) (by simp) (.slice A2 (L ++ [(q : Int)]).length c2)))
        clear j0 j1 j2 j3 j4 hg1 hown1 hbel g4 hc2 hc1
        have hlen : (L ++ [(q : Int)]).length = L.length + 1 := by simp
        rw [hlen] at HD1 HD2 HOW HBW
        clear hlen
        go_wp2_with fail
        go_roundw
        case rel =>
          refine ⟨q + 1, _, by omega, by go_num, HD2.out, by rw [HS.out]; exact HOW.out, ⟨u1, u2, HD1.out⟩, HBW.out, by simpa [World.setCell] using hw1⟩
        case measure => simp [intOf]; omega
    · have hqe : q = N := by omega
      subst hqe
      obtain ⟨f0, f1, f2, f3, f4⟩ := HC1.out
      clear hc1 hc2
      go_wp2_with fail
      refine bodyPost_ret (v := .agg #[.int .i64 q, .slice A1 (ofL xs q).length c1]) (by simp [results, Tryz.results86, go_sem, f0, f1]) rfl ?_
      refine ⟨A1, c1, rfl, hown.capC_, ?_, ?_⟩
      · exact (((hown.far (p := ⟨w.heap.size, 0, none⟩) (by simp) _).far (p := ⟨w.heap.size, 1, none⟩) (by simp) _).rw_ (by omega)).mono (by omega)
      · exact (hbel.setCell (Nat.le_refl _) _).setCell (Nat.le_refl _) _

theorem spec_l02Of_any (N : Nat) (A : Option Addr) (cap : Nat) (xs : List Int) (w : World) (hA : Ints w w.heap.size A xs) (hn1 : 1 ≤ N) (hn2 : N ≤ 24) :
    Calls Tryz.prog 86 #[.int .i64 N, .slice A xs.length cap] w (RetRh1 w N (ofL xs N)) := (spec_l02Of_cap N A cap xs w hA hn1 hn2).mono fun _ _ h => h.plain

set_option maxRecDepth 100000 in
set_option maxHeartbeats 1000000 in
theorem spec_l02Map_cap (N : Nat) (A : Option Addr) (cap : Nat) (bs : List Int) (a b : Int) (w : World) (hA : Ints w w.heap.size A bs) (hok : RhOk N bs) (hab : ∀ x : Int, 0 ≤ x → x < 24 → -1000000 ≤ a * x ∧ a * x ≤ 1000000) (hb : -1000000 ≤ b ∧ b ≤ 1000000) :
    Calls Tryz.prog 49 #[.agg #[.int .i64 N, .slice A bs.length cap], .int .i64 a, .int .i64 b] w (RetRh1c w N (ofL (mapL a b N bs bs.length) N)) := by
  have hn1 := hok.1
  have hn2 := hok.2.1
  have hlen := hA.1
  unfold maxLen at hlen
  have hbl : bs.length ≤ N := by
    have := rotL_len N bs 0
    rwa [(rotL_same hok 0).2 (fun t ht => by rw [show (t : Int) - 0 = t by omega, Int.emod_eq_of_lt (by omega) (by omega)])] at this
  have HC := Lib.hid hA.2.2
  have HOK := Lib.hid hok
  have HAB := Lib.hid hab
  have hro := fun (A2 : Option Addr) (c2 : Nat) (V : World) (hV : Ints V V.heap.size A2 (mapL a b N bs bs.length)) => spec_l02Of_cap N A2 c2 (mapL a b N bs bs.length) V hV (by omega) (by omega)
  have hrl := ofL_len (mapL a b N bs bs.length) N
  generalize ofL (mapL a b N bs bs.length) N = R at hro hrl ⊢
  have HRO := Lib.hid hro
  clear hA hok hro hab
  have hW0 := (((Below.refl w.heap.size w).alloc (Nat.le_refl _) (.cells #[.int .i64 N, .slice A bs.length cap] 26)).alloc (by first | exact Nat.le_refl _ | (simp; done) | (simp; omega) | omega) (.cells #[.int .i64 0, .slice none 0 0] 26)).alloc (by first | exact Nat.le_refl _ | (simp; done) | (simp; omega) | omega) (.cells #[] 3)
  have HW := Lib.hid hW0
  have HG := Lib.hid (((Cells2.new w (.int .i64 N) (.slice A bs.length cap) 26).alloc (.cells #[.int .i64 0, .slice none 0 0] 26)).alloc (.cells #[] 3))
  have HN := Lib.hid ((Cells2.new (w.alloc (.cells #[.int .i64 N, .slice A bs.length cap] 26)) (.int .i64 0) (.slice none 0 0) 26).alloc (.cells #[] 3))
  obtain ⟨g0, g1, _, _, _⟩ := HG.out
  clear hW0
  go_enter Tryz.func49, Tryz.ntmps49
  go_wp2_with fail
  clear g0 g1
  go_loopw [7, 14] (fun so i wr => ∃ j : Nat, j ≤ bs.length ∧ i = .int .i64 j ∧ OwnI wr (w.heap.size + 2) so (mapL a b N bs j) ∧ Below (w.heap.size + 2) (((w.alloc (.cells #[.int .i64 N, .slice A bs.length cap] 26)).alloc (.cells #[.int .i64 0, .slice none 0 0] 26)).alloc (.cells #[] 3)) wr) (fun _ i _ => bs.length - (intOf i).toNat)
  case atStart => exact ⟨0, Nat.zero_le _, rfl, OwnI.empty_at _ _ _ (by simp) (by omega), Below.refl _ _⟩
  case round =>
    obtain ⟨j, hj, rfl, hown, hbel⟩ := hrel
    obtain ⟨wo, rfl⟩ : ∃ wo : World, wo = wr := ⟨_, rfl⟩
    have hws : w.heap.size + 3 ≤ wo.heap.size := by have := hbel.size; simpa using this
    have HBE := Lib.hid hbel
    have HO := Lib.hid hown
    obtain ⟨A1, c1, rfl⟩ := hown.form
    have hmk := mapL_len a b N bs j
    clear hbel hown
    obtain ⟨g0, g1, g2, g3, g4⟩ := (HG.out).below (HBE.out.mono (show w.heap.size + 1 ≤ _ by omega)) (by simp)
    by_cases hlt : j < bs.length
    · obtain ⟨b2, off, rfl, hB, hc⟩ := HC.out (by omega)
      have hcell := ((HW.out.trans (HBE.out.mono (by omega))).cell (p := ⟨b2, off + j, none⟩) hB).trans (hc j hlt)
      have hx0 := HOK.out.2.2.1 j hlt
      obtain ⟨x, hx⟩ : ∃ x, bs.getD j 0 = x := ⟨_, rfl⟩
      rw [hx] at hcell hx0
      obtain ⟨hx1, hx2⟩ := hx0
      have HSU := Lib.hid (mapL_succ (a := a) (b := b) (n := (N : Int)) hlt hx)
      have hax := HAB.out x hx1 (by omega)
      have hw1 : IntKind.i64.wrap (a * x) = a * x := i64w (by omega)
      have hw2 : IntKind.i64.wrap (a * x + b) = a * x + b := i64w (by omega)
      have HMD := Lib.hid (fun V => spec_l02Mod_any (a * x + b) N V hn1 (by omega))
      generalize mapL a b N bs j = L at HO HSU hmk ⊢
      clear hc hx
      go_wp2_with (first
        | (go_at_call 85; refine (HMD.out _).mono ?_; rintro e w' ⟨rfl, rfl⟩)
        | (at_builtin; refine wpList_append_int rfl (.tmp 18) (.tmp 27) rfl (w.heap.size + 2) _ L rfl (HO.out.alloc _) _ _ rfl (cell_new1 _ _ _) (by omega) (by simp; omega) ?_; intro v2 w2 hown2 hb2))
      have HO2 := Lib.hid hown2
      have HB2 := Lib.hid ((HBE.out.alloc (by omega) _).trans hb2)
      clear hown2 hb2
      go_wp2_with fail
      go_roundw
      case rel => exact ⟨j + 1, by omega, by go_num, by rw [HSU.out]; exact HO2.out, HB2.out⟩
      case measure => simp [intOf]; omega
    · have hje : j = bs.length := by omega
      subst hje
      have HI := Lib.hid (HO.out.ints (mapL_fit hn1 (by omega) _))
      generalize mapL a b N bs bs.length = L at HO HRO HI hmk ⊢
      go_wp2_with fail
      refine (HRO.out A1 c1 _ HI.out).mono ?_
      rintro e w2 ⟨A2, c2, rfl, hcp, hrw, hb2⟩
      have hz2 := hb2.size
      obtain ⟨f0, f1, f2, f3, f4⟩ := (HN.out.below HBE.out (by simp)).below hb2 (by simp; omega)
      simp only [World.size_alloc] at f0 f1 f2 f3
      go_wp2_with fail
      refine bodyPost_ret (v := .agg #[.int .i64 N, .slice A2 R.length c2]) (by simp [results, Tryz.results49, go_sem, f0, f1]) rfl ?_
      refine ⟨A2, c2, rfl, hcp, ?_, ?_⟩
      · exact ((hrw.far (p := ⟨w.heap.size + 1, 0, none⟩) (by simp; omega) _).far (p := ⟨w.heap.size + 1, 1, none⟩) (by simp; omega) _).mono (by omega)
      · exact (((HW.out.trans (HBE.out.mono (by omega))).trans (hb2.mono (by omega))).setCell (by simp) _).setCell (by simp) _

theorem spec_l02Map_any (N : Nat) (A : Option Addr) (cap : Nat) (bs : List Int) (a b : Int) (w : World) (hA : Ints w w.heap.size A bs) (hok : RhOk N bs) (hab : ∀ x : Int, 0 ≤ x → x < 24 → -1000000 ≤ a * x ∧ a * x ≤ 1000000) (hb : -1000000 ≤ b ∧ b ≤ 1000000) :
    Calls Tryz.prog 49 #[.agg #[.int .i64 N, .slice A bs.length cap], .int .i64 a, .int .i64 b] w (RetRh1 w N (ofL (mapL a b N bs bs.length) N)) :=
  (spec_l02Map_cap N A cap bs a b w hA hok hab hb).mono fun _ _ h => h.plain

end Go.Proofs.YthookknmeajojaaGreatDoor

