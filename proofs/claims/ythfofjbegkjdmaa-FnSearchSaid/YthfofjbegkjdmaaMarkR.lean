/-
  The laws' marks on slices of rhythms; equality of two that hold the same.
-/
import Derived.Test.YthfofjbegkjdmaaRhs
import Derived.Test.YthfofjbegkjdmaaMark
namespace Go.Proofs.Ythfofjbegkjdmaa
open Go.RowKit
set_option linter.unusedVariables false
set_option linter.unusedSimpArgs false

theorem keyR_get {rs ss : List RV} (h : keyR rs = keyR ss) : rs.length = ss.length ∧ ∀ i (h1 : i < rs.length) (h2 : i < ss.length), rs[i].n = ss[i].n ∧ rs[i].xs = ss[i].xs := by
  have hl : rs.length = ss.length := by simpa [keyR] using congrArg List.length h
  refine ⟨hl, fun i h1 h2 => ?_⟩
  have := congrArg (fun l => l[i]?) h
  simp only [keyR, List.getElem?_map, List.getElem?_eq_getElem h1, List.getElem?_eq_getElem h2, Option.map_some, Option.some.injEq, Prod.mk.injEq] at this
  exact this

/-- The mark that rhythm i gets. -/
def kAt (k : Int) (rs : List RV) : Nat → Int
  | 0 => k
  | i + 1 => kAt k rs i + 1 + ((rs.getD i default).xs.length : Int)
theorem kAt_succ {k : Int} {rs : List RV} {i : Nat} (h : i < rs.length) : kAt k rs (i + 1) = kAt k rs i + 1 + (rs[i].xs.length : Int) := by
  show kAt k rs i + 1 + ((rs.getD i default).xs.length : Int) = _
  rw [List.getD_eq_getElem?_getD, List.getElem?_eq_getElem h]
  rfl
theorem kAt_le {k : Int} {rs : List RV} (hl : ∀ r ∈ rs, r.xs.length ≤ 1048576) : ∀ i, i ≤ rs.length → k ≤ kAt k rs i ∧ kAt k rs i ≤ k + i * 1048577
  | 0, _ => ⟨Int.le_refl _, by simp [kAt]⟩
  | i + 1, h => by
    have ih := kAt_le (k := k) hl i (by omega)
    rw [kAt_succ (by omega : i < rs.length)]
    have := hl rs[i] (List.getElem_mem _)
    omega

/-- A list of rhythms in block g, each one's beats in a block of their own, all between base and top. -/
def GridR (w : World) (g : Nat) (rs : List RV) (base top : Nat) (N : Nat → Int) (F : Nat → Nat → Value) : Prop :=
  (base ≤ g ∧ g < top ∧ g < w.heap.size) ∧ ∀ i (h : i < rs.length),
    (w.cell? ⟨g, i * 2, none⟩ = some (.int .i64 (N i)) ∧ w.frozen? ⟨g, i * 2, none⟩ = false ∧ w.cell? ⟨g, i * 2 + 1, none⟩ = some rs[i].slc) ∧
    (g ≠ rs[i].b ∧ base ≤ rs[i].b ∧ rs[i].b < top ∧ rs[i].b < w.heap.size) ∧
    (0 < rs[i].xs.length → rs[i].A = some ⟨rs[i].b, 0, none⟩ ∧ TabV w rs[i].b rs[i].xs.length (F i))
section
variable {w w' : World} {g base top : Nat} {rs : List RV} {N N' : Nat → Int} {F F' : Nat → Nat → Value}
theorem GridR.frm {S : Nat → Prop} (h : GridR w g rs base top N F) (hf : Frm S w w') (hS : ∀ c, base ≤ c → c < top → ¬ S c) : GridR w' g rs base top N F := by
  obtain ⟨⟨h1, h2, h3⟩, h4⟩ := h
  refine ⟨⟨h1, h2, Nat.lt_of_lt_of_le h3 hf.size⟩, fun i hi => ?_⟩
  obtain ⟨⟨a, b, c⟩, ⟨d, e, f, e2⟩, k⟩ := h4 i hi
  have hg := hS g h1 h2
  exact ⟨⟨(hf.cell h3 hg).trans a, (hf.frozen h3 hg).trans b, (hf.cell h3 hg).trans c⟩, ⟨d, e, f, Nat.lt_of_lt_of_le e2 hf.size⟩, fun hn => ⟨(k hn).1, (k hn).2.frm hf (hS _ e f)⟩⟩
theorem GridR.congr (h : GridR w g rs base top N F) (hN : ∀ i, i < rs.length → N i = N' i) (hF : ∀ i (_ : i < rs.length) t, t < rs[i].xs.length → F i t = F' i t) : GridR w g rs base top N' F' := by
  refine ⟨h.1, fun i hi => ?_⟩
  obtain ⟨⟨a, b, c⟩, d, k⟩ := h.2 i hi
  exact ⟨⟨by rw [← hN i hi]; exact a, b, c⟩, d, fun hn => ⟨(k hn).1, (k hn).2.congr (fun t ht => hF i hi t ht)⟩⟩
theorem GridR.setN (h : GridR w g rs base top N F) (j : Nat) (hj : j < rs.length) (u : Int) : GridR (w.setCell ⟨g, j * 2, none⟩ (.int .i64 u)) g rs base top (fun i => if i = j then u else N i) F := by
  obtain ⟨⟨h1, h2, h3⟩, h4⟩ := h
  have hsz : (w.setCell ⟨g, j * 2, none⟩ (.int .i64 u)).heap.size = w.heap.size := by simp [World.setCell]
  refine ⟨⟨h1, h2, by rw [hsz]; exact h3⟩, fun i hi => ?_⟩
  obtain ⟨⟨a, b, c⟩, ⟨d, e, f, e2⟩, k⟩ := h4 i hi
  refine ⟨⟨?_, by rw [World.frozen?_setCell]; exact b, ?_⟩, ⟨d, e, f, by rw [hsz]; exact e2⟩, fun hn => ⟨(k hn).1, ?_⟩⟩
  · by_cases hij : i = j
    · subst hij
      rw [World.cell?_setCell_same w _ _ a]; simp
    · rw [World.cell?_setCell_other w _ _ _ (fun q => hij (by injection q; omega)), a]; simp [hij]
  · rw [World.cell?_setCell_other w _ _ _ (fun q => by injection q; omega), c]
  · exact (k hn).2.frm (S := fun c => c = g) (Frm.setCell (S := fun c => c = g) (p := ⟨g, j * 2, none⟩) (Frm.refl _ w) rfl _) (fun e => d e.symm)
theorem GridR.setF (h : GridR w g rs base top N F) (hd : ∀ i j (hi : i < rs.length) (hj : j < rs.length), i ≠ j → rs[i].b ≠ rs[j].b) (j : Nat) (hj : j < rs.length) {b : Nat} (hb : rs[j].b = b) (hf : Frm (Rng b (b + 1)) w w') {G : Nat → Value} (hh : HeldV w' rs[j].A rs[j].xs.length G b (b + 1)) :
    GridR w' g rs base top N (fun i => if i = j then G else F i) := by
  subst hb
  obtain ⟨⟨h1, h2, h3⟩, h4⟩ := h
  refine ⟨⟨h1, h2, Nat.lt_of_lt_of_le h3 hf.size⟩, fun i hi => ?_⟩
  obtain ⟨⟨a, b, c⟩, ⟨d, e, f, e2⟩, k⟩ := h4 i hi
  have hg : ¬ Rng rs[j].b (rs[j].b + 1) g := fun q => by have := (h4 j hj).2.1.1; unfold Rng at q; omega
  refine ⟨⟨(hf.cell h3 hg).trans a, (hf.frozen h3 hg).trans b, (hf.cell h3 hg).trans c⟩, ⟨d, e, f, Nat.lt_of_lt_of_le e2 hf.size⟩, fun hn => ⟨(k hn).1, ?_⟩⟩
  by_cases hij : i = j
  · subst hij
    obtain ⟨b2, e3, h5, h6, ht⟩ := hh hn
    have : b2 = rs[i].b := by omega
    subst this
    simpa using ht
  · have := (k hn).2.frm hf (fun q => by have := hd i j hi hj hij; unfold Rng at q; omega)
    simpa [hij] using this
end

/-- A slice that holds rhythms between base and top, if it holds any. -/
def HeldG (w : World) (A : Option Addr) (rs : List RV) (base top : Nat) (N : Nat → Int) (F : Nat → Nat → Value) : Prop :=
  0 < rs.length → ∃ g, A = some ⟨g, 0, none⟩ ∧ GridR w g rs base top N F
theorem HeldG.frm {w w' : World} {A : Option Addr} {rs : List RV} {base top : Nat} {N : Nat → Int} {F : Nat → Nat → Value} {S : Nat → Prop} (h : HeldG w A rs base top N F) (hf : Frm S w w') (hS : ∀ c, base ≤ c → c < top → ¬ S c) : HeldG w' A rs base top N F := by
  intro hn
  obtain ⟨g, e, h1⟩ := h hn
  exact ⟨g, e, h1.frm hf hS⟩
def nOf (rs : List RV) (i : Nat) : Int := (rs.getD i default).n
def xOf (rs : List RV) (i t : Nat) : Value := .int .i64 ((rs.getD i default).xs.getD t 0)
theorem OwnR.held {w : World} {base cap : Nat} {A : Option Addr} {rs : List RV} (h : OwnR w base (.slice A rs.length cap) rs) : HeldG w A rs base w.heap.size (nOf rs) (xOf rs) := by
  intro hn
  rcases h.1.2 with ⟨hv, h0⟩ | ⟨g, cap', cur, hv, hge, hh, hnc, hm, hsz, hxs⟩
  · omega
  · have hA : A = some ⟨g, 0, none⟩ := by injection hv
    subst hA
    refine ⟨g, rfl, ⟨hge, (h.1.lt g rfl).2, (h.1.lt g rfl).2⟩, fun i hi => ?_⟩
    have h0 := World.ownsRow.cells h.1 (g := g) rfl (i * 2) _ (cellsR_get rs i hi).1
    have h1 := World.ownsRow.cells h.1 (g := g) rfl (i * 2 + 1) _ (cellsR_get rs i hi).2
    rw [Go.WideShapes.add_plain, Nat.zero_add] at h0 h1
    have hd : rs.getD i default = rs[i] := by rw [List.getD_eq_getElem?_getD, List.getElem?_eq_getElem hi]; rfl
    have hl := h.2.1 _ (List.getElem_mem hi)
    refine ⟨⟨by unfold nOf; rw [hd]; exact h0, frozen_of_row _ _ _ _ _ hh, h1⟩, ⟨h.2.2.2 g rfl _ (List.getElem_mem hi), hl.2.1, hl.2.2.1, hl.2.2.1⟩, fun hx => ⟨(hl.2.2.2 hx).1, ?_⟩⟩
    refine (hl.2.2.2 hx).2.congr (fun t _ => ?_)
    unfold xOf
    rw [hd]
theorem OwnR.apart {w : World} {base : Nat} {v : Value} {rs : List RV} (h : OwnR w base v rs) : ∀ i j (hi : i < rs.length) (hj : j < rs.length), i ≠ j → rs[i].b ≠ rs[j].b := by
  intro i j hi hj hij
  have hp := List.pairwise_iff_getElem.1 h.2.2.1
  rcases Nat.lt_or_gt_of_ne hij with h1 | h1
  · have := hp i j hi hj h1; omega
  · have := hp j i hj hi h1; omega
theorem OwnR.lens {w : World} {base : Nat} {v : Value} {rs : List RV} (h : OwnR w base v rs) : ∀ r ∈ rs, r.xs.length ≤ 1048576 := fun r hr => (h.2.1 r hr).1
theorem HeldG.rd {w : World} {A : Option Addr} {rs : List RV} {base top : Nat} (h : HeldG w A rs base top (nOf rs) (xOf rs)) (hl : rs.length ≤ 1048576) (hx : ∀ r ∈ rs, r.xs.length ≤ 1048576) (hf : ∀ r ∈ rs, ∀ x ∈ r.xs, Fits x) : RdR w w.heap.size A rs := by
  refine ⟨hl, fun r hr => ?_, fun hn => ?_⟩
  · obtain ⟨i, hi, rfl⟩ := List.getElem_of_mem hr
    obtain ⟨g, rfl, hg⟩ := h (by omega)
    obtain ⟨_, _, k⟩ := hg.2 i hi
    refine ⟨by have := hx _ hr; unfold maxLen; omega, hf _ hr, fun hn => ?_⟩
    obtain ⟨e, ht⟩ := k hn
    refine ⟨rs[i].b, 0, e, ht.1, fun t h => ?_⟩
    rw [Nat.zero_add, (ht.2 t h).1]
    unfold xOf
    rw [show rs.getD i default = rs[i] by rw [List.getD_eq_getElem?_getD, List.getElem?_eq_getElem hi]; rfl]
  · obtain ⟨g, rfl, hg⟩ := h hn
    refine ⟨g, rfl, hg.1.2.2, fun i hi => ?_⟩
    obtain ⟨⟨a, _, c⟩, _⟩ := hg.2 i hi
    refine ⟨?_, c⟩
    rw [a]
    unfold nOf
    rw [List.getD_eq_getElem?_getD, List.getElem?_eq_getElem hi]
    rfl

end Go.Proofs.Ythfofjbegkjdmaa
