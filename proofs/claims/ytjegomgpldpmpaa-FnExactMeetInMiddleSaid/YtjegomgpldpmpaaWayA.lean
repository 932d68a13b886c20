/-
  A slice of rhythms of the call's own beside other memory of the call's own.
-/
import Derived.Test.YtjegomgpldpmpaaTwo
import Derived.Test.YtjegomgpldpmpaaMovS
namespace Go.Proofs.Ytjegomgpldpmpaa
open Go.RowKit
set_option linter.unusedVariables false
set_option linter.unusedSimpArgs false

/-- A cell of the call's own. -/
def Cell1 (w : World) (g : Nat) (u : Value) : Prop := w.cell? ⟨g, 0, none⟩ = some u ∧ w.frozen? ⟨g, 0, none⟩ = false ∧ g < w.heap.size
theorem Cell1.frm {w w' : World} {g : Nat} {u : Value} {S : Nat → Prop} (h : Cell1 w g u) (hf : Frm S w w') (hS : ¬ S g) : Cell1 w' g u :=
  ⟨(hf.cell h.2.2 hS).trans h.1, (hf.frozen h.2.2 hS).trans h.2.1, Nat.lt_of_lt_of_le h.2.2 hf.size⟩
theorem Cell1.new (w : World) (u : Value) (t : TypeId) : Cell1 (w.alloc (.cells #[u] t)) w.heap.size u := by
  have hh : (w.alloc (.cells #[u] t)).heap[w.heap.size]? = some (.cells #[u] t (0, 0)) := heap_alloc_new w _
  exact ⟨by rw [cell_of_row _ _ _ _ _ _ hh]; rfl, frozen_of_row _ _ _ _ _ hh, by simp⟩
theorem Cell1.set {w : World} {g : Nat} {u : Value} (h : Cell1 w g u) (x : Value) : Cell1 (w.setCell ⟨g, 0, none⟩ x) g x := by
  refine ⟨?_, by rw [World.frozen?_setCell]; exact h.2.1, by simpa [World.setCell] using h.2.2⟩
  rw [World.cell?_setCell_same w _ _ h.1]
theorem Cells2.frmX {w w' : World} {g : Nat} {u v : Value} {S : Nat → Prop} (h : Cells2 w g u v) (hf : Frm S w w') (hS : ¬ S g) : Cells2 w' g u v :=
  ⟨(hf.cell h.2.2.2.2 hS).trans h.1, (hf.cell h.2.2.2.2 hS).trans h.2.1, (hf.frozen h.2.2.2.2 hS).trans h.2.2.1, (hf.frozen h.2.2.2.2 hS).trans h.2.2.2.1, Nat.lt_of_lt_of_le h.2.2.2.2 hf.size⟩
theorem OwnR.frmX {w w' : World} {base : Nat} {v : Value} {rs : List RV} {S : Nat → Prop} (h : OwnR w base v rs) (hf : Frm S w w') (h1 : ∀ g, v.ownBlock = some g → ¬ S g) (h2 : ∀ r ∈ rs, ¬ S r.b) : OwnR w' base v rs := by
  refine ⟨⟨h.1.1, ?_⟩, fun r hr => (h.2.1 r hr).frm hf (h2 r hr), h.2.2.1, h.2.2.2⟩
  rcases h.1.2 with h0 | ⟨g, cap, cur, e, hg, hh, rest⟩
  · exact .inl h0
  · have hlt : g < w.heap.size := (Array.getElem?_eq_some_iff.1 hh).1
    exact .inr ⟨g, cap, cur, e, hg, by rw [hf.block g hlt (h1 g (by rw [e]; rfl))]; exact hh, rest⟩
theorem OwnR.single (w : World) (base : Nat) (r : RV) (hr : r.Lies w base) (hb : base ≤ w.heap.size) :
    OwnR (w.alloc (.cells #[.int .i64 r.n, r.slc] 28)) base (.slice (some ⟨w.heap.size, 0, none⟩) 1 1) [r] := by
  refine ⟨⟨rfl, .inr ⟨w.heap.size, 1, #[.int .i64 r.n, r.slc], rfl, hb, heap_alloc_new w _, Nat.le_refl _, by unfold maxLen; omega, rfl, rfl⟩⟩, fun r' h => ?_, by simp, fun g hg r' h => ?_⟩
  · rw [List.mem_singleton] at h
    subst h
    exact hr.frm (Frm.pure ((Below.refl _ _).alloc (Nat.le_refl _) _) (fun _ => False)) (fun h => h)
  · rw [List.mem_singleton] at h
    subst h
    have e : w.heap.size = g := by simpa [Value.ownBlock] using hg
    have := hr.2.2.1
    omega

/-- The blocks of a list, and its own, are none of these. -/
def FarR (v : Value) (rs : List RV) (g : Nat) : Prop := (∀ k, v.ownBlock = some k → k ≠ g) ∧ ∀ r ∈ rs, r.b ≠ g

/-- 'append(s, r)': what it turns is the row of s alone. -/
theorem wpList_append_rh2 {w : World} {ops : Array Oper} {rest : List Oper} {o : Oper} {a : Act} {Q : Exit → Act → World → Prop} (hgd : o.guard = none) (s x : Operand)
    (ho : o.op = .call { callee := .builtin .append, args := #[s, x], argTypes := #[26, 26] })
    (base : Nat) (v : Value) (rs : List RV) (hs : a.eval s = v) (hown : OwnR w base v rs) (g : Nat) (r : RV) (hx : a.eval x = .slice (some ⟨g, 0, none⟩) 1 1)
    (hc : w.cell? ⟨g, 0, none⟩ = some (.int .i64 r.n) ∧ w.cell? ⟨g, 1, none⟩ = some r.slc) (hr : r.Lies w base) (hlt : ∀ r' ∈ rs, r'.b < r.b) (hne : ∀ g, v.ownBlock = some g → g ≠ r.b)
    (hlen : rs.length ≤ 1048576) (hbase : base ≤ w.heap.size)
    (h : ∀ g' c' w', OwnR w' base (.slice (some ⟨g', 0, none⟩) (rs ++ [r]).length c') (rs ++ [r]) → Frm (fun k => v.ownBlock = some k) w w' → (v.ownBlock = some g' ∨ w.heap.size ≤ g') → wpList Try.prog ops Q rest (a.put o.dst (.slice (some ⟨g', 0, none⟩) (rs ++ [r]).length c')) w') : wpList Try.prog ops Q (o :: rest) a w := by
  obtain ⟨i, hi, hz, hsz, hby⟩ := info_parts Try.infoRhythm
  refine wpList_append_lies w hgd s x _ ho base 28 i _ 2 32 Try.underlying26 hi hz hsz hby rfl (by omega) v rs.length _ hs hown.1 ⟨g, 0, none⟩ 1 1 r.cells hx rfl ?_ ?_ (by omega) (by unfold maxLen; omega) (by omega) hbase _ rfl ?_
  · intro j u hj
    match j, hj with
    | 0, hj => simp [RV.cells] at hj; subst hj; exact hc.1
    | 1, hj => simp [RV.cells] at hj; subst hj; exact hc.2
  · intro u hu
    simp [RV.cells] at hu
    rcases hu with rfl | rfl <;> rfl
  · intro g' cap w' hown' hgrow hat hlt'
    have hsame : ∀ r' ∈ rs ++ [r], r'.Lies w' base ∧ g' ≠ r'.b := by
      intro r' hr'
      have hl : r'.Lies w base ∧ ∀ g, v.ownBlock = some g → g ≠ r'.b := by
        rcases List.mem_append.1 hr' with h1 | h1
        · exact ⟨hown.2.1 r' h1, fun g hg => hown.2.2.2 g hg r' h1⟩
        · rw [List.mem_singleton] at h1; subst h1; exact ⟨hr, hne⟩
      have hblk : w'.heap[r'.b]? = w.heap[r'.b]? := hgrow.block _ hl.1.2.2.1 (fun e => hl.2 _ e.symm rfl)
      refine ⟨⟨hl.1.1, hl.1.2.1, Nat.lt_of_lt_of_le hl.1.2.2.1 hgrow.size, fun hn => ⟨(hl.1.2.2.2 hn).1, ?_⟩⟩, ?_⟩
      · have ht := (hl.1.2.2.2 hn).2
        exact ⟨Nat.lt_of_lt_of_le ht.1 hgrow.size, fun t h => ⟨(World.cell?_of_block (a := ⟨r'.b, t, none⟩) hblk).trans (ht.2 t h).1, (World.frozen?_of_block (a := ⟨r'.b, t, none⟩) hblk).trans (ht.2 t h).2⟩⟩
      · rcases hat with h1 | h1
        · exact hl.2 g' h1
        · have := hl.1.2.2.1; omega
    have hlen2 : rs.length + 1 = (rs ++ [r]).length := by simp
    rw [hlen2] at hown' ⊢
    refine h g' cap w' ⟨?_, fun r' hr' => (hsame r' hr').1, ?_, ?_⟩ ⟨hgrow.os, hgrow.tape, hgrow.output, hgrow.size, fun c hc hS => hgrow.block c hc (fun e => hS e.symm)⟩ ?_
    · rw [cellsR_app]; exact hown'
    · rw [List.pairwise_append]
      refine ⟨hown.2.2.1, by simp, fun a ha b hb => ?_⟩
      rw [List.mem_singleton] at hb
      subst hb
      exact hlt a ha
    · intro g2 hg2 r' hr'
      have : g' = g2 := by simpa [Value.ownBlock] using hg2
      subst this
      exact (hsame r' hr').2
    · rcases hat with h1 | h1
      · exact .inl h1
      · exact .inr (by omega)

end Go.Proofs.Ytjegomgpldpmpaa
