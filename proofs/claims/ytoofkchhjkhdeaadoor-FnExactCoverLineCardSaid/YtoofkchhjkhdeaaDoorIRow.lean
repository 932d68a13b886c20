/-
  Slices of slices of ints: one that the call itself grows.
-/
import Derived.Test.YtoofkchhjkhdeaaDoorFrm
import Derived.Test.YtoofkchhjkhdeaaDoorCells
import Derived.Deep.AppendLies
import Derived.Laws.AppendOwnNone
import Derived.Laws.OwnMore
namespace Go.Proofs.YtoofkchhjkhdeaaDoor
open Go.RowKit
set_option linter.unusedVariables false
set_option linter.unusedSimpArgs false

/-- A row: its numbers, and where they lie. -/
structure SV where
  xs : List Int
  A : Option Addr
  c : Nat
instance : Inhabited SV := ⟨⟨[], none, 0⟩⟩
def SV.slc (r : SV) : Value := .slice r.A r.xs.length r.c
/-- The row reads, and lies in another block than o. -/
def SV.Rd (r : SV) (w : World) (o : Option Nat) : Prop := r.xs.length ≤ r.c ∧ Ints w w.heap.size r.A r.xs ∧ (0 < r.xs.length → ∀ b off t, r.A = some ⟨b, off, t⟩ → o ≠ some b)
theorem SV.Rd.frm {r : SV} {w w' : World} {o o' : Option Nat} {S : Nat → Prop} (h : r.Rd w o) (hf : Frm S w w') (hS : ∀ b, S b → o = some b) (ho : ∀ g, o' = some g → o = some g ∨ w.heap.size ≤ g) : r.Rd w' o' := by
  refine ⟨h.1, ⟨h.2.1.1, h.2.1.2.1, fun hn => ?_⟩, fun hn b off t e he => ?_⟩
  · obtain ⟨b, off, e, hb, hc⟩ := h.2.1.2.2 hn
    exact ⟨b, off, e, Nat.lt_of_lt_of_le hb hf.size, fun i hi => (hf.cell hb (fun hs => h.2.2 hn b off none e (hS b hs))).trans (hc i hi)⟩
  · obtain ⟨b', off', e', hb', _⟩ := h.2.1.2.2 hn
    rw [e] at e'
    injection e' with e'
    injection e' with e1 e2 e3
    subst e1
    rcases ho b he with h1 | h1
    · exact h.2.2 hn b off t e h1
    · omega
theorem SV.Rd.lift {r : SV} {w w' : World} {o : Option Nat} (h : r.Rd w o) (hb : Below w.heap.size w w') : r.Rd w' o := h.frm (Frm.pure hb (fun _ => False)) (fun _ h => h.elim) (fun _ h => .inl h)
/-- Where a row lies that is old. -/
theorem SV.Rd.old {r : SV} {w : World} {o : Option Nat} (h1 : r.xs.length ≤ r.c) (h : Ints w w.heap.size r.A r.xs) (ho : ∀ g, o = some g → w.heap.size ≤ g) : r.Rd w o :=
  ⟨h1, h, fun hn b off t e he => by
    obtain ⟨b', off', e', hb', _⟩ := h.2.2 hn
    rw [e] at e'
    injection e' with e'
    injection e' with e1 e2 e3
    subst e1
    have := ho b he
    omega⟩

/-- v is a slice of rows of the call's own that holds them. -/
def OwnW (w : World) (base : Nat) (v : Value) (rs : List SV) : Prop :=
  w.ownsRow base 22 1 v rs.length (rs.map SV.slc) ∧ ∀ r ∈ rs, r.Rd w v.ownBlock
section
variable {w w' : World} {base : Nat} {v : Value} {rs : List SV}
theorem OwnW.nil (w : World) (base : Nat) : OwnW w base (.slice none 0 0) [] := ⟨World.ownsRow_nil _ _ _ _, fun r hr => by cases hr⟩
theorem OwnW.form (h : OwnW w base v rs) : ∃ A cap, v = .slice A rs.length cap := by
  rcases h.1.2 with ⟨rfl, h0⟩ | ⟨g, cap, cur, rfl, _⟩
  · exact ⟨none, 0, by rw [h0]⟩
  · exact ⟨some ⟨g, 0, none⟩, cap, rfl⟩
theorem OwnW.lt (h : OwnW w base v rs) : ∀ g, v.ownBlock = some g → base ≤ g ∧ g < w.heap.size := h.1.lt
theorem OwnW.lift (h : OwnW w base v rs) (hb : Below w.heap.size w w') : OwnW w' base v rs := by
  refine ⟨⟨h.1.1, ?_⟩, fun r hr => (h.2 r hr).lift hb⟩
  rcases h.1.2 with h0 | ⟨g, cap, cur, e, hg, hh, rest⟩
  · exact .inl h0
  · have hlt : g < w.heap.size := (Array.getElem?_eq_some_iff.1 hh).1
    exact .inr ⟨g, cap, cur, e, hg, by rw [hb.block g hlt]; exact hh, rest⟩
theorem OwnW.drew (h : OwnW w base v rs) : OwnW w.drew base v rs := h
theorem OwnW.mono {base' : Nat} (h : OwnW w base v rs) (hb : base' ≤ base) : OwnW w base' v rs := ⟨⟨h.1.1, by
    rcases h.1.2 with h0 | ⟨g, cap, cur, e, hg, rest⟩
    · exact .inl h0
    · exact .inr ⟨g, cap, cur, e, by omega, rest⟩⟩, h.2⟩
theorem OwnW.cells {A : Option Addr} {cap : Nat} (h : OwnW w base (.slice A rs.length cap) rs) (hn : 0 < rs.length) : ∃ g, A = some ⟨g, 0, none⟩ ∧ base ≤ g ∧ g < w.heap.size ∧ ∀ i (hi : i < rs.length), w.cell? ⟨g, i, none⟩ = some rs[i].slc := by
  rcases h.1.2 with ⟨hv, h0⟩ | ⟨g, cap', cur, hv, hge, hh, hnc, hm, hsz, hxs⟩
  · omega
  · have hA : A = some ⟨g, 0, none⟩ := by injection hv
    subst hA
    refine ⟨g, rfl, hge, (h.1.lt g rfl).2, fun i hi => ?_⟩
    have h0 := World.ownsRow.cells h.1 (g := g) rfl i rs[i].slc (by rw [List.getElem?_map, List.getElem?_eq_getElem hi]; rfl)
    rwa [Go.WideShapes.add_plain, Nat.zero_add] at h0
/-- A literal of one row. -/
theorem OwnW.lit (r : SV) (hb : base ≤ w.heap.size) (hr : r.xs.length ≤ r.c ∧ Ints w w.heap.size r.A r.xs) : OwnW (w.alloc (.cells #[r.slc] 22)) base (.slice (some ⟨w.heap.size, 0, none⟩) 1 1) [r] := by
  refine ⟨World.ownsRow_lit w #[r.slc] 1 hb (by unfold maxLen; omega) rfl, fun r' hr' => ?_⟩
  rw [List.mem_singleton] at hr'
  subst hr'
  have h0 : r'.Rd w (some w.heap.size) := SV.Rd.old hr.1 hr.2 (fun g hg => by injection hg with hg; omega)
  exact h0.lift ((Below.refl _ _).alloc (Nat.le_refl _) _)
theorem OwnW.appended {news : List SV} {g cap : Nat} (h : OwnW w base v rs) (ho : w'.ownsRow base 22 1 (.slice (some ⟨g, 0, none⟩) (rs.length + news.length) cap) (rs.length + news.length) (rs.map SV.slc ++ news.map SV.slc))
    (hg : w.grownBy w' v.ownBlock) (hat : v.ownBlock = some g ∨ g = w.heap.size) (hn : ∀ r ∈ news, r.Rd w v.ownBlock) : OwnW w' base (.slice (some ⟨g, 0, none⟩) (rs ++ news).length cap) (rs ++ news) := by
  have hf : Frm (fun c => v.ownBlock = some c) w w' := ⟨hg.os, hg.tape, hg.output, hg.size, fun c hc hS => hg.block c hc (fun e => hS e.symm)⟩
  refine ⟨by rw [List.length_append, List.map_append]; exact ho, fun r hr => ?_⟩
  have hr' : r.Rd w v.ownBlock := by
    rcases List.mem_append.1 hr with h1 | h1
    · exact h.2 r h1
    · exact hn r h1
  refine hr'.frm hf (fun b hb => hb) (fun k hk => ?_)
  have : g = k := by simpa [Value.ownBlock] using hk
  subst this
  rcases hat with h1 | h1
  · exact .inl h1
  · exact .inr (by omega)
end

theorem Tryd.infoIntS : (Tryd.prog.info? 22).map (fun i => (i.zero, i.size, i.bytes)) = some (some (.slice none 0 0), 1, 24) := by kernel_rfl

theorem news_rows {w : World} {b off : Nat} {rs : List SV} (hc : ∀ i (hi : i < rs.length), w.cell? ⟨b, off + i, none⟩ = some rs[i].slc) :
    (∀ j u, (rs.map SV.slc)[j]? = some u → w.cell? ((⟨b, off, none⟩ : Addr).add j) = some u) ∧ ∀ u ∈ rs.map SV.slc, u.oneCell' = true := by
  refine ⟨fun j u hu => ?_, fun u hu => ?_⟩
  · rw [List.getElem?_map] at hu
    have hj : j < rs.length := by
      apply Classical.byContradiction
      intro hh
      rw [List.getElem?_eq_none (by omega)] at hu
      cases hu
    rw [Addr.add_lit, hc j hj]
    rw [List.getElem?_eq_getElem hj] at hu
    exact hu
  · obtain ⟨t, _, rfl⟩ := List.mem_map.1 hu
    rfl

/-- 'append(out, rows...)' of at least one row, at a step of a region that draws its order. -/
theorem step_append_rowsW {w : World} {ops : Array Oper} {o : Oper} {a : Act} {K : Act → World → Prop} {Q : Exit → Act → World → Prop} {E : Prop} (hgd : o.guard = none) (s x : Operand)
    (ho : o.op = .call { callee := .builtin .append, args := #[s, x], argTypes := #[31, 31] })
    (base : Nat) (v : Value) (rs : List SV) (hs : a.eval s = v) (hown : OwnW w base v rs) (b off c : Nat) (news : List SV) (hx : a.eval x = .slice (some ⟨b, off, none⟩) news.length c)
    (hc : ∀ i (hi : i < news.length), w.cell? ⟨b, off + i, none⟩ = some news[i].slc) (hn : ∀ r ∈ news, r.Rd w v.ownBlock) (hm : 0 < news.length) (hlen : rs.length + news.length ≤ 1000000) (hbase : base ≤ w.heap.size)
    (h : ∀ v' w', OwnW w' base v' (rs ++ news) → w.grownBy w' v.ownBlock → (∀ g, v'.ownBlock = some g → v.ownBlock = some g ∨ w.heap.size ≤ g) → K (a.put o.dst v') w') :
    if Region.wanted o (yielded ops a.tmps) = true then Oper.wp Tryd.prog o a w K Q else E := by
  obtain ⟨i, hi, hz, hsz, hby⟩ := info_parts Tryd.infoIntS
  refine step_append_lies w hgd s x _ ho base 22 i _ 1 24 Tryd.underlying31 hi hz hsz hby rfl (by omega) v rs.length _ hs hown.1 ⟨b, off, none⟩ news.length c (news.map SV.slc) hx (by simp) (news_rows hc).1 (news_rows hc).2 hm (by unfold maxLen; omega) (by omega) hbase _ rfl ?_
  intro g cap w' hown' hgrow hat hlt
  have := hown.appended hown' hgrow hat hn
  rw [List.length_append] at this
  exact h _ w' this hgrow (fun k hk => by
    have e : g = k := by simpa [Value.ownBlock] using hk
    subst e
    rcases hat with h1 | h1
    · exact .inl h1
    · exact .inr (by omega))

/-- The same at a plain region. -/
theorem wpList_append_rowsW {w : World} {ops : Array Oper} {rest : List Oper} {o : Oper} {a : Act} {Q : Exit → Act → World → Prop} (hgd : o.guard = none) (s x : Operand)
    (ho : o.op = .call { callee := .builtin .append, args := #[s, x], argTypes := #[31, 31] })
    (base : Nat) (v : Value) (rs : List SV) (hs : a.eval s = v) (hown : OwnW w base v rs) (b off c : Nat) (news : List SV) (hx : a.eval x = .slice (some ⟨b, off, none⟩) news.length c)
    (hc : ∀ i (hi : i < news.length), w.cell? ⟨b, off + i, none⟩ = some news[i].slc) (hn : ∀ r ∈ news, r.Rd w v.ownBlock) (hm : 0 < news.length) (hlen : rs.length + news.length ≤ 1000000) (hbase : base ≤ w.heap.size)
    (h : ∀ v' w', OwnW w' base v' (rs ++ news) → w.grownBy w' v.ownBlock → (∀ g, v'.ownBlock = some g → v.ownBlock = some g ∨ w.heap.size ≤ g) → wpList Tryd.prog ops Q rest (a.put o.dst v') w') : wpList Tryd.prog ops Q (o :: rest) a w := by
  obtain ⟨i, hi, hz, hsz, hby⟩ := info_parts Tryd.infoIntS
  refine wpList_append_lies w hgd s x _ ho base 22 i _ 1 24 Tryd.underlying31 hi hz hsz hby rfl (by omega) v rs.length _ hs hown.1 ⟨b, off, none⟩ news.length c (news.map SV.slc) hx (by simp) (news_rows hc).1 (news_rows hc).2 hm (by unfold maxLen; omega) (by omega) hbase _ rfl ?_
  intro g cap w' hown' hgrow hat hlt
  have := hown.appended hown' hgrow hat hn
  rw [List.length_append] at this
  exact h _ w' this hgrow (fun k hk => by
    have e : g = k := by simpa [Value.ownBlock] using hk
    subst e
    rcases hat with h1 | h1
    · exact .inl h1
    · exact .inr (by omega))

/-- 'append(out, nil...)' at a step of a region that draws its order. -/
theorem step_append_noneW {w : World} {ops : Array Oper} {o : Oper} {a : Act} {K : Act → World → Prop} {Q : Exit → Act → World → Prop} {E : Prop} (hgd : o.guard = none) (s x : Operand)
    (ho : o.op = .call { callee := .builtin .append, args := #[s, x], argTypes := #[31, 31] })
    (base : Nat) (v : Value) (rs : List SV) (hs : a.eval s = v) (hown : OwnW w base v rs) (hx : a.eval x = .slice none 0 0)
    (h : K (a.put o.dst v) w) : if Region.wanted o (yielded ops a.tmps) = true then Oper.wp Tryd.prog o a w K Q else E := by
  have hw : Region.wanted o (yielded ops a.tmps) = true := by simp [Region.wanted, hgd]
  rw [if_pos hw]
  obtain ⟨i, hi, hz, hsz, hby⟩ := info_parts Tryd.infoIntS
  have hrun := run_append_owned_none (P := Tryd.prog) (w := w) base 31 o.type 22 i 1 Tryd.underlying31 hi v rs.length _ hown.1
  unfold Oper.wp
  simp [execOp, ho, resolve, invoke, builtin, hs, hx, hrun, Result.andThen]
  exact h

end Go.Proofs.YtoofkchhjkhdeaaDoor
