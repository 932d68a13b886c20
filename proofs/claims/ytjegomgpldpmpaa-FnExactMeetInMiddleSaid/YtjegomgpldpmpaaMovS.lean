/-
  MovesOf of the reference: rhythms put into a slice at their place.
-/
import Derived.Test.YtjegomgpldpmpaaMovW
import Derived.Test.YtjegomgpldpmpaaSpcP
namespace Go.Proofs.Ytjegomgpldpmpaa
open Go.RowKit Go.Shelf Go.Sort
set_option linter.unusedVariables false
set_option linter.unusedSimpArgs false

/-- v is a slice of rhythms, its row of the call's own. -/
def RowR (w : World) (base : Nat) (v : Value) (rs : List RV) : Prop := w.ownsRow base 28 2 v rs.length (cellsR rs)
theorem RowR.empty_at (w : World) (base g : Nat) (hg : w.heap.size = g) (hb : base ≤ g) : RowR (w.alloc (.cells #[] 28)) base (.slice (some ⟨g, 0, none⟩) 0 0) [] := by
  subst hg
  exact ⟨rfl, .inr ⟨w.heap.size, 0, #[], rfl, hb, heap_alloc_new w _, Nat.le_refl _, Nat.zero_le _, rfl, rfl⟩⟩
theorem RowR.grown {w w' : World} {base : Nat} {v : Value} {rs : List RV} (h : RowR w base v rs) (hb : Below w.heap.size w w') : RowR w' base v rs := by
  refine ⟨h.1, ?_⟩
  rcases h.2 with h0 | ⟨g, cap, cur, e, hg, hh, rest⟩
  · exact .inl h0
  · have hlt : g < w.heap.size := (Array.getElem?_eq_some_iff.1 hh).1
    exact .inr ⟨g, cap, cur, e, hg, by rw [hb.block g hlt]; exact hh, rest⟩
theorem RowR.mono {w : World} {base base' : Nat} {v : Value} {rs : List RV} (h : RowR w base v rs) (hb : base' ≤ base) : RowR w base' v rs :=
  ⟨h.1, by
    rcases h.2 with h0 | ⟨g, cap, cur, e, hg, rest⟩
    · exact .inl h0
    · exact .inr ⟨g, cap, cur, e, by omega, rest⟩⟩
theorem RowR.cell {w : World} {base g c : Nat} {rs : List RV} (h : RowR w base (.slice (some ⟨g, 0, none⟩) rs.length c) rs) : ∀ j u, (cellsR rs)[j]? = some u → w.cell? ⟨g, j, none⟩ = some u := fun j u hu => by
  have := World.ownsRow.cells h (g := g) rfl j u hu
  rwa [Go.WideShapes.add_plain, Nat.zero_add] at this
theorem RowR.caps {w : World} {base g c : Nat} {rs : List RV} (h : RowR w base (.slice (some ⟨g, 0, none⟩) rs.length c) rs) : rs.length ≤ c ∧ g < w.heap.size := by
  refine ⟨?_, (h.lt g rfl).2⟩
  rcases h.2 with ⟨hv, _⟩ | ⟨g', cap', cur, hv, hg, hh, hnc, hm, hs, ht⟩
  · cases hv
  · injection hv with _ _ h3
    omega
theorem cells_one : ∀ (rs : List RV), ∀ u ∈ cellsR rs, u.oneCell' = true
  | [], u, hu => by cases hu
  | r :: rs, u, hu => by
    simp only [cellsR, List.mem_cons] at hu
    rcases hu with rfl | rfl | hu
    · rfl
    · rfl
    · exact cells_one rs u hu
theorem cells_take (rs : List RV) (k j : Nat) (u : Value) (h : (cellsR (rs.take k))[j]? = some u) : (cellsR rs)[j]? = some u := by
  have e : cellsR rs = cellsR (rs.take k) ++ cellsR (rs.drop k) := by rw [← cellsR_app, List.take_append_drop]
  rw [e, List.getElem?_append_left (by
    rcases Nat.lt_or_ge j (cellsR (rs.take k)).length with h1 | h1
    · exact h1
    · rw [List.getElem?_eq_none h1] at h; cases h)]
  exact h
theorem cells_drop (rs : List RV) (k j : Nat) (hk : k ≤ rs.length) (u : Value) (h : (cellsR (rs.drop k))[j]? = some u) : (cellsR rs)[k * 2 + j]? = some u := by
  have e : cellsR rs = cellsR (rs.take k) ++ cellsR (rs.drop k) := by rw [← cellsR_app, List.take_append_drop]
  have hl : (cellsR (rs.take k)).length = k * 2 := by rw [cellsR_len, List.length_take]; omega
  rw [e, List.getElem?_append_right (by omega), hl, Nat.add_sub_cancel_left]
  exact h

theorem cells_single {r : RV} {w : World} {g : Nat} (h0 : w.cell? ⟨g, 0, none⟩ = some (.int .i64 r.n)) (h1 : w.cell? ⟨g, 1, none⟩ = some r.slc) : ∀ j u, (cellsR [r])[j]? = some u → w.cell? ⟨g, 0 + j, none⟩ = some u := fun j u hu => by
  match j, hu with
  | 0, hu => simp [cellsR] at hu; subst hu; exact h0
  | 1, hu => simp [cellsR] at hu; subst hu; exact h1

/-- 'append(s, rs...)'. -/
theorem wpList_append_rows {w : World} {ops : Array Oper} {rest : List Oper} {o : Oper} {a : Act} {Q : Exit → Act → World → Prop} (hgd : o.guard = none) (s x : Operand)
    (ho : o.op = .call { callee := .builtin .append, args := #[s, x], argTypes := #[26, 26] })
    (base : Nat) (v : Value) (rs : List RV) (hs : a.eval s = v) (hown : RowR w base v rs) (g off m c : Nat) (ss : List RV) (hx : a.eval x = .slice (some ⟨g, off, none⟩) m c) (hm : ss.length = m)
    (hc : ∀ j u, (cellsR ss)[j]? = some u → w.cell? ⟨g, off + j, none⟩ = some u) (hlen : rs.length + ss.length ≤ 1048576) (hbase : base ≤ w.heap.size)
    (h : ∀ v' w', RowR w' base v' (rs ++ ss) → Below base w w' → wpList Try.prog ops Q rest (a.put o.dst v') w') : wpList Try.prog ops Q (o :: rest) a w := by
  subst hm
  obtain ⟨i, hi, hz, hsz, hby⟩ := info_parts Try.infoRhythm
  refine wpList_append_own _ hgd s x _ ho base 28 i _ 2 32 Try.underlying26 hi hz hsz hby rfl (by omega) v rs.length _ hs hown ⟨g, off, none⟩ ss.length c (cellsR ss) hx (cellsR_len ss) ?_ (cells_one ss) (by unfold maxLen; omega) (by omega) hbase ?_
  · intro j u hu
    rw [Go.WideShapes.add_plain]
    exact hc j u hu
  · intro v' w' hown' hgrow _
    refine h v' w' ?_ ((Below.refl base w).grown hgrow hbase (fun k hk => (World.ownsRow.lt hown k hk).1))
    unfold RowR
    rw [cellsR_app, List.length_append]
    exact hown'
theorem RowR.pos {w : World} {base : Nat} {v : Value} {rs : List RV} (h : RowR w base v rs) (hp : 0 < rs.length) : ∃ g c, v = .slice (some ⟨g, 0, none⟩) rs.length c := by
  rcases h.2 with ⟨rfl, h0⟩ | ⟨g, cap, cur, rfl, _⟩
  · omega
  · exact ⟨g, cap, rfl⟩
theorem RowR.form {w : World} {base : Nat} {v : Value} {rs : List RV} (h : RowR w base v rs) : ∃ A c, v = .slice A rs.length c := by
  rcases h.2 with ⟨rfl, h0⟩ | ⟨g, cap, cur, rfl, _⟩
  · exact ⟨none, 0, by rw [h0]⟩
  · exact ⟨some ⟨g, 0, none⟩, cap, rfl⟩
theorem RowR.rd {w : World} {base g c : Nat} {rs : List RV} (h : RowR w base (.slice (some ⟨g, 0, none⟩) rs.length c) rs) (hl : rs.length ≤ 1048576) (hr : ∀ r ∈ rs, Ints w w.heap.size r.A r.xs) : RdR w w.heap.size (some ⟨g, 0, none⟩) rs :=
  ⟨hl, hr, fun hn => ⟨g, rfl, h.caps.2, fun i hi => ⟨h.cell _ _ (cellsR_get rs i hi).1, h.cell _ _ (cellsR_get rs i hi).2⟩⟩⟩

def RetRd (w : World) (L : List (Int × List Int)) (e : Ending) (w' : World) : Prop := ∃ A c rs, e = .returned (.slice A rs.length c) ∧ keyR rs = L ∧ RdR w' w'.heap.size A rs ∧ Below w.heap.size w w'

end Go.Proofs.Ytjegomgpldpmpaa
