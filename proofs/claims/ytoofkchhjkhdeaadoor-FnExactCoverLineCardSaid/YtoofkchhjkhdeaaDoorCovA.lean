/-
  append of one number onto a slice of ones own, told where the result lies and which room it has; a slice whose longer brother was grown keeps what it held.
-/
import Derived.Test.YtoofkchhjkhdeaaDoorFrm
import Derived.Test.YtoofkchhjkhdeaaDoorCells
import Derived.Maps.AppendAt
import Derived.Deep.AppendLies
namespace Go.Proofs.YtoofkchhjkhdeaaDoor
open Go.RowKit
set_option linter.unusedVariables false
set_option linter.unusedSimpArgs false

/-- Where the result lies: in a new block, or in the old one with the old room. -/
def SameRoom (w w' : World) (v v' : Value) (n : Nat) : Prop := (v'.ownBlock = some w.heap.size ∧ ∀ k, k < w.heap.size → w'.heap[k]? = w.heap[k]?) ∨ ∃ g cap, v = .slice (some ⟨g, 0, none⟩) n cap ∧ v' = .slice (some ⟨g, 0, none⟩) (n + 1) cap

theorem run_append_int_room (w : World) (t ty : TypeId) (ht : Tryd.prog.underlying t = some (.slice 3)) (base : Nat) (v : Value) (xs : List Int) (hown : OwnI w base v xs) (b off c : Nat) (y : Int) (hcell : w.cell? ⟨b, off, none⟩ = some (.int .i64 y))
    (hlen : xs.length ≤ 1048576) (hbase : base ≤ w.heap.size) :
    ∃ v' w', (Builtin.append_ #[t, t] ty #[v, .slice (some ⟨b, off, none⟩) 1 c]).run Tryd.prog w = .ok v' w' ∧ OwnI w' base v' (xs ++ [y]) ∧ w.grownBy w' v.ownBlock ∧ SameRoom w w' v v' xs.length := by
  obtain ⟨i, hi, hz, hsz, hby⟩ := info_parts Tryd.infoInt
  have hnews : ∀ j u, [Value.int .i64 y][j]? = some u → w.cell? ((⟨b, off, none⟩ : Addr).add j) = some u := fun j u hj => by
    match j, hj with
    | 0, hj =>
      simp at hj
      subst hj
      exact hcell
  have h1 : ∀ u ∈ [Value.int .i64 y], u.oneCell' = true := fun u hu => by
    rw [List.mem_singleton] at hu; subst hu; rfl
  obtain ⟨v', w', hr, h2, h3, h4, h5⟩ := run_append_own_at (P := Tryd.prog) w base t ty 3 i _ 1 8 ht hi hz hsz hby rfl (by omega) v xs.length _ hown ⟨b, off, none⟩ 1 c [.int .i64 y] rfl hnews h1 (by unfold maxLen; omega) (by omega) hbase
  refine ⟨v', w', hr, ?_, h3, ?_⟩
  · unfold OwnI; simpa using h2
  · rcases hown.2 with ⟨hv, h0⟩ | ⟨g, cap, cur, hv, hbg, hg, hnc, hcm, hcs, htake⟩
    · left
      refine ⟨?_, fun k hk => h3.block k hk (by rw [hv]; simp [Value.ownBlock])⟩
      rcases h5 with h5 | h5
      · rcases h2.2 with ⟨hv', h0'⟩ | ⟨g', cap', cur', hv', _⟩
        · omega
        · rw [hv, hv'] at h5
          cases h5
      · exact h5
    · by_cases hroom : xs.length + 1 ≤ cap
      · have hr2 := run_append_room (P := Tryd.prog) w t ty 3 i ht hi g xs.length cap cur hg ⟨b, off, none⟩ 1 c [.int .i64 y] (by rw [hsz]; rfl) hnews h1 hroom (by rw [hsz, hcs]; simpa using hroom)
        rw [← hv, hr] at hr2
        injection hr2 with hr2 _
        exact .inr ⟨g, cap, hv, hr2⟩
      · have holds : ∀ j u, (xs.map (Value.int .i64))[j]? = some u → w.cell? ((⟨g, 0, none⟩ : Addr).add j) = some u := World.ownsRow.cells hown (g := g) (by rw [hv]; rfl)
        have hr2 := run_append_grow (P := Tryd.prog) w t ty 3 i _ ht hi hz ⟨g, 0, none⟩ xs.length cap (xs.map (Value.int .i64)) (by rw [hsz]; simp) holds ⟨b, off, none⟩ 1 c [.int .i64 y] (by rw [hsz]; rfl) hnews (by omega) (by omega) (growslice_fits (by omega) (by rw [hby]; omega))
        rw [← hv, hr] at hr2
        injection hr2 with hr2 hr3
        exact .inl ⟨by rw [hr2]; rfl, fun k hk => by rw [hr3]; exact Go.heap_alloc_old w.drew _ hk⟩

/-- 'append(s, y)' at a plain region. -/
theorem wpList_append_intR {w : World} {ops : Array Oper} {rest : List Oper} {o : Oper} {a : Act} {Q : Exit → Act → World → Prop} (hgd : o.guard = none) (s x : Operand)
    (ho : o.op = .call { callee := .builtin .append, args := #[s, x], argTypes := #[22, 22] })
    (base : Nat) (v : Value) (xs : List Int) (hs : a.eval s = v) (hown : OwnI w base v xs) (b off c : Nat) (y : Int) (hx : a.eval x = .slice (some ⟨b, off, none⟩) 1 c)
    (hcell : w.cell? ⟨b, off, none⟩ = some (.int .i64 y)) (hlen : xs.length ≤ 1048576) (hbase : base ≤ w.heap.size)
    (h : ∀ v' w', OwnI w' base v' (xs ++ [y]) → w.grownBy w' v.ownBlock → SameRoom w w' v v' xs.length → wpList Tryd.prog ops Q rest (a.put o.dst v') w') : wpList Tryd.prog ops Q (o :: rest) a w := by
  refine wpList_plain hgd fun K hK => ?_
  obtain ⟨v', w', hr, h2, h3, h4⟩ := run_append_int_room w _ o.type Tryd.underlying22 base v xs hown b off c y hcell hlen hbase
  unfold Oper.wp execOp
  simp only [ho, resolve, invoke, builtin, Sem.run_bind, Sem.run_pure, Result.andThen_ok, List.map_toArray, List.map_cons, List.map_nil, hs, hx, hr]
  exact hK _ _ (h v' w' h2 h3 h4)

/-- The same at a step of a region that draws its order. -/
theorem step_append_intR {w : World} {ops : Array Oper} {o : Oper} {a : Act} {K : Act → World → Prop} {Q : Exit → Act → World → Prop} {E : Prop} (hgd : o.guard = none) (s x : Operand)
    (ho : o.op = .call { callee := .builtin .append, args := #[s, x], argTypes := #[22, 22] })
    (base : Nat) (v : Value) (xs : List Int) (hs : a.eval s = v) (hown : OwnI w base v xs) (b off c : Nat) (y : Int) (hx : a.eval x = .slice (some ⟨b, off, none⟩) 1 c)
    (hcell : w.cell? ⟨b, off, none⟩ = some (.int .i64 y)) (hlen : xs.length ≤ 1048576) (hbase : base ≤ w.heap.size)
    (h : ∀ v' w', OwnI w' base v' (xs ++ [y]) → w.grownBy w' v.ownBlock → SameRoom w w' v v' xs.length → K (a.put o.dst v') w') : if Region.wanted o (yielded ops a.tmps) = true then Oper.wp Tryd.prog o a w K Q else E := by
  have hw : Region.wanted o (yielded ops a.tmps) = true := by simp [Region.wanted, hgd]
  rw [if_pos hw]
  obtain ⟨v', w', hr, h2, h3, h4⟩ := run_append_int_room w _ o.type Tryd.underlying22 base v xs hown b off c y hcell hlen hbase
  unfold Oper.wp execOp
  simp only [ho, resolve, invoke, builtin, Sem.run_bind, Sem.run_pure, Result.andThen_ok, List.map_toArray, List.map_cons, List.map_nil, hs, hx, hr]
  exact h v' w' h2 h3 h4

/-- A slice whose longer brother holds xs ++ [y] holds xs. -/
theorem OwnI.back {w w1 w2 w' : World} {base : Nat} {v v' : Value} {xs : List Int} {y : Int} (h : OwnI w base v xs) (hr : SameRoom w1 w2 v v' xs.length) (h' : OwnI w' base v' (xs ++ [y]))
    (hne : v'.ownBlock = some w1.heap.size → (∀ k, k < w1.heap.size → w2.heap[k]? = w1.heap[k]?) → ∀ k, v.ownBlock = some k → w'.heap[k]? = w.heap[k]?) : OwnI w' base v xs := by
  rcases hr with ⟨hr, hr0⟩ | ⟨g, cap, hv, hv'⟩
  · refine ⟨h.1, ?_⟩
    rcases h.2 with h0 | ⟨g, cap, cur, e, hb, hh, rest⟩
    · exact .inl h0
    · exact .inr ⟨g, cap, cur, e, hb, by rw [hne hr hr0 g (by rw [e]; rfl)]; exact hh, rest⟩
  · refine ⟨h.1, .inr ?_⟩
    rcases h'.2 with ⟨e, _⟩ | ⟨g2, cap2, cur2, e, hb2, hh2, hn2, hm2, hs2, ht2⟩
    · rw [hv'] at e; cases e
    · rw [hv'] at e
      injection e with e1 e2 e3
      injection e1 with e1
      injection e1 with e1
      subst e1 e3
      refine ⟨g, cap, cur2, hv, hb2, hh2, ?_, hm2, hs2, ?_⟩
      · simp at hn2; omega
      · have := congrArg (List.take (xs.length * 1)) ht2
        rw [List.take_take, show min (xs.length * 1) ((xs ++ [y]).length * 1) = xs.length * 1 by simp] at this
        rw [this, List.map_append, List.take_append_of_le_length (by simp), List.take_of_length_le (by simp)]
/-- A slice of ones own is there still where its block was left as it was. -/
theorem OwnI.frm {S : Nat → Prop} {w w' : World} {base : Nat} {v : Value} {xs : List Int} (h : OwnI w base v xs) (hf : Frm S w w') (hS : ∀ k, v.ownBlock = some k → ¬ S k) : OwnI w' base v xs := by
  refine ⟨h.1, ?_⟩
  rcases h.2 with h0 | ⟨g, cap, cur, e, hb, hh, rest⟩
  · exact .inl h0
  · have hlt : g < w.heap.size := (Array.getElem?_eq_some_iff.1 hh).1
    exact .inr ⟨g, cap, cur, e, hb, by rw [hf.block g hlt (hS g (by rw [e]; rfl))]; exact hh, rest⟩
end Go.Proofs.YtoofkchhjkhdeaaDoor
