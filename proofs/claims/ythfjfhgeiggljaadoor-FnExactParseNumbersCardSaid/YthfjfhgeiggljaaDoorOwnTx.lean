/-
  A slice of texts that the call itself grows: append of one text.
-/
import Derived.Test.YthfjfhgeiggljaaDoorOwn
namespace Go.Proofs.YthfjfhgeiggljaaDoor
open Go.RowKit
set_option linter.unusedVariables false
set_option linter.unusedSimpArgs false

/-- v is a slice of the call's own, in blocks from base on, that holds the texts. -/
def OwnTx (w : World) (base : Nat) (v : Value) (us : List ByteArray) : Prop := w.ownsRow base 9 1 v us.length (us.map Value.string)
theorem OwnTx.empty (w : World) (base : Nat) (hb : base ≤ w.heap.size) : OwnTx (w.alloc (.cells #[] 9)) base (.slice (some ⟨w.heap.size, 0, none⟩) 0 0) [] :=
  ⟨rfl, .inr ⟨w.heap.size, 0, #[], rfl, hb, heap_alloc_new w _, Nat.le_refl _, Nat.zero_le _, rfl, rfl⟩⟩
theorem OwnTx.alloc {w : World} {base : Nat} {v : Value} {us : List ByteArray} (h : OwnTx w base v us) (o : Obj) : OwnTx (w.alloc o) base v us := World.ownsRow.alloc h o
theorem OwnTx.drewN {w : World} {base : Nat} {v : Value} {us : List ByteArray} (h : OwnTx w base v us) (n : Nat) : OwnTx (w.drewN n) base v us := h
theorem OwnTx.form {w : World} {base : Nat} {v : Value} {us : List ByteArray} (h : OwnTx w base v us) : ∃ A cap, v = .slice A us.length cap := by
  rcases h.2 with ⟨rfl, h0⟩ | ⟨g, cap, cur, rfl, _⟩
  · exact ⟨none, 0, by rw [h0]⟩
  · exact ⟨some ⟨g, 0, none⟩, cap, rfl⟩
theorem OwnTx.lt {w : World} {base : Nat} {v : Value} {us : List ByteArray} (h : OwnTx w base v us) : ∀ k, v.ownBlock = some k → base ≤ k ∧ k < w.heap.size := World.ownsRow.lt h
theorem infoTxt : (Tryd.prog.info? 9).map (fun i => (i.zero, i.size, i.bytes)) = some (some (.string ⟨#[]⟩), 1, 16) := by kernel_rfl

/-- 'append(s, y)' onto a slice of the call's own. -/
theorem wpList_append_txt {w : World} {ops : Array Oper} {rest : List Oper} {o : Oper} {a : Act} {Q : Exit → Act → World → Prop} (hgd : o.guard = none) (s x : Operand)
    (ho : o.op = .call { callee := .builtin .append, args := #[s, x], argTypes := #[56, 56] })
    (base : Nat) (v : Value) (us : List ByteArray) (hs : a.eval s = v) (hown : OwnTx w base v us) (g : Nat) (y : ByteArray) (hx : a.eval x = .slice (some ⟨g, 0, none⟩) 1 1)
    (hcell : w.cell? ⟨g, 0, none⟩ = some (.string y)) (hlen : us.length ≤ 2000000) (hbase : base ≤ w.heap.size)
    (h : ∀ v' w', OwnTx w' base v' (us ++ [y]) → Below base w w' → wpList Tryd.prog ops Q rest (a.put o.dst v') w') : wpList Tryd.prog ops Q (o :: rest) a w := by
  obtain ⟨i, hi, hz, hsz, hby⟩ := info_parts infoTxt
  refine wpList_append_own _ hgd s x _ ho base 9 i _ 1 16 Tryd.underlying56 hi hz hsz hby rfl (by omega) v us.length _ hs hown ⟨g, 0, none⟩ 1 1 [.string y] hx rfl ?_ ?_ (by unfold maxLen; omega) (by omega) hbase ?_
  · intro j u hj
    match j, hj with
    | 0, hj =>
      simp at hj
      subst hj
      exact hcell
  · intro u hu
    simp at hu
    subst hu
    rfl
  · intro v' w' hown' hgrow _
    refine h v' w' ?_ ?_
    · unfold OwnTx
      simpa using hown'
    · exact (Below.refl base w).grown hgrow hbase (fun k hk => (hown.lt k hk).1)

end Go.Proofs.YthfjfhgeiggljaaDoor
