/-
  Slices of rhythms: one that reads as a list; one that the call itself grows.
-/
import Derived.Test.YtjoeglekcnaebaaGreatDoorCkA
import Derived.Test.YtjoeglekcnaebaaGreatDoorRw
import Derived.Deep.AppendLies
namespace Go.Proofs.YtjoeglekcnaebaaGreatDoor
open Go.RowKit
set_option linter.unusedVariables false
set_option linter.unusedSimpArgs false

/-- v is a slice of rhythms of the call's own, in blocks from base on, that holds the list; each one's beats in a block of their own. -/
def OwnR (w : World) (base : Nat) (v : Value) (rs : List RV) : Prop :=
  w.ownsRow base 27 2 v rs.length (cellsR rs) ∧ (∀ r ∈ rs, r.Lies w base) ∧ rs.Pairwise (fun r s => r.b < s.b) ∧ ∀ g, v.ownBlock = some g → ∀ r ∈ rs, g ≠ r.b
section
variable {w w' : World} {base : Nat} {v : Value} {rs : List RV}
theorem OwnR.nil (w : World) (base : Nat) : OwnR w base (.slice none 0 0) [] := ⟨World.ownsRow_nil _ _ _ _, by simp, List.Pairwise.nil, by simp⟩
theorem OwnR.empty_at (w : World) (base g : Nat) (hg : w.heap.size = g) (hb : base ≤ g) : OwnR (w.alloc (.cells #[] 27)) base (.slice (some ⟨g, 0, none⟩) 0 0) [] := by
  subst hg
  exact ⟨⟨rfl, .inr ⟨w.heap.size, 0, #[], rfl, hb, heap_alloc_new w _, Nat.le_refl _, Nat.zero_le _, rfl, rfl⟩⟩, by simp, List.Pairwise.nil, by simp⟩
theorem OwnR.form (h : OwnR w base v rs) : ∃ A cap, v = .slice A rs.length cap := by
  rcases h.1.2 with ⟨rfl, h0⟩ | ⟨g, cap, cur, rfl, _⟩
  · exact ⟨none, 0, by rw [h0]⟩
  · exact ⟨some ⟨g, 0, none⟩, cap, rfl⟩
theorem OwnR.frm {S : Nat → Prop} (h : OwnR w base v rs) (hf : Frm S w w') (hS : ∀ c, base ≤ c → c < w.heap.size → ¬ S c) : OwnR w' base v rs := by
  refine ⟨⟨h.1.1, ?_⟩, fun r hr => (h.2.1 r hr).frm hf (hS _ (h.2.1 r hr).2.1 (h.2.1 r hr).2.2.1), h.2.2.1, h.2.2.2⟩
  rcases h.1.2 with h0 | ⟨g, cap, cur, e, hg, hh, rest⟩
  · exact .inl h0
  · have hlt : g < w.heap.size := (Array.getElem?_eq_some_iff.1 hh).1
    exact .inr ⟨g, cap, cur, e, hg, by rw [hf.block g hlt (hS g hg hlt)]; exact hh, rest⟩
theorem OwnR.grown (h : OwnR w base v rs) (hb : Below w.heap.size w w') : OwnR w' base v rs := h.frm (Frm.pure hb (fun _ => False)) (fun _ _ _ h => h)
theorem OwnR.alloc (h : OwnR w base v rs) (o : Obj) : OwnR (w.alloc o) base v rs := h.grown ((Below.refl _ _).alloc (Nat.le_refl _) o)
theorem OwnR.mono {base' : Nat} (h : OwnR w base v rs) (hb : base' ≤ base) : OwnR w base' v rs := ⟨⟨h.1.1, by
    rcases h.1.2 with h0 | ⟨g, cap, cur, e, hg, rest⟩
    · exact .inl h0
    · exact .inr ⟨g, cap, cur, e, by omega, rest⟩⟩, fun r hr => (h.2.1 r hr).mono hb, h.2.2⟩
theorem OwnR.lt (h : OwnR w base v rs) : ∀ g, v.ownBlock = some g → base ≤ g ∧ g < w.heap.size := h.1.lt
end

theorem Tryz.infoRhythm : (Tryz.prog.info? 27).map (fun i => (i.zero, i.size, i.bytes)) = some (some (.agg #[.int .i64 0, .slice none 0 0]), 2, 32) := by kernel_rfl

/-- 'append(s, r)' onto a slice of rhythms of the call's own. -/
theorem wpList_append_rh {w : World} {ops : Array Oper} {rest : List Oper} {o : Oper} {a : Act} {Q : Exit → Act → World → Prop} (hgd : o.guard = none) (s x : Operand)
    (ho : o.op = .call { callee := .builtin .append, args := #[s, x], argTypes := #[53, 53] })
    (base : Nat) (v : Value) (rs : List RV) (hs : a.eval s = v) (hown : OwnR w base v rs) (g : Nat) (r : RV) (hx : a.eval x = .slice (some ⟨g, 0, none⟩) 1 1)
    (hc : w.cell? ⟨g, 0, none⟩ = some (.int .i64 r.n) ∧ w.cell? ⟨g, 1, none⟩ = some r.slc) (hr : r.Lies w base) (hlt : ∀ r' ∈ rs, r'.b < r.b) (hne : ∀ g, v.ownBlock = some g → g ≠ r.b)
    (hlen : rs.length ≤ 1048576) (hbase : base ≤ w.heap.size)
    (h : ∀ v' w', OwnR w' base v' (rs ++ [r]) → Below base w w' → wpList Tryz.prog ops Q rest (a.put o.dst v') w') : wpList Tryz.prog ops Q (o :: rest) a w := by
  obtain ⟨i, hi, hz, hsz, hby⟩ := info_parts Tryz.infoRhythm
  refine wpList_append_lies w hgd s x _ ho base 27 i _ 2 32 Tryz.underlying53 hi hz hsz hby rfl (by omega) v rs.length _ hs hown.1 ⟨g, 0, none⟩ 1 1 r.cells hx rfl ?_ ?_ (by omega) (by unfold maxLen; omega) (by omega) hbase _ rfl ?_
  · intro j u hj
    match j, hj with
    | 0, hj => simp [RV.cells] at hj; subst hj; exact hc.1
    | 1, hj => simp [RV.cells] at hj; subst hj; exact hc.2
  · intro u hu
    simp [RV.cells] at hu
    rcases hu with rfl | rfl <;> rfl
  · intro g' cap w' hown' hgrow hat hlt'
    have hsame : ∀ r' ∈ rs ++ [r], r'.Lies w' base ∧ g' ≠ r'.b := by
      intro r' hr'
      have hl : r'.Lies w base ∧ ∀ g, v.ownBlock = some g → g ≠ r'.b := by
        rcases List.mem_append.1 hr' with h1 | h1
        · exact ⟨hown.2.1 r' h1, fun g hg => hown.2.2.2 g hg r' h1⟩
        · rw [List.mem_singleton] at h1; subst h1; exact ⟨hr, hne⟩
      have hblk : w'.heap[r'.b]? = w.heap[r'.b]? := hgrow.block _ hl.1.2.2.1 (fun e => hl.2 _ e.symm rfl)
      refine ⟨⟨hl.1.1, hl.1.2.1, Nat.lt_of_lt_of_le hl.1.2.2.1 hgrow.size, fun hn => ⟨(hl.1.2.2.2 hn).1, ?_⟩⟩, ?_⟩
      · have ht := (hl.1.2.2.2 hn).2
        exact ⟨Nat.lt_of_lt_of_le ht.1 hgrow.size, fun t h => ⟨(World.cell?_of_block (a := ⟨r'.b, t, none⟩) hblk).trans (ht.2 t h).1, (World.frozen?_of_block (a := ⟨r'.b, t, none⟩) hblk).trans (ht.2 t h).2⟩⟩
      · rcases hat with h1 | h1
        · exact hl.2 g' h1
        · have := hl.1.2.2.1; omega
    refine h _ w' ⟨?_, fun r' hr' => (hsame r' hr').1, ?_, ?_⟩ ((Below.refl base w).grown hgrow hbase (fun k hk => (hown.1.lt k hk).1))
    · rw [cellsR_app, List.length_append]; exact hown'
    · rw [List.pairwise_append]
      refine ⟨hown.2.2.1, by simp, fun a ha b hb => ?_⟩
      rw [List.mem_singleton] at hb
      subst hb
      exact hlt a ha
    · intro g2 hg2 r' hr'
      have : g' = g2 := by simpa [Value.ownBlock] using hg2
      subst this
      exact (hsame r' hr').2

/-- A slice of rhythms that lies below block B and reads as the list. -/
def RdR (w : World) (B : Nat) (A : Option Addr) (rs : List RV) : Prop :=
  rs.length ≤ 1048576 ∧ (∀ r ∈ rs, Ints w B r.A r.xs) ∧
  (0 < rs.length → ∃ g, A = some ⟨g, 0, none⟩ ∧ g < B ∧ ∀ i (h : i < rs.length), w.cell? ⟨g, i * 2, none⟩ = some (.int .i64 rs[i].n) ∧ w.cell? ⟨g, i * 2 + 1, none⟩ = some rs[i].slc)
theorem RdR.below {w w' : World} {B : Nat} {A : Option Addr} {rs : List RV} (h : RdR w B A rs) (hb : Below B w w') : RdR w' B A rs := by
  refine ⟨h.1, fun r hr => (h.2.1 r hr).below hb, fun hn => ?_⟩
  obtain ⟨g, e, hg, hc⟩ := h.2.2 hn
  exact ⟨g, e, hg, fun i hi => ⟨(hb.cell (p := ⟨g, i * 2, none⟩) hg).trans (hc i hi).1, (hb.cell (p := ⟨g, i * 2 + 1, none⟩) hg).trans (hc i hi).2⟩⟩
theorem RdR.mono {w : World} {B B' : Nat} {A : Option Addr} {rs : List RV} (h : RdR w B A rs) (hB : B ≤ B') : RdR w B' A rs := by
  refine ⟨h.1, fun r hr => (h.2.1 r hr).mono hB, fun hn => ?_⟩
  obtain ⟨g, e, hg, hc⟩ := h.2.2 hn
  exact ⟨g, e, by omega, hc⟩
theorem RdR.lift {w w' : World} {A : Option Addr} {rs : List RV} (h : RdR w w.heap.size A rs) (hb : Below w.heap.size w w') : RdR w' w'.heap.size A rs := (h.below hb).mono hb.size
theorem Ints.drew6_ {w : World} {B : Nat} {A : Option Addr} {xs : List Int} (h : Ints w B A xs) : Ints w.drew B A xs := h
theorem OwnR.rd {w : World} {base : Nat} {A : Option Addr} {cap : Nat} {rs : List RV} (h : OwnR w base (.slice A rs.length cap) rs) (hl : rs.length ≤ 1048576) (hf : ∀ r ∈ rs, ∀ x ∈ r.xs, Fits x) : RdR w w.heap.size A rs := by
  refine ⟨hl, fun r hr => (h.2.1 r hr).ints (hf r hr), fun hn => ?_⟩
  rcases h.1.2 with ⟨hv, h0⟩ | ⟨g, cap', cur, hv, hge, hh, hnc, hm, hsz, hxs⟩
  · omega
  · have hA : A = some ⟨g, 0, none⟩ := by injection hv
    subst hA
    refine ⟨g, rfl, (h.1.lt g rfl).2, fun i hi => ?_⟩
    have h0 := World.ownsRow.cells h.1 (g := g) rfl (i * 2) _ (cellsR_get rs i hi).1
    have h1 := World.ownsRow.cells h.1 (g := g) rfl (i * 2 + 1) _ (cellsR_get rs i hi).2
    rw [Go.WideShapes.add_plain, Nat.zero_add] at h0 h1
    exact ⟨h0, h1⟩

/-- A rhythm that a call has just handed back, beside a list that the caller owns. -/
theorem OwnR.fresh {wo w1 w2 : World} {base : Nat} {v : Value} {rs : List RV} {xs : List Int} {A : Option Addr} (hown : OwnR wo base v rs) (hb1 : Below wo.heap.size wo w1) (hrw : RW w1 wo.heap.size A xs) (hbase : base ≤ wo.heap.size)
    (hb2 : Below w1.heap.size w1 w2) (hlt : wo.heap.size < w2.heap.size) (n : Int) (c : Nat) :
    ∃ b, (RV.mk n xs A c b).Lies w2 base ∧ (∀ r' ∈ rs, r'.b < b) ∧ (∀ g, v.ownBlock = some g → g ≠ b) ∧ OwnR w2 base v rs := by
  obtain ⟨b, hl⟩ := (hrw.below hb2).rv hlt n c
  have hge : wo.heap.size ≤ b := hl.2.1
  refine ⟨b, hl.mono hbase, fun r' hr' => ?_, fun g hg => ?_, (hown.grown hb1).grown hb2⟩
  · have := (hown.2.1 r' hr').2.2.1; omega
  · have := (hown.lt g hg).2; omega

/-- What a call hands back: the rhythms, in memory of the call's own. -/
def keyR (rs : List RV) : List (Int × List Int) := rs.map fun r => (r.n, r.xs)
theorem keyR_len (rs : List RV) : (keyR rs).length = rs.length := by simp [keyR]
theorem keyR_fit {rs : List RV} {L : List (Int × List Int)} (h : keyR rs = L) (hf : ∀ p ∈ L, ∀ x ∈ p.2, Fits x) : ∀ r ∈ rs, ∀ x ∈ r.xs, Fits x := by
  intro r hr
  subst h
  exact hf (r.n, r.xs) (List.mem_map.2 ⟨r, hr, rfl⟩)
def RetRs (w : World) (L : List (Int × List Int)) (e : Ending) (w' : World) : Prop := ∃ v rs, e = .returned v ∧ keyR rs = L ∧ OwnR w' w.heap.size v rs ∧ Below w.heap.size w w'

end Go.Proofs.YtjoeglekcnaebaaGreatDoor
