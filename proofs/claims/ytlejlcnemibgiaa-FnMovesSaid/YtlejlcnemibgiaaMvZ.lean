/-
  Several texts of this proof in one: MovS, WayA, WayI, WayJ, ComS, MvP, PopT, Pop, EvnT, PopC, Com, MvW, MvI, MvM, StepsL, StepsOf, Spn, SzsT, Szs, SpS, IsEv, EvR, MovX, WayS, Mid, Evn, Few.
-/
import Derived.Test.YtlejlcnemibgiaaMovW
import Derived.Test.YtlejlcnemibgiaaSpcP
import Derived.Test.YtlejlcnemibgiaaTwo
import Derived.Test.YtlejlcnemibgiaaTurn
import Derived.Test.YtlejlcnemibgiaaSpcR
import Derived.Test.YtlejlcnemibgiaaWin
import Derived.Test.YtlejlcnemibgiaaCells
import Derived.Test.YtlejlcnemibgiaaWayV
import Derived.Test.YtlejlcnemibgiaaBase
import Derived.Test.YtlejlcnemibgiaaFullC
import Derived.Test.YtlejlcnemibgiaaWayU
import Derived.Test.YtlejlcnemibgiaaMovT
import Derived.Test.YtlejlcnemibgiaaCode
import Derived.Test.YtlejlcnemibgiaaFrm
import Derived.Test.YtlejlcnemibgiaaEqs
import Derived.Test.YtlejlcnemibgiaaOwn
import Derived.Test.YtlejlcnemibgiaaRok
import Derived.Test.YtlejlcnemibgiaaSrok
import Derived.Test.YtlejlcnemibgiaaRem
import Derived.Test.YtlejlcnemibgiaaColl
import Derived.Test.YtlejlcnemibgiaaPer
import Derived.Test.YtlejlcnemibgiaaRw
import Derived.Deep.RegionLaw
import Derived.Test.YtlejlcnemibgiaaDst
import Derived.Test.YtlejlcnemibgiaaRv
namespace Go.Proofs.Ytlejlcnemibgiaa
open Go.RowKit Go.Shelf Go.Sort
set_option linter.unusedVariables false
set_option linter.unusedSimpArgs false

/-- v is a slice of rhythms, its row of the call's own. -/
def RowR (w : World) (base : Nat) (v : Value) (rs : List RV) : Prop := w.ownsRow base 26 2 v rs.length (cellsR rs)
theorem RowR.empty_at (w : World) (base g : Nat) (hg : w.heap.size = g) (hb : base ≤ g) : RowR (w.alloc (.cells #[] 26)) base (.slice (some ⟨g, 0, none⟩) 0 0) [] := by
  subst hg
  exact ⟨rfl, .inr ⟨w.heap.size, 0, #[], rfl, hb, heap_alloc_new w _, Nat.le_refl _, Nat.zero_le _, rfl, rfl⟩⟩
theorem RowR.grown {w w' : World} {base : Nat} {v : Value} {rs : List RV} (h : RowR w base v rs) (hb : Below w.heap.size w w') : RowR w' base v rs := by
  refine ⟨h.1, ?_⟩
  rcases h.2 with h0 | ⟨g, cap, cur, e, hg, hh, rest⟩
  · exact .inl h0
  · have hlt : g < w.heap.size := (Array.getElem?_eq_some_iff.1 hh).1
    exact .inr ⟨g, cap, cur, e, hg, by rw [hb.block g hlt]; exact hh, rest⟩
theorem RowR.mono {w : World} {base base' : Nat} {v : Value} {rs : List RV} (h : RowR w base v rs) (hb : base' ≤ base) : RowR w base' v rs :=
  ⟨h.1, by
    rcases h.2 with h0 | ⟨g, cap, cur, e, hg, rest⟩
    · exact .inl h0
    · exact .inr ⟨g, cap, cur, e, by omega, rest⟩⟩
theorem RowR.cell {w : World} {base g c : Nat} {rs : List RV} (h : RowR w base (.slice (some ⟨g, 0, none⟩) rs.length c) rs) : ∀ j u, (cellsR rs)[j]? = some u → w.cell? ⟨g, j, none⟩ = some u := fun j u hu => by
  have := World.ownsRow.cells h (g := g) rfl j u hu
  rwa [Go.WideShapes.add_plain, Nat.zero_add] at this
theorem RowR.caps {w : World} {base g c : Nat} {rs : List RV} (h : RowR w base (.slice (some ⟨g, 0, none⟩) rs.length c) rs) : rs.length ≤ c ∧ g < w.heap.size := by
  refine ⟨?_, (h.lt g rfl).2⟩
  rcases h.2 with ⟨hv, _⟩ | ⟨g', cap', cur, hv, hg, hh, hnc, hm, hs, ht⟩
  · cases hv
  · injection hv with _ _ h3
    omega
theorem cells_one : ∀ (rs : List RV), ∀ u ∈ cellsR rs, u.oneCell' = true
  | [], u, hu => by cases hu
  | r :: rs, u, hu => by
    simp only [cellsR, List.mem_cons] at hu
    rcases hu with rfl | rfl | hu
    · rfl
    · rfl
    · exact cells_one rs u hu
theorem cells_take (rs : List RV) (k j : Nat) (u : Value) (h : (cellsR (rs.take k))[j]? = some u) : (cellsR rs)[j]? = some u := by
  have e : cellsR rs = cellsR (rs.take k) ++ cellsR (rs.drop k) := by rw [← cellsR_app, List.take_append_drop]
  rw [e, List.getElem?_append_left (by
    rcases Nat.lt_or_ge j (cellsR (rs.take k)).length with h1 | h1
    · exact h1
    · rw [List.getElem?_eq_none h1] at h; cases h)]
  exact h
theorem cells_drop (rs : List RV) (k j : Nat) (hk : k ≤ rs.length) (u : Value) (h : (cellsR (rs.drop k))[j]? = some u) : (cellsR rs)[k * 2 + j]? = some u := by
  have e : cellsR rs = cellsR (rs.take k) ++ cellsR (rs.drop k) := by rw [← cellsR_app, List.take_append_drop]
  have hl : (cellsR (rs.take k)).length = k * 2 := by rw [cellsR_len, List.length_take]; omega
  rw [e, List.getElem?_append_right (by omega), hl, Nat.add_sub_cancel_left]
  exact h

theorem cells_single {r : RV} {w : World} {g : Nat} (h0 : w.cell? ⟨g, 0, none⟩ = some (.int .i64 r.n)) (h1 : w.cell? ⟨g, 1, none⟩ = some r.slc) : ∀ j u, (cellsR [r])[j]? = some u → w.cell? ⟨g, 0 + j, none⟩ = some u := fun j u hu => by
  match j, hu with
  | 0, hu => simp [cellsR] at hu; subst hu; exact h0
  | 1, hu => simp [cellsR] at hu; subst hu; exact h1

/-- 'append(s, rs...)'. -/
theorem wpList_append_rows {w : World} {ops : Array Oper} {rest : List Oper} {o : Oper} {a : Act} {Q : Exit → Act → World → Prop} (hgd : o.guard = none) (s x : Operand)
    (ho : o.op = .call { callee := .builtin .append, args := #[s, x], argTypes := #[29, 29] })
    (base : Nat) (v : Value) (rs : List RV) (hs : a.eval s = v) (hown : RowR w base v rs) (g off m c : Nat) (ss : List RV) (hx : a.eval x = .slice (some ⟨g, off, none⟩) m c) (hm : ss.length = m)
    (hc : ∀ j u, (cellsR ss)[j]? = some u → w.cell? ⟨g, off + j, none⟩ = some u) (hlen : rs.length + ss.length ≤ 1048576) (hbase : base ≤ w.heap.size)
    (h : ∀ v' w', RowR w' base v' (rs ++ ss) → Below base w w' → wpList Try.prog ops Q rest (a.put o.dst v') w') : wpList Try.prog ops Q (o :: rest) a w := by
  subst hm
  obtain ⟨i, hi, hz, hsz, hby⟩ := info_parts Try.infoRhythm
  refine wpList_append_own _ hgd s x _ ho base 26 i _ 2 32 Try.underlying29 hi hz hsz hby rfl (by omega) v rs.length _ hs hown ⟨g, off, none⟩ ss.length c (cellsR ss) hx (cellsR_len ss) ?_ (cells_one ss) (by unfold maxLen; omega) (by omega) hbase ?_
  · intro j u hu
    rw [Go.WideShapes.add_plain]
    exact hc j u hu
  · intro v' w' hown' hgrow _
    refine h v' w' ?_ ((Below.refl base w).grown hgrow hbase (fun k hk => (World.ownsRow.lt hown k hk).1))
    unfold RowR
    rw [cellsR_app, List.length_append]
    exact hown'
theorem RowR.pos {w : World} {base : Nat} {v : Value} {rs : List RV} (h : RowR w base v rs) (hp : 0 < rs.length) : ∃ g c, v = .slice (some ⟨g, 0, none⟩) rs.length c := by
  rcases h.2 with ⟨rfl, h0⟩ | ⟨g, cap, cur, rfl, _⟩
  · omega
  · exact ⟨g, cap, rfl⟩
theorem RowR.form {w : World} {base : Nat} {v : Value} {rs : List RV} (h : RowR w base v rs) : ∃ A c, v = .slice A rs.length c := by
  rcases h.2 with ⟨rfl, h0⟩ | ⟨g, cap, cur, rfl, _⟩
  · exact ⟨none, 0, by rw [h0]⟩
  · exact ⟨some ⟨g, 0, none⟩, cap, rfl⟩
theorem RowR.rd {w : World} {base g c : Nat} {rs : List RV} (h : RowR w base (.slice (some ⟨g, 0, none⟩) rs.length c) rs) (hl : rs.length ≤ 1048576) (hr : ∀ r ∈ rs, Ints w w.heap.size r.A r.xs) : RdR w w.heap.size (some ⟨g, 0, none⟩) rs :=
  ⟨hl, hr, fun hn => ⟨g, rfl, h.caps.2, fun i hi => ⟨h.cell _ _ (cellsR_get rs i hi).1, h.cell _ _ (cellsR_get rs i hi).2⟩⟩⟩

def RetRd (w : World) (L : List (Int × List Int)) (e : Ending) (w' : World) : Prop := ∃ A c rs, e = .returned (.slice A rs.length c) ∧ keyR rs = L ∧ RdR w' w'.heap.size A rs ∧ Below w.heap.size w w'

end Go.Proofs.Ytlejlcnemibgiaa

namespace Go.Proofs.Ytlejlcnemibgiaa
open Go.RowKit
set_option linter.unusedVariables false
set_option linter.unusedSimpArgs false

/-- A cell of the call's own. -/
def Cell1 (w : World) (g : Nat) (u : Value) : Prop := w.cell? ⟨g, 0, none⟩ = some u ∧ w.frozen? ⟨g, 0, none⟩ = false ∧ g < w.heap.size
theorem Cell1.frm {w w' : World} {g : Nat} {u : Value} {S : Nat → Prop} (h : Cell1 w g u) (hf : Frm S w w') (hS : ¬ S g) : Cell1 w' g u :=
  ⟨(hf.cell h.2.2 hS).trans h.1, (hf.frozen h.2.2 hS).trans h.2.1, Nat.lt_of_lt_of_le h.2.2 hf.size⟩
theorem Cell1.new (w : World) (u : Value) (t : TypeId) : Cell1 (w.alloc (.cells #[u] t)) w.heap.size u := by
  have hh : (w.alloc (.cells #[u] t)).heap[w.heap.size]? = some (.cells #[u] t (0, 0)) := heap_alloc_new w _
  exact ⟨by rw [cell_of_row _ _ _ _ _ _ hh]; rfl, frozen_of_row _ _ _ _ _ hh, by simp⟩
theorem Cell1.set {w : World} {g : Nat} {u : Value} (h : Cell1 w g u) (x : Value) : Cell1 (w.setCell ⟨g, 0, none⟩ x) g x := by
  refine ⟨?_, by rw [World.frozen?_setCell]; exact h.2.1, by simpa [World.setCell] using h.2.2⟩
  rw [World.cell?_setCell_same w _ _ h.1]
theorem Cells2.frmX {w w' : World} {g : Nat} {u v : Value} {S : Nat → Prop} (h : Cells2 w g u v) (hf : Frm S w w') (hS : ¬ S g) : Cells2 w' g u v :=
  ⟨(hf.cell h.2.2.2.2 hS).trans h.1, (hf.cell h.2.2.2.2 hS).trans h.2.1, (hf.frozen h.2.2.2.2 hS).trans h.2.2.1, (hf.frozen h.2.2.2.2 hS).trans h.2.2.2.1, Nat.lt_of_lt_of_le h.2.2.2.2 hf.size⟩
theorem OwnR.frmX {w w' : World} {base : Nat} {v : Value} {rs : List RV} {S : Nat → Prop} (h : OwnR w base v rs) (hf : Frm S w w') (h1 : ∀ g, v.ownBlock = some g → ¬ S g) (h2 : ∀ r ∈ rs, ¬ S r.b) : OwnR w' base v rs := by
  refine ⟨⟨h.1.1, ?_⟩, fun r hr => (h.2.1 r hr).frm hf (h2 r hr), h.2.2.1, h.2.2.2⟩
  rcases h.1.2 with h0 | ⟨g, cap, cur, e, hg, hh, rest⟩
  · exact .inl h0
  · have hlt : g < w.heap.size := (Array.getElem?_eq_some_iff.1 hh).1
    exact .inr ⟨g, cap, cur, e, hg, by rw [hf.block g hlt (h1 g (by rw [e]; rfl))]; exact hh, rest⟩
theorem OwnR.single (w : World) (base : Nat) (r : RV) (hr : r.Lies w base) (hb : base ≤ w.heap.size) :
    OwnR (w.alloc (.cells #[.int .i64 r.n, r.slc] 26)) base (.slice (some ⟨w.heap.size, 0, none⟩) 1 1) [r] := by
  refine ⟨⟨rfl, .inr ⟨w.heap.size, 1, #[.int .i64 r.n, r.slc], rfl, hb, heap_alloc_new w _, Nat.le_refl _, by unfold maxLen; omega, rfl, rfl⟩⟩, fun r' h => ?_, by simp, fun g hg r' h => ?_⟩
  · rw [List.mem_singleton] at h
    subst h
    exact hr.frm (Frm.pure ((Below.refl _ _).alloc (Nat.le_refl _) _) (fun _ => False)) (fun h => h)
  · rw [List.mem_singleton] at h
    subst h
    have e : w.heap.size = g := by simpa [Value.ownBlock] using hg
    have := hr.2.2.1
    omega

/-- The blocks of a list, and its own, are none of these. -/
def FarR (v : Value) (rs : List RV) (g : Nat) : Prop := (∀ k, v.ownBlock = some k → k ≠ g) ∧ ∀ r ∈ rs, r.b ≠ g

/-- 'append(s, r)': what it turns is the row of s alone. -/
theorem wpList_append_rh2 {w : World} {ops : Array Oper} {rest : List Oper} {o : Oper} {a : Act} {Q : Exit → Act → World → Prop} (hgd : o.guard = none) (s x : Operand)
    (ho : o.op = .call { callee := .builtin .append, args := #[s, x], argTypes := #[29, 29] })
    (base : Nat) (v : Value) (rs : List RV) (hs : a.eval s = v) (hown : OwnR w base v rs) (g : Nat) (r : RV) (hx : a.eval x = .slice (some ⟨g, 0, none⟩) 1 1)
    (hc : w.cell? ⟨g, 0, none⟩ = some (.int .i64 r.n) ∧ w.cell? ⟨g, 1, none⟩ = some r.slc) (hr : r.Lies w base) (hlt : ∀ r' ∈ rs, r'.b < r.b) (hne : ∀ g, v.ownBlock = some g → g ≠ r.b)
    (hlen : rs.length ≤ 1048576) (hbase : base ≤ w.heap.size)
    (h : ∀ g' c' w', OwnR w' base (.slice (some ⟨g', 0, none⟩) (rs ++ [r]).length c') (rs ++ [r]) → Frm (fun k => v.ownBlock = some k) w w' → (v.ownBlock = some g' ∨ w.heap.size ≤ g') → wpList Try.prog ops Q rest (a.put o.dst (.slice (some ⟨g', 0, none⟩) (rs ++ [r]).length c')) w') : wpList Try.prog ops Q (o :: rest) a w := by
  obtain ⟨i, hi, hz, hsz, hby⟩ := info_parts Try.infoRhythm
  refine wpList_append_lies w hgd s x _ ho base 26 i _ 2 32 Try.underlying29 hi hz hsz hby rfl (by omega) v rs.length _ hs hown.1 ⟨g, 0, none⟩ 1 1 r.cells hx rfl ?_ ?_ (by omega) (by unfold maxLen; omega) (by omega) hbase _ rfl ?_
  · intro j u hj
    match j, hj with
    | 0, hj => simp [RV.cells] at hj; subst hj; exact hc.1
    | 1, hj => simp [RV.cells] at hj; subst hj; exact hc.2
  · intro u hu
    simp [RV.cells] at hu
    rcases hu with rfl | rfl <;> rfl
  · intro g' cap w' hown' hgrow hat hlt'
    have hsame : ∀ r' ∈ rs ++ [r], r'.Lies w' base ∧ g' ≠ r'.b := by
      intro r' hr'
      have hl : r'.Lies w base ∧ ∀ g, v.ownBlock = some g → g ≠ r'.b := by
        rcases List.mem_append.1 hr' with h1 | h1
        · exact ⟨hown.2.1 r' h1, fun g hg => hown.2.2.2 g hg r' h1⟩
        · rw [List.mem_singleton] at h1; subst h1; exact ⟨hr, hne⟩
      have hblk : w'.heap[r'.b]? = w.heap[r'.b]? := hgrow.block _ hl.1.2.2.1 (fun e => hl.2 _ e.symm rfl)
      refine ⟨⟨hl.1.1, hl.1.2.1, Nat.lt_of_lt_of_le hl.1.2.2.1 hgrow.size, fun hn => ⟨(hl.1.2.2.2 hn).1, ?_⟩⟩, ?_⟩
      · have ht := (hl.1.2.2.2 hn).2
        exact ⟨Nat.lt_of_lt_of_le ht.1 hgrow.size, fun t h => ⟨(World.cell?_of_block (a := ⟨r'.b, t, none⟩) hblk).trans (ht.2 t h).1, (World.frozen?_of_block (a := ⟨r'.b, t, none⟩) hblk).trans (ht.2 t h).2⟩⟩
      · rcases hat with h1 | h1
        · exact hl.2 g' h1
        · have := hl.1.2.2.1; omega
    have hlen2 : rs.length + 1 = (rs ++ [r]).length := by simp
    rw [hlen2] at hown' ⊢
    refine h g' cap w' ⟨?_, fun r' hr' => (hsame r' hr').1, ?_, ?_⟩ ⟨hgrow.os, hgrow.tape, hgrow.output, hgrow.size, fun c hc hS => hgrow.block c hc (fun e => hS e.symm)⟩ ?_
    · rw [cellsR_app]; exact hown'
    · rw [List.pairwise_append]
      refine ⟨hown.2.2.1, by simp, fun a ha b hb => ?_⟩
      rw [List.mem_singleton] at hb
      subst hb
      exact hlt a ha
    · intro g2 hg2 r' hr'
      have : g' = g2 := by simpa [Value.ownBlock] using hg2
      subst this
      exact (hsame r' hr').2
    · rcases hat with h1 | h1
      · exact .inl h1
      · exact .inr (by omega)

end Go.Proofs.Ytlejlcnemibgiaa

namespace Go.Proofs.Ytlejlcnemibgiaa
open Go.RowKit Go.Shelf Go.Sort
set_option linter.unusedVariables false
set_option linter.unusedSimpArgs false

set_option maxRecDepth 100000 in
set_option maxHeartbeats 1000000 in
theorem impl_WayTo1_any (N : Nat) (A B : Option Addr) (ca cb : Nat) (x b : List Int) (left : Int) (gb gl : Nat) (w : World) (hA : Ints w w.heap.size A x) (hB : Ints w w.heap.size B b) (hx : RhOk N x) (hb : RhOk N b) (hl : x.length = b.length)
    (hgb : Cells2 w gb (.int .i64 N) (.slice B b.length cb)) (hgl : Cell1 w gl (.int .i64 left)) :
    Calls Try.prog 36 #[.agg #[.int .i64 N, .slice A x.length ca], .pointer (some ⟨gb, 0, none⟩), .pointer (some ⟨gl, 0, none⟩)] w fun e w' => e = .returned (.bool (decide (farV N x b < left))) ∧ Below w.heap.size w w' := by
  have hal := (Below.refl w.heap.size w).alloc (Nat.le_refl _) (.cells #[.int .i64 N, .slice A x.length ca] 26)
  have HC := Lib.hid (Cells2.new w (.int .i64 N) (.slice A x.length ca) 26)
  have HG := Lib.hid (hgb.below hal hgb.2.2.2.2)
  have HL := Lib.hid (hgl.frm (Frm.pure hal (fun _ => False)) (fun h => h))
  have HB0 := Lib.hid hal
  have HIA := Lib.hid (hA.lift hal)
  have HIB := Lib.hid (hB.lift hal)
  have HD := Lib.hid (fun V h1 h2 => impl_distance_any N A B ca cb x b V h1 h2 hx hb hl)
  obtain ⟨c0, c1, _, _, _⟩ := HC.out
  obtain ⟨g0, g1, _, _, _⟩ := HG.out
  obtain ⟨l0, _, _⟩ := HL.out
  obtain ⟨F, hF⟩ : ∃ F, farV N x b = F := ⟨_, rfl⟩
  rw [hF] at HD ⊢
  clear hal hgb hgl hA hB hx hb hl hF
  go_enter Try.func36, Try.ntmps36
  go_wp2_with fail
  generalize w.alloc (.cells #[.int .i64 N, .slice A x.length ca] 26) = w0 at *
  (refine wp_region_held_drew (S := (fun w' => w'.cell? ⟨w.heap.size, 0, none⟩ = some (.int .i64 N) ∧ w'.cell? ⟨w.heap.size, 1, none⟩ = some (.slice A x.length ca) ∧ w'.cell? ⟨gb, 0, none⟩ = some (.int .i64 N) ∧ w'.cell? ⟨gb, 1, none⟩ = some (.slice B b.length cb) ∧ w'.cell? ⟨gl, 0, none⟩ = some (.int .i64 left))) (by kernel_rfl) ?_ (fun hHeld => ?_); (focus ((try dsimp only); exact ⟨c0, c1, g0, g1, l0⟩)))
  (refine wpAnyH_take (i := 0) (v := ?_) rfl (by kernel_rfl) (by kernel_rfl) (by kernel_rfl) (fun _ _ _ h => h) (Or.inl ⟨by rfl, ?_⟩) (by assumption) ?_; rotate_left; (focus (intro wS hSw; (try dsimp only at hSw); go_simp; (try with_reducible rfl))); (try simp only [Act.put, List.getElem_toArray, List.getElem_cons_zero, List.getElem_cons_succ, List.setIfInBounds_toArray, List.set_cons_zero, List.set_cons_succ]))
  (refine wpAnyH_take (i := 1) (v := ?_) rfl (by kernel_rfl) (by kernel_rfl) (by kernel_rfl) (fun _ _ _ h => h) (Or.inl ⟨by rfl, ?_⟩) (by assumption) ?_; rotate_left; (focus (intro wS hSw; (try dsimp only at hSw); go_simp; (try with_reducible rfl))); (try simp only [Act.put, List.getElem_toArray, List.getElem_cons_zero, List.getElem_cons_succ, List.setIfInBounds_toArray, List.set_cons_zero, List.set_cons_succ]))
  (refine wpAnyH_take (i := 3) (v := ?_) rfl (by kernel_rfl) (by kernel_rfl) (by kernel_rfl) (fun _ _ _ h => h) (Or.inl ⟨by rfl, ?_⟩) (by assumption) ?_; rotate_left; (focus (intro wS hSw; (try dsimp only at hSw); go_simp; (try with_reducible rfl))); (try simp only [Act.put, List.getElem_toArray, List.getElem_cons_zero, List.getElem_cons_succ, List.setIfInBounds_toArray, List.set_cons_zero, List.set_cons_succ]))
  (refine wpAnyH_ready (rs := [2]) (by kernel_rfl) (by simp) ?_; refine AllReadyH.cons rfl (fun K hK => ?_) AllReadyH.nil; go_simp)
  go_at_call 24
  refine (HD.out _ HIA.out.drew6_ HIB.out.drew6_).mono ?_
  rintro e w1 ⟨rfl, hb⟩
  have HBd := Lib.hid (Below.drew5_ HB0.out)
  have HCd := Lib.hid (show Cells2 w0.drew w.heap.size (.int .i64 N) (.slice A x.length ca) from HC.out)
  have HGd := Lib.hid (show Cells2 w0.drew gb (.int .i64 N) (.slice B b.length cb) from HG.out)
  have HLd := Lib.hid (show Cell1 w0.drew gl (.int .i64 left) from HL.out)
  have HB1 := Lib.hid (HBd.out.trans (hb.mono HBd.out.size))
  obtain ⟨c0', c1', _, _, _⟩ := HCd.out.below hb HCd.out.2.2.2.2
  obtain ⟨g0', g1', _, _, _⟩ := HGd.out.below hb HGd.out.2.2.2.2
  obtain ⟨l0', _, _⟩ := HLd.out.frm (Frm.pure hb (fun _ => False)) (fun h => h)
  clear hb c0 c1 g0 g1 l0
  go_wp2_with fail
  (refine hK.out _ _ ?_ (fun hHeld2 => ?_); (focus ((try dsimp only); exact ⟨c0', c1', g0', g1', l0'⟩)); (clear hK K); (try simp only [Act.put, List.getElem_toArray, List.getElem_cons_zero, List.getElem_cons_succ, List.setIfInBounds_toArray, List.set_cons_zero, List.set_cons_succ]))
  (refine wpAnyH_take (i := 4) (v := ?_) rfl (by kernel_rfl) (by kernel_rfl) (by kernel_rfl) (fun _ _ _ h => h) (Or.inl ⟨by rfl, ?_⟩) (by assumption) ?_; rotate_left; (focus (intro wS hSw; (try dsimp only at hSw); go_simp; (try with_reducible rfl))); (try simp only [Act.put, List.getElem_toArray, List.getElem_cons_zero, List.getElem_cons_succ, List.setIfInBounds_toArray, List.set_cons_zero, List.set_cons_succ]))
  (refine wpAnyH_take (i := 5) (v := ?_) rfl (by kernel_rfl) (by kernel_rfl) (by kernel_rfl) (fun _ _ _ h => h) (Or.inl ⟨by rfl, ?_⟩) (by assumption) ?_; rotate_left; (focus (intro wS hSw; (try dsimp only at hSw); go_simp; (try with_reducible rfl))); (try simp only [Act.put, List.getElem_toArray, List.getElem_cons_zero, List.getElem_cons_succ, List.setIfInBounds_toArray, List.set_cons_zero, List.set_cons_succ]))
  refine wpAnyH_done (by kernel_rfl) ?_ _
  go_wp2_with fail
  go_ret
  exact ⟨rfl, HB1.out⟩

theorem map_get {rs : List RV} {L : List (List Int)} (h : rs.map (fun r => r.xs) = L) : rs.length = L.length ∧ ∀ i (h : i < rs.length), rs[i].xs = L.getD i [] := by
  subst h
  refine ⟨by simp, fun i h => ?_⟩
  rw [List.getD_eq_getElem?_getD, List.getElem?_map, List.getElem?_eq_getElem h]
  rfl

set_option maxRecDepth 100000 in
set_option maxHeartbeats 1000000 in
theorem slices_IndexFuncW_any (N : Nat) (A B : Option Addr) (ca cb : Nat) (rs : List RV) (b : List Int) (left : Int) (gb gl : Nat) (w : World) (hA : RdR w w.heap.size A rs) (hB : Ints w w.heap.size B b)
    (hx : ∀ r ∈ rs, r.n = N ∧ RhOk N r.xs ∧ r.xs.length = b.length) (hb : RhOk N b) (hgb : Cells2 w gb (.int .i64 N) (.slice B b.length cb)) (hgl : Cell1 w gl (.int .i64 left)) (hex : ∃ y ∈ rs.map (fun r => r.xs), farV N y b < left) :
    Calls Try.prog 35 #[.slice A rs.length ca, .func (.func 36) #[] #[.pointer (some ⟨gb, 0, none⟩), .pointer (some ⟨gl, 0, none⟩)]] w fun e w' => e = .returned (.int .i64 (nxtP N b left (rs.map (fun r => r.xs)) : Nat)) ∧ Below w.heap.size w w' := by
  obtain ⟨L, hL⟩ : ∃ L, rs.map (fun r => r.xs) = L := ⟨_, rfl⟩
  obtain ⟨hlen, hget⟩ := map_get hL
  rw [hL] at hex ⊢
  obtain ⟨p1, p2, p3⟩ := nxtP_spec hex
  obtain ⟨P, hP⟩ : ∃ P, nxtP N b left L = P := ⟨_, rfl⟩
  rw [hP] at p1 p2 p3 ⊢
  have hl := hA.1
  have HA := Lib.hid hA
  have HIB := Lib.hid hB
  have HX := Lib.hid hx
  have HOB := Lib.hid hb
  have HGB := Lib.hid hgb
  have HGL := Lib.hid hgl
  have HGT := Lib.hid hget
  have HP2 := Lib.hid p2
  have HP3 := Lib.hid p3
  have hPl : P < rs.length := by omega
  clear hA hB hx hb hgb hgl hex hL hlen hget p2 p3 hP p1
  go_enter Try.func35, Try.ntmps35
  go_wp2
  go_loopw [5, 8] (fun _ i wr => ∃ k : Nat, k ≤ P ∧ i = .int .i64 k ∧ Below w.heap.size w wr) (fun _ i _ => rs.length - (intOf i).toNat)
  case atStart => exact ⟨0, Nat.zero_le _, rfl, Below.refl _ _⟩
  case round =>
    obtain ⟨k, hk, rfl, hbel⟩ := hrel
    obtain ⟨wo, rfl⟩ : ∃ wo : World, wo = wr := ⟨_, rfl⟩
    have HB := Lib.hid hbel
    clear hbel
    have hlt : k < rs.length := by omega
    have hA1 := HA.out.lift HB.out
    obtain ⟨g, rfl, hg, hc⟩ := hA1.2.2 (by omega)
    obtain ⟨r0, r1⟩ := hc k hlt
    have hI := hA1.2.1 _ (List.getElem_mem hlt)
    obtain ⟨e1, e2, e3⟩ := HX.out _ (List.getElem_mem hlt)
    have e4 := HGT.out k hlt
    obtain ⟨r, hr⟩ : ∃ r, rs[k] = r := ⟨_, rfl⟩
    rw [hr] at r0 r1 hI e1 e2 e3 e4
    unfold RV.slc at r1
    rw [e1] at r0
    have hst : k < P → ¬ farV N r.xs b < left := fun h => by rw [e4]; exact Int.not_lt.2 (HP3.out k h)
    have hen : k = P → farV N r.xs b < left := fun h => by rw [e4, h]; exact HP2.out
    have HCL := Lib.hid (fun V h1 h2 h3 h4 => impl_WayTo1_any N r.A B r.c cb r.xs b left gb gl V h1 h2 e2 HOB.out e3 h3 h4)
    have HI := Lib.hid hI
    have HI2 := Lib.hid (HIB.out.lift HB.out)
    have HG2 := Lib.hid (HGB.out.below HB.out HGB.out.2.2.2.2)
    have HL2 := Lib.hid (HGL.out.frm (Frm.pure HB.out (fun _ => False)) (fun h => h))
    generalize r.xs = X at *
    generalize r.A = AX at *
    generalize r.c = cX at *
    clear hr
    have hki : (k : Int) < (rs.length : Int) := by omega
    have hk0 : (0 : Int) ≤ (k : Int) := Int.natCast_nonneg _
    clear hc hA1 hI e1 e2 e3 e4
    by_cases hkP : k = P
    · have hd : decide (farV N X b < left) = true := decide_eq_true (hen hkP)
      rw [hd] at HCL
      have HKP := Lib.hid hkP
      clear hkP hst hen hd
      go_wp2_with (go_at_call 36; refine (HCL.out _ HI.out HI2.out HG2.out HL2.out).mono ?_; rintro e w1 ⟨rfl, hb1⟩)
      go_ret
      exact ⟨ret_int (by rw [HKP.out]), HB.out.trans (hb1.mono HB.out.size)⟩
    · have hd : decide (farV N X b < left) = false := decide_eq_false (hst (by omega))
      rw [hd] at HCL
      clear hst hen hd
      go_wp2_with (go_at_call 36; refine (HCL.out _ HI.out HI2.out HG2.out HL2.out).mono ?_; rintro e w1 ⟨rfl, hb1⟩)
      go_roundw
      case rel => exact ⟨k + 1, by omega, by go_num, HB.out.trans (hb1.mono HB.out.size)⟩
      case measure => simp [intOf]; omega

end Go.Proofs.Ytlejlcnemibgiaa

namespace Go.Proofs.Ytlejlcnemibgiaa
open Go.RowKit Go.Shelf Go.Sort
set_option linter.unusedVariables false
set_option linter.unusedSimpArgs false

theorem insN_len (N : Nat) (bs : List Int) : ∀ m, (insL N bs m).length ≤ m
  | 0 => Nat.le_refl _
  | m + 1 => by
    have := insN_len N bs m
    unfold insL
    split
    · omega
    · unfold insF
      split
      · omega
      · rw [List.length_append, List.length_cons, List.length_take, List.length_drop]; omega
theorem movP_ins (N : Nat) (bs : List Int) (h1 : 1 ≤ N) (h2 : N ≤ 24) : movP N (movC N bs) = (insL N bs (2 * bs.length)).map fun x => ((N : Int), x) := by
  unfold movP movC cdL
  rw [mov_eq bs h1 h2, List.map_map]
  rfl
theorem key_split {N : Nat} {rs : List RV} {L : List (List Int)} (h : keyR rs = L.map fun x => ((N : Int), x)) : rs.map (fun r => r.xs) = L ∧ ∀ r ∈ rs, r.n = N := by
  refine ⟨?_, fun r hr => ?_⟩
  · have := congrArg (List.map Prod.snd) h
    unfold keyR at this
    rw [List.map_map, List.map_map] at this
    rw [show (Prod.snd ∘ fun r : RV => (r.n, r.xs)) = fun r => r.xs from rfl, show (Prod.snd ∘ fun x : List Int => ((N : Int), x)) = fun x => x from rfl, List.map_id'] at this
    exact this
  · have hm : (r.n, r.xs) ∈ keyR rs := List.mem_map.2 ⟨r, hr, rfl⟩
    rw [h, List.mem_map] at hm
    obtain ⟨x, _, e⟩ := hm
    exact (congrArg Prod.fst e).symm
theorem key_last {N : Nat} {a b : List Int} {rs : List RV} {r : RV} {j : Nat} (h : keyR (rs ++ [r]) = wayP N a b (j + 1)) : r.n = N ∧ r.xs = wayAt N a b j ∧ keyR rs = wayP N a b j := by
  rw [wayP_succ] at h
  unfold keyR at h ⊢
  rw [List.map_append, List.map_singleton] at h
  obtain ⟨h1, h2⟩ := List.append_inj' h rfl
  have := List.singleton_inj.1 h2
  exact ⟨congrArg Prod.fst this, congrArg Prod.snd this, h1⟩
theorem rotL_zero {N : Nat} {a : List Int} (h : RhOk N a) : rotL N a ((0 : Nat) : Int) = a :=
  (rotL_same h 0).2 (fun t ht => by rw [show (t : Int) - 0 = t by omega, Int.emod_eq_of_lt (by omega) (by omega)])
theorem FarR.mk2 {base g g' c : Nat} {rs : List RV} {w : World} (h : OwnR w base (.slice (some ⟨g', 0, none⟩) rs.length c) rs) (hg : g < base) : FarR (.slice (some ⟨g', 0, none⟩) rs.length c) rs g :=
  ⟨fun k hk => by have := (h.lt k hk).1; omega, fun r hr => by have := (h.2.1 r hr).2.1; omega⟩

theorem RW.rvAt {w : World} {base : Nat} {A : Option Addr} {xs : List Int} (h : RW w base A xs) (q : Nat) (hq : q < w.heap.size) (hb : q + 2 ≤ base) (n : Int) (c : Nat) : ∃ b, (RV.mk n xs A c b).Lies w q ∧ b ≠ q + 1 := by
  by_cases hn : 0 < xs.length
  · obtain ⟨b, e, hge, ht⟩ := h.2 hn
    exact ⟨b, ⟨h.1, by show q ≤ b; omega, ht.1, fun _ => ⟨e, ht.tabV⟩⟩, by omega⟩
  · exact ⟨q, ⟨h.1, Nat.le_refl _, hq, fun h' => absurd h' hn⟩, by omega⟩
theorem FarR.frm {v : Value} {rs : List RV} {g : Nat} (h : FarR v rs g) : ∀ k, v.ownBlock = some k → k ≠ g := h.1
theorem wayAt_next {N : Nat} {a b X : List Int} {D j f : Nat} (hD : farV N a b = D) (hj : j + f = D) (hX : wayAt N a b j = X) : wayAt N a b (j + 1) = (insL N X (2 * X.length)).getD (nxtP N b (f : Int) (insL N X (2 * X.length))) [] := by
  subst hX
  show List.getD _ (nxtP N b (farV N a b - j) _) [] = _
  rw [hD, show (D : Int) - j = f by omega]

set_option maxRecDepth 100000 in
set_option maxHeartbeats 8000000 in
theorem impl_WayTo_yes (N : Nat) (A B : Option Addr) (ca cb : Nat) (a b : List Int) (w : World) (hA : Ints w w.heap.size A a) (hB : Ints w w.heap.size B b) (hmv : movedB N N a b = true) :
    Calls Try.prog 12 #[.agg #[.int .i64 N, .slice A a.length ca], .agg #[.int .i64 N, .slice B b.length cb]] w (RetRs w (wayP N a b ((farV N a b).toNat + 1))) := by
  obtain ⟨ha, hb, _, hl⟩ := movedB_yes hmv
  have hn1 : 1 ≤ N := by have := ha.1; omega
  have hn2 : N ≤ 24 := by have := ha.2.1; omega
  obtain ⟨D, hD⟩ := Int.eq_ofNat_of_zero_le (farV_nonneg N a b)
  have hD2 : D ≤ 576 := by have := farV_small ha hb hl; omega
  have hfn : Fits (N : Int) := by unfold Fits; omega
  have HAM := Lib.hid (fun V h1 h2 => hmv ▸ impl_areMoved_any N N A B ca cb a b V hfn hfn h1 h2)
  have HRT := Lib.hid (fun V h => (rotL_zero ha) ▸ impl_rotated_any N A ca a 0 V h ha (by omega))
  have HDI := Lib.hid (fun (A1 : Option Addr) (c1 : Nat) V h1 h2 => hD ▸ impl_distance_any N A1 B c1 cb a b V h1 h2 ha hb hl)
  have HOA := Lib.hid ha
  have HOB := Lib.hid hb
  have HL := Lib.hid hl
  have HD := Lib.hid hD
  rw [hD, show ((D : Int)).toNat = D from Int.toNat_natCast D]
  have hfa := rh_fits' ha
  have HFA := Lib.hid hfa
  clear hmv ha hb hl hD hfn hfa
  have hal0 := (Below.refl w.heap.size w).alloc (Nat.le_refl _) (.cells #[.int .i64 N, .slice A a.length ca] 26)
  have hal1 := hal0.alloc hal0.size (.cells #[.int .i64 N, .slice B b.length cb] 26)
  have HC0 := Lib.hid ((Cells2.new w (.int .i64 N) (.slice A a.length ca) 26).alloc (.cells #[.int .i64 N, .slice B b.length cb] 26))
  have HD0 := Lib.hid (Cells2.new_at (w.alloc (.cells #[.int .i64 N, .slice A a.length ca] 26)) (.int .i64 N) (.slice B b.length cb) 26 (w.heap.size + 1) (by simp))
  have HB0 := Lib.hid hal1
  have HIA := Lib.hid (hA.lift hal1)
  have HIB := Lib.hid (hB.lift hal1)
  have HBO := Lib.hid hB
  clear hA hB hal0 hal1
  obtain ⟨c0, c1, _, _, _⟩ := HC0.out
  obtain ⟨d0, d1, _, _, _⟩ := HD0.out
  go_enter Try.func12, Try.ntmps12
  go_wp2_with fail
  refine (HAM.out _ HIA.out HIB.out).mono ?_
  rintro e w1 ⟨rfl, hb⟩
  have HB1 := Lib.hid (HB0.out.trans (hb.mono HB0.out.size))
  have HIA1 := Lib.hid (HIA.out.lift hb)
  have HIB1 := Lib.hid (HIB.out.lift hb)
  have HC1 := Lib.hid (HC0.out.below hb HC0.out.2.2.2.2)
  have HD1 := Lib.hid (HD0.out.below hb HD0.out.2.2.2.2)
  clear hb c0 c1 d0 d1
  obtain ⟨c0, c1, _, _, _⟩ := HC1.out
  obtain ⟨d0, d1, _, _, _⟩ := HD1.out
  go_wp2_with fail
  refine (HRT.out _ HIA1.out).mono ?_
  rintro e w2 ⟨A1, k1, rfl, hrw, hb⟩
  have HB2 := Lib.hid (HB1.out.trans (hb.mono HB1.out.size))
  have HIB2 := Lib.hid (HIB1.out.lift hb)
  have HC2 := Lib.hid (HC1.out.below hb HC1.out.2.2.2.2)
  have HD2 := Lib.hid (HD1.out.below hb HD1.out.2.2.2.2)
  have hz1 : w.heap.size + 2 ≤ w1.heap.size := by have := HD1.out.2.2.2.2; omega
  have hz2 := hb.size
  obtain ⟨b0, hL0, hbq⟩ := hrw.rvAt w.heap.size (by omega) hz1 N k1
  have HIN := Lib.hid (hrw.ints HFA.out)
  have hal2 := (Below.refl w2.heap.size w2).alloc (Nat.le_refl _) (.cells #[.int .i64 N, .slice A1 a.length k1] 26)
  have HL0 := Lib.hid (hL0.frm (Frm.pure hal2 (fun _ => False)) (fun h => h))
  have hb0 : b0 < w2.heap.size := hL0.2.2.1
  clear hb c0 c1 d0 d1 hrw hL0
  have HN2 := Lib.hid (Cells2.new w2 (.int .i64 N) (.slice A1 a.length k1) 26)
  have hal3 := hal2.alloc hal2.size (.cells #[.int .i64 N, .slice A1 a.length k1] 26)
  have HN3 := Lib.hid (HN2.out.alloc (.cells #[.int .i64 N, .slice A1 a.length k1] 26))
  have HD3 := Lib.hid (HD2.out.below hal3 HD2.out.2.2.2.2)
  have HIB3 := Lib.hid (HIB2.out.lift hal3)
  have HIN3 := Lib.hid (HIN.out.lift hal3)
  have HB3 := Lib.hid (HB2.out.trans (hal3.mono HB2.out.size))
  have ho3 := OwnR.single (w2.alloc (.cells #[.int .i64 N, .slice A1 a.length k1] 26)) w.heap.size ⟨N, a, A1, k1, b0⟩ HL0.out (by simp; omega)
  rw [show (w2.alloc (.cells #[.int .i64 N, .slice A1 a.length k1] 26)).heap.size = w2.heap.size + 1 by simp] at ho3
  have HO3 := Lib.hid ho3
  clear hal2 hal3 ho3
  obtain ⟨d0, d1, _, _, _⟩ := HD3.out
  obtain ⟨n0', n1', _, _, _⟩ := HN2.out
  obtain ⟨n0, n1, _, _, _⟩ := HN3.out
  go_wp2_with fail
  refine (HDI.out A1 k1 _ HIN3.out HIB3.out).mono ?_
  rintro e w4 ⟨rfl, hb⟩
  have hz4 := hb.size
  simp only [World.size_alloc] at hz4
  have HO4 := Lib.hid (HO3.out.grown hb)
  have HN4 := Lib.hid (HN3.out.below hb HN3.out.2.2.2.2)
  have HD4 := Lib.hid (HD3.out.below hb HD3.out.2.2.2.2)
  have HIB4 := Lib.hid (HIB3.out.lift hb)
  have HB4 := Lib.hid (HB3.out.trans (hb.mono HB3.out.size))
  clear hb n0 n1 n0' n1' d0 d1 HO3 HN3 HD3 HIB3 HIN3 HB3 HN2 HL0 HIN HC2 HD2 HIB2 HB2
  obtain ⟨gn, hgn⟩ : ∃ gn, w2.heap.size = gn := ⟨_, rfl⟩
  obtain ⟨q, hq⟩ : ∃ q, w.heap.size = q := ⟨_, rfl⟩
  rw [hgn] at HO4 HN4 hz4 hb0 hz2 ⊢
  have HQ := Lib.hid hq
  rw [hq] at HO4 HD4 HB4 hz1 hbq HBO ⊢
  clear hgn hq
  have hal5 := (Below.refl w4.heap.size w4).alloc (Nat.le_refl _) (.cells #[.int .i64 D] 3)
  have HO5 := Lib.hid (HO4.out.grown hal5)
  have HN5 := Lib.hid (HN4.out.below hal5 HN4.out.2.2.2.2)
  have HD5 := Lib.hid (HD4.out.below hal5 HD4.out.2.2.2.2)
  have HIB5 := Lib.hid (HIB4.out.lift hal5)
  have HB5 := Lib.hid (HB4.out.trans (hal5.mono (by omega)))
  have HL5 := Lib.hid (Cell1.new w4 (.int .i64 D) 3)
  clear hal5
  go_wp2_with fail
  generalize w4.alloc (.cells #[.int .i64 D] 3) = w5 at *
  obtain ⟨g0, hg0⟩ : ∃ g, w4.heap.size = g := ⟨_, rfl⟩
  rw [hg0] at HL5 hz4 ⊢
  clear hg0 HO4 HN4 HD4 HIB4 HB4
  go_loopg [6, 7, 8] D (fun f so lp mv wr => ∃ (j gl : Nat) (rs' : List RV) (r : RV), j + f = D ∧ lp = .pointer (some ⟨gl, 0, none⟩) ∧ keyR (rs' ++ [r]) = wayP N a b (j + 1) ∧ OwnR wr q so (rs' ++ [r]) ∧ Cells2 wr gn (.int .i64 N) r.slc ∧ Cells2 wr (q + 1) (.int .i64 N) (.slice B b.length cb) ∧ Cell1 wr gl (.int .i64 f) ∧ (FarR so (rs' ++ [r]) gn ∧ FarR so (rs' ++ [r]) (q + 1) ∧ FarR so (rs' ++ [r]) gl) ∧ (gn ≠ gl ∧ q + 1 ≠ gl ∧ q + 1 ≠ gn) ∧ Below q w wr)
  case atStart =>
    exact ⟨0, g0, [], ⟨N, a, A1, k1, b0⟩, by omega, rfl, rfl, HO5.out, HN5.out, HD5.out, HL5.out, ⟨⟨fun k hk => by
      have : gn + 1 = k := by simpa [Value.ownBlock] using hk
      omega, fun r hr => by rw [List.nil_append, List.mem_singleton] at hr; subst hr; show b0 ≠ gn; omega⟩, ⟨fun k hk => by
      have : gn + 1 = k := by simpa [Value.ownBlock] using hk
      omega, fun r hr => by rw [List.nil_append, List.mem_singleton] at hr; subst hr; exact hbq⟩, ⟨fun k hk => by
      have : gn + 1 = k := by simpa [Value.ownBlock] using hk
      omega, fun r hr => by rw [List.nil_append, List.mem_singleton] at hr; subst hr; show b0 ≠ g0; omega⟩⟩, by omega, HB5.out⟩
  case round =>
    obtain ⟨j, gl, rs', r, hjf, rfl, hkey, hown, hnow, hbb, hleft, hfar, hne, hbel⟩ := hrel
    obtain ⟨wo, rfl⟩ : ∃ wo : World, wo = wr := ⟨_, rfl⟩
    obtain ⟨kn, kx, _⟩ := key_last hkey
    have hlr : (rs' ++ [r]).length = j + 1 := by rw [← keyR_len, hkey, wayP_len]
    obtain ⟨X, hX⟩ : ∃ X, wayAt N a b j = X := ⟨_, rfl⟩
    have hmem : r ∈ rs' ++ [r] := by simp
    obtain ⟨ox, ol, of⟩ := wayAt_ok HOA.out HOB.out HL.out j (by have := HD.out; omega)
    rw [hX] at kx ox ol of
    have HNX := Lib.hid (wayAt_next HD.out hjf hX)
    have HIX := Lib.hid (show Ints wo wo.heap.size r.A X from kx ▸ (hown.2.1 r hmem).ints (by rw [kx]; exact rh_fits' ox))
    have HKE := Lib.hid hkey
    have HOW := Lib.hid hown
    have HNO := Lib.hid hnow
    have HBB := Lib.hid hbb
    have HLE := Lib.hid hleft
    have HFR := Lib.hid hfar
    have HBE := Lib.hid hbel
    have HIB := Lib.hid (show Ints wo wo.heap.size B b from (HBO.out.below hbel).mono (by have := hbb.2.2.2.2; omega))
    obtain ⟨A0, k0, rfl⟩ := hown.form
    rw [hlr] at HOW HFR ⊢
    unfold RV.slc at hnow
    rw [kx] at hnow
    obtain ⟨n0, n1, _, _, _⟩ := hnow
    obtain ⟨l0, l0f, _⟩ := hleft
    obtain ⟨d0, d1, _, _, _⟩ := hbb
    by_cases hz : 0 < gk
    · have hzi : (0 : Int) < (gk : Int) := by omega
      have hwl : IntKind.i64.wrap ((gk : Int) - 1) = (gk : Int) - 1 := i64w (by omega)
      have HMV := Lib.hid (fun V h => movP_ins N X hn1 hn2 ▸ impl_moves_any N r.A r.c X V h ox)
      have hXl : X.length ≤ 24 := by have := rhok_len ox; omega
      have hLl := insN_len N X (2 * X.length)
      have hex0 := moves_some ox HOB.out (ol.trans HL.out) (by rw [of]; have := HD.out; omega)
      rw [of, show farV N a b - (j : Int) = (gk : Int) by have := HD.out; omega] at hex0
      have HEX := Lib.hid hex0
      have HEA := Lib.hid (fun y (hy : y ∈ insL N X (2 * X.length)) => (fun h => And.intro h.1 (h.2.1.trans (ol.trans HL.out))) (moves_each ox HOB.out (ol.trans HL.out) hy))
      generalize insL N X (2 * X.length) = L at HMV hLl HEX HEA HNX
      generalize r.A = AX at *
      generalize r.c = cX at *
      clear hkey hown hfar hbel kx ox ol of hex0 kn
      go_wp2_with fail
      refine (HMV.out _ HIX.out).mono ?_
      rintro e w1 ⟨v1, ms, rfl, hk1, ho1, hb⟩
      obtain ⟨A2, c2, rfl⟩ := ho1.form
      obtain ⟨hmx, hmn⟩ := key_split hk1
      have hml : ms.length ≤ 48 := by rw [← keyR_len, hk1, List.length_map]; omega
      have HMX := Lib.hid hmx
      have hmr : ∀ s ∈ ms, s.n = N ∧ RhOk N s.xs ∧ s.xs.length = b.length := fun s hs => ⟨hmn s hs, HEA.out _ (by rw [← hmx]; exact List.mem_map.2 ⟨s, hs, rfl⟩)⟩
      have HMR := Lib.hid hmr
      have HRD := Lib.hid (ho1.rd (by omega) (fun s hs => rh_fits' (hmr s hs).2.1))
      have HLS := Lib.hid ho1.2.1
      have HF1 := Lib.hid (Frm.pure hb (fun _ => False))
      have hz1' := hb.size
      clear hk1 ho1 hmx hmn hmr n0 n1 l0 d0 d1 l0f
      have HB1' := Lib.hid hb
      clear hb
      go_wp2_with fail
      refine (slices_IndexFuncW_any N A2 B c2 cb ms b gk (q + 1) gl w1 HRD.out (HIB.out.lift HB1'.out) HMR.out HOB.out (HBB.out.frmX HF1.out (fun h => h)) (HLE.out.frm HF1.out (fun h => h)) (by rw [HMX.out]; exact HEX.out)).mono ?_
      rintro e w2 ⟨rfl, hb⟩
      have hP := nxtP_spec (N := N) (b := b) (left := (gk : Int)) (L := ms.map (fun s => s.xs)) (by rw [HMX.out]; exact HEX.out)
      have hPl : nxtP N b (gk : Int) L < ms.length := by have := hP.1; rwa [List.length_map, HMX.out] at this
      rw [HMX.out]
      have hnx := HNX.out
      obtain ⟨P, hPP⟩ : ∃ P, nxtP N b (gk : Int) L = P := ⟨_, rfl⟩
      rw [hPP] at hPl hnx ⊢
      have hPx : ms[P].xs = wayAt N a b (j + 1) := ((map_get HMX.out).2 P hPl).trans hnx.symm
      clear hnx
      obtain ⟨s, hs⟩ : ∃ s, ms[P] = s := ⟨_, rfl⟩
      rw [hs] at hPx
      have hsm : s ∈ ms := by rw [← hs]; exact List.getElem_mem hPl
      obtain ⟨sn, so', sl⟩ := HMR.out s hsm
      have hRD2 := HRD.out.lift hb
      obtain ⟨g2, rfl, hg2, hc2⟩ := hRD2.2.2 (by omega)
      obtain ⟨m0, m1⟩ := hc2 P hPl
      rw [hs] at m0 m1
      rw [sn] at m0
      have HSL := Lib.hid ((HLS.out s hsm).frm (Frm.pure hb (fun _ => False)) (fun h => h))
      have HF2 := Lib.hid (HF1.out.trans (Frm.pure hb (fun _ => False)))
      have hz2' := hb.size
      have HNO2 := Lib.hid (HNO.out.frmX HF2.out (fun h => h))
      have HBB2 := Lib.hid (HBB.out.frmX HF2.out (fun h => h))
      have HLE2 := Lib.hid (HLE.out.frm HF2.out (fun h => h))
      have HOW2 := Lib.hid (HOW.out.frmX HF2.out (fun _ _ h => h) (fun _ _ h => h))
      have hPi : (0 : Int) ≤ (P : Int) ∧ (P : Int) < (ms.length : Int) := by omega
      obtain ⟨hP0, hP1⟩ := hPi
      have HYY := Lib.hid hPx
      have hsb : wo.heap.size ≤ s.b := HSL.out.2.1
      obtain ⟨n', Y, AS, cS, bS⟩ := s
      change n' = (N : Int) at sn
      subst sn
      change Y = wayAt N a b (j + 1) at hPx
      unfold RV.slc at m1
      dsimp only at m0 m1 hsb so' sl
      obtain ⟨n0, n1, nf0, nf1, ns⟩ := HNO2.out
      have HN4 := Lib.hid ((HNO2.out.set0 (.int .i64 N)).set1 (.slice AS Y.length cS))
      have HF4 := Lib.hid ((Frm.setCell (S := fun c => c = gn) (p := ⟨gn, 0, none⟩) (Frm.refl _ w2) rfl (.int .i64 N)).setCell (p := ⟨gn, 1, none⟩) rfl (.slice AS Y.length cS))
      clear hb hP hPx hPP hs hRD2 hc2 so' sl
      go_upto_region 10 with fail
      generalize (w2.setCell ⟨gn, 0, none⟩ (.int .i64 N)).setCell ⟨gn, 1, none⟩ (.slice AS Y.length cS) = w3 at *
      have hz3 := HF4.out.size
      have hgns := HNO.out.2.2.2.2
      have hgls := HLE.out.2.2
      have HBB3 := Lib.hid (HBB2.out.frmX HF4.out (show ¬ q + 1 = gn from hne.2.2))
      have HLE3 := Lib.hid (HLE2.out.frm HF4.out (show ¬ gl = gn from fun h => hne.1 h.symm))
      have HOW3 := Lib.hid (HOW2.out.frmX HF4.out HFR.out.1.1 HFR.out.1.2)
      have HSL3 := Lib.hid (HSL.out.frm HF4.out (show ¬ bS = gn by omega))
      have hal := (Below.refl w3.heap.size w3).alloc (Nat.le_refl _) (.cells #[.int .i64 N, .slice AS Y.length cS] 26)
      have HP5 := Lib.hid (Frm.pure hal (fun _ => False))
      have HN5 := Lib.hid (HN4.out.frmX HP5.out (fun h => h))
      have HBB5 := Lib.hid (HBB3.out.frmX HP5.out (fun h => h))
      have HLE5 := Lib.hid (HLE3.out.frm HP5.out (fun h => h))
      have HOW5 := Lib.hid (HOW3.out.frmX HP5.out (fun _ _ h => h) (fun _ _ h => h))
      have HSL5 := Lib.hid ((HSL3.out.frm HP5.out (fun h => h)).mono (show q ≤ wo.heap.size by have := HBB.out.2.2.2.2; omega))
      have HC5 := Lib.hid (Cells2.new w3 (.int .i64 N) (.slice AS Y.length cS) 26)
      have HLT := Lib.hid (show ∀ r' ∈ rs' ++ [r], r'.b < bS from fun r' hr' => by have := (HOW.out.2.1 r' hr').2.2.1; omega)
      have HNB := Lib.hid (show ∀ g, (Value.slice A0 (j + 1) k0).ownBlock = some g → g ≠ bS from fun g hg => by have := (HOW.out.lt g hg).2; omega)
      have HLN := Lib.hid (show (rs' ++ [r]).length ≤ 1048576 by omega)
      have HQS := Lib.hid (show q ≤ (w3.alloc (.cells #[.int .i64 N, .slice AS Y.length cS] 26)).heap.size by have := HBB.out.2.2.2.2; simp; omega)
      have HLR2 := Lib.hid (show (rs' ++ [r] ++ [(⟨N, Y, AS, cS, bS⟩ : RV)]).length = j + 2 by rw [List.length_append, hlr]; rfl)
      clear hal n0 n1 nf0 nf1 m0 m1
      obtain ⟨x0, x1, _, _, _⟩ := HN4.out
      go_wp2_with (at_builtin; refine wpList_append_rh2 rfl (.tmp 32) (.tmp 34) rfl q (.slice A0 (j + 1) k0) (rs' ++ [r]) rfl HOW5.out w3.heap.size ⟨N, Y, AS, cS, bS⟩ (by rfl) ⟨HC5.out.1, HC5.out.2.1⟩ HSL5.out HLT.out HNB.out HLN.out HQS.out ?_; intro g' c' w6 hown6 hf6 hat6; rw [HLR2.out] at hown6 ⊢; have HOW6 := Lib.hid hown6; have HF6 := Lib.hid hf6; have HAT6 := Lib.hid hat6; have HN6 := Lib.hid (HN5.out.frmX hf6 (fun h => HFR.out.1.1 gn h rfl)); have HBB6 := Lib.hid (HBB5.out.frmX hf6 (fun h => HFR.out.2.1.1 (q + 1) h rfl)); have HLE6 := Lib.hid (HLE5.out.frm hf6 (fun h => HFR.out.2.2.1 gl h rfl)); have HL7 := Lib.hid (Cell1.new w6 (.int .i64 gk) 3); obtain ⟨l6, _, _⟩ := HLE6.out; obtain ⟨l7, l7f, l7s⟩ := HL7.out; clear hown6 hf6 hat6 x0 x1)
      have hw6 := HF6.out.size
      simp only [World.size_alloc] at hw6
      have HF8 := Lib.hid ((Frm.refl (fun c => c = w6.heap.size) w6).alloc (.cells #[.int .i64 ((gk : Int) - 1)] 3))
      have HOW8 := Lib.hid (HOW6.out.frmX HF8.out (fun k hk => by have := (HOW6.out.lt k hk).2; show ¬ k = w6.heap.size; omega) (fun r' hr' => by have := (HOW6.out.2.1 r' hr').2.2.1; show ¬ r'.b = w6.heap.size; omega))
      have hgo : ∀ g, g < wo.heap.size → FarR (.slice A0 (j + 1) k0) (rs' ++ [r]) g → FarR (.slice (some ⟨g', 0, none⟩) (j + 2) c') (rs' ++ [r] ++ [(⟨N, Y, AS, cS, bS⟩ : RV)]) g := fun g hg h => ⟨fun k hk => by
          have e : g' = k := by simpa [Value.ownBlock] using hk
          subst e
          rcases HAT6.out with h1 | h1
          · exact h.1 g' h1
          · simp only [World.size_alloc] at h1; omega, fun r' hr' => by
          rcases List.mem_append.1 hr' with h1 | h1
          · exact h.2 r' h1
          · rw [List.mem_singleton] at h1; subst h1; show bS ≠ g; omega⟩
      have hqo : q ≤ wo.heap.size := by have := HBB.out.2.2.2.2; omega
      have HBZ := Lib.hid (HBE.out.trans (Frm.below (B := q) ((HF2.out.mono (T := fun c => q ≤ c) (fun c h => h.elim)).trans ((HF4.out.mono (fun c h => by have h : c = gn := h; omega)).trans ((HP5.out.mono (fun c h => h.elim)).trans ((HF6.out.mono (fun c h => (HOW5.out.lt c h).1)).trans (HF8.out.mono (fun c h => by have h : c = w6.heap.size := h; omega)))))) (fun c h => h) hqo))
      go_roundg (gk - 1)
      case measure => omega
      case rel => exact ⟨j + 1, w6.heap.size, rs' ++ [r], ⟨N, Y, AS, cS, bS⟩, by omega, rfl, by
          rw [wayP_succ, ← HKE.out, ← HYY.out]; simp [keyR], HOW8.out, HN6.out.frmX HF8.out (show ¬ gn = w6.heap.size by omega), HBB6.out.frmX HF8.out (show ¬ q + 1 = w6.heap.size by have := HBB6.out.2.2.2.2; omega), by
          rw [show ((gk - 1 : Nat) : Int) = (gk : Int) - 1 by omega]; exact Cell1.new w6 _ _, ⟨hgo gn (by omega) HFR.out.1, hgo (q + 1) HBB.out.2.2.2.2 HFR.out.2.1, ⟨fun k hk => by have := (HOW6.out.lt k hk).2; omega, fun r' hr' => by have := (HOW6.out.2.1 r' hr').2.2.1; omega⟩⟩, by have := HBB.out.2.2.2.2; omega, HBZ.out⟩
    · have hg0 : gk = 0 := by omega
      have hjD : j = D := by omega
      have hgi : ¬ (0 : Int) < (gk : Int) := by omega
      subst hjD
      clear hkey hown hfar hbel kx ox ol of kn n0 n1
      go_wp2_with fail
      go_ret
      exact ⟨_, rs' ++ [r], rfl, HKE.out, by rw [HQ.out]; exact HOW.out, by rw [HQ.out]; exact HBE.out⟩

set_option maxRecDepth 100000 in
set_option maxHeartbeats 1000000 in
theorem impl_WayTo_any (n m : Int) (A B : Option Addr) (ca cb : Nat) (a b : List Int) (w : World) (hn : Fits n) (hm : Fits m) (hA : Ints w w.heap.size A a) (hB : Ints w w.heap.size B b) :
    Calls Try.prog 12 #[.agg #[.int .i64 n, .slice A a.length ca], .agg #[.int .i64 m, .slice B b.length cb]] w (RetRs w (wayV n m a b)) := by
  cases hv : movedB n m a b
  · have HV := Lib.hid (show wayV n m a b = [] by unfold wayV; rw [hv]; rfl)
    rw [HV.out]
    have HS := Lib.hid (fun V h1 h2 => hv ▸ impl_areMoved_any n m A B ca cb a b V hn hm h1 h2)
    clear hv
    have hal0 := (Below.refl w.heap.size w).alloc (Nat.le_refl _) (.cells #[.int .i64 n, .slice A a.length ca] 26)
    have hal1 := hal0.alloc hal0.size (.cells #[.int .i64 m, .slice B b.length cb] 26)
    have HC0 := Lib.hid ((Cells2.new w (.int .i64 n) (.slice A a.length ca) 26).alloc (.cells #[.int .i64 m, .slice B b.length cb] 26))
    have HD0 := Lib.hid (Cells2.new_at (w.alloc (.cells #[.int .i64 n, .slice A a.length ca] 26)) (.int .i64 m) (.slice B b.length cb) 26 (w.heap.size + 1) (by simp))
    have HB0 := Lib.hid hal1
    have HIA := Lib.hid (hA.lift hal1)
    have HIB := Lib.hid (hB.lift hal1)
    clear hA hB hal0 hal1
    obtain ⟨c0, c1, _, _, _⟩ := HC0.out
    obtain ⟨d0, d1, _, _, _⟩ := HD0.out
    go_enter Try.func12, Try.ntmps12
    go_wp2_with fail
    refine (HS.out _ HIA.out HIB.out).mono ?_
    rintro e w1 ⟨rfl, hb⟩
    have HB1 := Lib.hid (HB0.out.trans (hb.mono HB0.out.size))
    clear hb
    go_wp2_with fail
    go_ret
    exact ⟨_, [], rfl, rfl, OwnR.nil _ _, HB1.out⟩
  · obtain ⟨ha, _, hnm, _⟩ := movedB_yes hv
    subst hnm
    obtain ⟨N, rfl⟩ := Int.eq_ofNat_of_zero_le (show 0 ≤ n by have := ha.1; omega)
    have := impl_WayTo_yes N A B ca cb a b w hA hB hv
    unfold wayV
    rw [hv, if_pos rfl, Int.toNat_natCast]
    exact this

end Go.Proofs.Ytlejlcnemibgiaa

namespace Go.Proofs.Ytlejlcnemibgiaa
open Go.RowKit
set_option linter.unusedVariables false
set_option linter.unusedSimpArgs false

def comN (a b : List Int) : Nat → Nat
  | 0 => 0
  | i + 1 => comN a b i + (if hasB b (a.getD i 0) = true then 1 else 0)
theorem comN_le (a b : List Int) : ∀ i, comN a b i ≤ i
  | 0 => Nat.le_refl _
  | i + 1 => by
    have := comN_le a b i
    unfold comN
    split <;> omega

end Go.Proofs.Ytlejlcnemibgiaa

namespace Go.Proofs.Ytlejlcnemibgiaa
open Go.RowKit
set_option linter.unusedVariables false
set_option linter.unusedSimpArgs false

theorem absI_neg (x : Int) : absI (-x) = absI x := by unfold absI; split <;> split <;> omega
theorem absI_tri (x y : Int) : absI (x + y) ≤ absI x + absI y := by unfold absI; split <;> split <;> split <;> omega
theorem absI_zero {x : Int} (h : absI x = 0) : x = 0 := by unfold absI at h; split at h <;> omega
theorem sigN_add (f g : Nat → Int) : ∀ m, sigN (fun i => f i + g i) m = sigN f m + sigN g m
  | 0 => rfl
  | m + 1 => by unfold sigN; rw [sigN_add f g m]; omega
theorem sigN_all0 {f : Nat → Int} : ∀ {m : Nat}, (∀ i, i < m → 0 ≤ f i) → sigN f m = 0 → ∀ i, i < m → f i = 0
  | 0, _, _, i, h => by omega
  | m + 1, h0, h, i, hi => by
    unfold sigN at h
    have h1 := sigN_nonneg (f := f) (m := m) (fun i hi => h0 i (by omega))
    have h2 := h0 m (by omega)
    by_cases e : i = m
    · subst e; omega
    · exact sigN_all0 (m := m) (fun i hi => h0 i (by omega)) (by omega) i (by omega)

section
variable {N : Nat} {a b c : List Int}
theorem farS_sym (hl : a.length = b.length) (s : Int) : farS N b a (-s) = farS N a b s := by
  by_cases hk : 1 ≤ a.length
  · have hA := extB_perd N a hk
    have hB := extB_perd N b (by omega)
    rw [← hl] at hB
    have := farG_shift hA hB 0 (-s)
    rw [show (0 : Int) - -s = s by omega] at this
    unfold farS
    rw [← hl, ← this]
    unfold farG
    refine sigN_congr fun i _ => ?_
    show absI (extB N b i - extB N a (i + -s)) = absI (extB N a (i + -s) - extB N b (i + 0))
    rw [← absI_neg, show (i : Int) + 0 = i by omega]
    congr 1
    omega
  · unfold farS farG
    rw [← hl, show a.length = 0 by omega]; rfl
theorem farV_sym_le (ha : RhOk N a) (hb : RhOk N b) (hl : a.length = b.length) : farV N a b ≤ farV N b a := by
  obtain ⟨s, hs⟩ := farV_ex N b a
  have h1 := farV_le ha hb hl (-s)
  rw [farS_sym hl.symm] at h1
  omega
theorem farV_sym (ha : RhOk N a) (hb : RhOk N b) (hl : a.length = b.length) : farV N a b = farV N b a :=
  Int.le_antisymm (farV_sym_le ha hb hl) (farV_sym_le hb ha hl.symm)
theorem farV_tri (ha : RhOk N a) (hb : RhOk N b) (hc : RhOk N c) (h1 : a.length = b.length) (h2 : b.length = c.length) : farV N a c ≤ farV N a b + farV N b c := by
  obtain ⟨s, hs⟩ := farV_ex N a b
  obtain ⟨t, ht⟩ := farV_ex N b c
  refine Int.le_trans (farV_le ha hc (h1.trans h2) (s + t)) ?_
  rw [hs, ht]
  by_cases hk : 1 ≤ a.length
  · have hB := extB_perd N b (by omega)
    rw [← h1] at hB
    have hC := extB_perd N c (by omega)
    rw [← h2, ← h1] at hC
    have e := farG_shift hB hC (s + t) s
    rw [show s + t - s = t by omega] at e
    unfold farS
    rw [← h1, ← e]
    unfold farG
    rw [← sigN_add]
    refine sigN_le fun i _ => ?_
    show absI (extB N a i - extB N c (i + (s + t))) ≤ absI (extB N a i - extB N b (i + s)) + absI (extB N b (i + s) - extB N c (i + (s + t)))
    have := absI_tri (extB N a i - extB N b (i + s)) (extB N b (i + s) - extB N c (i + (s + t)))
    rwa [show extB N a i - extB N b (i + s) + (extB N b (i + s) - extB N c (i + (s + t))) = extB N a i - extB N c (i + (s + t)) by omega] at this
  · unfold farS farG
    rw [← h1, show a.length = 0 by omega]; exact Int.le_refl _
theorem farV_self (ha : RhOk N a) : farV N a a = 0 := by
  have h1 := farV_le ha ha rfl 0
  have h2 := farV_nonneg N a a
  have h3 : farS N a a 0 = 0 := sigN_zero fun i _ => by
    show absI (extB N a i - extB N a (i + 0)) = 0
    rw [show (i : Int) + 0 = i by omega, Int.sub_self]; rfl
  omega
theorem farV_zero (ha : RhOk N a) (hb : RhOk N b) (hl : a.length = b.length) (h : farV N a b = 0) : a = b := by
  by_cases hk : 1 ≤ a.length
  · obtain ⟨s, hs⟩ := farV_ex N a b
    rw [h] at hs
    have h0 := sigN_all0 (f := fun i => absI (extB N a i - extB N b (i + s))) (fun i _ => absI_nonneg _) hs.symm
    have hE : ∀ i : Nat, i < a.length → extB N a i = extB N b (i + s) := fun i hi => by
      have := absI_zero (h0 i hi); omega
    have hkb : 1 ≤ b.length := by omega
    have e0 := hE 0 (by omega)
    have el := hE (a.length - 1) (by omega)
    have r0 := ext_range ha 0 (by omega)
    have rl := ext_range ha (a.length - 1) (by omega)
    have p0 := extB_perd N b hkb 0
    have pl := extB_perd N b hkb (-1)
    have q0 := ext_range hb 0 (by omega)
    have ql := ext_range hb (b.length - 1) (by omega)
    rw [show (-1 : Int) + b.length = ((b.length - 1 : Nat) : Int) by omega] at pl
    rw [show (0 : Int) + b.length = ((b.length : Nat) : Int) by omega] at p0
    have c0 : ((0 : Nat) : Int) = 0 := rfl
    rw [c0] at e0 r0 q0
    rw [Int.zero_add] at e0
    have hs0 : 0 ≤ s := by
      apply Classical.byContradiction
      intro hn
      have := ext_ge hb hkb (show s ≤ -1 by omega)
      omega
    have hs1 : s ≤ 0 := by
      apply Classical.byContradiction
      intro hn
      have := ext_ge hb hkb (show (b.length : Int) ≤ ((a.length - 1 : Nat) : Int) + s by omega)
      omega
    have hse : s = 0 := by omega
    subst hse
    refine List.ext_getElem hl fun i h1 h2 => ?_
    have := hE i h1
    rw [show (i : Int) + 0 = i by omega, extB_at N a i h1, extB_at N b i h2, List.getD_eq_getElem?_getD, List.getD_eq_getElem?_getD, List.getElem?_eq_getElem h1, List.getElem?_eq_getElem h2] at this
    exact this
  · have e1 : a = [] := List.eq_nil_of_length_eq_zero (by omega)
    have e2 : b = [] := List.eq_nil_of_length_eq_zero (by omega)
    rw [e1, e2]

/-- A move, by its beat and its way. -/
theorem mv_get (ha : RhOk N a) {y : List Int} (hy : y ∈ insL N a (2 * a.length)) : ∃ i d, i < a.length ∧ (d = 1 ∨ d = -1) ∧ (a.getD i 0 + d) % N ∉ a ∧ y = ofL (a.set i ((a.getD i 0 + d) % N)) N := by
  have h1 : 1 ≤ N := by have := ha.1; omega
  have h2 : N ≤ 24 := by have := ha.2.1; omega
  obtain ⟨j, hj, hh, e⟩ := mvL_mem.1 (((insL_desc a h1 h2 (2 * a.length)).2 y).1 hy)
  refine ⟨j / 2, mvD j, by omega, mvD_cases j, ?_, e⟩
  unfold hasB at hh
  exact of_decide_eq_false hh
theorem mv_mem (ha : RhOk N a) {i : Nat} {d : Int} (hi : i < a.length) (hd : d = 1 ∨ d = -1) (hq : (a.getD i 0 + d) % N ∉ a) : ofL (a.set i ((a.getD i 0 + d) % N)) N ∈ insL N a (2 * a.length) := by
  have h1 : 1 ≤ N := by have := ha.1; omega
  have h2 : N ≤ 24 := by have := ha.2.1; omega
  rw [(insL_desc a h1 h2 (2 * a.length)).2, mvL_mem]
  have key : ∀ j, j / 2 = i → mvD j = d → j < 2 * a.length → ∃ j, j < 2 * a.length ∧ hasB a (mvQ N a j) = false ∧ ofL (a.set i ((a.getD i 0 + d) % N)) N = mvX N a j := fun j e1 e2 e3 => by
    refine ⟨j, e3, ?_, ?_⟩
    · unfold hasB mvQ
      rw [e1, e2]; exact decide_eq_false hq
    · unfold mvX mvQ
      rw [e1, e2]
  rcases hd with rfl | rfl
  · exact key (2 * i) (by omega) (by unfold mvD; rw [if_pos (by omega)]) (by omega)
  · exact key (2 * i + 1) (by omega) (by unfold mvD; rw [if_neg (by omega)]) (by omega)
theorem rh_inj (h : RhOk N a) {i j : Nat} (hi : i < a.length) (hj : j < a.length) (e : a.getD i 0 = a.getD j 0) : i = j := by
  rcases Nat.lt_trichotomy i j with h1 | h1 | h1
  · have := rh_lt h h1 hj; omega
  · exact h1
  · have := rh_lt h h1 hi; omega
theorem set_asc (ha : RhOk N a) {i : Nat} {v x : Int} (hi : i < a.length) : x ∈ a.set i v ↔ x = v ∨ (x ∈ a ∧ x ≠ a.getD i 0) := by
  rw [set_mem hi]
  constructor
  · rintro ⟨j, hj, e⟩
    by_cases h : j = i
    · rw [if_pos h] at e; exact .inl e.symm
    · rw [if_neg h] at e
      refine .inr ⟨?_, fun e2 => h (rh_inj ha hj hi (e.trans e2))⟩
      rw [← e, List.getD_eq_getElem?_getD, List.getElem?_eq_getElem hj]; exact List.getElem_mem hj
  · rintro (rfl | ⟨h1, h2⟩)
    · exact ⟨i, hi, by rw [if_pos rfl]⟩
    · obtain ⟨j, hj, e⟩ := mem_at h1
      exact ⟨j, hj, by rw [if_neg (fun h => h2 (by rw [← e, h]))]; exact e⟩
theorem ofL_in {xs : List Int} {x : Int} (h0 : 0 ≤ x) (h1 : x < N) : x ∈ ofL xs N ↔ x ∈ xs := by
  rw [ofL_mem]
  constructor
  · rintro ⟨t, _, hb, rfl⟩
    unfold hasB at hb
    rwa [decide_eq_true_eq] at hb
  · intro h
    obtain ⟨t, ht⟩ := Int.eq_ofNat_of_zero_le h0
    exact ⟨t, by omega, by unfold hasB; rw [decide_eq_true_eq, ← ht]; exact h, ht⟩
theorem mv_in (ha : RhOk N a) {i : Nat} {q x : Int} (hi : i < a.length) (h0 : 0 ≤ q) (h1 : q < N) : x ∈ ofL (a.set i q) N ↔ x = q ∨ (x ∈ a ∧ x ≠ a.getD i 0) := by
  rw [← set_asc ha hi]
  constructor
  · intro h
    obtain ⟨t, ht, _, e⟩ := ofL_mem.1 h
    exact (ofL_in (N := N) (by omega) (by omega)).1 h
  · intro h
    have hr : 0 ≤ x ∧ x < N := by
      rcases (set_asc ha hi).1 h with rfl | ⟨h2, _⟩
      · exact ⟨h0, h1⟩
      · exact rhok_range ha x h2
    exact (ofL_in hr.1 hr.2).2 h

theorem mv_props (ha : RhOk N a) {y : List Int} (hy : y ∈ insL N a (2 * a.length)) :
    RhOk N y ∧ y.length = a.length ∧ farV N a y = 1 ∧ comN a y a.length = a.length - 1 ∧ a ∈ insL N y (2 * y.length) := by
  have h1 : 1 ≤ N := by have := ha.1; omega
  have h2 : N ≤ 24 := by have := ha.2.1; omega
  have hok := (moves_each ha ha rfl hy).1
  have hyl := (moves_each ha ha rfl hy).2.1
  have hle := (moves_each ha hok hyl.symm hy).2.2
  rw [farV_self hok] at hle
  obtain ⟨i, d, hi, hd, hq, e⟩ := mv_get ha hy
  obtain ⟨q, hqe⟩ : ∃ q, (a.getD i 0 + d) % (N : Int) = q := ⟨_, rfl⟩
  have hq0 : 0 ≤ q ∧ q < N := by rw [← hqe]; exact ⟨Int.emod_nonneg _ (by omega), Int.emod_lt_of_pos _ (by omega)⟩
  rw [hqe] at hq e
  have hin : ∀ x, x ∈ y ↔ x = q ∨ (x ∈ a ∧ x ≠ a.getD i 0) := fun x => by rw [e]; exact mv_in ha hi hq0.1 hq0.2
  have hai : a.getD i 0 ∈ a := by rw [List.getD_eq_getElem?_getD, List.getElem?_eq_getElem hi]; exact List.getElem_mem hi
  have hne : a ≠ y := fun h => hq (by rw [h, hin]; exact .inl rfl)
  refine ⟨hok, hyl, ?_, ?_, ?_⟩
  · have := farV_nonneg N a y
    have : farV N a y ≠ 0 := fun h => hne (farV_zero ha hok hyl.symm h)
    omega
  · have key : ∀ m, m ≤ a.length → comN a y m = m - (if i < m then 1 else 0) := by
      intro m
      induction m with
      | zero => intro _; rfl
      | succ m ih =>
        intro hm
        have ih := ih (by omega)
        unfold comN
        rw [ih]
        have hmm : a.getD m 0 ∈ a := by rw [List.getD_eq_getElem?_getD, List.getElem?_eq_getElem (by omega)]; exact List.getElem_mem _
        by_cases hmi : m = i
        · subst hmi
          have : ¬ hasB y (a.getD m 0) = true := by
            unfold hasB
            rw [decide_eq_true_eq, hin]
            rintro (h | ⟨_, h⟩)
            · exact hq (h ▸ hmm)
            · exact h rfl
          rw [if_neg this, if_neg (by omega), if_pos (by omega)]; omega
        · have : hasB y (a.getD m 0) = true := by
            unfold hasB
            rw [decide_eq_true_eq, hin]
            exact .inr ⟨hmm, fun h => hmi (rh_inj ha (by omega) hi h)⟩
          rw [if_pos this]
          by_cases him : i < m
          · rw [if_pos him, if_pos (by omega)]; omega
          · rw [if_neg him, if_neg (by omega)]; omega
    rw [key _ (Nat.le_refl _), if_pos hi]
  · obtain ⟨j, hj, ej⟩ := mem_at ((hin q).2 (.inl rfl))
    have hback : (y.getD j 0 + -d) % (N : Int) = a.getD i 0 := by
      have ri := ha.2.2.1 i hi
      rw [ej, ← hqe, Int.emod_add_emod, show a.getD i 0 + d + -d = a.getD i 0 by omega]
      exact Int.emod_eq_of_lt ri.1 ri.2
    have hna : (y.getD j 0 + -d) % (N : Int) ∉ y := by
      rw [hback, hin]
      rintro (h | ⟨_, h⟩)
      · exact hq (h ▸ hai)
      · exact h rfl
    have hm := mv_mem hok (d := -d) hj (by rcases hd with rfl | rfl <;> simp) hna
    rw [hback] at hm
    have hr := rhok_range ha _ hai
    have : ofL (y.set j (a.getD i 0)) N = a := by
      refine asc_unique (ofL_sorted _ _) (rhok_asc ha) fun x => ?_
      rw [mv_in hok hj hr.1 hr.2, ej, hin]
      constructor
      · rintro (rfl | ⟨h3 | ⟨h3, _⟩, h4⟩)
        · exact hai
        · exact absurd h3 h4
        · exact h3
      · intro hx
        by_cases h3 : x = a.getD i 0
        · exact .inl h3
        · exact .inr ⟨.inr ⟨hx, h3⟩, fun h => hq (h ▸ hx)⟩
    rwa [this] at hm

theorem way_step (ha : RhOk N a) (hb : RhOk N b) (hl : a.length = b.length) (j : Nat) (hj : ((j : Int) + 1) ≤ farV N a b) : wayAt N a b (j + 1) ∈ insL N (wayAt N a b j) (2 * (wayAt N a b j).length) := by
  obtain ⟨o1, o2, o3⟩ := wayAt_ok ha hb hl j (by omega)
  obtain ⟨p1, _, _⟩ := nxtP_spec (moves_some o1 hb (o2.trans hl) (by omega))
  show List.getD _ _ _ ∈ _
  rw [o3] at p1
  rw [List.getD_eq_getElem?_getD, List.getElem?_eq_getElem p1]
  exact List.getElem_mem p1
theorem way_from (ha : RhOk N a) (hb : RhOk N b) (hl : a.length = b.length) : ∀ j : Nat, (j : Int) ≤ farV N a b → farV N a (wayAt N a b j) = j := by
  have up : ∀ j : Nat, (j : Int) ≤ farV N a b → farV N a (wayAt N a b j) ≤ j := by
    intro j
    induction j with
    | zero =>
      intro _
      show farV N a a ≤ _
      rw [farV_self ha]; exact Int.le_refl _
    | succ j ih =>
      intro hj
      have ih := ih (by omega)
      obtain ⟨o1, o2, _⟩ := wayAt_ok ha hb hl j (by omega)
      obtain ⟨p1, p2, p3, _, _⟩ := mv_props o1 (way_step ha hb hl j (by omega))
      have := farV_tri ha o1 p1 o2.symm p2.symm
      omega
  intro j hj
  obtain ⟨o1, o2, o3⟩ := wayAt_ok ha hb hl j hj
  have := farV_tri ha o1 hb o2.symm (o2.trans hl)
  have := up j hj
  omega
end

end Go.Proofs.Ytlejlcnemibgiaa

namespace Go.Proofs.Ytlejlcnemibgiaa
set_option linter.unusedVariables false
set_option linter.unusedSimpArgs false

/-- k nibbles of c. -/
def nibs (c : Nat) : Nat → Nat
  | 0 => 0
  | k + 1 => c + 16 * nibs c k
def pop1 (k x : Nat) : Nat := (x / 2 &&& nibs 5 k) + (x &&& nibs 5 k)
def pop2 (k y : Nat) : Nat := (y / 4 &&& nibs 3 k) + (y &&& nibs 3 k)
def nib1 (n : Nat) : Nat := (n / 2 &&& 5) + (n &&& 5)
def nib2 (p : Nat) : Nat := (p / 4 &&& 3) + (p &&& 3)
theorem and_nib (a c m : Nat) (hc : c < 16) : a &&& (c + 16 * m) = (a % 16 &&& c) + 16 * (a / 16 &&& m) := by
  have h1 := @Nat.and_mod_two_pow a (c + 16 * m) 4
  have h2 := @Nat.and_div_two_pow a (c + 16 * m) 4
  rw [show (2 : Nat) ^ 4 = 16 from rfl] at h1 h2
  rw [show (c + 16 * m) % 16 = c by omega] at h1
  rw [show (c + 16 * m) / 16 = m by omega] at h2
  have := Nat.div_add_mod (a &&& (c + 16 * m)) 16
  rw [h1, h2] at this
  omega
theorem and5 : ∀ n < 16, ∀ e < 2, (n / 2 + 8 * e) &&& 5 = n / 2 &&& 5 := by decide
theorem and3 : ∀ n < 16, ∀ e < 4, (n / 4 + 4 * e) &&& 3 = n / 4 &&& 3 := by decide
theorem pop1_succ (k x : Nat) : pop1 (k + 1) x = nib1 (x % 16) + 16 * pop1 k (x / 16) := by
  unfold pop1 nib1
  rw [show nibs 5 (k + 1) = 5 + 16 * nibs 5 k from rfl, and_nib (x / 2) 5 _ (by decide), and_nib x 5 _ (by decide)]
  rw [show x / 2 % 16 = x % 16 / 2 + 8 * (x / 16 % 2) by omega, and5 _ (by omega) _ (by omega), show x / 2 / 16 = x / 16 / 2 by omega]
  omega
theorem pop2_succ (k p Y : Nat) (hp : p < 16) : pop2 (k + 1) (p + 16 * Y) = nib2 p + 16 * pop2 k Y := by
  unfold pop2 nib2
  rw [show nibs 3 (k + 1) = 3 + 16 * nibs 3 k from rfl, and_nib ((p + 16 * Y) / 4) 3 _ (by decide), and_nib (p + 16 * Y) 3 _ (by decide)]
  rw [show (p + 16 * Y) / 4 % 16 = p / 4 + 4 * (Y % 4) by omega, and3 _ hp _ (by omega), show (p + 16 * Y) / 4 / 16 = Y / 4 by omega, show (p + 16 * Y) % 16 = p by omega, show (p + 16 * Y) / 16 = Y by omega]
  omega
theorem nib1_lt : ∀ n < 16, nib1 n < 16 := by decide
def popZ (k x : Nat) : Nat := pop2 k (pop1 k x)
def popN (n : Nat) : Nat := n % 2 + n / 2 % 2 + n / 4 % 2 + n / 8 % 2
theorem nib_pop : ∀ n < 16, nib2 (nib1 n) = popN n := by decide
theorem popZ_succ (k x : Nat) : popZ (k + 1) x = popN (x % 16) + 16 * popZ k (x / 16) := by
  unfold popZ
  rw [pop1_succ, pop2_succ _ _ _ (nib1_lt _ (by omega)), nib_pop _ (by omega)]
theorem popN_le (n : Nat) : popN n ≤ 4 := by unfold popN; omega
/-- What the library makes of the nibbles. -/
def popE (u : Nat) : Nat := (let v := u + u / 256; let v2 := v + v / 65536; v2 + v2 / 4294967296)
theorem popE_sum (a b c : Nat) (ha : a ≤ 8) (hb : b ≤ 8) (hc : c ≤ 8) : popE (a + 256 * b + 65536 * c) % 128 = a + b + c := by
  unfold popE
  simp only []
  have e1 : (a + 256 * b + 65536 * c) / 256 = b + 256 * c := by omega
  rw [e1]
  have e2 : (a + 256 * b + 65536 * c + (b + 256 * c)) / 65536 = c := by omega
  rw [e2]
  have e3 : (a + 256 * b + 65536 * c + (b + 256 * c) + c) / 4294967296 = 0 := by omega
  rw [e3]
  omega
def nib0F : Nat := 15 + 16 * (0 + 16 * (15 + 16 * (0 + 16 * (15 + 16 * (0 + 16 * 0)))))
theorem and15 : ∀ n < 16, n &&& 15 = n := by decide
theorem pop_fold (n0 n1 n2 n3 n4 n5 M : Nat) (h0 : n0 ≤ 4) (h1 : n1 ≤ 4) (h2 : n2 ≤ 4) (h3 : n3 ≤ 4) (h4 : n4 ≤ 4) (h5 : n5 ≤ 4) (z : Nat) (hz : z = n0 + 16 * (n1 + 16 * (n2 + 16 * (n3 + 16 * (n4 + 16 * n5))))) :
    (z / 16 + z) &&& (15 + 16 * (0 + 16 * (15 + 16 * (0 + 16 * (15 + 16 * (0 + 16 * M)))))) = (n0 + n1) + 256 * (n2 + n3) + 65536 * (n4 + n5) := by
  have e : z / 16 + z = (n0 + n1) + 16 * ((n1 + n2) + 16 * ((n2 + n3) + 16 * ((n3 + n4) + 16 * ((n4 + n5) + 16 * n5)))) := by omega
  rw [e]
  have st : ∀ (s r c m : Nat), s < 16 → c < 16 → (s + 16 * r) &&& (c + 16 * m) = (s &&& c) + 16 * (r &&& m) := fun s r c m hs hc => by
    rw [and_nib _ c m hc, show (s + 16 * r) % 16 = s by omega, show (s + 16 * r) / 16 = r by omega]
  rw [st _ _ _ _ (by omega) (by omega), st _ _ _ _ (by omega) (by omega), st _ _ _ _ (by omega) (by omega), st _ _ _ _ (by omega) (by omega), st _ _ _ _ (by omega) (by omega)]
  rw [and15 _ (by omega), and15 _ (by omega), and15 _ (by omega), Nat.and_zero, Nat.and_zero]
  have hl : n5 &&& (0 + 16 * M) = 0 := by
    have := and_nib n5 0 M (by decide)
    rw [show n5 / 16 = 0 by omega, Nat.zero_and, Nat.and_zero] at this
    exact this
  rw [hl]
  omega
/-- The number of bits set among the first m. -/
def bitsN (x : Nat) : Nat → Nat
  | 0 => 0
  | m + 1 => bitsN x m + (if x.testBit m = true then 1 else 0)

end Go.Proofs.Ytlejlcnemibgiaa

namespace Go.Proofs.Ytlejlcnemibgiaa
open Go.RowKit
set_option linter.unusedVariables false
set_option linter.unusedSimpArgs false

theorem u64w {x : Int} (h : 0 ≤ x ∧ x < 18446744073709551616) : IntKind.u64.wrap x = x := by
  rw [IntKind.wrap_u64]; omega
theorem ofInt_u64 (a : Nat) (ha : a < 18446744073709551616) : (BitVec.ofInt 64 (a : Int)).toNat = a := by
  rw [BitVec.toNat_ofInt]; omega
theorem u64_and_nat (a b : Nat) (ha : a < 18446744073709551616) (hb : b < 18446744073709551616) : bits .and .u64 (a : Int) (b : Int) = ((a &&& b : Nat) : Int) := by
  have hx : a &&& b < 2 ^ 64 := Nat.and_lt_two_pow _ (by omega)
  show IntKind.u64.wrap ((BitVec.ofInt 64 (a : Int) &&& BitVec.ofInt 64 (b : Int)).toNat : Int) = _
  rw [BitVec.toNat_and, ofInt_u64 a ha, ofInt_u64 b hb]
  exact u64w (by omega)

/-- The number of bits of a number below 2^24, nibble by nibble. -/
def popX (x : Nat) : Nat := popN (x % 16) + popN (x / 16 % 16) + popN (x / 256 % 16) + popN (x / 4096 % 16) + popN (x / 65536 % 16) + popN (x / 1048576 % 16)
theorem pop1_zero (k : Nat) : pop1 k 0 = 0 := by unfold pop1; simp
theorem pop2_zero (k : Nat) : pop2 k 0 = 0 := by unfold pop2; simp
theorem pop_all (x : Nat) (hx : x < 16777216) : popE ((popZ 16 x / 16 + popZ 16 x) &&& 1085102592571150095) % 128 = popX x ∧ popZ 16 x < 268435456 := by
  have hz : popZ 16 x = popN (x % 16) + 16 * (popN (x / 16 % 16) + 16 * (popN (x / 256 % 16) + 16 * (popN (x / 4096 % 16) + 16 * (popN (x / 65536 % 16) + 16 * popN (x / 1048576 % 16))))) := by
    rw [popZ_succ, popZ_succ, popZ_succ, popZ_succ, popZ_succ, popZ_succ]
    simp only [Nat.div_div_eq_div_mul]
    rw [show x / (16 * 16 * 16 * 16 * 16 * 16) = 0 by omega]
    rw [show popZ 10 0 = 0 by unfold popZ; rw [pop1_zero, pop2_zero]]
    simp only [Nat.reduceMul, Nat.mul_zero, Nat.add_zero]
  have l0 := popN_le (x % 16)
  have l1 := popN_le (x / 16 % 16)
  have l2 := popN_le (x / 256 % 16)
  have l3 := popN_le (x / 4096 % 16)
  have l4 := popN_le (x / 65536 % 16)
  have l5 := popN_le (x / 1048576 % 16)
  refine ⟨?_, by omega⟩
  have hf := pop_fold _ _ _ _ _ _ 64677154575 l0 l1 l2 l3 l4 l5 _ hz
  rw [show (15 + 16 * (0 + 16 * (15 + 16 * (0 + 16 * (15 + 16 * (0 + 16 * 64677154575))))) : Nat) = 1085102592571150095 from rfl] at hf
  rw [hf, popE_sum _ _ _ (by omega) (by omega) (by omega)]
  unfold popX
  omega

set_option maxRecDepth 100000 in
set_option maxHeartbeats 1000000 in
theorem bits_OnesCount64_any (x : Nat) (w : World) (hx : x < 16777216) :
    Calls Try.prog 74 #[.int .u64 x] w fun e w' => e = .returned (.int .i64 (popX x)) ∧ w = w' := by
  obtain ⟨hp, hzl⟩ := pop_all x hx
  have hA1 := u64_and_nat (x / 2) 6148914691236517205 (by omega) (by omega)
  have hA2 := u64_and_nat x 6148914691236517205 (by omega) (by omega)
  have l1 : x / 2 &&& 6148914691236517205 ≤ x / 2 := Nat.and_le_left
  have l2 : x &&& 6148914691236517205 ≤ x := Nat.and_le_left
  have hy : (x / 2 &&& 6148914691236517205) + (x &&& 6148914691236517205) = pop1 16 x := rfl
  obtain ⟨a1, ha1⟩ : ∃ a, x / 2 &&& 6148914691236517205 = a := ⟨_, rfl⟩
  obtain ⟨a2, ha2⟩ : ∃ a, x &&& 6148914691236517205 = a := ⟨_, rfl⟩
  rw [ha1] at hA1 l1 hy
  rw [ha2] at hA2 l2 hy
  have hw1 : IntKind.u64.wrap ((a1 : Int) + a2) = (a1 : Int) + a2 := u64w (by omega)
  obtain ⟨y, hyy⟩ : ∃ y, a1 + a2 = y := ⟨_, rfl⟩
  have hy0 : (a1 : Int) + a2 = (y : Int) := by omega
  have hz0 : popZ 16 x = (y / 4 &&& 3689348814741910323) + (y &&& 3689348814741910323) := by unfold popZ; rw [← hy, hyy]; rfl
  have hB1 := u64_and_nat (y / 4) 3689348814741910323 (by omega) (by omega)
  have hB2 := u64_and_nat y 3689348814741910323 (by omega) (by omega)
  have l3 : y / 4 &&& 3689348814741910323 ≤ y / 4 := Nat.and_le_left
  have l4 : y &&& 3689348814741910323 ≤ y := Nat.and_le_left
  obtain ⟨b1, hb1⟩ : ∃ a, y / 4 &&& 3689348814741910323 = a := ⟨_, rfl⟩
  obtain ⟨b2, hb2⟩ : ∃ a, y &&& 3689348814741910323 = a := ⟨_, rfl⟩
  rw [hb1] at hB1 l3 hz0
  rw [hb2] at hB2 l4 hz0
  have hw2 : IntKind.u64.wrap ((b1 : Int) + b2) = (b1 : Int) + b2 := u64w (by omega)
  obtain ⟨z, hzz⟩ : ∃ z, b1 + b2 = z := ⟨_, rfl⟩
  have hz1 : (b1 : Int) + b2 = (z : Int) := by omega
  rw [hz0, hzz] at hp
  have hC := u64_and_nat (z / 16 + z) 1085102592571150095 (by omega) (by omega)
  have l5 : (z / 16 + z) &&& 1085102592571150095 ≤ z / 16 + z := Nat.and_le_left
  have hw3 : IntKind.u64.wrap ((z : Int) / 16 + z) = (z : Int) / 16 + z := u64w (by omega)
  have hc0 : (z : Int) / 16 + z = ((z / 16 + z : Nat) : Int) := by omega
  obtain ⟨u, hu⟩ : ∃ u, (z / 16 + z) &&& 1085102592571150095 = u := ⟨_, rfl⟩
  rw [hu] at hC l5 hp
  rw [← hc0] at hC
  rw [Int.natCast_ediv] at hA1 hB1
  replace hA1 : bits .and .u64 ((x : Int) / 2) 6148914691236517205 = (a1 : Int) := hA1
  replace hA2 : bits .and .u64 (x : Int) 6148914691236517205 = (a2 : Int) := hA2
  replace hB1 : bits .and .u64 ((y : Int) / 4) 3689348814741910323 = (b1 : Int) := hB1
  replace hB2 : bits .and .u64 (y : Int) 3689348814741910323 = (b2 : Int) := hB2
  replace hC : bits .and .u64 ((z : Int) / 16 + z) 1085102592571150095 = (u : Int) := hC
  obtain ⟨v, hv⟩ : ∃ v, u + u / 256 = v := ⟨_, rfl⟩
  obtain ⟨t, ht⟩ : ∃ t, v + v / 65536 = t := ⟨_, rfl⟩
  have hv1 : (u : Int) + (u : Int) / 256 = (v : Int) := by omega
  have ht1 : (v : Int) + (v : Int) / 65536 = (t : Int) := by omega
  have hs1 : (t : Int) + (t : Int) / 4294967296 = (t : Int) := by omega
  have hwv : IntKind.u64.wrap (v : Int) = (v : Int) := u64w (by omega)
  have hwt : IntKind.u64.wrap (t : Int) = (t : Int) := u64w (by omega)
  have hwi : IntKind.i64.wrap (t : Int) = (t : Int) := i64w (by omega)
  have hD := i64_and_nat t 127 (by omega) (by omega)
  rw [show t &&& 127 = t % 128 from Nat.and_two_pow_sub_one_eq_mod t 7] at hD
  replace hD : bits .and .i64 (t : Int) 127 = ((t % 128 : Nat) : Int) := hD
  have hpe : popE u = t := by
    unfold popE
    simp only []
    rw [hv, ht]; omega
  rw [hpe] at hp
  rw [hp] at hD
  clear hv ht hpe
  have HP := Lib.hid hp
  clear hp hu hz0 hzl hc0 hzz hyy hb1 hb2 ha1 ha2 hy
  go_enter Try.func74, Try.ntmps74
  go_wp2
  go_ret
  exact ⟨rfl, rfl⟩

end Go.Proofs.Ytlejlcnemibgiaa

namespace Go.Proofs.Ytlejlcnemibgiaa
open Go.RowKit
set_option linter.unusedVariables false
set_option linter.unusedSimpArgs false

def evL (k n m q : Nat) : List Int := (List.range q).map fun i => (((i * n + m) / k : Nat) : Int)
theorem evL_succ (k n m q : Nat) : evL k n m (q + 1) = evL k n m q ++ [(((q * n + m) / k : Nat) : Int)] := by simp [evL, List.range_succ]
theorem evL_len (k n m q : Nat) : (evL k n m q).length = q := by simp [evL]
theorem evL_gen (k n m q : Nat) : evL k n m q = genL q fun i => (((i * n + m) / k : Nat) : Int) := rfl
def evB (n k : Nat) : List Int := evL k n 0 k
theorem evB_len (n k : Nat) : (evB n k).length = k := evL_len _ _ _ _
theorem evB_ok {n k : Nat} (h1 : 1 ≤ n) (h2 : n ≤ 24) (hk : k ≤ n) : RhOk n (evB n k) := by
  unfold evB
  rw [evL_gen]
  refine ⟨by omega, by omega, fun i hi => ?_, fun i hi => ?_⟩
  · rw [genL_len] at hi
    rw [genL_at hi]
    have : (i * n + 0) / k < n := Nat.div_lt_of_lt_mul (by
      have := Nat.mul_lt_mul_of_pos_right (show i < k from hi) (show 0 < n by omega)
      omega)
    exact ⟨Int.natCast_nonneg _, Int.ofNat_lt.2 this⟩
  · rw [genL_len] at hi
    rw [genL_at hi, genL_at (by omega)]
    have h3 : (i * n + 0 + k) / k = (i * n + 0) / k + 1 := Nat.add_div_right _ (by omega)
    have h4 : (i * n + 0 + k) / k ≤ ((i + 1) * n + 0) / k := Nat.div_le_div_right (by rw [Nat.add_mul]; omega)
    have : (i * n + 0) / k < ((i + 1) * n + 0) / k := by omega
    exact Int.ofNat_lt.2 this
theorem ofL_rh {N : Nat} {a : List Int} (h : RhOk N a) : ofL a N = a := by
  refine asc_unique (ofL_sorted _ _) (rhok_asc h) fun x => ?_
  rw [ofL_mem]
  constructor
  · rintro ⟨t, ht, hb, rfl⟩
    unfold hasB at hb
    rwa [decide_eq_true_eq] at hb
  · intro hx
    have := rhok_range h x hx
    obtain ⟨t, ht⟩ := Int.eq_ofNat_of_zero_le this.1
    exact ⟨t, by omega, by unfold hasB; rw [decide_eq_true_eq, ← ht]; exact hx, ht⟩

/-- The first of the least of f at 0, .., m - 1. -/
def bestK (f : Nat → Int) : Nat → Nat
  | 0 => 0
  | m + 1 => if f m < f (bestK f m) then m else bestK f m
theorem bestK_one (f : Nat → Int) : bestK f 1 = 0 := by unfold bestK; show (if f 0 < f 0 then 0 else 0) = 0; split <;> rfl
theorem bestK_lt (f : Nat → Int) : ∀ m, 1 ≤ m → bestK f m < m
  | 0, h => by omega
  | 1, _ => by rw [bestK_one]; omega
  | m + 2, _ => by
    have := bestK_lt f (m + 1) (by omega)
    unfold bestK
    split <;> omega
theorem bestK_le (f : Nat → Int) : ∀ m i, i < m → f (bestK f m) ≤ f i
  | 0, i, h => by omega
  | m + 1, i, h => by
    have ih := bestK_le f m
    unfold bestK
    by_cases e : i = m
    · subst e; split <;> omega
    · have := ih i (by omega)
      split <;> omega

theorem asc_nodup {l : List Int} (h : l.Pairwise (fun a b => a < b)) : l.Nodup := List.Pairwise.imp (fun {a b} hab e => by omega) h
theorem ofL_length {N : Nat} {xs : List Int} (hn : xs.Nodup) (hr : ∀ x ∈ xs, 0 ≤ x ∧ x < N) : (ofL xs N).length = xs.length := by
  refine List.Perm.length_eq ((List.perm_ext_iff_of_nodup (asc_nodup (ofL_sorted xs N)) hn).2 fun x => ?_)
  rw [ofL_mem]
  constructor
  · rintro ⟨t, _, hb, rfl⟩
    unfold hasB at hb
    rwa [decide_eq_true_eq] at hb
  · intro hx
    have := hr x hx
    obtain ⟨t, ht⟩ := Int.eq_ofNat_of_zero_le this.1
    exact ⟨t, by omega, by unfold hasB; rw [decide_eq_true_eq, ← ht]; exact hx, ht⟩
theorem rotL_ok {N : Nat} {bs : List Int} (h : RhOk N bs) (k : Int) : RhOk N (rotL N bs k) ∧ (rotL N bs k).length = bs.length := by
  have h1 : 1 ≤ N := by have := h.1; omega
  have h2 : N ≤ 24 := by have := h.2.1; omega
  rw [← rotL_of h k]
  refine ⟨ofL_ok _ h1 h2, ?_⟩
  have hl : (mapL 1 k N bs bs.length).length = bs.length := by unfold mapL; rw [List.length_map, List.take_length]
  refine (ofL_length ?_ fun x hx => ?_).trans hl
  · unfold mapL
    rw [List.take_length]
    refine List.pairwise_map.2 (List.Pairwise.imp_of_mem (fun {a b} ha hb hab e => ?_) (rhok_asc h))
    have ra := rhok_range h a ha
    have rb := rhok_range h b hb
    have e2 : (1 * a + k - (1 * b + k)) % (N : Int) = 0 := Int.emod_emod_of_dvd _ (Int.dvd_refl _) ▸ (Int.emod_eq_emod_iff_emod_sub_eq_zero.1 e)
    rw [show 1 * a + k - (1 * b + k) = a - b by omega] at e2
    have e3 := Int.emod_add_mul_ediv (a - b) N
    rw [e2] at e3
    have hq : (a - b) / (N : Int) = 0 ∨ (a - b) / (N : Int) ≤ -1 ∨ 1 ≤ (a - b) / (N : Int) := by omega
    rcases hq with hq | hq | hq
    · rw [hq] at e3; omega
    · have := Int.mul_le_mul_of_nonneg_left hq (show (0 : Int) ≤ N by omega); omega
    · have := Int.mul_le_mul_of_nonneg_left hq (show (0 : Int) ≤ N by omega); omega
  · unfold mapL at hx
    rw [List.mem_map] at hx
    obtain ⟨y, _, rfl⟩ := hx
    exact ⟨Int.emod_nonneg _ (by omega), Int.emod_lt_of_pos _ (by omega)⟩

/-- The nearest even rhythm by moves; the number of moves. -/
def fewK (N : Nat) (a : List Int) : Nat := bestK (fun k => farV N a (rotL N (evB N a.length) (k : Int))) N
def fewX (N : Nat) (a : List Int) : List Int := rotL N (evB N a.length) (fewK N a : Int)

end Go.Proofs.Ytlejlcnemibgiaa

namespace Go.Proofs.Ytlejlcnemibgiaa
open Go.RowKit
set_option linter.unusedVariables false
set_option linter.unusedSimpArgs false

theorem bit_mod (x m : Nat) : (if x.testBit m = true then 1 else 0) = x / 2 ^ m % 2 := by
  rw [Nat.testBit_eq_decide_div_mod_eq]
  by_cases h : x / 2 ^ m % 2 = 1
  · rw [h]; simp
  · have : x / 2 ^ m % 2 = 0 := by omega
    rw [this]; simp
theorem bitsN_succ (x m : Nat) : bitsN x (m + 1) = bitsN x m + x / 2 ^ m % 2 := by
  rw [← bit_mod]; rfl
theorem bitsN_nib (x : Nat) : ∀ m, bitsN x (4 + m) = popN (x % 16) + bitsN (x / 16) m
  | 0 => by
    show bitsN x 4 = _ + 0
    rw [bitsN_succ, bitsN_succ, bitsN_succ, bitsN_succ, show bitsN x 0 = 0 from rfl]
    unfold popN
    simp only [Nat.reducePow]
    omega
  | m + 1 => by
    rw [show 4 + (m + 1) = 4 + m + 1 from rfl, bitsN_succ, bitsN_nib x m, bitsN_succ (x / 16) m, Nat.div_div_eq_div_mul, Nat.pow_add, show (2 : Nat) ^ 4 = 16 from rfl]
    omega
theorem popX_bits (x : Nat) : popX x = bitsN x 24 := by
  rw [bitsN_nib x 20, bitsN_nib (x / 16) 16, bitsN_nib (x / 16 / 16) 12, bitsN_nib (x / 16 / 16 / 16) 8, bitsN_nib (x / 16 / 16 / 16 / 16) 4, bitsN_nib (x / 16 / 16 / 16 / 16 / 16) 0]
  rw [show bitsN (x / 16 / 16 / 16 / 16 / 16 / 16) 0 = 0 from rfl]
  simp only [Nat.div_div_eq_div_mul, Nat.reduceMul]
  unfold popX
  omega
theorem bitsN_filter (x : Nat) : ∀ m, bitsN x m = ((List.range m).filter fun j => x.testBit j).length
  | 0 => rfl
  | m + 1 => by
    have ih := bitsN_filter x m
    rw [List.range_succ, List.filter_append, List.length_append, ← ih]
    show bitsN x m + (if x.testBit m = true then 1 else 0) = _
    cases h : x.testBit m <;> simp [h]
theorem comN_filter (a b : List Int) : ∀ i, i ≤ a.length → comN a b i = ((a.take i).filter (hasB b)).length
  | 0, _ => rfl
  | i + 1, h => by
    have ih := comN_filter a b i (by omega)
    rw [List.take_succ_eq_append_getElem (by omega), List.filter_append, List.length_append, ← ih]
    show comN a b i + (if hasB b (a.getD i 0) = true then 1 else 0) = _
    rw [List.getD_eq_getElem?_getD, List.getElem?_eq_getElem (by omega : i < a.length)]
    show comN a b i + (if hasB b a[i] = true then 1 else 0) = _
    cases h2 : hasB b a[i] <;> simp [h2]
theorem com_bits {N : Nat} {a b : List Int} (ha : RhOk N a) (hb : RhOk N b) : popX (codI N a &&& codI N b) = comN a b a.length := by
  have hN : N ≤ 24 := by have := ha.2.1; omega
  rw [popX_bits, bitsN_filter, comN_filter a b _ (Nat.le_refl _), List.take_length]
  have hp : (((List.range 24).filter fun j => (codI N a &&& codI N b).testBit j).map fun j : Nat => (N : Int) - 1 - (j : Int)).Perm (a.filter (hasB b)) := by
    refine (List.perm_ext_iff_of_nodup ?_ ?_).2 fun p => ?_
    · have hf : ((List.range 24).filter fun j => (codI N a &&& codI N b).testBit j).Pairwise (fun x y : Nat => x ≠ y) := List.Pairwise.filter _ (@List.nodup_range 24)
      refine List.pairwise_map.2 (List.Pairwise.imp (R := fun x y : Nat => x ≠ y) ?_ hf)
      intro x y h e
      exact h (by omega)
    · exact List.Pairwise.filter _ (show a.Pairwise (fun x y => x ≠ y) from asc_nodup (rhok_asc ha))
    · rw [List.mem_map, List.mem_filter]
      constructor
      · rintro ⟨j, hj, rfl⟩
        rw [List.mem_filter, Nat.testBit_and, Bool.and_eq_true] at hj
        obtain ⟨_, h1, h2⟩ := hj
        have hjn : j < N := by
          rcases Nat.lt_or_ge j N with h | h
          · exact h
          · rw [codI_out ha j h] at h1; cases h1
        rw [codI_bit ha j hjn] at h1
        rw [codI_bit hb j hjn] at h2
        unfold hasB at h1
        exact ⟨of_decide_eq_true h1, h2⟩
      · rintro ⟨h1, h2⟩
        have hr := rhok_range ha p h1
        obtain ⟨j, hj⟩ := Int.eq_ofNat_of_zero_le (show 0 ≤ (N : Int) - 1 - p by omega)
        refine ⟨j, ?_, by omega⟩
        rw [List.mem_filter, Nat.testBit_and, Bool.and_eq_true, codI_bit ha j (by omega), codI_bit hb j (by omega), show (N : Int) - 1 - j = p by omega]
        exact ⟨List.mem_range.2 (by omega), by unfold hasB; exact decide_eq_true h1, h2⟩
  have := hp.length_eq
  rwa [List.length_map] at this

end Go.Proofs.Ytlejlcnemibgiaa

namespace Go.Proofs.Ytlejlcnemibgiaa
open Go.RowKit
set_option linter.unusedVariables false
set_option linter.unusedSimpArgs false

set_option maxRecDepth 100000 in
set_option maxHeartbeats 1000000 in
theorem bits_OnesCount_any (x : Nat) (w : World) (hx : x < 16777216) :
    Calls Try.prog 58 #[.int .u64 x] w fun e w' => e = .returned (.int .i64 (popX x)) ∧ w = w' := by
  have HC := Lib.hid (fun V => bits_OnesCount64_any x V hx)
  go_enter Try.func58, Try.ntmps58
  go_wp2_with (go_at_call 74; refine (HC.out _).mono ?_; rintro e w' ⟨rfl, rfl⟩)
  go_ret
  exact ⟨rfl, rfl⟩

theorem cells2_frm {w w' : World} {g : Nat} {u v : Value} {S : Nat → Prop} (h : Cells2 w g u v) (hf : Frm S w w') (hS : ¬ S g) : Cells2 w' g u v :=
  ⟨(hf.cell h.2.2.2.2 hS).trans h.1, (hf.cell h.2.2.2.2 hS).trans h.2.1, (hf.frozen h.2.2.2.2 hS).trans h.2.2.1, (hf.frozen h.2.2.2.2 hS).trans h.2.2.2.1, Nat.lt_of_lt_of_le h.2.2.2.2 hf.size⟩

set_option maxRecDepth 100000 in
set_option maxHeartbeats 1000000 in
theorem impl_common_any (n : Nat) (A B : Option Addr) (ca cb : Nat) (a b : List Int) (w : World) (hA : Ints w w.heap.size A a) (hB : Ints w w.heap.size B b) (ha : RhOk n a) (hb : RhOk n b) :
    Calls Try.prog 30 #[.agg #[.int .i64 n, .slice A a.length ca], .agg #[.int .i64 n, .slice B b.length cb]] w fun e w' => e = .returned (.int .i64 (comN a b a.length)) ∧ Below w.heap.size w w' := by
  have HCA := Lib.hid (fun V h => show Calls Try.prog 53 #[.agg #[.int .i64 n, .slice A a.length ca]] V (fun e w' => e = .returned (.int .i64 (codI n a)) ∧ Below V.heap.size V w') from impl_code_any n A ca a V h ha)
  have HCB := Lib.hid (fun V h => show Calls Try.prog 53 #[.agg #[.int .i64 n, .slice B b.length cb]] V (fun e w' => e = .returned (.int .i64 (codI n b)) ∧ Below V.heap.size V w') from impl_code_any n B cb b V h hb)
  have hc := com_bits ha hb
  have l1 := codI_small ha
  have l2 := codI_small hb
  have hle : codI n a &&& codI n b ≤ codI n a := Nat.and_le_left
  have hand := i64_and_nat (codI n a) (codI n b) (by omega) (by omega)
  generalize codI n a = C at *
  generalize codI n b = D at *
  have HON := Lib.hid (fun V => bits_OnesCount_any (C &&& D) V (by omega))
  rw [hc] at HON
  obtain ⟨X, hX⟩ : ∃ X, C &&& D = X := ⟨_, rfl⟩
  rw [hX] at HON hand hle
  have hwu : IntKind.u64.wrap (X : Int) = (X : Int) := u64w (by omega)
  clear hc hX
  have hal0 := (Below.refl w.heap.size w).alloc (Nat.le_refl _) (.cells #[.int .i64 n, .slice A a.length ca] 26)
  have hal1 := hal0.alloc hal0.size (.cells #[.int .i64 n, .slice B b.length cb] 26)
  have HC0 := Lib.hid ((Cells2.new w (.int .i64 n) (.slice A a.length ca) 26).alloc (.cells #[.int .i64 n, .slice B b.length cb] 26))
  have HD0 := Lib.hid (Cells2.new_at (w.alloc (.cells #[.int .i64 n, .slice A a.length ca] 26)) (.int .i64 n) (.slice B b.length cb) 26 (w.heap.size + 1) (by simp))
  have HB0 := Lib.hid hal1
  have HIA := Lib.hid (hA.lift hal1)
  have HIB := Lib.hid (hB.lift hal1)
  clear hA hB hal0 hal1
  obtain ⟨c0, c1, _, _, _⟩ := HC0.out
  obtain ⟨d0, d1, _, _, _⟩ := HD0.out
  go_enter Try.func30, Try.ntmps30
  go_wp2_with fail
  generalize (w.alloc (.cells #[.int .i64 n, .slice A a.length ca] 26)).alloc (.cells #[.int .i64 n, .slice B b.length cb] 26) = w0 at *
  obtain ⟨q, hq⟩ : ∃ q, w.heap.size = q := ⟨_, rfl⟩
  have HQ := Lib.hid hq
  rw [hq] at HC0 HD0 HB0 c0 c1 d0 d1 ⊢
  clear hq
  (refine wp_region_held_drew (S := (fun w' => w'.cell? ⟨q, 0, none⟩ = some (.int .i64 n) ∧ w'.cell? ⟨q, 1, none⟩ = some (.slice A a.length ca) ∧ w'.cell? ⟨q + 1, 0, none⟩ = some (.int .i64 n) ∧ w'.cell? ⟨q + 1, 1, none⟩ = some (.slice B b.length cb))) (by kernel_rfl) ?_ (fun hHeld => ?_); (focus ((try dsimp only); exact ⟨c0, c1, d0, d1⟩)))
  have HG1 := Lib.hid ((Frm.refl (fun _ => False) w0).drew)
  have HB1 := Lib.hid (Below.drew5_ HB0.out)
  have HIA1 := Lib.hid (show Ints w0.drew w0.drew.heap.size A a from HIA.out)
  have HIB1 := Lib.hid (show Ints w0.drew w0.drew.heap.size B b from HIB.out)
  have hq1 : q ≤ w0.drew.heap.size := by have := HC0.out.2.2.2.2; show q ≤ w0.heap.size; omega
  generalize w0.drew = w1 at *
  (refine wpAnyH_take (i := 0) (v := ?_) rfl (by kernel_rfl) (by kernel_rfl) (by kernel_rfl) (fun _ _ _ h => h) (Or.inl ⟨by rfl, ?_⟩) (by assumption) ?_; rotate_left; (focus (intro wS hSw; (try dsimp only at hSw); go_simp; (try with_reducible rfl))); (try simp only [Act.put, List.getElem_toArray, List.getElem_cons_zero, List.getElem_cons_succ, List.setIfInBounds_toArray, List.set_cons_zero, List.set_cons_succ]))
  (refine wpAnyH_take (i := 2) (v := ?_) rfl (by kernel_rfl) (by kernel_rfl) (by kernel_rfl) (fun _ _ _ h => h) (Or.inl ⟨by rfl, ?_⟩) (by assumption) ?_; rotate_left; (focus (intro wS hSw; (try dsimp only at hSw); go_simp; (try with_reducible rfl))); (try simp only [Act.put, List.getElem_toArray, List.getElem_cons_zero, List.getElem_cons_succ, List.setIfInBounds_toArray, List.set_cons_zero, List.set_cons_succ]))
  (refine wpAnyH_ready (rs := [1]) (by kernel_rfl) (by simp) ?_; refine AllReadyH.cons rfl (fun K hK => ?_) AllReadyH.nil; go_simp)
  go_at_call 53
  refine (HCA.out _ HIA1.out).mono ?_
  rintro e w2 ⟨rfl, hb⟩
  have HG2 := Lib.hid (HG1.out.trans (Frm.pure hb (fun _ => False)))
  have HB2 := Lib.hid (HB1.out.trans (hb.mono hq1))
  have HIB2 := Lib.hid (HIB1.out.lift hb)
  have hq2 := Nat.le_trans hq1 hb.size
  clear hb c0 c1 d0 d1
  obtain ⟨c0, c1, _, _, _⟩ := cells2_frm HC0.out HG2.out (fun h => h)
  obtain ⟨d0, d1, _, _, _⟩ := cells2_frm HD0.out HG2.out (fun h => h)
  go_wp2_with fail
  (refine hK.out _ _ ?_ (fun hHeld2 => ?_); (focus ((try dsimp only); exact ⟨c0, c1, d0, d1⟩)); (clear hK K); (try simp only [Act.put, List.getElem_toArray, List.getElem_cons_zero, List.getElem_cons_succ, List.setIfInBounds_toArray, List.set_cons_zero, List.set_cons_succ]))
  (refine wpAnyH_ready (rs := [3]) (by kernel_rfl) (by simp) ?_; refine AllReadyH.cons rfl (fun K hK => ?_) AllReadyH.nil; go_simp)
  go_at_call 53
  refine (HCB.out _ HIB2.out).mono ?_
  rintro e w3 ⟨rfl, hb⟩
  have HG3 := Lib.hid (HG2.out.trans (Frm.pure hb (fun _ => False)))
  have HB3 := Lib.hid (HB2.out.trans (hb.mono hq2))
  clear hb c0 c1 d0 d1
  obtain ⟨c0, c1, _, _, _⟩ := cells2_frm HC0.out HG3.out (fun h => h)
  obtain ⟨d0, d1, _, _, _⟩ := cells2_frm HD0.out HG3.out (fun h => h)
  go_wp2_with fail
  (refine hK.out _ _ ?_ (fun hHeld2 => ?_); (focus ((try dsimp only); exact ⟨c0, c1, d0, d1⟩)); (clear hK K); (try simp only [Act.put, List.getElem_toArray, List.getElem_cons_zero, List.getElem_cons_succ, List.setIfInBounds_toArray, List.set_cons_zero, List.set_cons_succ]))
  (refine wpAnyH_take (i := 4) (v := ?_) rfl (by kernel_rfl) (by kernel_rfl) (by kernel_rfl) (fun _ _ _ h => h) (Or.inl ⟨by rfl, ?_⟩) (by assumption) ?_; rotate_left; (focus (intro wS hSw; (try dsimp only at hSw); go_simp; (try with_reducible rfl))); (try simp only [Act.put, List.getElem_toArray, List.getElem_cons_zero, List.getElem_cons_succ, List.setIfInBounds_toArray, List.set_cons_zero, List.set_cons_succ]))
  (refine wpAnyH_take (i := 5) (v := ?_) rfl (by kernel_rfl) (by kernel_rfl) (by kernel_rfl) (fun _ _ _ h => h) (Or.inl ⟨by rfl, ?_⟩) (by assumption) ?_; rotate_left; (focus (intro wS hSw; (try dsimp only at hSw); go_simp; (try with_reducible rfl))); (try simp only [Act.put, List.getElem_toArray, List.getElem_cons_zero, List.getElem_cons_succ, List.setIfInBounds_toArray, List.set_cons_zero, List.set_cons_succ]))
  (refine wpAnyH_ready (rs := [6]) (by kernel_rfl) (by simp) ?_; refine AllReadyH.cons rfl (fun K hK => ?_) AllReadyH.nil; go_simp)
  go_at_call 58
  refine (HON.out _).mono ?_
  rintro e w4 ⟨rfl, rfl⟩
  go_wp2_with fail
  (refine hK.out _ _ ?_ (fun hHeld2 => ?_); (focus ((try dsimp only); exact ⟨c0, c1, d0, d1⟩)); (clear hK K); (try simp only [Act.put, List.getElem_toArray, List.getElem_cons_zero, List.getElem_cons_succ, List.setIfInBounds_toArray, List.set_cons_zero, List.set_cons_succ]))
  (refine wpAnyH_take (i := 7) (v := ?_) rfl (by kernel_rfl) (by kernel_rfl) (by kernel_rfl) (fun _ _ _ h => h) (Or.inl ⟨by rfl, ?_⟩) (by assumption) ?_; rotate_left; (focus (intro wS hSw; (try dsimp only at hSw); go_simp; (try with_reducible rfl))); (try simp only [Act.put, List.getElem_toArray, List.getElem_cons_zero, List.getElem_cons_succ, List.setIfInBounds_toArray, List.set_cons_zero, List.set_cons_succ]))
  refine wpAnyH_done (by kernel_rfl) ?_ _
  go_wp2_with fail
  go_ret
  exact ⟨rfl, by rw [HQ.out]; exact HB3.out⟩

end Go.Proofs.Ytlejlcnemibgiaa

namespace Go.Proofs.Ytlejlcnemibgiaa
open Go.RowKit
set_option linter.unusedVariables false
set_option linter.unusedSimpArgs false

set_option maxRecDepth 100000 in
set_option maxHeartbeats 1000000 in
theorem impl_MoveDistance_any (n m : Int) (A B : Option Addr) (ca cb : Nat) (a b : List Int) (w : World) (hn : Fits n) (hm : Fits m) (hA : Ints w w.heap.size A a) (hB : Ints w w.heap.size B b) :
    Calls Try.prog 7 #[.agg #[.int .i64 n, .slice A a.length ca], .agg #[.int .i64 m, .slice B b.length cb]] w fun e w' => e = .returned (.int .i64 (mdV n m a b)) ∧ Below w.heap.size w w' := by
  have hal0 := (Below.refl w.heap.size w).alloc (Nat.le_refl _) (.cells #[.int .i64 n, .slice A a.length ca] 26)
  have hal1 := hal0.alloc hal0.size (.cells #[.int .i64 m, .slice B b.length cb] 26)
  have HC0 := Lib.hid ((Cells2.new w (.int .i64 n) (.slice A a.length ca) 26).alloc (.cells #[.int .i64 m, .slice B b.length cb] 26))
  have HD0 := Lib.hid (Cells2.new_at (w.alloc (.cells #[.int .i64 n, .slice A a.length ca] 26)) (.int .i64 m) (.slice B b.length cb) 26 (w.heap.size + 1) (by simp))
  have HB0 := Lib.hid hal1
  have HIA := Lib.hid (hA.lift hal1)
  have HIB := Lib.hid (hB.lift hal1)
  clear hA hB hal0 hal1
  obtain ⟨c0, c1, _, _, _⟩ := HC0.out
  obtain ⟨d0, d1, _, _, _⟩ := HD0.out
  have HS := Lib.hid (fun V h1 h2 => impl_areMoved_any n m A B ca cb a b V hn hm h1 h2)
  cases hv : movedB n m a b
  · rw [hv] at HS
    have HV := Lib.hid (show mdV n m a b = -1 by unfold mdV; rw [hv]; rfl)
    clear hv
    go_enter Try.func7, Try.ntmps7
    go_wp2_with fail
    refine (HS.out _ HIA.out HIB.out).mono ?_
    rintro e w1 ⟨rfl, hb⟩
    have HB1 := Lib.hid (HB0.out.trans (hb.mono HB0.out.size))
    have HIA1 := Lib.hid (HIA.out.lift hb)
    have HIB1 := Lib.hid (HIB.out.lift hb)
    have HC1 := Lib.hid (HC0.out.below hb HC0.out.2.2.2.2)
    have HD1 := Lib.hid (HD0.out.below hb HD0.out.2.2.2.2)
    clear hb c0 c1 d0 d1
    obtain ⟨c0, c1, _, _, _⟩ := HC1.out
    obtain ⟨d0, d1, _, _, _⟩ := HD1.out
    go_wp2_with fail
    go_ret
    exact ⟨ret_int HV.out.symm, HB1.out⟩
  · rw [hv] at HS
    have HV := Lib.hid (show mdV n m a b = farV n a b by unfold mdV; rw [hv, if_pos rfl])
    obtain ⟨ha, hb1, hnm, hl⟩ := movedB_yes hv
    subst hnm
    obtain ⟨N, rfl⟩ := Int.eq_ofNat_of_zero_le (show 0 ≤ n by have := ha.1; omega)
    have HF := Lib.hid (fun V h1 h2 => impl_distance_any N A B ca cb a b V h1 h2 ha hb1 hl)
    rw [HV.out]
    generalize farV N a b = F at HF ⊢
    clear hv HV ha hb1 hl
    go_enter Try.func7, Try.ntmps7
    go_wp2_with fail
    refine (HS.out _ HIA.out HIB.out).mono ?_
    rintro e w1 ⟨rfl, hb⟩
    have HB1 := Lib.hid (HB0.out.trans (hb.mono HB0.out.size))
    have HIA1 := Lib.hid (HIA.out.lift hb)
    have HIB1 := Lib.hid (HIB.out.lift hb)
    have HC1 := Lib.hid (HC0.out.below hb HC0.out.2.2.2.2)
    have HD1 := Lib.hid (HD0.out.below hb HD0.out.2.2.2.2)
    clear hb c0 c1 d0 d1
    obtain ⟨c0, c1, _, _, _⟩ := HC1.out
    obtain ⟨d0, d1, _, _, _⟩ := HD1.out
    go_wp2_with fail
    refine (HF.out _ HIA1.out HIB1.out).mono ?_
    rintro e w2 ⟨rfl, hb⟩
    have HB2 := Lib.hid (HB1.out.trans (hb.mono HB1.out.size))
    clear hb
    go_wp2_with fail
    go_ret
    exact ⟨rfl, HB2.out⟩

set_option maxRecDepth 100000 in
set_option maxHeartbeats 1000000 in
theorem impl_CommonBeats_ok (n : Nat) (A B : Option Addr) (ca cb : Nat) (a b : List Int) (w : World) (hA : Ints w w.heap.size A a) (hB : Ints w w.heap.size B b) (ha : RhOk n a) (hbo : RhOk n b) :
    Calls Try.prog 10 #[.agg #[.int .i64 n, .slice A a.length ca], .agg #[.int .i64 n, .slice B b.length cb]] w fun e w' => e = .returned (.int .i64 (comN a b a.length : Nat)) ∧ Below w.heap.size w w' := by
  have hn : Fits (n : Int) := by have := ha.1; have := ha.2.1; unfold Fits; omega
  obtain ⟨m, hmn⟩ : ∃ m : Int, (n : Int) = m := ⟨_, rfl⟩
  have HS := Lib.hid (fun V h1 h2 => impl_sameSize_any n n A B ca cb a b V hn hn h1 h2)
  rw [show (rhB n a && rhB n b && decide ((n : Int) = n)) = true by rw [rhB_iff.2 ha, rhB_iff.2 hbo]; simp] at HS
  have HF := Lib.hid (fun V h1 h2 => impl_common_any n A B ca cb a b V h1 h2 ha hbo)
  generalize comN a b a.length = F at HF ⊢
  clear ha hbo hn
  rw [hmn] at HS HF ⊢
  clear hmn
  have hm : m = m := rfl
  clear hm
  have hal0 := (Below.refl w.heap.size w).alloc (Nat.le_refl _) (.cells #[.int .i64 m, .slice A a.length ca] 26)
  have hal1 := hal0.alloc hal0.size (.cells #[.int .i64 m, .slice B b.length cb] 26)
  have HC0 := Lib.hid ((Cells2.new w (.int .i64 m) (.slice A a.length ca) 26).alloc (.cells #[.int .i64 m, .slice B b.length cb] 26))
  have HD0 := Lib.hid (Cells2.new_at (w.alloc (.cells #[.int .i64 m, .slice A a.length ca] 26)) (.int .i64 m) (.slice B b.length cb) 26 (w.heap.size + 1) (by simp))
  have HB0 := Lib.hid hal1
  have HIA := Lib.hid (hA.lift hal1)
  have HIB := Lib.hid (hB.lift hal1)
  clear hA hB hal0 hal1
  obtain ⟨c0, c1, _, _, _⟩ := HC0.out
  obtain ⟨d0, d1, _, _, _⟩ := HD0.out
  go_enter Try.func10, Try.ntmps10
  go_wp2_with fail
  refine (HS.out _ HIA.out HIB.out).mono ?_
  rintro e w1 ⟨rfl, hb⟩
  have HB1 := Lib.hid (HB0.out.trans (hb.mono HB0.out.size))
  have HIA1 := Lib.hid (HIA.out.lift hb)
  have HIB1 := Lib.hid (HIB.out.lift hb)
  have HC1 := Lib.hid (HC0.out.below hb HC0.out.2.2.2.2)
  have HD1 := Lib.hid (HD0.out.below hb HD0.out.2.2.2.2)
  clear hb c0 c1 d0 d1
  obtain ⟨c0, c1, _, _, _⟩ := HC1.out
  obtain ⟨d0, d1, _, _, _⟩ := HD1.out
  go_wp2_with fail
  refine (HF.out _ HIA1.out HIB1.out).mono ?_
  rintro e w2 ⟨rfl, hb⟩
  have HB2 := Lib.hid (HB1.out.trans (hb.mono HB1.out.size))
  clear hb
  go_wp2_with fail
  go_ret
  exact ⟨rfl, HB2.out⟩

set_option maxRecDepth 100000 in
set_option maxHeartbeats 1000000 in
theorem spec_RotateRhythm_ok (N : Nat) (A : Option Addr) (cap : Nat) (bs : List Int) (k : Int) (w : World) (hA : Ints w w.heap.size A bs) (hok : RhOk N bs) (hk0 : 0 ≤ k) (hk1 : k ≤ 1000) :
    Calls Try.prog 11 #[.agg #[.int .i64 N, .slice A bs.length cap], .int .i64 k] w fun e w' => ∃ A' c, e = .returned (.tuple #[.agg #[.int .i64 N, .slice A' (rotL N bs k).length c], .bool true]) ∧ RW w' w.heap.size A' (rotL N bs k) ∧ Below w.heap.size w w' := by
  have hRO := fun V h => spec_RhythmOk_any N A cap bs V h
  rw [rhB_iff.2 hok] at hRO
  have HRO := Lib.hid hRO
  have hin : inB k (-1000) 1000 = true := by unfold inB; simp; omega
  have HM := Lib.hid (fun V h => spec_l02Map_any N A cap bs 1 k V h hok (fun x h1 h2 => by omega) (by omega))
  rw [rotL_of hok k] at HM
  generalize rotL N bs k = R at HM ⊢
  have hal0 := (Below.refl w.heap.size w).alloc (Nat.le_refl _) (.cells #[.int .i64 N, .slice A bs.length cap] 26)
  have hal2 := hal0.alloc hal0.size (.cells #[.int .i64 0, .slice none 0 0] 26)
  have HC0 := Lib.hid ((Cells2.new w (.int .i64 N) (.slice A bs.length cap) 26).alloc (.cells #[.int .i64 0, .slice none 0 0] 26))
  have HZ0 := Lib.hid (Cells2.new_at (w.alloc (.cells #[.int .i64 N, .slice A bs.length cap] 26)) (.int .i64 0) (.slice none 0 0) 26 (w.heap.size + 1) (by simp))
  have HB0 := Lib.hid hal2
  have HI0 := Lib.hid (hA.lift hal2)
  clear hA hal0 hal2 hRO hok
  obtain ⟨c0, c1, _, _, _⟩ := HC0.out
  obtain ⟨z0, z1, _, _, _⟩ := HZ0.out
  go_enter Try.func11, Try.ntmps11
  go_wp2_with fail
  refine (HRO.out _ HI0.out).mono ?_
  rintro e w1 ⟨rfl, hb⟩
  have HB1 := Lib.hid (HB0.out.trans (hb.mono HB0.out.size))
  have HC1 := Lib.hid (HC0.out.below hb HC0.out.2.2.2.2)
  have HZ1 := Lib.hid (HZ0.out.below hb HZ0.out.2.2.2.2)
  have HI1 := Lib.hid (HI0.out.lift hb)
  clear hb c0 c1 z0 z1
  obtain ⟨c0, c1, _, _, _⟩ := HC1.out
  obtain ⟨z0, z1, _, _, _⟩ := HZ1.out
  go_wp2_with (go_at_call 32; refine (l01In_any _ _ _ _).mono ?_; rintro e w' ⟨rfl, rfl⟩)
  refine (HM.out _ HI1.out).mono ?_
  rintro e w2 ⟨A2, c2, rfl, hr, hb⟩
  have HB2 := Lib.hid (HB1.out.trans (hb.mono HB1.out.size))
  have HZ2 := Lib.hid (HZ1.out.below hb HZ1.out.2.2.2.2)
  have HR2 := Lib.hid hr
  have hlt : w.heap.size + 1 < w1.heap.size := HZ1.out.2.2.2.2
  clear hb hr c0 c1 z0 z1
  obtain ⟨z0, z1, y0, y1, _⟩ := HZ2.out
  have HZ3 := Lib.hid ((HZ2.out.set0 (.int .i64 N)).set1 (.slice A2 R.length c2))
  obtain ⟨x0, x1, _, _, _⟩ := HZ3.out
  have HF2 := Lib.hid ((HB2.out.setCell (p := ⟨w.heap.size + 1, 0, none⟩) (by show w.heap.size ≤ w.heap.size + 1; omega) (.int .i64 N)).setCell (p := ⟨w.heap.size + 1, 1, none⟩) (by show w.heap.size ≤ w.heap.size + 1; omega) (.slice A2 R.length c2))
  go_wp2_with fail
  refine bodyPost_ret (v := .tuple #[.agg #[.int .i64 N, .slice A2 R.length c2], .bool true]) (by simp [results, Try.results11, go_sem, x0, x1]) rfl ?_
  exact ⟨_, _, rfl, ((HR2.out.far (p := ⟨w.heap.size + 1, 0, none⟩) hlt _).far (p := ⟨w.heap.size + 1, 1, none⟩) hlt _).mono (by omega), HF2.out⟩

end Go.Proofs.Ytlejlcnemibgiaa

namespace Go.Proofs.Ytlejlcnemibgiaa
open Go.RowKit
set_option linter.unusedVariables false
set_option linter.unusedSimpArgs false

set_option maxRecDepth 100000 in
set_option maxHeartbeats 1000000 in
theorem slices_IndexFuncE_any (N : Int) (A B : Option Addr) (ca cb : Nat) (rs : List RV) (b : List Int) (w : World) (hA : RdR w w.heap.size A rs) (hB : Ints w w.heap.size B b)
    (hx : ∀ r ∈ rs, r.n = N) (hex : ∃ r ∈ rs, r.xs = b) :
    Calls Try.prog 35 #[.slice A rs.length ca, .func (.func 28) #[.agg #[.int .i64 N, .slice B b.length cb]] #[]] w fun e w' => (∃ P : Nat, P < rs.length ∧ e = .returned (.int .i64 P)) ∧ Below w.heap.size w w' := by
  obtain ⟨P, hP⟩ : ∃ P, rs.findIdx (fun r => eqB b r.xs) = P := ⟨_, rfl⟩
  have hPl : P < rs.length := by
    rw [← hP, List.findIdx_lt_length]
    obtain ⟨r, hr, e⟩ := hex
    exact ⟨r, hr, by rw [e]; exact eqB_self b⟩
  have hp2 : eqB b rs[P].xs = true := by
    have := List.findIdx_getElem (xs := rs) (p := fun r => eqB b r.xs) (w := by rw [hP]; exact hPl)
    simp only [hP] at this
    exact this
  have hp3 : ∀ k (hk : k < rs.length), k < P → eqB b rs[k].xs = false := fun k hk h => by
    have := List.not_of_lt_findIdx (xs := rs) (p := fun r => eqB b r.xs) (i := k) (by rw [hP]; exact h)
    simpa using this
  have hl := hA.1
  have HA := Lib.hid hA
  have HIB := Lib.hid hB
  have HX := Lib.hid hx
  have HP2 := Lib.hid hp2
  have HP3 := Lib.hid hp3
  clear hA hB hx hex hP hp2 hp3
  go_enter Try.func35, Try.ntmps35
  go_wp2
  go_loopw [5, 8] (fun _ i wr => ∃ k : Nat, k ≤ P ∧ i = .int .i64 k ∧ Below w.heap.size w wr) (fun _ i _ => rs.length - (intOf i).toNat)
  case atStart => exact ⟨0, Nat.zero_le _, rfl, Below.refl _ _⟩
  case round =>
    obtain ⟨k, hk, rfl, hbel⟩ := hrel
    obtain ⟨wo, rfl⟩ : ∃ wo : World, wo = wr := ⟨_, rfl⟩
    have HB := Lib.hid hbel
    clear hbel
    have hlt : k < rs.length := by omega
    have hA1 := HA.out.lift HB.out
    obtain ⟨g, rfl, hg, hc⟩ := hA1.2.2 (by omega)
    obtain ⟨r0, r1⟩ := hc k hlt
    have hI := hA1.2.1 _ (List.getElem_mem hlt)
    have e1 := HX.out _ (List.getElem_mem hlt)
    have hst : k < P → eqB b rs[k].xs = false := HP3.out k hlt
    have hen : k = P → eqB b rs[k].xs = true := fun h => by subst h; exact HP2.out
    obtain ⟨r, hr⟩ : ∃ r, rs[k] = r := ⟨_, rfl⟩
    rw [hr] at r0 r1 hI e1 hst hen
    unfold RV.slc at r1
    rw [e1] at r0
    have HCL := Lib.hid (fun V h1 h2 => impl_equals_any N B r.A cb r.c b r.xs V h1 h2)
    have HI := Lib.hid hI
    have HI2 := Lib.hid (HIB.out.lift HB.out)
    generalize r.xs = X at *
    generalize r.A = AX at *
    generalize r.c = cX at *
    clear hr
    have hki : (k : Int) < (rs.length : Int) := by omega
    have hk0 : (0 : Int) ≤ (k : Int) := Int.natCast_nonneg _
    clear hc hA1 hI e1
    by_cases hkP : k = P
    · have hd := hen hkP
      rw [hd] at HCL
      have HKP := Lib.hid hkP
      clear hkP hst hen hd
      go_wp2_with (go_at_call 28; refine (HCL.out _ HI2.out HI.out).mono ?_; rintro e w1 ⟨rfl, hb1⟩)
      go_ret
      exact ⟨⟨k, hlt, rfl⟩, HB.out.trans (hb1.mono HB.out.size)⟩
    · have hd := hst (by omega)
      rw [hd] at HCL
      clear hst hen hd
      go_wp2_with (go_at_call 28; refine (HCL.out _ HI2.out HI.out).mono ?_; rintro e w1 ⟨rfl, hb1⟩)
      go_roundw
      case rel => exact ⟨k + 1, by omega, by go_num, HB.out.trans (hb1.mono HB.out.size)⟩
      case measure => simp [intOf]; omega

set_option maxRecDepth 100000 in
set_option maxHeartbeats 1000000 in
theorem slices_ContainsFuncE_any (N : Int) (A B : Option Addr) (ca cb : Nat) (rs : List RV) (b : List Int) (w : World) (hA : RdR w w.heap.size A rs) (hB : Ints w w.heap.size B b)
    (hx : ∀ r ∈ rs, r.n = N) (hex : ∃ r ∈ rs, r.xs = b) :
    Calls Try.prog 27 #[.slice A rs.length ca, .func (.func 28) #[.agg #[.int .i64 N, .slice B b.length cb]] #[]] w fun e w' => e = .returned (.bool true) ∧ Below w.heap.size w w' := by
  have HI := Lib.hid (slices_IndexFuncE_any N A B ca cb rs b w hA hB hx hex)
  clear hA hB hx hex
  go_enter Try.func27, Try.ntmps27
  go_wp2_with fail
  refine HI.out.mono ?_
  rintro e w1 ⟨⟨P, _, rfl⟩, hb⟩
  have hP : (0 : Int) ≤ (P : Int) := Int.natCast_nonneg _
  have HB := Lib.hid hb
  clear hb
  go_wp2_with fail
  go_ret
  exact ⟨rfl, HB.out⟩

set_option maxRecDepth 100000 in
set_option maxHeartbeats 2000000 in
theorem impl_IsMove_yes (N : Nat) (A B : Option Addr) (ca cb : Nat) (a b : List Int) (w : World) (hA : Ints w w.heap.size A a) (hB : Ints w w.heap.size B b) (ha : RhOk N a) (hbo : RhOk N b) (hm : b ∈ insL N a (2 * a.length)) :
    Calls Try.prog 9 #[.agg #[.int .i64 N, .slice A a.length ca], .agg #[.int .i64 N, .slice B b.length cb]] w fun e w' => e = .returned (.bool true) ∧ Below w.heap.size w w' := by
  have hn1 : 1 ≤ N := by have := ha.1; omega
  have hn2 : N ≤ 24 := by have := ha.2.1; omega
  have hn : Fits (N : Int) := by unfold Fits; omega
  have HRA := Lib.hid (fun V h => impl_RhythmOk_any N A ca a V hn h)
  have HRB := Lib.hid (fun V h => impl_RhythmOk_any N B cb b V hn h)
  rw [rhB_iff.2 ha] at HRA
  rw [rhB_iff.2 hbo] at HRB
  have HMV := Lib.hid (fun V h => impl_moves_any N A ca a V h ha)
  rw [movP_ins N a hn1 hn2] at HMV
  have hLL := insN_len N a (2 * a.length)
  have hal := rhok_len ha
  have HD := Lib.hid ((insL_desc a hn1 hn2 (2 * a.length)).1.2)
  have HM := Lib.hid hm
  obtain ⟨L, hL⟩ : ∃ L, insL N a (2 * a.length) = L := ⟨_, rfl⟩
  rw [hL] at HMV HD HM hLL
  have HCF := Lib.hid (fun A' c rs V h1 h2 (hk : keyR rs = L.map fun x => ((N : Int), x)) => slices_ContainsFuncE_any N A' B c cb rs b V h1 h2 (key_split hk).2 (by
    have := HM.out
    rw [← (key_split hk).1, List.mem_map] at this
    obtain ⟨r, hr, e⟩ := this
    exact ⟨r, hr, e⟩))
  have HFI := Lib.hid (fun (rs : List RV) (hk : keyR rs = L.map fun x => ((N : Int), x)) => show rs.length ≤ 1048576 ∧ ∀ r ∈ rs, ∀ x ∈ r.xs, Fits x from ⟨by
    have := congrArg List.length hk
    rw [keyR_len, List.length_map] at this
    omega, fun r hr => by
    have : r.xs ∈ L := by rw [← (key_split hk).1]; exact List.mem_map.2 ⟨r, hr, rfl⟩
    exact rh_fits' (HD.out _ this)⟩)
  obtain ⟨m, hmn⟩ : ∃ m : Int, (N : Int) = m := ⟨_, rfl⟩
  have hal0 := (Below.refl w.heap.size w).alloc (Nat.le_refl _) (.cells #[.int .i64 N, .slice A a.length ca] 26)
  have hal1 := hal0.alloc hal0.size (.cells #[.int .i64 N, .slice B b.length cb] 26)
  have HC0 := Lib.hid ((Cells2.new w (.int .i64 N) (.slice A a.length ca) 26).alloc (.cells #[.int .i64 N, .slice B b.length cb] 26))
  have HD0 := Lib.hid (Cells2.new_at (w.alloc (.cells #[.int .i64 N, .slice A a.length ca] 26)) (.int .i64 N) (.slice B b.length cb) 26 (w.heap.size + 1) (by simp))
  have HB0 := Lib.hid hal1
  have HIA := Lib.hid (hA.lift hal1)
  have HIB := Lib.hid (hB.lift hal1)
  clear hA hB hal0 hal1 ha hbo hm hL hmn
  obtain ⟨c0, c1, _, _, _⟩ := HC0.out
  obtain ⟨d0, d1, _, _, _⟩ := HD0.out
  go_enter Try.func9, Try.ntmps9
  go_wp2_with fail
  generalize (w.alloc (.cells #[.int .i64 N, .slice A a.length ca] 26)).alloc (.cells #[.int .i64 N, .slice B b.length cb] 26) = w0 at *
  have HBd := Lib.hid (show Below w.heap.size w w0.drew from Below.drew5_ HB0.out)
  have HCd := Lib.hid (show Cells2 w0.drew w.heap.size (.int .i64 N) (.slice A a.length ca) from HC0.out)
  have HDd := Lib.hid (show Cells2 w0.drew (w.heap.size + 1) (.int .i64 N) (.slice B b.length cb) from HD0.out)
  have HId := Lib.hid (show Ints w0.drew w0.drew.heap.size A a from HIA.out)
  have HJd := Lib.hid (show Ints w0.drew w0.drew.heap.size B b from HIB.out)
  (refine wp_region_held_drew (S := (fun w' => w'.cell? ⟨w.heap.size, 0, none⟩ = some (.int .i64 N) ∧ w'.cell? ⟨w.heap.size, 1, none⟩ = some (.slice A a.length ca) ∧ w'.cell? ⟨w.heap.size + 1, 0, none⟩ = some (.int .i64 N) ∧ w'.cell? ⟨w.heap.size + 1, 1, none⟩ = some (.slice B b.length cb))) (by kernel_rfl) ?_ (fun hHeld => ?_); (focus ((try dsimp only); exact ⟨c0, c1, d0, d1⟩)))
  (refine wpAnyH_take (i := 0) (v := ?_) rfl (by kernel_rfl) (by kernel_rfl) (by kernel_rfl) (fun _ _ _ h => h) (Or.inl ⟨by rfl, ?_⟩) (by assumption) ?_; rotate_left; (focus (intro wS hSw; (try dsimp only at hSw); go_simp; (try with_reducible rfl))); (try simp only [Act.put, List.getElem_toArray, List.getElem_cons_zero, List.getElem_cons_succ, List.setIfInBounds_toArray, List.set_cons_zero, List.set_cons_succ]))
  (refine wpAnyH_ready (rs := [1]) (by kernel_rfl) (by simp) ?_; refine AllReadyH.cons rfl (fun K hK => ?_) AllReadyH.nil; go_simp)
  go_at_call 25
  refine (HRA.out _ HId.out).mono ?_
  rintro e w1 ⟨rfl, hb⟩
  have HB1 := Lib.hid (HBd.out.trans (hb.mono HBd.out.size))
  have HI1 := Lib.hid (HId.out.lift hb)
  have HJ1 := Lib.hid (HJd.out.lift hb)
  have HC1 := Lib.hid (HCd.out.below hb HCd.out.2.2.2.2)
  have HD1 := Lib.hid (HDd.out.below hb HDd.out.2.2.2.2)
  clear hb c0 c1 d0 d1
  obtain ⟨c0, c1, _, _, _⟩ := HC1.out
  obtain ⟨d0, d1, _, _, _⟩ := HD1.out
  go_wp2_with fail
  (refine hK.out _ _ ?_ (fun hHeld2 => ?_); (focus ((try dsimp only); exact ⟨c0, c1, d0, d1⟩)); (clear hK K); (try simp only [Act.put, List.getElem_toArray, List.getElem_cons_zero, List.getElem_cons_succ, List.setIfInBounds_toArray, List.set_cons_zero, List.set_cons_succ]))
  ((refine wpAnyH_take (i := 2) (v := ?_) rfl (by kernel_rfl) (by kernel_rfl) (by kernel_rfl) (fun _ _ _ h => h) (Or.inl ⟨by rfl, ?_⟩) (by assumption) ?_; rotate_left; (focus (intro wS hSw; (try dsimp only at hSw); go_simp; (try with_reducible rfl))); (try simp only [Act.put, List.getElem_toArray, List.getElem_cons_zero, List.getElem_cons_succ, List.setIfInBounds_toArray, List.set_cons_zero, List.set_cons_succ])); (refine wpAnyH_take (i := 3) (v := ?_) rfl (by kernel_rfl) (by kernel_rfl) (by kernel_rfl) (fun _ _ _ h => h) (Or.inl ⟨by rfl, ?_⟩) (by assumption) ?_; rotate_left; (focus (intro wS hSw; (try dsimp only at hSw); go_simp; (try with_reducible rfl))); (try simp only [Act.put, List.getElem_toArray, List.getElem_cons_zero, List.getElem_cons_succ, List.setIfInBounds_toArray, List.set_cons_zero, List.set_cons_succ])))
  (refine wpAnyH_ready (rs := [4]) (by kernel_rfl) (by simp) ?_; refine AllReadyH.cons rfl (fun K hK => ?_) AllReadyH.nil; go_simp)
  go_at_call 25
  refine (HRB.out _ HJ1.out).mono ?_
  rintro e w2 ⟨rfl, hb⟩
  have HB2 := Lib.hid (HB1.out.trans (hb.mono HB1.out.size))
  have HI2 := Lib.hid (HI1.out.lift hb)
  have HJ2 := Lib.hid (HJ1.out.lift hb)
  have HC2 := Lib.hid (HC1.out.below hb HC1.out.2.2.2.2)
  have HD2 := Lib.hid (HD1.out.below hb HD1.out.2.2.2.2)
  clear hb c0 c1 d0 d1
  obtain ⟨c0, c1, _, _, _⟩ := HC2.out
  obtain ⟨d0, d1, _, _, _⟩ := HD2.out
  go_wp2_with fail
  (refine hK.out _ _ ?_ (fun hHeld2 => ?_); (focus ((try dsimp only); exact ⟨c0, c1, d0, d1⟩)); (clear hK K); (try simp only [Act.put, List.getElem_toArray, List.getElem_cons_zero, List.getElem_cons_succ, List.setIfInBounds_toArray, List.set_cons_zero, List.set_cons_succ]))
  ((refine wpAnyH_take (i := 5) (v := ?_) rfl (by kernel_rfl) (by kernel_rfl) (by kernel_rfl) (fun _ _ _ h => h) (Or.inl ⟨by rfl, ?_⟩) (by assumption) ?_; rotate_left; (focus (intro wS hSw; (try dsimp only at hSw); go_simp; (try with_reducible rfl))); (try simp only [Act.put, List.getElem_toArray, List.getElem_cons_zero, List.getElem_cons_succ, List.setIfInBounds_toArray, List.set_cons_zero, List.set_cons_succ])); (refine wpAnyH_take (i := 6) (v := ?_) rfl (by kernel_rfl) (by kernel_rfl) (by kernel_rfl) (fun _ _ _ h => h) (Or.inl ⟨by rfl, ?_⟩) (by assumption) ?_; rotate_left; (focus (intro wS hSw; (try dsimp only at hSw); go_simp; (try with_reducible rfl))); (try simp only [Act.put, List.getElem_toArray, List.getElem_cons_zero, List.getElem_cons_succ, List.setIfInBounds_toArray, List.set_cons_zero, List.set_cons_succ])); (refine wpAnyH_take (i := 7) (v := ?_) rfl (by kernel_rfl) (by kernel_rfl) (by kernel_rfl) (fun _ _ _ h => h) (Or.inl ⟨by rfl, ?_⟩) (by assumption) ?_; rotate_left; (focus (intro wS hSw; (try dsimp only at hSw); go_simp; (try with_reducible rfl))); (try simp only [Act.put, List.getElem_toArray, List.getElem_cons_zero, List.getElem_cons_succ, List.setIfInBounds_toArray, List.set_cons_zero, List.set_cons_succ])); (refine wpAnyH_take (i := 9) (v := ?_) rfl (by kernel_rfl) (by kernel_rfl) (by kernel_rfl) (fun _ _ _ h => h) (Or.inl ⟨by rfl, ?_⟩) (by assumption) ?_; rotate_left; (focus (intro wS hSw; (try dsimp only at hSw); go_simp; (try with_reducible rfl))); (try simp only [Act.put, List.getElem_toArray, List.getElem_cons_zero, List.getElem_cons_succ, List.setIfInBounds_toArray, List.set_cons_zero, List.set_cons_succ])))
  (refine wpAnyH_take (i := 10) (v := ?_) rfl (by kernel_rfl) (by kernel_rfl) (by kernel_rfl) (fun _ _ _ h => h) (Or.inl ⟨by rfl, ?_⟩) (by assumption) ?_; rotate_left; (focus (intro wS hSw; (try dsimp only at hSw); go_simp; (try with_reducible rfl))); (try simp only [Act.put, List.getElem_toArray, List.getElem_cons_zero, List.getElem_cons_succ, List.setIfInBounds_toArray, List.set_cons_zero, List.set_cons_succ]))
  (refine wpAnyH_ready (rs := [8]) (by kernel_rfl) (by simp) ?_; refine AllReadyH.cons rfl (fun K hK => ?_) AllReadyH.nil; go_simp)
  go_at_call 26
  refine (HMV.out _ HI2.out).mono ?_
  rintro e w3 ⟨v3, rs, rfl, hk, ho, hb⟩
  obtain ⟨A3, c3, rfl⟩ := ho.form
  have HRS := Lib.hid (ho.rd (HFI.out rs hk).1 (HFI.out rs hk).2)
  have HK := Lib.hid hk
  clear ho hk
  have HB3 := Lib.hid (HB2.out.trans (hb.mono HB2.out.size))
  have HI3 := Lib.hid (HI2.out.lift hb)
  have HJ3 := Lib.hid (HJ2.out.lift hb)
  have HC3 := Lib.hid (HC2.out.below hb HC2.out.2.2.2.2)
  have HD3 := Lib.hid (HD2.out.below hb HD2.out.2.2.2.2)
  clear hb c0 c1 d0 d1
  obtain ⟨c0, c1, _, _, _⟩ := HC3.out
  obtain ⟨d0, d1, _, _, _⟩ := HD3.out
  go_wp2_with fail
  (refine hK.out _ _ ?_ (fun hHeld2 => ?_); (focus ((try dsimp only); exact ⟨c0, c1, d0, d1⟩)); (clear hK K); (try simp only [Act.put, List.getElem_toArray, List.getElem_cons_zero, List.getElem_cons_succ, List.setIfInBounds_toArray, List.set_cons_zero, List.set_cons_succ]))
  (refine wpAnyH_ready (rs := [11]) (by kernel_rfl) (by simp) ?_; refine AllReadyH.cons rfl (fun K hK => ?_) AllReadyH.nil; go_simp)
  go_at_call 27
  refine (HCF.out _ _ _ _ HRS.out HJ3.out HK.out).mono ?_
  rintro e w4 ⟨rfl, hb⟩
  have HB4 := Lib.hid (HB3.out.trans (hb.mono HB3.out.size))
  have HI4 := Lib.hid (HI3.out.lift hb)
  have HJ4 := Lib.hid (HJ3.out.lift hb)
  have HC4 := Lib.hid (HC3.out.below hb HC3.out.2.2.2.2)
  have HD4 := Lib.hid (HD3.out.below hb HD3.out.2.2.2.2)
  clear hb c0 c1 d0 d1
  obtain ⟨c0, c1, _, _, _⟩ := HC4.out
  obtain ⟨d0, d1, _, _, _⟩ := HD4.out
  go_wp2_with fail
  (refine hK.out _ _ ?_ (fun hHeld2 => ?_); (focus ((try dsimp only); exact ⟨c0, c1, d0, d1⟩)); (clear hK K); (try simp only [Act.put, List.getElem_toArray, List.getElem_cons_zero, List.getElem_cons_succ, List.setIfInBounds_toArray, List.set_cons_zero, List.set_cons_succ]))
  ((refine wpAnyH_take (i := 12) (v := ?_) rfl (by kernel_rfl) (by kernel_rfl) (by kernel_rfl) (fun _ _ _ h => h) (Or.inl ⟨by rfl, ?_⟩) (by assumption) ?_; rotate_left; (focus (intro wS hSw; (try dsimp only at hSw); go_simp; (try with_reducible rfl))); (try simp only [Act.put, List.getElem_toArray, List.getElem_cons_zero, List.getElem_cons_succ, List.setIfInBounds_toArray, List.set_cons_zero, List.set_cons_succ])); (refine wpAnyH_take (i := 13) (v := ?_) rfl (by kernel_rfl) (by kernel_rfl) (by kernel_rfl) (fun _ _ _ h => h) (Or.inl ⟨by rfl, ?_⟩) (by assumption) ?_; rotate_left; (focus (intro wS hSw; (try dsimp only at hSw); go_simp; (try with_reducible rfl))); (try simp only [Act.put, List.getElem_toArray, List.getElem_cons_zero, List.getElem_cons_succ, List.setIfInBounds_toArray, List.set_cons_zero, List.set_cons_succ])))
  refine wpAnyH_done (by kernel_rfl) ?_ _
  clear c0 c1 d0 d1
  go_wp2_with fail
  go_ret
  exact ⟨rfl, HB4.out⟩

end Go.Proofs.Ytlejlcnemibgiaa

namespace Go.Proofs.Ytlejlcnemibgiaa
open Go.RowKit
set_option linter.unusedVariables false
set_option linter.unusedSimpArgs false

def rfC (k m : Nat) : List Nat := ((List.range m).map fun i => 15 - i).filter fun c => decide (popX c = k)
theorem rfC_yes {k m : Nat} (h : popX (15 - m) = k) : rfC k (m + 1) = rfC k m ++ [15 - m] := by
  unfold rfC
  rw [List.range_succ, List.map_append, List.filter_append]
  simp [h]
theorem rfC_no {k m : Nat} (h : popX (15 - m) ≠ k) : rfC k (m + 1) = rfC k m := by
  unfold rfC
  rw [List.range_succ, List.map_append, List.filter_append]
  simp [h]
theorem rfC_len (k m : Nat) : (rfC k m).length ≤ m := by
  unfold rfC
  refine Nat.le_trans (List.length_filter_le _ _) ?_
  simp
def rfP (k m : Nat) : List (Int × List Int) := (rfC k m).map fun c => (((4 : Nat) : Int), bitsB 4 c 4)
theorem bits4_ok (c : Nat) : rhB ((4 : Nat) : Int) (bitsB 4 c 4) = true := rhB_iff.2 (bitsB_ok 4 c (by omega) (by omega))

set_option maxRecDepth 100000 in
set_option maxHeartbeats 2000000 in
theorem impl_rhythmsFrom_four (k : Nat) (hk : k ≤ 4) (w : World) :
    Calls Try.prog 41 #[.int .i64 4, .int .i64 k, .func (.func 25) #[] #[]] w (RetRs w (rfP k 16)) := by
  have HO0 := Lib.hid (OwnR.nil w w.heap.size)
  go_enter Try.func41, Try.ntmps41
  go_wp2_with fail
  go_loopw [7, 8] (fun v i wr => ∃ (m : Nat) (rs : List RV), m ≤ 16 ∧ i = .int .i64 (15 - (m : Int)) ∧ keyR rs = rfP k m ∧ OwnR wr w.heap.size v rs ∧ Below w.heap.size w wr) (fun _ i _ => (intOf i + 1).toNat)
  case atStart => exact ⟨0, [], Nat.zero_le _, rfl, rfl, HO0.out, Below.refl _ _⟩
  case round =>
    obtain ⟨m, rs, hm, rfl, hkey, hown, hbel⟩ := hrel
    obtain ⟨wo, rfl⟩ : ∃ wo : World, wo = wr := ⟨_, rfl⟩
    obtain ⟨A1, c1, rfl⟩ := hown.form
    have HK := Lib.hid hkey
    have HO := Lib.hid hown
    have HB := Lib.hid hbel
    have hwz := hbel.size
    have hrl : rs.length ≤ 16 := by
      have := congrArg List.length hkey
      rw [keyR_len] at this
      unfold rfP at this
      rw [List.length_map] at this
      have := rfC_len k m
      omega
    have HRL := Lib.hid hrl
    clear hkey hown hbel hrl
    by_cases hlt : m < 16
    · obtain ⟨c, hc⟩ : ∃ c : Nat, 15 - m = c := ⟨_, rfl⟩
      have hci : (15 : Int) - (m : Int) = (c : Int) := by omega
      have hc16 : c < 16 := by omega
      have hwu : IntKind.u64.wrap (c : Int) = (c : Int) := u64w (by omega)
      have hwd : IntKind.i64.wrap ((c : Int) - 1) = (c : Int) - 1 := i64w (by omega)
      have hge : (0 : Int) ≤ (c : Int) := Int.natCast_nonneg _
      have hnx : (c : Int) - 1 = 15 - ((m + 1 : Nat) : Int) := by omega
      have HNX := Lib.hid hnx
      have hne : ¬ (c : Int) = -1 := by omega
      rw [hci]
      have HPC := Lib.hid (fun V => bits_OnesCount_any c V (by omega))
      have HCI := Lib.hid hci
      clear hci hnx
      by_cases hpk : popX c = k
      · have HSU := Lib.hid (show rfP k (m + 1) = rfP k m ++ [(((4 : Nat) : Int), bitsB 4 c 4)] by
          unfold rfP
          rw [rfC_yes (by rw [hc]; exact hpk), hc]; simp)
        rw [hpk] at HPC
        have HRH := Lib.hid (fun V => impl_rhythmAtM_any 4 c V (by omega) (by omega) (by omega))
        have HRO := Lib.hid (fun A c' V h => impl_RhythmOk_any ((4 : Nat) : Int) A c' (bitsB 4 c 4) V (by unfold Fits; omega) h)
        rw [bits4_ok] at HRO
        have HFT := Lib.hid (fun x (hx : x ∈ bitsB 4 c 4) => show Fits x by
          have := rhok_range (rhB_iff.1 (bits4_ok c)) x hx
          unfold Fits; omega)
        clear hpk hc
        generalize bitsB 4 c 4 = X at HSU HRH HRO HFT
        have hcc : (k : Int) = (k : Int) := rfl
        clear hcc
        go_wp2_with (go_at_call 58; refine (HPC.out _).mono ?_; rintro e w' ⟨rfl, rfl⟩)
        refine (HRH.out _).mono ?_
        rintro e w4 ⟨A2, c2, rfl, hrw, hb1⟩
        have hz1 := hb1.size
        have hal := (Below.refl w4.heap.size w4).alloc (Nat.le_refl _) (.cells #[.int .i64 ((4 : Nat) : Int), .slice A2 X.length c2] 26)
        have HCC := Lib.hid (Cells2.new w4 (.int .i64 ((4 : Nat) : Int)) (.slice A2 X.length c2) 26)
        have HI4 := Lib.hid ((hrw.ints HFT.out).lift hal)
        have HB4 := Lib.hid (hb1.trans (hal.mono hb1.size))
        have HRW := Lib.hid (hrw.below hal)
        have HZ4 := Lib.hid (show w.heap.size < (w4.alloc (.cells #[.int .i64 ((4 : Nat) : Int), .slice A2 X.length c2] 26)).heap.size by simp; omega)
        clear hrw hb1 hal
        obtain ⟨e0, e1, _, _, _⟩ := HCC.out
        go_wp2_with fail
        refine (HRO.out _ _ _ HI4.out).mono ?_
        rintro e w5 ⟨rfl, hb5⟩
        have HC5 := Lib.hid (HCC.out.below hb5 HCC.out.2.2.2.2)
        have HB5 := Lib.hid (HB4.out.trans (hb5.mono HB4.out.size))
        have HZ5 := Lib.hid (Nat.lt_of_lt_of_le HZ4.out hb5.size)
        obtain ⟨b, hL, hblt, hbne, hown1⟩ := HO.out.fresh HB4.out HRW.out hwz (hb5.trans (((Below.refl w5.heap.size w5).alloc (Nat.le_refl _) (.cells #[.int .i64 4, .slice A2 X.length c2] 26)).mono hb5.size)) (by have := hb5.size; simp at this ⊢; omega) 4 c2
        have HL := Lib.hid hL
        have HLT := Lib.hid hblt
        have HNE := Lib.hid hbne
        have HO1 := Lib.hid hown1
        have HCN := Lib.hid (Cells2.new w5 (.int .i64 4) (.slice A2 X.length c2) 26)
        have HB6 := Lib.hid (HB.out.trans ((HB5.out.trans (((Below.refl w5.heap.size w5).alloc (Nat.le_refl _) (.cells #[.int .i64 4, .slice A2 X.length c2] 26)).mono HB5.out.size)).mono hwz))
        clear hL hblt hbne hown1 hb5 e0 e1
        obtain ⟨e0, e1, _, _, _⟩ := HC5.out
        go_wp2_with (at_builtin; refine wpList_append_rh rfl _ _ rfl w.heap.size _ rs rfl HO1.out w5.heap.size ⟨4, X, A2, c2, b⟩ (by rfl) ⟨HCN.out.1, HCN.out.2.1⟩ HL.out HLT.out HNE.out (by have := HRL.out; omega) (by have := HZ5.out; simp; omega) ?_; intro v7 w7 hown7 hb7)
        have HO7 := Lib.hid hown7
        have HB7 := Lib.hid (HB6.out.trans hb7)
        clear hown7 hb7
        try go_wp2_with fail
        go_roundw
        case rel => exact ⟨m + 1, rs ++ [⟨4, X, A2, c2, b⟩], by omega, by first | (congr 1; exact HNX.out) | (rw [HNX.out]) | omega, by rw [HSU.out, ← HK.out]; simp [keyR], HO7.out, HB7.out⟩
        case measure => simp [intOf] <;> omega
      · have HSU := Lib.hid (show rfP k (m + 1) = rfP k m by
          unfold rfP
          rw [rfC_no (by rw [hc]; exact hpk)])
        have hnk : ((popX c : Int) != (k : Int)) = true := by rw [bne_iff_ne]; omega
        obtain ⟨P, hP⟩ : ∃ P : Nat, popX c = P := ⟨_, rfl⟩
        rw [hP] at HPC hnk hpk
        clear hP hc
        go_wp2_with (go_at_call 58; refine (HPC.out _).mono ?_; rintro e w' ⟨rfl, rfl⟩)
        go_roundw
        case rel => exact ⟨m + 1, rs, by omega, by first | (congr 1; exact HNX.out) | (rw [HNX.out]) | omega, by rw [HSU.out]; exact HK.out, HO.out, HB.out⟩
        case measure => simp [intOf] <;> omega
    · have hme : m = 16 := by omega
      subst hme
      go_wp2_with fail
      go_ret
      exact ⟨_, rs, rfl, HK.out, HO.out, HB.out⟩

def rfL (k : Nat) : List (List Int) := (rfC k 16).map fun c => bitsB 4 c 4
theorem rfP_map (k : Nat) : rfP k 16 = (rfL k).map fun x => (((4 : Nat) : Int), x) := by
  unfold rfP rfL
  rw [List.map_map]; rfl
theorem mm_facts : ∀ k, k = 1 ∨ k = 2 → (rfL k).length ≤ 6 ∧ (∀ x ∈ rfL k, x.length = k) ∧ (∀ x ∈ rfL k, ∀ y ∈ rfL k, farV 4 x y ≤ 2) ∧ 0 < (rfL k).length ∧ farV 4 ((rfL k).getD 0 []) ((rfL k).getD (k * 3 - 1) []) = 2 ∧ k * 3 - 1 < (rfL k).length := by
  intro k hk
  rcases hk with rfl | rfl
  · decide +kernel
  · decide +kernel
theorem rfL_ok (k : Nat) : ∀ x ∈ rfL k, RhOk ((4 : Nat) : Int) x := fun x hx => by
  obtain ⟨c, _, rfl⟩ := List.mem_map.1 hx
  exact rhB_iff.1 (bits4_ok c)

set_option maxRecDepth 100000 in
set_option maxHeartbeats 4000000 in
theorem impl_MostMoves_four (k : Nat) (hk : k = 1 ∨ k = 2) (w : World) :
    Calls Try.prog 17 #[.int .i64 4, .int .i64 k] w fun e w' => e = .returned (.int .i64 2) ∧ Below w.heap.size w w' := by
  obtain ⟨f1, f2, f3, f4, f5, f6⟩ := mm_facts k hk
  have hok := rfL_ok k
  have HRF := Lib.hid (fun V => impl_rhythmsFrom_four k (by omega) V)
  rw [rfP_map] at HRF
  have hk0 : (0 : Int) ≤ (k : Int) := Int.natCast_nonneg _
  have hk4 : (k : Int) ≤ 4 := by omega
  have hin1 : inB 4 1 8 = true := by decide
  have hin2 : inB (k : Int) 0 4 = true := by unfold inB; simp; omega
  obtain ⟨P, hP⟩ : ∃ P, k * 3 - 1 = P := ⟨_, rfl⟩
  rw [hP] at f5 f6
  have HP2 := Lib.hid f5
  have HF2 := Lib.hid f2
  have HF3 := Lib.hid f3
  have HOK := Lib.hid hok
  generalize rfL k = L at *
  clear f2 f3 f5 hok hP hk
  go_enter Try.func17, Try.ntmps17
  go_wp2_with (go_at_call 40; refine (within_any _ _ _ _).mono ?_; rintro e w' ⟨rfl, rfl⟩)
  refine (HRF.out _).mono ?_
  rintro e w1 ⟨v, rs, rfl, hkey, hown, hb⟩
  obtain ⟨A1, c1, rfl⟩ := hown.form
  obtain ⟨k1, k2⟩ := key_split hkey
  have hrl : rs.length = L.length := by rw [← k1, List.length_map]
  have hxs : ∀ i (h : i < rs.length), rs[i].n = ((4 : Nat) : Int) ∧ rs[i].xs = L.getD i [] ∧ L.getD i [] ∈ L := fun i h => by
    refine ⟨k2 _ (List.getElem_mem h), ?_, ?_⟩
    · rw [← k1, List.getD_eq_getElem?_getD, List.getElem?_map, List.getElem?_eq_getElem h]; rfl
    · rw [List.getD_eq_getElem?_getD, List.getElem?_eq_getElem (by omega : i < L.length)]; exact List.getElem_mem _
  have HX := Lib.hid hxs
  have HRD := Lib.hid (hown.rd (by omega) (fun r hr => by
    obtain ⟨i, hi, rfl⟩ := List.getElem_of_mem hr
    obtain ⟨_, e2, e3⟩ := hxs i hi
    rw [e2]
    exact rh_fits' (HOK.out _ e3)))
  have HB1 := Lib.hid hb
  rw [hrl]
  have HRL := Lib.hid hrl
  clear hkey hown hb hxs k1 k2 hrl
  go_wp2_with fail
  go_loopw [5, 25] (fun s i wr => ∃ (i' : Nat) (M : Int), i' ≤ L.length ∧ i = .int .i64 i' ∧ s = .int .i64 M ∧ 0 ≤ M ∧ M ≤ 2 ∧ (0 < i' → M = 2) ∧ Below w1.heap.size w1 wr) (fun _ i _ => L.length - (intOf i).toNat)
  case atStart => exact ⟨0, 0, Nat.zero_le _, rfl, rfl, by omega, by omega, fun h => by omega, Below.refl _ _⟩
  case round =>
    obtain ⟨i, M, hi, rfl, rfl, hM0, hM2, hMi, hbel⟩ := hrel
    obtain ⟨wo, rfl⟩ : ∃ wo : World, wo = wr := ⟨_, rfl⟩
    have HB := Lib.hid hbel
    have HMI := Lib.hid hMi
    clear hbel hMi
    by_cases hlt : i < L.length
    · have hki : (i : Int) < (L.length : Int) := by omega
      have hk0 : (0 : Int) ≤ (i : Int) := Int.natCast_nonneg _
      have hA1 := HRD.out.lift HB.out
      obtain ⟨g, rfl, hg, hc⟩ := hA1.2.2 (by rw [HRL.out]; omega)
      have hir : i < rs.length := by rw [HRL.out]; exact hlt
      obtain ⟨r0, r1⟩ := hc i hir
      have hI := hA1.2.1 _ (List.getElem_mem hir)
      obtain ⟨e1, e2, e3⟩ := HX.out i hir
      obtain ⟨r, hr⟩ : ∃ r, rs[i] = r := ⟨_, rfl⟩
      rw [hr] at r0 r1 hI e1 e2
      unfold RV.slc at r1
      rw [e1] at r0
      have HE2 := Lib.hid e2
      have HXM := Lib.hid e3
      generalize r.xs = X at *
      generalize r.A = AX at *
      generalize r.c = cX at *
      clear hr e1 e2 e3 hc
      have hal := (Below.refl wo.heap.size wo).alloc (Nat.le_refl _) (.cells #[.int .i64 4, .slice AX X.length cX] 26)
      have HDX := Lib.hid (Cells2.new wo (.int .i64 4) (.slice AX X.length cX) 26)
      have HIX := Lib.hid (hI.lift hal)
      have HBA := Lib.hid (HB.out.trans (hal.mono HB.out.size))
      clear hA1 hI hal
      go_wp2_with fail
      generalize wo.alloc (.cells #[.int .i64 4, .slice AX X.length cX] 26) = wa at *
      generalize wo.heap.size = gx at *
      go_loopw [5, 31] (fun s j wr => ∃ (j' : Nat) (M : Int), j' ≤ L.length ∧ j = .int .i64 j' ∧ s = .int .i64 M ∧ 0 ≤ M ∧ M ≤ 2 ∧ (0 < i → M = 2) ∧ (i = 0 → P < j' → M = 2) ∧ Below wa.heap.size wa wr) (fun _ j _ => L.length - (intOf j).toNat)
      case atStart => exact ⟨0, M, Nat.zero_le _, rfl, rfl, hM0, hM2, HMI.out, fun _ h => by omega, Below.refl _ _⟩
      case round =>
        obtain ⟨j, M', hj, rfl, rfl, hN0, hN2, hNi, hNj, hbel⟩ := hrel
        obtain ⟨wi, rfl⟩ : ∃ wo : World, wo = wr := ⟨_, rfl⟩
        have HBI := Lib.hid hbel
        have HNI := Lib.hid hNi
        have HNJ := Lib.hid hNj
        clear hbel hNi hNj r0 r1
        have HDI := Lib.hid (HDX.out.below HBI.out HDX.out.2.2.2.2)
        obtain ⟨d0, d1, _, _, _⟩ := HDI.out
        by_cases hjt : j < L.length
        · have hkj : (j : Int) < (L.length : Int) := by omega
          have hkj0 : (0 : Int) ≤ (j : Int) := Int.natCast_nonneg _
          have hA2 := HRD.out.lift (HBA.out.trans (HBI.out.mono HBA.out.size))
          obtain ⟨g', hgg, _, hc⟩ := hA2.2.2 (by rw [HRL.out]; omega)
          injection hgg with hgg
          injection hgg with hgg
          subst hgg
          have hjr : j < rs.length := by rw [HRL.out]; exact hjt
          obtain ⟨r0, r1⟩ := hc j hjr
          have hI := hA2.2.1 _ (List.getElem_mem hjr)
          obtain ⟨e1, e2, e3⟩ := HX.out j hjr
          obtain ⟨r, hr⟩ : ∃ r, rs[j] = r := ⟨_, rfl⟩
          rw [hr] at r0 r1 hI e1 e2
          unfold RV.slc at r1
          rw [e1] at r0
          have HEY := Lib.hid e2
          have HYM := Lib.hid e3
          generalize r.xs = Y at *
          generalize r.A = AY at *
          generalize r.c = cY at *
          clear hr e1 e2 e3 hc
          have hal := (Below.refl wi.heap.size wi).alloc (Nat.le_refl _) (.cells #[.int .i64 4, .slice AY Y.length cY] 26)
          have HDY := Lib.hid (Cells2.new wi (.int .i64 4) (.slice AY Y.length cY) 26)
          have HIY := Lib.hid (hI.lift hal)
          have HIX2 := Lib.hid ((HIX.out.lift HBI.out).lift hal)
          have HDZ := Lib.hid (HDI.out.below hal HDI.out.2.2.2.2)
          have HBJ := Lib.hid (HBI.out.trans (hal.mono HBI.out.size))
          have hfd : farV 4 X Y ≤ 2 := by
            have := HF3.out _ HXM.out _ HYM.out
            rw [← HE2.out, ← HEY.out] at this
            exact this
          have hfd0 := farV_nonneg 4 X Y
          have HFP := Lib.hid (show i = 0 → P = j → farV 4 X Y = 2 from fun h1 h2 => by
            have := HP2.out
            rw [HE2.out, HEY.out, h1, ← h2]; exact this)
          have HDS := Lib.hid (fun V h1 h2 => impl_distance_any 4 AX AY cX cY X Y V h1 h2 (by rw [HE2.out]; exact HOK.out _ HXM.out) (by rw [HEY.out]; exact HOK.out _ HYM.out) (by rw [HE2.out, HEY.out, HF2.out _ HXM.out, HF2.out _ HYM.out]))
          have hff : farV ((4 : Nat) : Int) X Y = farV 4 X Y := rfl
          rw [hff] at HDS
          obtain ⟨F, hF⟩ : ∃ F, farV 4 X Y = F := ⟨_, rfl⟩
          rw [hF] at hfd hfd0 HFP HDS
          clear hA2 hI hal d0 d1 hF hff
          obtain ⟨d0, d1, _, _, _⟩ := HDZ.out
          obtain ⟨y0, y1, _, _, _⟩ := HDY.out
          go_wp2_with fail
          refine (HDS.out _ HIX2.out HIY.out).mono ?_
          rintro e w4 ⟨rfl, hb⟩
          have HB4 := Lib.hid (HBJ.out.trans (hb.mono HBJ.out.size))
          clear hb d0 d1 y0 y1 r0 r1
          go_wp2_with fail
          go_roundw
          case rel =>
            refine ⟨j + 1, max M' F, by omega, by go_num, rfl, by omega, by omega, fun h => ?_, fun h1 h2 => ?_, HB4.out⟩
            · have := HNI.out h; omega
            · by_cases hPj : P = j
              · have := HFP.out h1 hPj; omega
              · have := HNJ.out h1 (by omega); omega
          case measure => simp [intOf] <;> omega
        · have hje : j = L.length := by omega
          subst hje
          go_wp2_with fail
          go_roundw
          case rel => exact ⟨i + 1, M', by omega, by go_num, rfl, hN0, hN2, fun _ => by
            by_cases h0 : i = 0
            · exact HNJ.out h0 (by omega)
            · exact HNI.out (by omega), HBA.out.trans (HBI.out.mono HBA.out.size)⟩
          case measure => simp [intOf] <;> omega
    · have hie : i = L.length := by omega
      subst hie
      have hM := HMI.out f4
      subst hM
      go_wp2_with fail
      go_ret
      exact ⟨rfl, HB1.out.trans (HB.out.mono HB1.out.size)⟩

end Go.Proofs.Ytlejlcnemibgiaa

namespace Go.Proofs.Ytlejlcnemibgiaa
open Go.RowKit
set_option linter.unusedVariables false
set_option linter.unusedSimpArgs false

def stepAt (n : Int) (bs : List Int) (i : Nat) : Int := if i + 1 < bs.length then bs.getD (i + 1) 0 - bs.getD i 0 else n + bs.getD 0 0 - bs.getD i 0
/-- The first k steps. -/
def stepsK (n : Int) (bs : List Int) (k : Nat) : List Int := (List.range k).map (stepAt n bs)
def stepsL (n : Int) (bs : List Int) : List Int := stepsK n bs bs.length
theorem stepsK_zero (n : Int) (bs : List Int) : stepsK n bs 0 = [] := rfl
theorem stepsK_succ (n : Int) (bs : List Int) (k : Nat) : stepsK n bs (k + 1) = stepsK n bs k ++ [stepAt n bs k] := by simp [stepsK, List.range_succ]
theorem stepsK_len (n : Int) (bs : List Int) (k : Nat) : (stepsK n bs k).length = k := by simp [stepsK]
theorem stepsL_len (n : Int) (bs : List Int) : (stepsL n bs).length = bs.length := stepsK_len _ _ _
theorem stepAt_more {n : Int} {bs : List Int} {k : Nat} {x y : Int} (h : k + 1 < bs.length) (hx : bs.getD k 0 = x) (hy : bs.getD (k + 1) 0 = y) : stepAt n bs k = y - x := by
  unfold stepAt; rw [if_pos h, hx, hy]
theorem stepAt_last {n : Int} {bs : List Int} {k : Nat} {x z : Int} (h : ¬ k + 1 < bs.length) (hx : bs.getD k 0 = x) (hz : bs.getD 0 0 = z) : stepAt n bs k = n + z - x := by
  unfold stepAt; rw [if_neg h, hx, hz]

theorem RhOk.beat {n : Int} {bs : List Int} (h : RhOk n bs) {i : Nat} (hi : i < bs.length) : 0 ≤ bs.getD i 0 ∧ bs.getD i 0 < n := h.2.2.1 i hi
theorem RhOk.mono {n : Int} {bs : List Int} (h : RhOk n bs) : ∀ (j i : Nat), i < j → j < bs.length → bs.getD i 0 + (j - i : Int) ≤ bs.getD j 0
  | 0, i, hi, _ => by omega
  | j + 1, i, hi, hj => by
    have h1 := h.2.2.2 j hj
    by_cases e : i = j
    · subst e; omega
    · have := RhOk.mono h j i (by omega) (by omega)
      omega
theorem RhOk.len {n : Int} {bs : List Int} (h : RhOk n bs) : (bs.length : Int) ≤ n := by
  by_cases h0 : bs.length = 0
  · have := h.1; omega
  · have h1 := h.beat (i := bs.length - 1) (by omega)
    by_cases h2 : bs.length = 1
    · have := h.1; omega
    · have h3 := h.mono (bs.length - 1) 0 (by omega) (by omega)
      have h4 := h.beat (i := 0) (by omega)
      omega
theorem stepAt_pos {n : Int} {bs : List Int} (h : RhOk n bs) {i : Nat} (hi : i < bs.length) : 1 ≤ stepAt n bs i ∧ stepAt n bs i ≤ n := by
  unfold stepAt
  split
  · rename_i h1
    have a := h.beat h1
    have b := h.beat hi
    have c := h.2.2.2 i h1
    omega
  · have b := h.beat hi
    have a := h.beat (i := 0) (by omega)
    by_cases e : i = 0
    · subst e; have := h.1; omega
    · have c := h.mono i 0 (by omega) hi
      omega
theorem stepsK_fit {n : Int} {bs : List Int} (h : RhOk n bs) (k : Nat) (hk : k ≤ bs.length) : ∀ x ∈ stepsK n bs k, 1 ≤ x ∧ x ≤ 24 := by
  intro x hx
  obtain ⟨i, hi, rfl⟩ := List.mem_map.1 hx
  have hi := List.mem_range.1 hi
  have := stepAt_pos h (i := i) (by omega)
  have := h.2.1
  omega

/-- A list of ints in new memory: what a call hands back. -/
def RetInts (w : World) (xs : List Int) (e : Ending) (w' : World) : Prop := ∃ A cap, e = .returned (.slice A xs.length cap) ∧ Ints w' w'.heap.size A xs ∧ Below w.heap.size w w'

set_option maxRecDepth 100000 in
set_option maxHeartbeats 1000000 in
theorem impl_steps_any (n : Int) (A : Option Addr) (cap : Nat) (bs : List Int) (w : World) (hA : Ints w w.heap.size A bs) (hok : RhOk n bs) :
    Calls Try.prog 76 #[.agg #[.int .i64 n, .slice A bs.length cap]] w (RetInts w (stepsL n bs)) := by
  have hn1 := hok.1
  have hn2 := hok.2.1
  have hlen := hok.len
  have HC := Lib.hid hA.2.2
  have HOK := Lib.hid hok
  clear hA hok
  go_enter Try.func76, Try.ntmps76
  go_wp2
  go_loopw [3, 9] (fun v i wr => ∃ k : Nat, k ≤ bs.length ∧ i = .int .i64 k ∧ OwnI wr (w.heap.size + 1) v (stepsK n bs k) ∧ Below (w.heap.size + 1) (w.alloc (.cells #[.int .i64 n, .slice A bs.length cap] 26)) wr) (fun _ i _ => bs.length - (intOf i).toNat)
  case atStart => exact ⟨0, Nat.zero_le _, rfl, OwnI.nil _ _, Below.refl _ _⟩
  case round =>
    obtain ⟨k, hk, rfl, hown, hbel⟩ := hrel
    have hz := hbel.size
    simp only [World.size_alloc] at hz
    obtain ⟨A1, c1, rfl⟩ := hown.form
    obtain ⟨hcb, hfb⟩ := bcellB hbel
    by_cases hlt : k < bs.length
    · obtain ⟨b, off, rfl, hB, hc⟩ := HC.out (by omega)
      have hcell := hc k hlt
      have hcell0 := hc 0 (by omega)
      have hbx := HOK.out.beat hlt
      have hbz := HOK.out.beat (i := 0) (by omega)
      obtain ⟨x, hx⟩ : ∃ x, bs.getD k 0 = x := ⟨_, rfl⟩
      obtain ⟨z, hz0⟩ : ∃ z, bs.getD 0 0 = z := ⟨_, rfl⟩
      rw [hx] at hcell hbx
      rw [hz0] at hcell0 hbz
      have hcell' : wr.cell? ⟨b, off + k, none⟩ = some (.int .i64 x) := by
        rw [hcb b _ (by omega), World.cell?_alloc_lt w _ _ hB]; exact hcell
      have hcell0' : wr.cell? ⟨b, off, none⟩ = some (.int .i64 z) := by
        rw [hcb b _ (by omega), World.cell?_alloc_lt w _ _ hB]; exact hcell0
      have HX := Lib.hid hx
      have HZ := Lib.hid hz0
      have hs := stepsK_succ n bs k
      have HS := Lib.hid hs
      clear hx hz0 hs
      by_cases hmore : k + 1 < bs.length
      · have hcell1 := hc (k + 1) hmore
        have hby := HOK.out.beat hmore
        obtain ⟨y, hy⟩ : ∃ y, bs.getD (k + 1) 0 = y := ⟨_, rfl⟩
        rw [hy] at hcell1 hby
        have hcell1' : wr.cell? ⟨b, off + (k + 1), none⟩ = some (.int .i64 y) := by
          rw [hcb b _ (by omega), World.cell?_alloc_lt w _ _ hB]; exact hcell1
        have hst := stepAt_more (n := n) hmore HX.out hy
        have HY := Lib.hid hy
        have HST := Lib.hid hst
        clear hy hst hc
        go_wp2_with (at_builtin; refine wpList_append_int rfl _ _ rfl (w.heap.size + 1) _ (stepsK n bs k) rfl (hown.alloc _) _ _ rfl (cell_new1 _ _ _) (by first | omega | (simp only [stepsK_len]; omega)) (by first | exact Nat.le_refl _ | (simp; done) | (simp; omega) | omega) ?_; intro v' w1 hown1 hg1)
        go_roundw
        case rel => exact ⟨k + 1, by omega, by go_num, by rw [HS.out, HST.out]; exact hown1, (hbel.alloc hz _).trans hg1⟩
        case measure => simp [intOf]; omega
      · clear hc
        have hst := stepAt_last (n := n) hmore HX.out HZ.out
        have HST := Lib.hid hst
        clear hst
        go_wp2_with fail
        have hbx0 : wr.cell? ⟨w.heap.size, 0, none⟩ = some (.int .i64 n) := by rw [hcb _ _ (by omega)]; simp [go_sem]
        have hbx1 : wr.cell? ⟨w.heap.size, 1, none⟩ = some (.slice (some ⟨b, off, none⟩) bs.length cap) := by rw [hcb _ _ (by omega)]; simp [go_sem]
        have hl0 : (0 : Int) < (bs.length : Int) := by omega
        have hl1 : 0 < bs.length := by omega
        go_region_held3 (fun w' => w'.cell? ⟨w.heap.size, 0, none⟩ = some (.int .i64 n) ∧ w'.cell? ⟨w.heap.size, 1, none⟩ = some (.slice (some ⟨b, off, none⟩) bs.length cap) ∧ w'.cell? ⟨b, off, none⟩ = some (.int .i64 z))
          (first
            | go_keep
            | (obtain ⟨hcc, _⟩ := bcellB hg1
               refine ⟨?_, ?_, ?_⟩ <;> (rw [hcc _ _ (by omega)]; simp [go_sem, *])))
          ((refine step_append_int (by rfl) _ _ (by rfl) (w.heap.size + 1) _ (stepsK n bs k) (by rfl) ((hown.alloc _).drew) _ _ (by rfl) (cell_new1 _ _ _) (by simp only [stepsK_len]; omega) (by first | exact Nat.le_refl _ | (simp; done) | (simp; omega) | omega) ?_; intro v' w1 hown1 hg1))
        go_wp2_with fail
        go_roundw
        case rel => exact ⟨k + 1, by omega, by go_num, by rw [HS.out, HST.out]; rw [i64w (x := n + z) (by omega), i64w (x := n + z - x) (by omega)] at hown1; exact hown1, ((hbel.alloc hz _).drew).trans hg1⟩
        case measure => simp [intOf]; omega
    · have hf := stepsK_fit HOK.out k hk
      have hke : k = bs.length := by omega
      have HOWN := Lib.hid hown
      clear hown
      subst hke
      go_wp2
      go_ret
      have hl : (stepsK n bs bs.length).length = bs.length := stepsK_len _ _ _
      exact ⟨A1, c1, rfl, HOWN.out.ints (fun x hx => by have := hf x hx; exact ⟨by omega, by omega⟩), ((Below.refl _ _).alloc (Nat.le_refl _) _).trans (hbel.mono (by omega))⟩

end Go.Proofs.Ytlejlcnemibgiaa

namespace Go.Proofs.Ytlejlcnemibgiaa
open Go.RowKit
set_option linter.unusedVariables false
set_option linter.unusedSimpArgs false

noncomputable def stepsOf (n : Int) (bs : List Int) : List Int := if rhB n bs = true then stepsL n bs else []
theorem stepsOf_ok {n : Int} {bs : List Int} (h : rhB n bs = true) : stepsOf n bs = stepsL n bs := if_pos h
theorem stepsOf_no {n : Int} {bs : List Int} (h : rhB n bs = false) : stepsOf n bs = [] := if_neg (by rw [h]; decide)
theorem stepsOf_fit (n : Int) (bs : List Int) : (stepsOf n bs).length ≤ 24 ∧ ∀ x ∈ stepsOf n bs, 1 ≤ x ∧ x ≤ 24 := by
  cases h : rhB n bs
  · rw [stepsOf_no h]; exact ⟨Nat.zero_le _, fun x hx => by cases hx⟩
  · rw [stepsOf_ok h]
    have hok := rhB_iff.1 h
    refine ⟨?_, stepsK_fit hok _ (Nat.le_refl _)⟩
    have := hok.len
    have := hok.2.1
    rw [stepsL_len]; omega
theorem Ints.nil_ (w : World) (B : Nat) (A : Option Addr) : Ints w B A [] := ⟨Nat.zero_le _, ⟨fun x hx => (List.not_mem_nil hx).elim, fun h => absurd h (Nat.lt_irrefl 0)⟩⟩

set_option maxHeartbeats 400000 in
theorem impl_StepsOf_any (n : Int) (A : Option Addr) (cap : Nat) (bs : List Int) (w : World) (hn : Fits n) (hA : Ints w w.heap.size A bs) :
    Calls Try.prog 64 #[.agg #[.int .i64 n, .slice A bs.length cap]] w (RetInts w (stepsOf n bs)) := by
  have HA := Lib.hid hA
  have HN := Lib.hid hn
  clear hA hn
  cases hr : rhB n bs
  · have HS := Lib.hid (stepsOf_no hr)
    go_enter Try.func64, Try.ntmps64
    go_wp2_with (go_at_call 25; refine (impl_RhythmOk_any n A cap bs _ HN.out (HA.out.lift (by repeat (first | exact Below.refl _ _ | assumption | (refine Below.alloc ?_ (by first | exact Nat.le_refl _ | (simp; done) | (simp; omega) | omega) _) | (refine Below.drew ?_) | (refine Below.setCell ?_ (by first | exact Nat.le_refl _ | (simp; done) | (simp; omega) | omega) _))))).mono ?_; rintro e w1 ⟨rfl, hb⟩)
    go_ret
    have hb' := ((Below.refl w.heap.size w).alloc (by first | exact Nat.le_refl _ | (simp; done) | (simp; omega) | omega) _).trans (hb.mono (by first | exact Nat.le_refl _ | (simp; done) | (simp; omega) | omega))
    rw [HS.out]
    exact ⟨none, 0, rfl, Ints.nil_ _ _ _, hb'⟩
  · have HS := Lib.hid (stepsOf_ok hr)
    have HR := Lib.hid (rhB_iff.1 hr)
    go_enter Try.func64, Try.ntmps64
    go_wp2_with (first
      | (go_at_call 25; refine (impl_RhythmOk_any n A cap bs _ HN.out (HA.out.lift (by repeat (first | exact Below.refl _ _ | assumption | (refine Below.alloc ?_ (by first | exact Nat.le_refl _ | (simp; done) | (simp; omega) | omega) _) | (refine Below.drew ?_) | (refine Below.setCell ?_ (by first | exact Nat.le_refl _ | (simp; done) | (simp; omega) | omega) _))))).mono ?_; rintro e w1 ⟨rfl, hb⟩; have hb' := ((Below.refl w.heap.size w).alloc (by first | exact Nat.le_refl _ | (simp; done) | (simp; omega) | omega) _).trans (hb.mono (by first | exact Nat.le_refl _ | (simp; done) | (simp; omega) | omega)); obtain ⟨hc, hf⟩ := bcell hb)
      | (go_at_call 76; refine (impl_steps_any n A cap bs _ (HA.out.lift hb') HR.out).mono ?_; rintro e w2 ⟨A2, c2, rfl, hi2, hb2⟩))
    go_ret
    rw [HS.out]
    exact ⟨A2, c2, rfl, hi2, hb'.trans (hb2.mono hb'.size)⟩

end Go.Proofs.Ytlejlcnemibgiaa

namespace Go.Proofs.Ytlejlcnemibgiaa
open Go.RowKit
set_option linter.unusedVariables false
set_option linter.unusedSimpArgs false

def spanV (xs : List Int) (i : Nat) : Nat → Int
  | 0 => 0
  | j + 1 => spanV xs i j + xs.getD ((i + j) % xs.length) 0
theorem spanV_bnd {xs : List Int} (h : ∀ i, i < xs.length → 0 ≤ xs.getD i 0 ∧ xs.getD i 0 ≤ 24) (hl : 1 ≤ xs.length) (i : Nat) : ∀ j, 0 ≤ spanV xs i j ∧ spanV xs i j ≤ j * 24
  | 0 => ⟨Int.le_refl _, by simp [spanV]⟩
  | j + 1 => by
    have ih := spanV_bnd h hl i j
    have := h ((i + j) % xs.length) (Nat.mod_lt _ (by omega))
    unfold spanV
    omega

set_option maxRecDepth 100000 in
set_option maxHeartbeats 1000000 in
theorem impl_spanOf_any (A : Option Addr) (cap : Nat) (xs : List Int) (i k : Nat) (w : World) (hA : Ints w w.heap.size A xs) (hl : 1 ≤ xs.length) (hl2 : xs.length ≤ 24) (hx : ∀ i, i < xs.length → 0 ≤ xs.getD i 0 ∧ xs.getD i 0 ≤ 24) (hi : i ≤ 24) (hk : k ≤ 24) :
    Calls Try.prog 65 #[.slice A xs.length cap, .int .i64 i, .int .i64 k] w fun e w' => e = .returned (.int .i64 (spanV xs i k)) ∧ Below w.heap.size w w' := by
  obtain ⟨bA, oA, rfl, hAB, hac⟩ := hA.2.2 (by omega)
  have HAC := Lib.hid hac
  have HX := Lib.hid hx
  have HBD := Lib.hid (spanV_bnd hx hl i)
  clear hA hac hx
  have hz : ((xs.length : Int) = 0) = False := eq_false (by omega)
  have hz2 : (xs.length = 0) = False := eq_false (by omega)
  go_enter Try.func65, Try.ntmps65
  go_wp2_with fail
  go_loopw [7, 10] (fun so ii wr => ∃ j : Nat, j ≤ k ∧ ii = .int .i64 j ∧ so = .int .i64 (spanV xs i j) ∧ Below w.heap.size w wr) (fun _ ii _ => k - (intOf ii).toNat)
  case atStart => exact ⟨0, Nat.zero_le _, rfl, rfl, Below.refl _ _⟩
  case round =>
    obtain ⟨j, hj, rfl, rfl, hbel⟩ := hrel
    obtain ⟨wo, rfl⟩ : ∃ wo : World, wo = wr := ⟨_, rfl⟩
    have HBE := Lib.hid hbel
    have hbd := HBD.out j
    by_cases hlt : j < k
    · have hcell := (hbel.cell (p := ⟨bA, oA + (i + j) % xs.length, none⟩) hAB).trans (HAC.out ((i + j) % xs.length) (Nat.mod_lt _ (by omega)))
      have hxb := HX.out ((i + j) % xs.length) (Nat.mod_lt _ (by omega))
      have hml : (i + j) % xs.length < xs.length := Nat.mod_lt _ (by omega)
      have HSU := Lib.hid (show spanV xs i (j + 1) = spanV xs i j + xs.getD ((i + j) % xs.length) 0 from rfl)
      have hmod : Int.tmod ((i : Int) + j) xs.length = (((i + j) % xs.length : Nat) : Int) := by
        rw [Int.tmod_eq_emod_of_nonneg (by omega), Int.natCast_emod, Int.natCast_add]
      have hmod2 : ((i : Int) + j) % xs.length = (((i + j) % xs.length : Nat) : Int) := by rw [Int.natCast_emod, Int.natCast_add]
      obtain ⟨m, hm⟩ : ∃ m, (i + j) % xs.length = m := ⟨_, rfl⟩
      obtain ⟨x, hxx⟩ : ∃ x, xs.getD ((i + j) % xs.length) 0 = x := ⟨_, rfl⟩
      rw [hxx] at hcell hxb HSU
      rw [hm] at hcell hml hmod hmod2
      obtain ⟨S, hS⟩ : ∃ S, spanV xs i j = S := ⟨_, rfl⟩
      rw [hS] at hbd HSU ⊢
      have hw1 : IntKind.i64.wrap ((i : Int) + j) = (i : Int) + j := i64w (by omega)
      have hw2 : IntKind.i64.wrap (S + x) = S + x := i64w (by omega)
      have hw3 : IntKind.i64.wrap (m : Int) = (m : Int) := i64w (by omega)
      have hm0 : (0 : Int) ≤ (m : Int) := Int.natCast_nonneg _
      have hm1 : (m : Int) < (xs.length : Int) := by omega
      clear hm hxx hS hbel
      go_wp2_with fail
      try go_quiet (fail)
      try go_wp2_with fail
      go_roundw
      case rel => exact ⟨j + 1, by omega, by go_num, by rw [HSU.out], by first | exact HBE.out | exact Below.drewN_ HBE.out _⟩
      case measure => simp [intOf]; omega
    · have hje : j = k := by omega
      subst hje
      obtain ⟨S, hS⟩ : ∃ S, spanV xs i j = S := ⟨_, rfl⟩
      have HSS := Lib.hid hS
      rw [hS]
      clear hS
      go_wp2_with fail
      go_ret
      exact ⟨ret_int HSS.out.symm, HBE.out⟩

end Go.Proofs.Ytlejlcnemibgiaa

namespace Go.Proofs.Ytlejlcnemibgiaa
open Go.RowKit
set_option linter.unusedVariables false
set_option linter.unusedSimpArgs false

def posI (out : List Int) (x : Int) : Nat := (out.takeWhile fun y => decide (y < x)).length
def insI (out : List Int) (x : Int) : List Int := if out[posI out x]? = some x then out else out.take (posI out x) ++ (x :: out.drop (posI out x))
def szsN (xs : List Int) : Nat → List Int
  | 0 => []
  | m + 1 => insI (szsN xs m) (xs.getD m 0)
theorem posI_le (out : List Int) (x : Int) : posI out x ≤ out.length := by
  unfold posI
  exact List.Sublist.length_le (List.takeWhile_sublist _)
theorem posI_before : ∀ {out : List Int} {x : Int} {i : Nat} (h : i < out.length), i < posI out x → out[i] < x
  | [], x, i, h, _ => by simp at h
  | y :: out, x, i, h, hi => by
    unfold posI at hi
    rw [List.takeWhile_cons] at hi
    by_cases hy : y < x
    · rw [if_pos (by simpa using hy)] at hi
      match i, h, hi with
      | 0, _, _ => exact hy
      | i + 1, h, hi =>
        have := posI_before (out := out) (x := x) (i := i) (by simpa using h) (by unfold posI; simpa using hi)
        simpa using this
    · rw [if_neg (by simpa using hy)] at hi
      simp at hi
theorem posI_at : ∀ {out : List Int} {x : Int} (h : posI out x < out.length), ¬ out[posI out x] < x
  | [], x, h => by simp at h
  | y :: out, x, h => by
    by_cases hy : y < x
    · have e : posI (y :: out) x = posI out x + 1 := by
        unfold posI
        rw [List.takeWhile_cons, if_pos (by simpa using hy)]; rfl
      have h2 : posI out x < out.length := by rw [e] at h; simpa using h
      have := posI_at h2
      simp only [e, List.getElem_cons_succ]
      exact this
    · have e : posI (y :: out) x = 0 := by
        unfold posI
        rw [List.takeWhile_cons, if_neg (by simpa using hy)]; rfl
      simp only [e, List.getElem_cons_zero]
      exact hy
theorem insI_len (out : List Int) (x : Int) : (insI out x).length ≤ out.length + 1 := by
  unfold insI
  split
  · omega
  · rw [List.length_append, List.length_cons, List.length_take, List.length_drop]; omega
theorem szsN_len (xs : List Int) : ∀ m, (szsN xs m).length ≤ m
  | 0 => Nat.le_refl _
  | m + 1 => by
    have := szsN_len xs m
    have := insI_len (szsN xs m) (xs.getD m 0)
    show (insI _ _).length ≤ _
    omega
theorem insI_asc {out : List Int} {x : Int} (h : out.Pairwise (fun a b => a < b)) : (insI out x).Pairwise (fun a b => a < b) ∧ ∀ y, y ∈ insI out x ↔ y ∈ out ∨ y = x := by
  have hle := posI_le out x
  unfold insI
  split
  · rename_i he
    refine ⟨h, fun y => ⟨fun hy => .inl hy, ?_⟩⟩
    rintro (hy | rfl)
    · exact hy
    · exact List.mem_of_getElem? he
  · rename_i he
    have hb : ∀ a ∈ out.take (posI out x), a < x := fun a ha => by
      obtain ⟨i, hi, rfl⟩ := List.getElem_of_mem ha
      rw [List.length_take] at hi
      rw [List.getElem_take]
      exact posI_before (by omega) (by omega)
    have hd : ∀ a ∈ out.drop (posI out x), x < a := fun a ha => by
      obtain ⟨i, hi, rfl⟩ := List.getElem_of_mem ha
      rw [List.length_drop] at hi
      rw [List.getElem_drop]
      have hp : posI out x < out.length := by omega
      have h1 := posI_at hp
      have h2 : out[posI out x] ≠ x := fun e => he (by rw [List.getElem?_eq_getElem hp, e])
      by_cases h0 : i = 0
      · subst h0
        simp only [Nat.add_zero]
        omega
      · have := List.pairwise_iff_getElem.1 h (posI out x) (posI out x + i) hp (by omega) (by omega)
        omega
    refine ⟨?_, fun y => ?_⟩
    · rw [List.pairwise_append]
      refine ⟨h.sublist (List.take_sublist _ _), ?_, fun a ha b hb' => ?_⟩
      · rw [List.pairwise_cons]
        exact ⟨hd, h.sublist (List.drop_sublist _ _)⟩
      · rcases List.mem_cons.1 hb' with rfl | h3
        · exact hb a ha
        · have := hb a ha; have := hd b h3; omega
    · rw [List.mem_append, List.mem_cons]
      conv => rhs; rw [← List.take_append_drop (posI out x) out, List.mem_append]
      constructor
      · rintro (h1 | rfl | h1)
        · exact .inl (.inl h1)
        · exact .inr rfl
        · exact .inl (.inr h1)
      · rintro ((h1 | h1) | rfl)
        · exact .inl h1
        · exact .inr (.inr h1)
        · exact .inr (.inl rfl)
theorem szsN_asc (xs : List Int) : ∀ m, m ≤ xs.length → (szsN xs m).Pairwise (fun a b => a < b) ∧ ∀ y, y ∈ szsN xs m ↔ y ∈ xs.take m
  | 0, _ => ⟨List.Pairwise.nil, fun y => by simp [szsN]⟩
  | m + 1, h => by
    obtain ⟨a, b⟩ := szsN_asc xs m (by omega)
    obtain ⟨c, d⟩ := insI_asc (x := xs.getD m 0) a
    refine ⟨c, fun y => ?_⟩
    rw [show szsN xs (m + 1) = insI (szsN xs m) (xs.getD m 0) from rfl, d, b, List.take_succ_eq_append_getElem (by omega), List.mem_append, List.mem_singleton, List.getD_eq_getElem?_getD, List.getElem?_eq_getElem (by omega : m < xs.length)]
    rfl
/-- By insertion, or by sorting: the same. -/
theorem szs_eq (xs : List Int) : szsN xs xs.length = collL xs := by
  obtain ⟨a, b⟩ := szsN_asc xs xs.length (Nat.le_refl _)
  obtain ⟨c, d⟩ := collL_asc xs
  exact asc_unique a c fun y => by rw [b, d, List.take_length]

end Go.Proofs.Ytlejlcnemibgiaa

namespace Go.Proofs.Ytlejlcnemibgiaa
open Go.RowKit
set_option linter.unusedVariables false
set_option linter.unusedSimpArgs false

theorem OwnI.cellz {w : World} {base g c : Nat} {xs : List Int} (h : OwnI w base (.slice (some ⟨g, 0, none⟩) xs.length c) xs) : g < w.heap.size ∧ xs.length ≤ c ∧ ∀ i, i < xs.length → w.cell? ⟨g, i, none⟩ = some (.int .i64 (xs.getD i 0)) := by
  refine ⟨(h.lt g rfl).2, ?_, fun i hi => ?_⟩
  · rcases h.2 with ⟨hv, _⟩ | ⟨g', cap', cur, hv, hg, hh, hnc, _⟩
    · cases hv
    · injection hv with _ _ h3; omega
  · have := World.ownsRow.cells h (g := g) rfl i (.int .i64 (xs.getD i 0)) (by
      rw [List.getElem?_map, List.getD_eq_getElem?_getD, List.getElem?_eq_getElem hi]; rfl)
    rwa [Go.WideShapes.add_plain, Nat.zero_add] at this
theorem OwnI.monoB {w : World} {base base' : Nat} {v : Value} {xs : List Int} (h : OwnI w base v xs) (hb : base' ≤ base) : OwnI w base' v xs :=
  ⟨h.1, by
    rcases h.2 with h0 | ⟨g, cap, cur, e, hg, rest⟩
    · exact .inl h0
    · exact .inr ⟨g, cap, cur, e, by omega, rest⟩⟩
theorem OwnI.posz {w : World} {base : Nat} {v : Value} {xs : List Int} (h : OwnI w base v xs) (hp : 0 < xs.length) : ∃ g c, v = .slice (some ⟨g, 0, none⟩) xs.length c := by
  rcases h.2 with ⟨rfl, h0⟩ | ⟨g, cap, cur, rfl, _⟩
  · omega
  · exact ⟨g, cap, rfl⟩

end Go.Proofs.Ytlejlcnemibgiaa

namespace Go.Proofs.Ytlejlcnemibgiaa
open Go.RowKit
set_option linter.unusedVariables false
set_option linter.unusedSimpArgs false

def spnS (S : List Int) (k m : Nat) : List Int := (List.range m).map fun i => spanV S i k
theorem spnS_len (S : List Int) (k m : Nat) : (spnS S k m).length = m := by simp [spnS]
theorem spnS_succ (S : List Int) (k m : Nat) : spnS S k (m + 1) = spnS S k m ++ [spanV S m k] := by simp [spnS, List.range_succ]

set_option maxRecDepth 100000 in
set_option maxHeartbeats 1000000 in
theorem impl_SpanSizes_any (N : Nat) (A : Option Addr) (cap : Nat) (bs : List Int) (k : Nat) (w : World) (hA : Ints w w.heap.size A bs) (hok : RhOk N bs) (hp : 1 ≤ bs.length) (hk : k ≤ bs.length) :
    Calls Try.prog 39 #[.agg #[.int .i64 N, .slice A bs.length cap], .int .i64 k] w fun e w' => ∃ v, e = .returned v ∧ OwnI w' w.heap.size v (collL (spnS (stepsL N bs) k (stepsL N bs).length)) ∧ Below w.heap.size w w' := by
  have hn1 : 1 ≤ (N : Int) := hok.1
  have hn2 : (N : Int) ≤ 24 := hok.2.1
  have HS := Lib.hid (fun V h => impl_StepsOf_any N A cap bs V (by unfold Fits; omega) h)
  have hbl : bs.length ≤ 24 := by have := hok.len; omega
  have hsl := stepsL_len N bs
  have hsf : ∀ i, i < (stepsL N bs).length → 0 ≤ (stepsL N bs).getD i 0 ∧ (stepsL N bs).getD i 0 ≤ 24 := fun i hi => by
    have := stepsK_fit hok _ (Nat.le_refl _) ((stepsL N bs).getD i 0) (by
      rw [List.getD_eq_getElem?_getD, List.getElem?_eq_getElem hi]; exact List.getElem_mem hi)
    omega
  rw [stepsOf_ok (rhB_iff.2 hok)] at HS
  generalize stepsL N bs = S at *
  have hs1 : 1 ≤ S.length := by omega
  have hs2 : S.length ≤ 24 := by omega
  have HSF := Lib.hid hsf
  have HSP := Lib.hid (fun i j => spanV_bnd hsf hs1 i j)
  have hz : ((S.length : Int) == 0) = false := beq_eq_false_iff_ne.2 (by omega)
  have hin : inB k 0 S.length = true := by unfold inB; simp; omega
  have HA := Lib.hid hA
  have HK := Lib.hid hk
  have hks : k ≤ 24 := by omega
  clear hA hsf hok hk
  go_enter Try.func39, Try.ntmps39
  go_wp2_with fail
  refine (HS.out _ (HA.out.lift (by repeat (first | exact Below.refl _ _ | assumption | (refine Below.alloc ?_ (by first | exact Nat.le_refl _ | (simp; done) | (simp; omega) | omega) _) | (refine Below.drew ?_) | (refine Below.setCell ?_ (by first | exact Nat.le_refl _ | (simp; done) | (simp; omega) | omega) _))))).mono ?_
  rintro e w1 ⟨A1, c1, rfl, hI1, hb1⟩
  have HB1 := Lib.hid (((Below.refl w.heap.size w).alloc (Nat.le_refl _) (.cells #[.int .i64 N, .slice A bs.length cap] 26)).trans (hb1.mono (by simp)))
  have HI1 := Lib.hid hI1
  have HO0 := Lib.hid (OwnI.nil w1 w1.heap.size)
  have HB0 := Lib.hid (Below.refl w1.heap.size w1)
  clear hI1 hb1 hsl
  go_wp2_with (go_at_call 40; refine (within_any _ _ _ _).mono ?_; rintro e w' ⟨rfl, rfl⟩)
  go_loopw [6, 22] (fun v i wr => ∃ m : Nat, m ≤ S.length ∧ i = .int .i64 m ∧ OwnI wr w1.heap.size v (spnS S k m) ∧ Below w1.heap.size w1 wr) (fun _ i _ => S.length - (intOf i).toNat)
  case atStart => exact ⟨0, Nat.zero_le _, rfl, HO0.out, HB0.out⟩
  case round =>
    obtain ⟨m, hm, rfl, hown, hbel⟩ := hrel
    obtain ⟨wo, rfl⟩ : ∃ wo : World, wo = wr := ⟨_, rfl⟩
    obtain ⟨Av, cv, rfl⟩ := hown.form
    have HO := Lib.hid hown
    have HBE := Lib.hid hbel
    have HLM := Lib.hid (spnS_len S k m)
    clear hown hbel
    by_cases hlt : m < S.length
    · have hmi : (m : Int) < (S.length : Int) := by omega
      have hm24 : m ≤ 24 := by omega
      have HIO := Lib.hid (HI1.out.lift HBE.out)
      have HSU := Lib.hid (spnS_succ S k m)
      obtain ⟨Q, hQ⟩ : ∃ Q, spnS S k m = Q := ⟨_, rfl⟩
      rw [hQ] at HSU HO HLM ⊢
      have HQ := Lib.hid hQ
      clear hQ
      go_wp2_with (first
        | (go_at_call 65; refine (impl_spanOf_any A1 c1 S m k _ HIO.out hs1 hs2 HSF.out hm24 hks).mono ?_; rintro e w2 ⟨rfl, hb2⟩; have HB2 := Lib.hid hb2; have HO2 := Lib.hid (HO.out.grown hb2); obtain ⟨x, hx⟩ : ∃ x, spanV S m k = x := ⟨_, rfl⟩; rw [hx] at HSU ⊢; clear hb2 hx)
        | (at_builtin; refine wpList_append_int rfl _ _ rfl w1.heap.size _ Q rfl (HO2.out.alloc _) _ _ rfl (cell_new1 _ _ _) (by have := HLM.out; omega) (by have := HB2.out.size; have := HBE.out.size; simp only [World.size_alloc]; omega) ?_; intro v3 w3 hown3 hb3; have HO3 := Lib.hid hown3; have HB3 := Lib.hid (HBE.out.trans ((HB2.out.mono HBE.out.size).trans (((Below.refl w2.heap.size w2).alloc (Nat.le_refl _) (.cells #[.int .i64 x] 3)).mono (by have := HB2.out.size; have := HBE.out.size; omega) |>.trans hb3))); clear hown3 hb3))
      go_roundw
      case rel => exact ⟨m + 1, by omega, by go_num, by rw [HSU.out]; exact HO3.out, HB3.out⟩
      case measure => simp [intOf]; omega
    · have hme : m = S.length := by omega
      have HME := Lib.hid hme
      have hmi : ¬ (m : Int) < (S.length : Int) := by omega
      have HIV := Lib.hid (HO.out.ints (fun x hx => by
        obtain ⟨i, hi, rfl⟩ := List.mem_map.1 hx
        have := HSP.out i k
        have := hks
        unfold Fits; omega))
      obtain ⟨Q, hQ⟩ : ∃ Q, spnS S k m = Q := ⟨_, rfl⟩
      rw [hQ] at HIV HO HLM ⊢
      have HQ := Lib.hid hQ
      clear hQ hme
      go_wp2_with fail
      refine (impl_collected_any Av cv Q _ HIV.out (by have := HLM.out; omega)).mono ?_
      rintro e w4 ⟨v4, rfl, ho4, hb4⟩
      have HO4 := Lib.hid ho4
      have HB4 := Lib.hid (HB1.out.trans ((HBE.out.trans (hb4.mono HBE.out.size)).mono HB1.out.size))
      clear ho4 hb4
      go_wp2_with fail
      go_ret
      have := HB1.out.size
      have := HBE.out.size
      refine ⟨_, rfl, ?_, HB4.out⟩
      rw [← HME.out, HQ.out]
      exact HO4.out.monoB (by omega)

end Go.Proofs.Ytlejlcnemibgiaa

namespace Go.Proofs.Ytlejlcnemibgiaa
open Go.RowKit
set_option linter.unusedVariables false
set_option linter.unusedSimpArgs false

def evT (S : List Int) (k : Nat) : Bool := decide ((collL (spnS S k S.length)).getD ((collL (spnS S k S.length)).length - 1) 0 - (collL (spnS S k S.length)).getD 0 0 ≤ 1)
def evnB (S : List Int) : Bool := (List.range S.length).all fun k => decide (k = 0) || evT S k
theorem evnB_def (S : List Int) : evnB S = true ↔ ∀ j, 1 ≤ j → j < S.length → evT S j = true := by
  unfold evnB
  rw [List.all_eq_true]
  constructor
  · intro h j h1 h2
    have := h j (List.mem_range.2 h2)
    rw [Bool.or_eq_true, decide_eq_true_eq] at this
    rcases this with h3 | h3
    · omega
    · exact h3
  · intro h j hj
    rw [Bool.or_eq_true, decide_eq_true_eq]
    by_cases e : j = 0
    · exact .inl e
    · exact .inr (h j (by omega) (List.mem_range.1 hj))
theorem getE_mem {L : List Int} {i : Nat} (h : i < L.length) : L.getD i 0 ∈ L := by
  rw [List.getD_eq_getElem?_getD, List.getElem?_eq_getElem h]; exact List.getElem_mem h
theorem asc_len_ : ∀ (L : List Int) (lo hi : Int), L.Pairwise (fun a b => a < b) → (∀ x ∈ L, lo ≤ x ∧ x ≤ hi) → lo ≤ hi + 1 → (L.length : Int) ≤ hi + 1 - lo
  | [], lo, hi, _, _, h => by simp; omega
  | a :: L, lo, hi, hp, hb, h => by
    rw [List.pairwise_cons] at hp
    have ha := hb a List.mem_cons_self
    have := asc_len_ L (a + 1) hi hp.2 (fun x hx => ⟨by have := hp.1 x hx; omega, (hb x (List.mem_cons_of_mem _ hx)).2⟩) (by omega)
    rw [List.length_cons]; omega
theorem asc_len {L : List Int} (hp : L.Pairwise (fun a b => a < b)) (hb : ∀ x ∈ L, 0 ≤ x ∧ x ≤ 576) : L.length ≤ 577 := by
  have := asc_len_ L 0 576 hp hb (by omega); omega
theorem spnS_fit {S : List Int} (h1 : 1 ≤ S.length) (h : ∀ i, i < S.length → 0 ≤ S.getD i 0 ∧ S.getD i 0 ≤ 24) (k : Nat) (hk : k ≤ 24) :
    0 < (collL (spnS S k S.length)).length ∧ (collL (spnS S k S.length)).length ≤ 1000000 ∧ ∀ x ∈ collL (spnS S k S.length), 0 ≤ x ∧ x ≤ 576 := by
  have hm : ∀ x, x ∈ collL (spnS S k S.length) ↔ x ∈ spnS S k S.length := (collL_asc _).2
  have hx : ∀ x ∈ collL (spnS S k S.length), 0 ≤ x ∧ x ≤ 576 := fun x hx => by
    obtain ⟨i, _, rfl⟩ := List.mem_map.1 ((hm x).1 hx)
    have := spanV_bnd h h1 i k
    omega
  refine ⟨?_, ?_, hx⟩
  · have : spanV S 0 k ∈ collL (spnS S k S.length) := (hm _).2 (List.mem_map.2 ⟨0, List.mem_range.2 (by omega), rfl⟩)
    exact List.length_pos_of_mem this
  · have := asc_len (collL_asc (spnS S k S.length)).1 hx
    omega

set_option maxRecDepth 100000 in
set_option maxHeartbeats 1000000 in
theorem impl_IsEven_any (N : Nat) (A : Option Addr) (cap : Nat) (bs : List Int) (w : World) (hA : Ints w w.heap.size A bs) (hok : RhOk N bs) :
    Calls Try.prog 16 #[.agg #[.int .i64 N, .slice A bs.length cap]] w fun e w' => e = .returned (.bool (evnB (stepsL N bs))) ∧ Below w.heap.size w w' := by
  have hn1 : 1 ≤ (N : Int) := hok.1
  have hn2 : (N : Int) ≤ 24 := hok.2.1
  have hr : rhB N bs = true := rhB_iff.2 hok
  have HR := Lib.hid (fun V h => impl_RhythmOk_any N A cap bs V (by unfold Fits; omega) h)
  have HS := Lib.hid (fun V h k (hp : 1 ≤ bs.length) (hk : k ≤ bs.length) => impl_SpanSizes_any N A cap bs k V h hok hp hk)
  have hbl : bs.length ≤ 24 := by have := hok.len; omega
  have hsl := stepsL_len N bs
  have HSB := Lib.hid (fun (hp : 1 ≤ bs.length) k (hk : k ≤ 24) => spnS_fit (S := stepsL N bs) (by omega) (fun i hi => by
    have := stepsK_fit hok _ (Nat.le_refl _) ((stepsL N bs).getD i 0) (by
      rw [List.getD_eq_getElem?_getD, List.getElem?_eq_getElem hi]; exact List.getElem_mem hi)
    omega) k hk)
  have HE := Lib.hid (evnB_def (stepsL N bs))
  rw [hr] at HR
  have HA := Lib.hid hA
  have hal := (Below.refl w.heap.size w).alloc (Nat.le_refl _) (.cells #[.int .i64 N, .slice A bs.length cap] 26)
  have HC0 := Lib.hid (Cells2.new w (.int .i64 N) (.slice A bs.length cap) 26)
  have HB0 := Lib.hid hal
  clear hA hok hr hal
  generalize stepsL N bs = S at *
  go_enter Try.func16, Try.ntmps16
  go_wp2_with fail
  generalize w.alloc (.cells #[.int .i64 N, .slice A bs.length cap] 26) = w0 at *
  obtain ⟨c0, c1, _, _, _⟩ := HC0.out
  refine (HR.out _ (HA.out.lift HB0.out)).mono ?_
  rintro e w1 ⟨rfl, hb1⟩
  have HB1 := Lib.hid (HB0.out.trans (hb1.mono HB0.out.size))
  have HC1 := Lib.hid (HC0.out.below hb1 HC0.out.2.2.2.2)
  clear c0 c1 hb1
  obtain ⟨c0, c1, _, _, _⟩ := HC1.out
  obtain ⟨q, hq⟩ : ∃ q, w.heap.size = q := ⟨_, rfl⟩
  rw [hq] at HC1 c0 c1
  have HQ := Lib.hid hq
  go_wp2_with fail
  try rw [hq]
  clear hq
  go_loopw [3] (fun i wr => ∃ k : Nat, 1 ≤ k ∧ (k = 1 ∨ k ≤ bs.length) ∧ i = .int .i64 k ∧ (∀ j, 1 ≤ j → j < k → evT S j = true) ∧ Cells2 wr q (.int .i64 N) (.slice A bs.length cap) ∧ Below w.heap.size w wr) (fun i _ => bs.length - (intOf i).toNat)
  case atStart => exact ⟨1, Nat.le_refl _, .inl rfl, rfl, fun j h1 h2 => by omega, HC1.out, HB1.out⟩
  case round =>
    obtain ⟨k, hk1, hk2, rfl, hall, hcel, hbel⟩ := hrel
    obtain ⟨wo, rfl⟩ : ∃ wo : World, wo = wr := ⟨_, rfl⟩
    have HALL := Lib.hid hall
    have HC := Lib.hid hcel
    have HB := Lib.hid hbel
    clear c0 c1 hall hcel hbel
    obtain ⟨c0, c1, _, _, _⟩ := HC.out
    by_cases hlt : k < bs.length
    · have hki : (k : Int) < (bs.length : Int) := by omega
      have HIA := Lib.hid (HA.out.lift HB.out)
      have hwk : IntKind.i64.wrap ((k : Int) + 1) = (k : Int) + 1 := i64w (by omega)
      go_wp2_with fail
      refine (HS.out _ HIA.out k (by omega) (by omega)).mono ?_
      rintro e w2 ⟨v, rfl, ho, hb2⟩
      obtain ⟨A2, c2, rfl⟩ := ho.form
      obtain ⟨hf1, hf2, hf3⟩ := HSB.out (by omega) k (by omega)
      have HI2 := Lib.hid (ho.ints (fun x hx => by have := hf3 x hx; unfold Fits; omega))
      have HC2 := Lib.hid (HC.out.below hb2 HC.out.2.2.2.2)
      have HB2 := Lib.hid (HB.out.trans (hb2.mono HB.out.size))
      have HET := Lib.hid (show evT S k = decide ((collL (spnS S k S.length)).getD ((collL (spnS S k S.length)).length - 1) 0 - (collL (spnS S k S.length)).getD 0 0 ≤ 1) from rfl)
      have hg1 := hf3 ((collL (spnS S k S.length)).getD ((collL (spnS S k S.length)).length - 1) 0) (getE_mem (by omega))
      have hg2 := hf3 ((collL (spnS S k S.length)).getD 0 0) (getE_mem (by omega))
      clear ho hb2 c0 c1 hf3
      obtain ⟨c0, c1, _, _, _⟩ := HC2.out
      obtain ⟨L, hL⟩ : ∃ L, collL (spnS S k S.length) = L := ⟨_, rfl⟩
      rw [hL] at hf1 hf2 HI2 HET hg1 hg2 ⊢
      clear hL
      obtain ⟨bL, oL, rfl, hbL, hcL⟩ := HI2.out.2.2 hf1
      have hx := hcL (L.length - 1) (by omega)
      have hy := hcL 0 hf1
      obtain ⟨x, hx'⟩ : ∃ x, L.getD (L.length - 1) 0 = x := ⟨_, rfl⟩
      obtain ⟨y, hy'⟩ : ∃ y, L.getD 0 0 = y := ⟨_, rfl⟩
      rw [hx'] at hx HET hg1
      rw [hy'] at hy HET hg2
      rw [Nat.add_zero] at hy
      have hw1 : IntKind.i64.wrap ((L.length : Int) - 1) = ((L.length - 1 : Nat) : Int) := by rw [Int.natCast_sub (by omega)]; exact i64w (by omega)
      have hw2 : IntKind.i64.wrap (x - y) = x - y := i64w (by omega)
      have hi1 : ((L.length - 1 : Nat) : Int) < (L.length : Int) := by omega
      have hi0 : (0 : Int) ≤ ((L.length - 1 : Nat) : Int) := Int.natCast_nonneg _
      have hi2 : (0 : Int) < (L.length : Int) := by omega
      clear hx' hy' hcL
      by_cases hle : x - y ≤ 1
      · have hgt : ¬ 1 < x - y := by omega
        have hgd : decide (1 < x - y) = false := decide_eq_false hgt
        have HT := Lib.hid (show evT S k = true by rw [HET.out]; exact decide_eq_true hle)
        go_wp2_with fail
        try go_quiet (fail)
        try go_wp2_with fail
        go_roundw
        case rel => exact ⟨k + 1, by omega, by omega, by go_num, fun j h1 h2 => by
          by_cases e : j = k
          · rw [e]; exact HT.out
          · exact HALL.out j h1 (by omega), by first | exact HC2.out | exact HC2.out.drewN_ _, by first | exact HB2.out | exact Below.drewN_ HB2.out _⟩
        case measure => simp [intOf]; omega
      · have hgt : 1 < x - y := by omega
        have hgd : decide (1 < x - y) = true := decide_eq_true hgt
        have HT := Lib.hid (show evT S k = false by rw [HET.out]; exact decide_eq_false hle)
        have HF := Lib.hid (show evnB S = false from Bool.eq_false_iff.2 fun h => by
          have := HE.out.1 h k hk1 (by omega)
          rw [HT.out] at this; cases this)
        go_wp2_with fail
        try go_quiet (fail)
        try go_wp2_with fail
        go_ret
        exact ⟨ret_bool HF.out.symm, by first | exact HB2.out | exact Below.drewN_ HB2.out _⟩
    · have hki : ¬ (k : Int) < (bs.length : Int) := by omega
      have HT := Lib.hid (show evnB S = true from HE.out.2 fun j h1 h2 => HALL.out j h1 (by omega))
      go_wp2_with fail
      go_ret
      exact ⟨ret_bool HT.out.symm, HB.out⟩

end Go.Proofs.Ytlejlcnemibgiaa

namespace Go.Proofs.Ytlejlcnemibgiaa
open Go.RowKit
set_option linter.unusedVariables false
set_option linter.unusedSimpArgs false

section
variable {N : Nat} {a : List Int}
theorem step_ext (h : RhOk N a) (hk : 1 ≤ a.length) {m : Nat} (hm : m < a.length) : (stepsL N a).getD m 0 = extB N a (m + 1) - extB N a m := by
  unfold stepsL stepsK
  rw [List.getD_eq_getElem?_getD, List.getElem?_map, List.getElem?_range hm]
  show stepAt N a m = _
  rw [extB_at N a m hm]
  unfold stepAt
  by_cases hl : m + 1 < a.length
  · rw [if_pos hl, show (m : Int) + 1 = ((m + 1 : Nat) : Int) by omega, extB_at N a (m + 1) hl]
  · rw [if_neg hl]
    have := extB_perd N a hk 0
    rw [show (0 : Int) + a.length = m + 1 by omega] at this
    have e0 := extB_at N a 0 (by omega)
    rw [show ((0 : Nat) : Int) = 0 from rfl] at e0
    omega
theorem span_ext (h : RhOk N a) (hk : 1 ≤ a.length) (i : Nat) : ∀ j, spanV (stepsL N a) i j = extB N a (i + j) - extB N a i
  | 0 => by unfold spanV; rw [show (i : Int) + (0 : Nat) = i by simp]; omega
  | j + 1 => by
    unfold spanV
    rw [span_ext h hk i j, stepsL_len, step_ext h hk (Nat.mod_lt _ (by omega))]
    have hp := extB_perd N a hk
    have e1 := hp.red (i + j)
    have e2 := hp.muli (((i : Int) + j) % a.length + 1) (((i : Int) + j) / a.length)
    rw [show ((i : Int) + j) % a.length + 1 + ((i : Int) + j) / a.length * a.length = i + j + 1 by
      have := Int.emod_add_mul_ediv ((i : Int) + j) a.length
      rw [Int.mul_comm] at this; omega] at e2
    rw [show (((i + j) % a.length : Nat) : Int) = ((i : Int) + j) % a.length by rw [Int.natCast_emod, Int.natCast_add]]
    rw [show (i : Int) + ((j + 1 : Nat) : Int) = i + j + 1 by omega]
    omega
theorem evT_iff {S : List Int} (hS : 1 ≤ S.length) (k : Nat) : evT S k = true ↔ ∀ i j, i < S.length → j < S.length → spanV S i k - spanV S j k ≤ 1 := by
  unfold evT
  obtain ⟨hc, hm⟩ := collL_asc (spnS S k S.length)
  have hin : ∀ i, i < S.length → spanV S i k ∈ collL (spnS S k S.length) := fun i hi => (hm _).2 (List.mem_map.2 ⟨i, List.mem_range.2 hi, rfl⟩)
  have hpos := List.length_pos_of_mem (hin 0 (by omega))
  generalize collL (spnS S k S.length) = C at *
  have hend : ∀ x ∈ C, C.getD 0 0 ≤ x ∧ x ≤ C.getD (C.length - 1) 0 := fun x hx => by
    obtain ⟨t, ht, rfl⟩ := List.getElem_of_mem hx
    rw [List.getD_eq_getElem?_getD, List.getD_eq_getElem?_getD, List.getElem?_eq_getElem hpos, List.getElem?_eq_getElem (by omega : C.length - 1 < C.length)]
    show C[0] ≤ C[t] ∧ C[t] ≤ C[C.length - 1]
    constructor
    · by_cases h0 : t = 0
      · subst h0; exact Int.le_refl _
      · have := List.pairwise_iff_getElem.1 hc 0 t hpos ht (by omega); omega
    · by_cases h0 : t = C.length - 1
      · subst h0; exact Int.le_refl _
      · have := List.pairwise_iff_getElem.1 hc t (C.length - 1) ht (by omega) (by omega); omega
  rw [decide_eq_true_eq]
  constructor
  · intro h i j hi hj
    have := hend _ (hin i hi)
    have := hend _ (hin j hj)
    omega
  · intro h
    obtain ⟨i, hi, e1⟩ := List.mem_map.1 ((hm _).1 (getE_mem (L := C) (i := C.length - 1) (by omega)))
    obtain ⟨j, hj, e2⟩ := List.mem_map.1 ((hm _).1 (getE_mem (L := C) (i := 0) hpos))
    have := h i j (List.mem_range.1 hi) (List.mem_range.1 hj)
    omega

theorem sigN_shiftN (f : Int → Int) (k : Nat) (n : Int) (hf : ∀ t, f (t + k) = f t + n) : ∀ j : Nat, sigN (fun i => f (i + j)) k = sigN (fun i => f i) k + j * n
  | 0 => by
    rw [show ((0 : Nat) : Int) * n = 0 by simp, Int.add_zero]
    exact sigN_congr fun i _ => by rw [show (i : Int) + (0 : Nat) = i by simp]
  | j + 1 => by
    have ih := sigN_shiftN f k n hf j
    have h1 := sigN_shift (fun i : Nat => f (i + j)) k
    have e : sigN (fun i : Nat => f (((i + 1 : Nat) : Int) + j)) k = sigN (fun i : Nat => f (i + ((j + 1 : Nat) : Int))) k := sigN_congr fun i _ => by
      rw [show ((i + 1 : Nat) : Int) + j = i + ((j + 1 : Nat) : Int) by omega]
    rw [← e]
    have h2 := hf j
    have h3 : ((j + 1 : Nat) : Int) * n = j * n + n := by rw [Int.natCast_add, Int.add_mul]; simp
    have e2 : f (((0 : Nat) : Int) + j) = f j := by rw [show ((0 : Nat) : Int) + j = j by simp]
    have e3 : f ((k : Int) + j) = f (j + k) := by rw [Int.add_comm]
    have h1' : sigN (fun i : Nat => f (((i + 1 : Nat) : Int) + j)) k = sigN (fun i : Nat => f (i + j)) k - f (((0 : Nat) : Int) + j) + f ((k : Int) + j) := h1
    rw [h1', e2, e3]
    omega
theorem sigN_sub (f g : Nat → Int) : ∀ m, sigN (fun i => f i - g i) m = sigN f m - sigN g m
  | 0 => rfl
  | m + 1 => by unfold sigN; rw [sigN_sub f g m]; omega
theorem sigN_top {f : Nat → Int} {D : Int} : ∀ {m : Nat}, (∀ i, i < m → f i ≤ D + 1) → (∃ i, i < m ∧ f i = D) → sigN f m ≤ m * (D + 1) - 1
  | 0, _, ⟨i, hi, _⟩ => by omega
  | m + 1, h, ⟨i, hi, e⟩ => by
    unfold sigN
    have hm : ((m + 1 : Nat) : Int) * (D + 1) = m * (D + 1) + (D + 1) := by rw [Int.natCast_add, Int.add_mul]; simp
    by_cases him : i = m
    · subst him
      have := sigN_bnd (f := f) (B := D + 1) (m := i) (fun j hj => h j (by omega))
      omega
    · have := sigN_top (f := f) (D := D) (m := m) (fun j hj => h j (by omega)) ⟨i, by omega, e⟩
      have := h m (by omega)
      omega

/-- An even rhythm, read on from some beat, goes as the even rhythm. -/
theorem ev_go (h : RhOk N a) (hk : 1 ≤ a.length) (hev : evnB (stepsL N a) = true) : ∃ t0 : Nat, t0 < a.length ∧ ∀ t : Int, extB N a (t0 + t) = extB N a t0 + t * N / a.length := by
  have hp := extB_perd N a hk
  have hE : ∀ j : Nat, j < a.length → ∀ s t : Nat, s < a.length → t < a.length → (extB N a (s + j) - extB N a s) - (extB N a (t + j) - extB N a t) ≤ 1 := fun j hj s t hs ht => by
    by_cases h0 : j = 0
    · subst h0
      rw [show (s : Int) + (0 : Nat) = s by simp, show (t : Int) + (0 : Nat) = t by simp]; omega
    · have h1 := (evT_iff (S := stepsL N a) (by rw [stepsL_len]; exact hk) j).1 ((evnB_def _).1 hev j (by omega) (by rw [stepsL_len]; exact hj)) s t (by rw [stepsL_len]; exact hs) (by rw [stepsL_len]; exact ht)
      rw [span_ext h hk, span_ext h hk] at h1
      exact h1
  generalize hK : a.length = K at *
  obtain ⟨t0, ht0⟩ : ∃ t0, bestK (fun i => (i : Int) * N - K * extB N a i) K = t0 := ⟨_, rfl⟩
  have hlt : t0 < K := by rw [← ht0]; exact bestK_lt _ K hk
  have hbest : ∀ i, i < K → (t0 : Int) * N - K * extB N a t0 ≤ (i : Int) * N - K * extB N a i := fun i hi => by
    have := bestK_le (fun i => (i : Int) * N - K * extB N a i) K i hi
    rw [ht0] at this
    exact this
  have hub : ∀ u : Int, K * extB N a u - u * N ≤ K * extB N a t0 - t0 * N := fun u => by
    have h0 := Int.emod_nonneg u (show (K : Int) ≠ 0 by omega)
    have h1 := Int.emod_lt_of_pos u (show (0 : Int) < K by omega)
    have h2 := hp.red u
    have h3 := Int.emod_add_mul_ediv u K
    obtain ⟨i, hi⟩ := Int.eq_ofNat_of_zero_le h0
    have h4 := hbest i (by omega)
    rw [hi] at h2 h3
    have h5 : (K : Int) * (extB N a i + u / K * N) = K * extB N a i + K * (u / K) * N := by rw [Int.mul_add, Int.mul_assoc]
    have h6 : u * (N : Int) = i * N + K * (u / K) * N := by rw [← Int.add_mul, h3]
    rw [h2, h5, h6]
    omega
  refine ⟨t0, hlt, ?_⟩
  have small : ∀ j : Nat, j < K → extB N a (t0 + j) = extB N a t0 + j * N / K := fun j hj => by
    obtain ⟨D, hD⟩ : ∃ D, extB N a (t0 + j) - extB N a t0 = D := ⟨_, rfl⟩
    have hsum : sigN (fun i : Nat => extB N a (i + j) - extB N a i) K = j * N := by
      rw [sigN_sub, sigN_shiftN (extB N a) K N hp j]; omega
    have htop := sigN_top (f := fun i : Nat => extB N a (i + j) - extB N a i) (D := D) (m := K) (fun i hi => by
      have := hE j hj i t0 hi hlt; omega) ⟨t0, hlt, hD⟩
    rw [hsum] at htop
    have hu := hub (t0 + j)
    have x1 : ((t0 : Int) + j) * N = t0 * N + j * N := Int.add_mul _ _ _
    have x2 : (K : Int) * extB N a (t0 + j) = K * extB N a t0 + K * D := by rw [← Int.mul_add]; congr 1; omega
    have x3 : (K : Int) * (D + 1) = K * D + K := by rw [Int.mul_add]; simp
    have hdiv : (j : Int) * N / K = D := by
      refine (Int.ediv_eq_iff_of_pos (by omega)).2 ⟨?_, ?_⟩
      · rw [Int.mul_comm]; omega
      · rw [Int.mul_comm D K]; omega
    omega
  intro t
  have h0 := Int.emod_nonneg t (show (K : Int) ≠ 0 by omega)
  have h1 := Int.emod_lt_of_pos t (show (0 : Int) < K by omega)
  have h3 := Int.emod_add_mul_ediv t K
  obtain ⟨j, hj⟩ := Int.eq_ofNat_of_zero_le h0
  have h2 := hp.muli (t0 + j) (t / K)
  rw [hj] at h3
  rw [show (t0 : Int) + j + t / K * K = t0 + t by rw [Int.mul_comm]; omega, small j (by omega)] at h2
  have h6 : t * (N : Int) = j * N + K * (t / K * N) := by rw [← Int.mul_assoc, ← Int.add_mul, h3]
  rw [h2, h6, Int.add_mul_ediv_left _ _ (by omega)]
  omega
theorem evB_ext {k : Nat} (hk : 1 ≤ k) (t : Int) : extB N (evB N k) t = t * N / k := by
  have hp := extB_perd N (evB N k) (by rw [evB_len]; exact hk)
  rw [evB_len] at hp
  refine Perd.ext hk hp (B := fun t => t * N / k) (fun t => ?_) (fun i hi => ?_) t
  · show (t + k) * (N : Int) / k = t * N / k + N
    rw [Int.add_mul, Int.add_mul_ediv_left _ _ (by omega)]
  · rw [extB_at N _ i (by rw [evB_len]; exact hi)]
    unfold evB
    rw [evL_gen, genL_at hi]
    show (((i * N + 0) / k : Nat) : Int) = i * N / k
    rw [Nat.add_zero, Int.natCast_ediv, Int.natCast_mul]
theorem mem_ext (h : RhOk N a) (hk : 1 ≤ a.length) (x : Int) : x % N ∈ a ↔ ∃ u, extB N a u = x := by
  have hn : (1 : Int) ≤ N := h.1
  constructor
  · intro hm
    obtain ⟨i, hi, e⟩ := mem_at hm
    refine ⟨i + x / N * a.length, ?_⟩
    rw [(extB_perd N a hk).muli, extB_at N a i hi, e]
    have := Int.emod_add_mul_ediv x N
    rw [Int.mul_comm] at this; exact this
  · rintro ⟨u, rfl⟩
    obtain ⟨i, hi, c, _, e⟩ := ext_place (N := N) hk u
    have r := h.2.2.1 i hi
    rw [e, Int.add_mul_emod_self_right, Int.emod_eq_of_lt r.1 r.2, List.getD_eq_getElem?_getD, List.getElem?_eq_getElem hi]
    exact List.getElem_mem hi
theorem rot_mem {b : List Int} {x r : Int} (h0 : 0 ≤ x) (h1 : x < N) : x ∈ rotL N b r ↔ (x - r) % N ∈ b := by
  rw [rotL_mem]
  unfold hasB
  constructor
  · rintro ⟨t, _, hb, rfl⟩
    rwa [decide_eq_true_eq] at hb
  · intro h
    obtain ⟨t, ht⟩ := Int.eq_ofNat_of_zero_le h0
    exact ⟨t, by omega, by rw [decide_eq_true_eq, ← ht]; exact h, ht⟩
/-- Two rhythms with the same turned members are one. -/
theorem rot_of_ext {b : List Int} (ha : RhOk N a) (hb : RhOk N b) (hka : 1 ≤ a.length) (hkb : 1 ≤ b.length) (r : Int) (h : ∀ x, (∃ u, extB N a u = x) ↔ ∃ u, extB N b u + r = x) : a = rotL N b r := by
  refine asc_unique (rhok_asc ha) (rotL_sorted N b r) fun x => ?_
  have key : ∀ x : Int, 0 ≤ x → x < N → (x ∈ a ↔ x ∈ rotL N b r) := fun x h0 h1 => by
    rw [rot_mem h0 h1, mem_ext hb hkb]
    have e := mem_ext ha hka x
    rw [Int.emod_eq_of_lt h0 h1] at e
    rw [e, h]
    constructor
    · rintro ⟨u, hu⟩; exact ⟨u, by omega⟩
    · rintro ⟨u, hu⟩; exact ⟨u, by omega⟩
  constructor
  · intro hx
    have := rhok_range ha x hx
    exact (key x this.1 this.2).1 hx
  · intro hx
    obtain ⟨t, ht, _, rfl⟩ := rotL_mem.1 hx
    exact (key _ (by omega) (by omega)).2 hx
theorem ev_rot (h : RhOk N a) (hk : 1 ≤ a.length) (hev : evnB (stepsL N a) = true) : ∃ r : Nat, r < N ∧ a = rotL N (evB N a.length) r := by
  have hn1 : 1 ≤ N := by have := h.1; omega
  have hn2 : N ≤ 24 := by have := h.2.1; omega
  obtain ⟨t0, ht0, hgo⟩ := ev_go h hk hev
  have r0 := ext_range h t0 ht0
  obtain ⟨r, hr⟩ := Int.eq_ofNat_of_zero_le r0.1
  have hbl : a.length ≤ N := rhok_len h
  refine ⟨r, by omega, rot_of_ext h (evB_ok hn1 hn2 hbl) hk (by rw [evB_len]; exact hk) r fun x => ?_⟩
  constructor
  · rintro ⟨u, rfl⟩
    refine ⟨u - t0, ?_⟩
    have := hgo (u - t0)
    rw [show (t0 : Int) + (u - t0) = u by omega] at this
    rw [evB_ext hk, this]; omega
  · rintro ⟨u, rfl⟩
    refine ⟨t0 + u, ?_⟩
    rw [hgo, evB_ext hk]; omega

/-- Two rhythms with the same turned members go alike from some beat on. -/
theorem ext_align {b : List Int} (ha : RhOk N a) (hb : RhOk N b) (hka : 1 ≤ a.length) (hkb : 1 ≤ b.length) (r : Int) (h : ∀ x, (∃ u, extB N a u = x) ↔ ∃ u, extB N b u + r = x) : ∃ s : Int, ∀ t : Nat, extB N a t = extB N b (s + t) + r := by
  obtain ⟨s, hs⟩ := (h _).1 ⟨0, rfl⟩
  refine ⟨s, fun t => ?_⟩
  induction t with
  | zero => rw [show s + ((0 : Nat) : Int) = s by simp]; exact hs.symm
  | succ t ih =>
    have lt_iff : ∀ {c : List Int}, RhOk N c → 1 ≤ c.length → ∀ u v : Int, extB N c u < extB N c v → u < v := fun hc hkc u v huv => by
      apply Classical.byContradiction
      intro hn
      have := ext_ge hc hkc (show v ≤ u by omega)
      omega
    have e1 : ((t + 1 : Nat) : Int) = t + 1 := by omega
    have e2 : s + ((t + 1 : Nat) : Int) = s + t + 1 := by omega
    rw [e2, e1]
    obtain ⟨v, hv⟩ := (h (extB N a (t + 1))).1 ⟨_, rfl⟩
    obtain ⟨u, hu⟩ := (h (extB N b (s + t + 1) + r)).2 ⟨_, rfl⟩
    have a1 := ext_step ha hka t
    have b1 := ext_step hb hkb (s + t)
    have l1 := lt_iff hb hkb (s + t) v (by omega)
    have l2 := lt_iff ha hka t u (by omega)
    have g1 := ext_ge hb hkb (show s + t + 1 ≤ v by omega)
    have g2 := ext_ge ha hka (show (t : Int) + 1 ≤ u by omega)
    omega
theorem rot_ext {b : List Int} (hb : RhOk N b) (hkb : 1 ≤ b.length) (r : Int) (x : Int) : (∃ u, extB N (rotL N b r) u = x) ↔ ∃ u, extB N b u + r = x := by
  obtain ⟨ho, hl⟩ := rotL_ok hb r
  have hn : (1 : Int) ≤ N := hb.1
  rw [← mem_ext ho (by omega), rot_mem (Int.emod_nonneg _ (by omega)) (Int.emod_lt_of_pos _ (by omega))]
  have e : (x % N - r) % (N : Int) = (x - r) % N := by rw [Int.emod_sub_emod]
  rw [e, mem_ext hb hkb]
  constructor
  · rintro ⟨u, hu⟩; exact ⟨u, by omega⟩
  · rintro ⟨u, hu⟩; exact ⟨u, by omega⟩
theorem rot_even (hn1 : 1 ≤ N) (hn2 : N ≤ 24) {k : Nat} (hk : k ≤ N) (r : Int) : evnB (stepsL N (rotL N (evB N k) r)) = true := by
  have heo := evB_ok hn1 hn2 hk
  obtain ⟨ho, hl⟩ := rotL_ok heo r
  rw [evB_len] at hl
  rw [evnB_def]
  intro j h1 h2
  rw [stepsL_len, hl] at h2
  have hk1 : 1 ≤ k := by omega
  obtain ⟨s, hs⟩ := ext_align ho heo (by omega) (by rw [evB_len]; exact hk1) r (rot_ext heo (by rw [evB_len]; exact hk1) r)
  rw [evT_iff (by rw [stepsL_len, hl]; exact hk1)]
  intro i i' _ _
  rw [span_ext ho (by omega), span_ext ho (by omega)]
  have key : ∀ i : Nat, j * N / k ≤ extB N (rotL N (evB N k) r) (i + j) - extB N (rotL N (evB N k) r) i ∧ extB N (rotL N (evB N k) r) (i + j) - extB N (rotL N (evB N k) r) i ≤ j * N / k + 1 := fun i => by
    have x1 := hs (i + j)
    rw [Int.natCast_add] at x1
    rw [x1, hs i, evB_ext hk1, evB_ext hk1]
    obtain ⟨p, hp⟩ : ∃ p, (s + (i : Int)) * N = p := ⟨_, rfl⟩
    obtain ⟨q, hq⟩ : ∃ q, (j : Int) * N = q := ⟨_, rfl⟩
    have e : (s + ((i : Int) + j)) * N = p + q := by rw [← hp, ← hq, ← Int.add_mul]; congr 1; omega
    rw [e, hp, hq]
    have a1 := Int.emod_add_mul_ediv p k
    have a2 := Int.emod_add_mul_ediv q k
    have a3 := Int.emod_add_mul_ediv (p + q) k
    have b1 := Int.emod_nonneg p (show (k : Int) ≠ 0 by omega)
    have b2 := Int.emod_nonneg q (show (k : Int) ≠ 0 by omega)
    have b3 := Int.emod_nonneg (p + q) (show (k : Int) ≠ 0 by omega)
    have c1 := Int.emod_lt_of_pos p (show (0 : Int) < k by omega)
    have c2 := Int.emod_lt_of_pos q (show (0 : Int) < k by omega)
    have c3 := Int.emod_lt_of_pos (p + q) (show (0 : Int) < k by omega)
    obtain ⟨X, hX⟩ : ∃ X, p / (k : Int) = X := ⟨_, rfl⟩
    obtain ⟨Y, hY⟩ : ∃ Y, q / (k : Int) = Y := ⟨_, rfl⟩
    obtain ⟨Z, hZ⟩ : ∃ Z, (p + q) / (k : Int) = Z := ⟨_, rfl⟩
    rw [hX] at a1 ⊢; rw [hY] at a2 ⊢; rw [hZ] at a3 ⊢
    have d : (k : Int) * (Z - X - Y) = p % k + q % k - (p + q) % k := by rw [Int.mul_sub, Int.mul_sub]; omega
    have f1 : ¬ Z - X - Y ≤ -1 := fun hn => by
      have := Int.mul_le_mul_of_nonneg_left hn (show (0 : Int) ≤ k by omega); omega
    have f2 : ¬ 2 ≤ Z - X - Y := fun hn => by
      have := Int.mul_le_mul_of_nonneg_left hn (show (0 : Int) ≤ k by omega); omega
    omega
  have := key i
  have := key i'
  omega

/-- The fewest moves to an even rhythm. -/
theorem few_ok (h : RhOk N a) : RhOk N (fewX N a) ∧ (fewX N a).length = a.length ∧ evnB (stepsL N (fewX N a)) = true ∧ (farV N a (fewX N a) = 0 ↔ evnB (stepsL N a) = true) := by
  have hn1 : 1 ≤ N := by have := h.1; omega
  have hn2 : N ≤ 24 := by have := h.2.1; omega
  have hbl : a.length ≤ N := rhok_len h
  have heo := evB_ok hn1 hn2 hbl
  obtain ⟨ho, hl⟩ := rotL_ok heo (fewK N a : Int)
  rw [evB_len] at hl
  have hev := rot_even hn1 hn2 hbl (fewK N a : Int)
  refine ⟨ho, hl, hev, fun hz => ?_, fun he => ?_⟩
  · have e : a = fewX N a := farV_zero h ho hl.symm hz
    rw [e]; exact hev
  · by_cases hk : 1 ≤ a.length
    · obtain ⟨r, hr, e⟩ := ev_rot h hk he
      have hb := bestK_le (fun k => farV N a (rotL N (evB N a.length) (k : Int))) N r hr
      have h0 : farV N a (rotL N (evB N a.length) (r : Int)) = 0 := by
        rw [← e]; exact farV_self h
      have h1 := farV_nonneg N a (fewX N a)
      have h2 : farV N a (fewX N a) ≤ farV N a (rotL N (evB N a.length) (r : Int)) := hb
      omega
    · obtain ⟨s, hs⟩ := farV_ex N a (fewX N a)
      rw [hs]
      unfold farS farG
      rw [show a.length = 0 by omega]; rfl
end

end Go.Proofs.Ytlejlcnemibgiaa

namespace Go.Proofs.Ytlejlcnemibgiaa
open Go.RowKit Go.Shelf Go.Sort
set_option linter.unusedVariables false
set_option linter.unusedSimpArgs false

def movS (N : Nat) (bs : List Int) (m : Nat) : List (Int × List Int) := (insL N bs m).map fun x => ((N : Int), x)
theorem insL_succ (N : Nat) (bs : List Int) (m : Nat) : insL N bs (m + 1) = if hasB bs (mvQ N bs m) then insL N bs m else insF N (insL N bs m) (mvX N bs m) := rfl
theorem movS_yes {N : Nat} {bs : List Int} {m : Nat} (h : hasB bs (mvQ N bs m) = true) : movS N bs (m + 1) = movS N bs m := by
  unfold movS; rw [insL_succ, h, if_pos rfl]
theorem movS_no {N : Nat} {bs : List Int} {m : Nat} (h : hasB bs (mvQ N bs m) = false) : movS N bs (m + 1) = (insF N (insL N bs m) (mvX N bs m)).map fun x => ((N : Int), x) := by
  unfold movS; rw [insL_succ, h, if_neg (by decide)]
theorem insF_len (N : Nat) (out : List (List Int)) (x : List Int) : (insF N out x).length ≤ out.length + 1 := by
  unfold insF
  split
  · omega
  · rw [List.length_append, List.length_cons, List.length_take, List.length_drop]; omega
theorem insL_len (N : Nat) (bs : List Int) : ∀ m, (insL N bs m).length ≤ m
  | 0 => Nat.le_refl _
  | m + 1 => by
    have := insL_len N bs m
    rw [insL_succ]
    split
    · omega
    · have := insF_len N (insL N bs m) (mvX N bs m); omega
/-- What the list says of the k-th. -/
theorem key_at {N : Nat} {rs : List RV} {out : List (List Int)} (h : keyR rs = out.map fun x => ((N : Int), x)) : rs.length = out.length ∧ ∀ k (h1 : k < rs.length) (h2 : k < out.length), rs[k].n = N ∧ rs[k].xs = out[k] := by
  have hl := congrArg List.length h
  rw [keyR_len, List.length_map] at hl
  refine ⟨hl, fun k h1 h2 => ?_⟩
  have := congrArg (fun l => l[k]?) h
  simp only [keyR, List.getElem?_map, List.getElem?_eq_getElem h1, List.getElem?_eq_getElem h2, Option.map_some, Option.some.injEq, Prod.mk.injEq] at this
  exact this
theorem key_ins {N : Nat} {rs : List RV} {out : List (List Int)} {x : List Int} (r : RV) (hn : r.n = N) (hx : r.xs = x) (h : keyR rs = out.map fun x => ((N : Int), x)) (hne : out[posF N out x]? ≠ some x) :
    keyR (rs.take (posF N out x) ++ [r] ++ rs.drop (posF N out x)) = (insF N out x).map fun x => ((N : Int), x) := by
  unfold insF
  rw [if_neg hne]
  unfold keyR at h ⊢
  have h1 : (rs.take (posF N out x)).map (fun r => (r.n, r.xs)) = (out.take (posF N out x)).map fun x => ((N : Int), x) := by rw [List.map_take, List.map_take, h]
  have h2 : (rs.drop (posF N out x)).map (fun r => (r.n, r.xs)) = (out.drop (posF N out x)).map fun x => ((N : Int), x) := by rw [List.map_drop, List.map_drop, h]
  rw [List.map_append, List.map_append, h1, h2, List.map_append, List.map_cons, List.append_assoc, List.map_cons, List.map_nil, hn, hx]
  rfl
theorem key_same {N : Nat} {rs : List RV} {out : List (List Int)} {x : List Int} (h : keyR rs = out.map fun x => ((N : Int), x)) (he : out[posF N out x]? = some x) : keyR rs = (insF N out x).map fun x => ((N : Int), x) := by
  unfold insF
  rw [if_pos he]; exact h

/-- A list that is only read, its beats in memory of the call's own. -/
def RetRl (w : World) (L : List (Int × List Int)) (e : Ending) (w' : World) : Prop := ∃ A c rs, e = .returned (.slice A rs.length c) ∧ keyR rs = L ∧ RdR w' w'.heap.size A rs ∧ (∀ r ∈ rs, r.Lies w' w.heap.size) ∧ Below w.heap.size w w'

end Go.Proofs.Ytlejlcnemibgiaa

namespace Go.Proofs.Ytlejlcnemibgiaa
open Go.RowKit Go.Shelf Go.Sort
set_option linter.unusedVariables false
set_option linter.unusedSimpArgs false

theorem ofL_map_self {N : Nat} {a : List Int} (h : RhOk N a) : ofL (mapL 1 0 N a a.length) N = a := by
  have e : mapL 1 0 N a a.length = a := by
    unfold mapL
    rw [List.take_length]
    refine (List.map_congr_left fun x hx => ?_).trans (List.map_id' a)
    have := rhok_range h x hx
    rw [Int.one_mul, Int.add_zero, Int.emod_eq_of_lt this.1 this.2]
  rw [e]
  refine asc_unique (ofL_sorted _ _) (rhok_asc h) fun x => ?_
  rw [ofL_mem]
  constructor
  · rintro ⟨t, ht, hb, rfl⟩
    unfold hasB at hb
    rwa [decide_eq_true_eq] at hb
  · intro hx
    have := rhok_range h x hx
    obtain ⟨t, ht⟩ := Int.eq_ofNat_of_zero_le this.1
    exact ⟨t, by omega, by unfold hasB; rw [decide_eq_true_eq, ← ht]; exact hx, ht⟩

end Go.Proofs.Ytlejlcnemibgiaa

namespace Go.Proofs.Ytlejlcnemibgiaa
open Go.RowKit Go.Shelf Go.Sort
set_option linter.unusedVariables false
set_option linter.unusedSimpArgs false

noncomputable def midN (n m : Int) (a b : List Int) : Int := if movedB n m a b = true then n else 0
noncomputable def midX (n m : Int) (a b : List Int) : List Int := if movedB n m a b = true then wayAt n.toNat a b ((farV n a b).toNat / 2) else []

set_option maxRecDepth 100000 in
set_option maxHeartbeats 1000000 in
theorem impl_WayTo_nil (n m : Int) (A B : Option Addr) (ca cb : Nat) (a b : List Int) (w : World) (hn : Fits n) (hm : Fits m) (hA : Ints w w.heap.size A a) (hB : Ints w w.heap.size B b) (hv : movedB n m a b = false) :
    Calls Try.prog 12 #[.agg #[.int .i64 n, .slice A a.length ca], .agg #[.int .i64 m, .slice B b.length cb]] w fun e w' => e = .returned (.slice none 0 0) ∧ Below w.heap.size w w' := by
  have HS := Lib.hid (fun V h1 h2 => hv ▸ impl_areMoved_any n m A B ca cb a b V hn hm h1 h2)
  clear hv
  have hal0 := (Below.refl w.heap.size w).alloc (Nat.le_refl _) (.cells #[.int .i64 n, .slice A a.length ca] 26)
  have hal1 := hal0.alloc hal0.size (.cells #[.int .i64 m, .slice B b.length cb] 26)
  have HC0 := Lib.hid ((Cells2.new w (.int .i64 n) (.slice A a.length ca) 26).alloc (.cells #[.int .i64 m, .slice B b.length cb] 26))
  have HD0 := Lib.hid (Cells2.new_at (w.alloc (.cells #[.int .i64 n, .slice A a.length ca] 26)) (.int .i64 m) (.slice B b.length cb) 26 (w.heap.size + 1) (by simp))
  have HB0 := Lib.hid hal1
  have HIA := Lib.hid (hA.lift hal1)
  have HIB := Lib.hid (hB.lift hal1)
  clear hA hB hal0 hal1
  obtain ⟨c0, c1, _, _, _⟩ := HC0.out
  obtain ⟨d0, d1, _, _, _⟩ := HD0.out
  go_enter Try.func12, Try.ntmps12
  go_wp2_with fail
  refine (HS.out _ HIA.out HIB.out).mono ?_
  rintro e w1 ⟨rfl, hb⟩
  have HB1 := Lib.hid (HB0.out.trans (hb.mono HB0.out.size))
  clear hb
  go_wp2_with fail
  go_ret
  exact ⟨rfl, HB1.out⟩

theorem RV.Lies.rw {r : RV} {w : World} {base : Nat} (h : r.Lies w base) : RW w base r.A r.xs :=
  ⟨h.1, fun hn => ⟨r.b, (h.2.2.2 hn).1, h.2.1, (h.2.2.2 hn).2⟩⟩
theorem way_mid {N : Nat} {a b : List Int} {rs : List RV} {D : Nat} (h : keyR rs = wayP N a b (D + 1)) : rs.length = D + 1 ∧ ∀ (hp : D / 2 < rs.length), rs[D / 2].n = N ∧ rs[D / 2].xs = wayAt N a b (D / 2) := by
  have hl := congrArg List.length h
  rw [keyR_len, wayP_len] at hl
  refine ⟨hl, fun hp => ?_⟩
  have := congrArg (fun l => l[D / 2]?) h
  unfold keyR wayP at this
  simp only [List.getElem?_map, List.getElem?_eq_getElem hp, Option.map_some, List.getElem?_range (show D / 2 < D + 1 by omega), Option.some.injEq, Prod.mk.injEq] at this
  exact this

set_option maxRecDepth 100000 in
set_option maxHeartbeats 2000000 in
theorem impl_MeetInMiddle_any (n m : Int) (A B : Option Addr) (ca cb : Nat) (a b : List Int) (w : World) (hn : Fits n) (hm : Fits m) (hA : Ints w w.heap.size A a) (hB : Ints w w.heap.size B b) :
    Calls Try.prog 14 #[.agg #[.int .i64 n, .slice A a.length ca], .agg #[.int .i64 m, .slice B b.length cb]] w (RetRh2 w (midN n m a b) (midX n m a b) (movedB n m a b)) := by
  cases hv : movedB n m a b
  · have HV := Lib.hid (show midN n m a b = 0 ∧ midX n m a b = [] by unfold midN midX; rw [hv]; exact ⟨rfl, rfl⟩)
    have HV0 := Lib.hid (show wayV n m a b = [] by unfold wayV; rw [hv]; rfl)
    rw [HV.out.1, HV.out.2]
    have HS := Lib.hid (fun V h1 h2 => impl_WayTo_nil n m A B ca cb a b V hn hm h1 h2 (hv))
    clear hv
    have hal0 := (Below.refl w.heap.size w).alloc (Nat.le_refl _) (.cells #[.int .i64 n, .slice A a.length ca] 26)
    have hal1 := hal0.alloc hal0.size (.cells #[.int .i64 m, .slice B b.length cb] 26)
    have hal2 := hal1.alloc hal1.size (.cells #[.int .i64 0, .slice none 0 0] 26)
    have HC0 := Lib.hid (((Cells2.new w (.int .i64 n) (.slice A a.length ca) 26).alloc (.cells #[.int .i64 m, .slice B b.length cb] 26)).alloc (.cells #[.int .i64 0, .slice none 0 0] 26))
    have HD0 := Lib.hid ((Cells2.new_at (w.alloc (.cells #[.int .i64 n, .slice A a.length ca] 26)) (.int .i64 m) (.slice B b.length cb) 26 (w.heap.size + 1) (by simp)).alloc (.cells #[.int .i64 0, .slice none 0 0] 26))
    have HZ0 := Lib.hid (Cells2.new_at ((w.alloc (.cells #[.int .i64 n, .slice A a.length ca] 26)).alloc (.cells #[.int .i64 m, .slice B b.length cb] 26)) (.int .i64 0) (.slice none 0 0) 26 (w.heap.size + 1 + 1) (by simp))
    have HB0 := Lib.hid hal2
    have HIA := Lib.hid (hA.lift hal2)
    have HIB := Lib.hid (hB.lift hal2)
    clear hA hB hal0 hal1 hal2
    obtain ⟨c0, c1, _, _, _⟩ := HC0.out
    obtain ⟨d0, d1, _, _, _⟩ := HD0.out
    obtain ⟨z0, z1, _, _, _⟩ := HZ0.out
    have hnil : ∀ V : World, (binOp .eql 29 (.slice none 0 0) (.slice none 0 0)).run Try.prog V = .ok (.bool true) V := fun V => Lib.run_eql_slice_nil V _ _ none 0 0 0 0 Try.underlying29
    go_enter Try.func14, Try.ntmps14
    go_wp2_with fail
    refine (HS.out _ HIA.out HIB.out).mono ?_
    rintro e w1 ⟨rfl, hb⟩
    have HB1 := Lib.hid (HB0.out.trans (hb.mono HB0.out.size))
    have HZ1 := Lib.hid (HZ0.out.below hb HZ0.out.2.2.2.2)
    clear hb z0 z1 c0 c1 d0 d1
    obtain ⟨z0, z1, z2, z3, _⟩ := HZ1.out
    have HZ2 := Lib.hid ((HZ1.out.set0 (.int .i64 0)).set1 (.slice none 0 0))
    have HF2 := Lib.hid ((HB1.out.setCell (p := ⟨w.heap.size + 1 + 1, 0, none⟩) (by show w.heap.size ≤ w.heap.size + 1 + 1; omega) (.int .i64 0)).setCell (p := ⟨w.heap.size + 1 + 1, 1, none⟩) (by show w.heap.size ≤ w.heap.size + 1 + 1; omega) (.slice none 0 0))
    obtain ⟨y0, y1, _, _, _⟩ := HZ2.out
    go_wp2_with fail
    refine bodyPost_ret (v := .tuple #[.agg #[.int .i64 0, .slice none 0 0], .bool false]) (by simp [results, Try.results14, go_sem, y0, y1]) rfl ?_
    exact ⟨_, _, rfl, ⟨Nat.zero_le _, fun h => absurd h (Nat.lt_irrefl 0)⟩, HF2.out⟩
  · obtain ⟨ha, hb1, hnm, hl⟩ := movedB_yes hv
    subst hnm
    obtain ⟨N, rfl⟩ := Int.eq_ofNat_of_zero_le (show 0 ≤ n by have := ha.1; omega)
    obtain ⟨D, hD⟩ := Int.eq_ofNat_of_zero_le (farV_nonneg N a b)
    have hD2 : D ≤ 576 := by have := farV_small ha hb1 hl; omega
    have HV := Lib.hid (show midN N N a b = N ∧ midX N N a b = wayAt N a b (D / 2) by
      unfold midN midX
      rw [hv, if_pos rfl, if_pos rfl, hD, Int.toNat_natCast, Int.toNat_natCast]
      exact ⟨rfl, rfl⟩)
    rw [HV.out.1, HV.out.2]
    have HS := Lib.hid (fun V h1 h2 => show Calls Try.prog 12 _ V (RetRs V (wayP N a b (D + 1))) by
      have := impl_WayTo_yes N A B ca cb a b V h1 h2 hv
      rw [hD, Int.toNat_natCast] at this
      exact this)
    clear hv ha hb1 hl hD
    have hal0 := (Below.refl w.heap.size w).alloc (Nat.le_refl _) (.cells #[.int .i64 N, .slice A a.length ca] 26)
    have hal1 := hal0.alloc hal0.size (.cells #[.int .i64 N, .slice B b.length cb] 26)
    have hal2 := hal1.alloc hal1.size (.cells #[.int .i64 0, .slice none 0 0] 26)
    have HC0 := Lib.hid (((Cells2.new w (.int .i64 N) (.slice A a.length ca) 26).alloc (.cells #[.int .i64 N, .slice B b.length cb] 26)).alloc (.cells #[.int .i64 0, .slice none 0 0] 26))
    have HD0 := Lib.hid ((Cells2.new_at (w.alloc (.cells #[.int .i64 N, .slice A a.length ca] 26)) (.int .i64 N) (.slice B b.length cb) 26 (w.heap.size + 1) (by simp)).alloc (.cells #[.int .i64 0, .slice none 0 0] 26))
    have HZ0 := Lib.hid (Cells2.new_at ((w.alloc (.cells #[.int .i64 N, .slice A a.length ca] 26)).alloc (.cells #[.int .i64 N, .slice B b.length cb] 26)) (.int .i64 0) (.slice none 0 0) 26 (w.heap.size + 1 + 1) (by simp))
    have HB0 := Lib.hid hal2
    have HIA := Lib.hid (hA.lift hal2)
    have HIB := Lib.hid (hB.lift hal2)
    clear hA hB hal0 hal1 hal2
    obtain ⟨c0, c1, _, _, _⟩ := HC0.out
    obtain ⟨d0, d1, _, _, _⟩ := HD0.out
    obtain ⟨z0, z1, _, _, _⟩ := HZ0.out
    have h2 : ((D : Int) + 1 - 1).tdiv 2 = ((D / 2 : Nat) : Int) := by rw [Int.tdiv_eq_ediv_of_nonneg (by omega)]; omega
    have hw1 : IntKind.i64.wrap ((D : Int) + 1 - 1) = (D : Int) + 1 - 1 := i64w (by omega)
    have hw2 : IntKind.i64.wrap ((D / 2 : Nat) : Int) = ((D / 2 : Nat) : Int) := i64w (by omega)
    have hd1 : ((D : Int) + 1 == 0) = false := beq_eq_false_iff_ne.2 (by omega)
    have hP0 : (0 : Int) ≤ ((D / 2 : Nat) : Int) := by omega
    have hP1 : ((D / 2 : Nat) : Int) < (D : Int) + 1 := by omega
    have hnil : ∀ (V : World) (g c : Nat), (binOp .eql 29 (.slice (some ⟨g, 0, none⟩) (D + 1) c) (.slice none 0 0)).run Try.prog V = .ok (.bool false) V := fun V g c => Lib.run_eql_slice_nil V _ _ (some ⟨g, 0, none⟩) (D + 1) c 0 0 Try.underlying29
    go_enter Try.func14, Try.ntmps14
    go_wp2_with fail
    refine (HS.out _ HIA.out HIB.out).mono ?_
    rintro e w1 ⟨v, rs, rfl, hk, ho, hb⟩
    obtain ⟨hrl, hmid⟩ := way_mid hk
    obtain ⟨A1, k1, rfl⟩ := ho.form
    have hlt : D / 2 < rs.length := by omega
    obtain ⟨e1, e2⟩ := hmid hlt
    have hls := ho.2.1 _ (List.getElem_mem hlt)
    have hcel : ∃ g, A1 = some ⟨g, 0, none⟩ ∧ w1.cell? ⟨g, D / 2 * 2, none⟩ = some (.int .i64 rs[D / 2].n) ∧ w1.cell? ⟨g, D / 2 * 2 + 1, none⟩ = some rs[D / 2].slc := by
      rcases ho.1.2 with ⟨h0, h1⟩ | ⟨g, cap', cur, hv, hge, hh, hnc, hm, hsz, hxs⟩
      · omega
      · have hA : A1 = some ⟨g, 0, none⟩ := by injection hv
        refine ⟨g, hA, ?_⟩
        subst hA
        have t0 := World.ownsRow.cells ho.1 (g := g) rfl _ _ (cellsR_get rs _ hlt).1
        have t1 := World.ownsRow.cells ho.1 (g := g) rfl _ _ (cellsR_get rs _ hlt).2
        rw [Go.WideShapes.add_plain, Nat.zero_add] at t0 t1
        exact ⟨t0, t1⟩
    obtain ⟨g, rfl, m0, m1⟩ := hcel
    have HRW := Lib.hid hls.rw
    generalize rs[D / 2] = s at *
    obtain ⟨n', X', AS, cS, bS⟩ := s
    change n' = (N : Int) at e1
    change X' = _ at e2
    unfold RV.slc at m1
    dsimp only at m0 m1 HRW
    have HE2 := Lib.hid e2
    subst e1
    have HB1 := Lib.hid (HB0.out.trans (hb.mono HB0.out.size))
    have HZ1 := Lib.hid (HZ0.out.below hb HZ0.out.2.2.2.2)
    rw [hrl]
    clear hb z0 z1 c0 c1 d0 d1 hk ho hrl hmid hlt hls e2
    obtain ⟨z0, z1, z2, z3, _⟩ := HZ1.out
    have HZ2 := Lib.hid ((HZ1.out.set0 (.int .i64 N)).set1 (.slice AS X'.length cS))
    have HF2 := Lib.hid ((HB1.out.setCell (p := ⟨w.heap.size + 1 + 1, 0, none⟩) (by show w.heap.size ≤ w.heap.size + 1 + 1; omega) (.int .i64 N)).setCell (p := ⟨w.heap.size + 1 + 1, 1, none⟩) (by show w.heap.size ≤ w.heap.size + 1 + 1; omega) (.slice AS X'.length cS))
    obtain ⟨y0, y1, _, _, _⟩ := HZ2.out
    go_wp2_with fail
    refine bodyPost_ret (v := .tuple #[.agg #[.int .i64 N, .slice AS X'.length cS], .bool true]) (by simp [results, Try.results14, go_sem, y0, y1]) rfl ?_
    rw [← HE2.out]
    exact ⟨_, _, rfl, ((HRW.out.far (p := ⟨w.heap.size + 1 + 1, 0, none⟩) (by show w.heap.size + 1 + 1 < _; simp) _).far (p := ⟨w.heap.size + 1 + 1, 1, none⟩) (by show w.heap.size + 1 + 1 < _; simp) _).mono HB0.out.size, HF2.out⟩

end Go.Proofs.Ytlejlcnemibgiaa

namespace Go.Proofs.Ytlejlcnemibgiaa
open Go.RowKit
set_option linter.unusedVariables false
set_option linter.unusedSimpArgs false

set_option maxRecDepth 100000 in
set_option maxHeartbeats 1000000 in
theorem impl_ShiftedEven_any (n k : Nat) (w : World) (hn1 : 1 ≤ n) (hn2 : n ≤ 24) (hk : k ≤ n) :
    Calls Try.prog 63 #[.int .i64 k, .int .i64 n, .int .i64 0] w (RetRh2 w n (evB n k) true) := by
  have hi1 : inB (n : Int) 1 24 = true := inB_true ⟨by omega, by omega⟩
  have hi2 : inB (k : Int) 0 n = true := inB_true ⟨by omega, by omega⟩
  have hi3 : inB (0 : Int) 0 ((n : Int) - 1) = true := inB_true ⟨by omega, by omega⟩
  have hwn : IntKind.i64.wrap ((n : Int) - 1) = (n : Int) - 1 := i64w (by omega)
  have HEQ := Lib.hid (show evB n k = evL k n 0 k from rfl)
  rw [HEQ.out]
  rcases Nat.eq_zero_or_pos k with rfl | hkp
  · go_enter Try.func63, Try.ntmps63
    go_wp2_with (go_at_call 40; refine (within_any _ _ _ _).mono ?_; rintro e w' ⟨rfl, rfl⟩)
    go_loopw [38] (fun i wr => i = .int .i64 0 ∧ wr = (w.alloc (.cells #[.int .i64 0, .slice none 0 0] 26)).alloc (.cells #[.int .i64 n, .slice none 0 0] 26)) (fun _ _ => 0)
    case atStart => exact ⟨rfl, rfl⟩
    case round =>
      obtain ⟨rfl, rfl⟩ := hrel
      have HC1 := Lib.hid ((Cells2.new w (.int .i64 0) (.slice none 0 0) 26).alloc (.cells #[.int .i64 n, .slice none 0 0] 26))
      have HBE := Lib.hid (((Below.refl w.heap.size w).alloc (Nat.le_refl _) (.cells #[.int .i64 0, .slice none 0 0] 26)).alloc (by first | exact Nat.le_refl _ | (simp; done) | (simp; omega) | omega) (.cells #[.int .i64 n, .slice none 0 0] 26))
      obtain ⟨f0, f1, f2, f3, f4⟩ := HC1.out
      go_wp2_with fail
      refine bodyPost_ret (v := .tuple #[.agg #[.int .i64 n, .slice none 0 0], .bool true]) (by simp [results, Try.results63, go_sem, f0, f1]) rfl ?_
      exact ⟨none, 0, rfl, ⟨Nat.zero_le _, fun h => absurd h (Nat.lt_irrefl 0)⟩, ((Below.refl w.heap.size w).alloc (Nat.le_refl _) (.cells #[.int .i64 n, .slice none 0 0] 26)).alloc (by first | exact Nat.le_refl _ | (simp; done) | (simp; omega) | omega) (.cells #[.int .i64 n, .slice none 0 0] 26)⟩
  have hk0 : ((k : Int) = 0) = False := eq_false (by omega)
  have hk00 : (k = 0) = False := eq_false (by omega)
  have hkz : ((k : Int) == 0) = false := beq_eq_false_iff_ne.2 (by omega)
  go_enter Try.func63, Try.ntmps63
  go_wp2_with (go_at_call 40; refine (within_any _ _ _ _).mono ?_; rintro e w' ⟨rfl, rfl⟩)
  clear hi1 hi2 hi3 hwn
  go_loopw [38] (fun i wr => ∃ (q : Nat) (v : Value), q ≤ k ∧ i = .int .i64 q ∧ Cells2 wr (w.heap.size + 1) (.int .i64 n) v ∧ OwnI wr (w.heap.size + 2) v (evL k n 0 q) ∧ (∃ u1 u2, Cells2 wr w.heap.size u1 u2) ∧ Below w.heap.size w wr ∧ w.heap.size + 2 ≤ wr.heap.size) (fun i _ => k - (intOf i).toNat)
  case atStart =>
    refine ⟨0, .slice none 0 0, Nat.zero_le _, rfl, Cells2.new_at _ _ _ _ _ (by simp), OwnI.nil _ _, ⟨_, _, (Cells2.new w _ _ _).alloc _⟩, ?_, by simp⟩
    exact ((Below.refl _ _).alloc (Nat.le_refl _) _).alloc (by first | exact Nat.le_refl _ | (simp; done) | (simp; omega) | omega) _
  case round =>
    obtain ⟨q, v, hq, rfl, hc2, hown, ⟨u1, u2, hc1⟩, hbel, hsz⟩ := hrel
    obtain ⟨wo, rfl⟩ : ∃ wo : World, wo = wr := ⟨_, rfl⟩
    have HC2 := Lib.hid hc2
    have HC1 := Lib.hid hc1
    have HOW := Lib.hid hown
    have HBE := Lib.hid hbel
    obtain ⟨g0, g1, g2, g3, g4⟩ := HC2.out
    obtain ⟨A1, c1, rfl⟩ := hown.form
    rw [evL_len] at HC2 g1
    clear hc2 hown hbel hc1
    by_cases hlt : q < k
    · have hqn : q * n ≤ 576 := Nat.le_trans (Nat.mul_le_mul (show q ≤ 24 by omega) hn2) (by decide)
      have HSU := Lib.hid (evL_succ k n 0 q)
      have hp0 : (q : Int) * (n : Int) = ((q * n : Nat) : Int) := by push_cast; rfl
      obtain ⟨P, hP⟩ : ∃ P, q * n = P := ⟨_, rfl⟩
      rw [hP] at hp0 hqn HSU
      rw [show P + 0 = P from rfl] at HSU
      obtain ⟨D, hD⟩ : ∃ D, P / k = D := ⟨_, rfl⟩
      rw [hD] at HSU
      have hDl : D ≤ 2000 := by rw [← hD]; exact Nat.le_trans (Nat.div_le_self _ _) (by omega)
      have hw1 : IntKind.i64.wrap ((q : Int) * (n : Int)) = P := by rw [hp0]; exact i64w (by omega)
      have hw2 : IntKind.i64.wrap ((P : Int) + 0) = (P : Int) := by rw [Int.add_zero]; exact i64w (by omega)
      have hw2b : IntKind.i64.wrap (P : Int) = (P : Int) := i64w (by omega)
      have hdv : Int.tdiv (P : Int) k = (D : Int) := by rw [Int.tdiv_eq_ediv_of_nonneg (by omega), ← hD, Int.natCast_ediv]
      have hw3 : IntKind.i64.wrap (D : Int) = D := i64w (by omega)
      have hll : (evL k n 0 q).length ≤ 1048576 := by rw [evL_len]; omega
      clear hP hD
      go_wp2_with fail
      have hal := (Below.refl wo.drew.heap.size wo.drew).alloc (Nat.le_refl _) (.cells #[.int .i64 D] 3)
      have HC3 := Lib.hid ((show Cells2 wo.drew (w.heap.size + 1) (.int .i64 n) (.slice A1 q c1) from HC2.out).below hal g4)
      have HC4 := Lib.hid ((show Cells2 wo.drew w.heap.size u1 u2 from HC1.out).below hal (by show w.heap.size < wo.heap.size; omega))
      have HOW3 := Lib.hid ((OwnI.alloc (show OwnI wo.drew (w.heap.size + 2) (.slice A1 (evL k n 0 q).length c1) (evL k n 0 q) from HOW.out)) (.cells #[.int .i64 D] 3))
      have HBE3 := Lib.hid ((Below.drew5_ HBE.out).trans (hal.mono (show w.heap.size ≤ wo.heap.size by omega)))
      have HNW := Lib.hid (cell_new1 wo.drew (.int .i64 D) 3)
      have hsd : w.heap.size + 2 ≤ wo.drew.heap.size := hsz
      have hzz : w.heap.size + 2 ≤ (wo.drew.alloc (.cells #[.int .i64 D] 3)).heap.size := by rw [World.size_alloc]; omega
      rw [evL_len] at HOW3
      clear hal
      obtain ⟨r0, r1, r2, r3, _⟩ := HC3.out
      go_region_law (refine step_append_int (by rfl) _ _ (by rfl) (w.heap.size + 2) _ (evL k n 0 q) (by rfl) HOW3.out _ D (by rfl) HNW.out hll hzz ?_; intro v' w4 hown4 hb4; obtain ⟨A2, c2, rfl⟩ := hown4.form; obtain ⟨s0, s1, s2, s3, _⟩ := HC3.out.below hb4 (by omega))
      all_goals
        have hl4 : (evL k n 0 q ++ [(D : Int)]).length = (evL k n 0 q).length + 1 := by simp
        rw [hl4] at hown4
        have hz4 := hb4.size
        have HX := Lib.hid ((HC3.out.below hb4 (by omega)).set1 (.slice A2 ((evL k n 0 q).length + 1) c2))
        have HY := Lib.hid ((HC4.out.below hb4 (by omega)).far (p := ⟨w.heap.size + 1, 1, none⟩) (by simp) (.slice A2 ((evL k n 0 q).length + 1) c2))
        have HOW6 := Lib.hid (hown4.far (p := ⟨w.heap.size + 1, 1, none⟩) (by simp) (.slice A2 ((evL k n 0 q).length + 1) c2))
        have HBE6 := Lib.hid ((HBE3.out.trans (hb4.mono (by omega))).setCell (p := ⟨w.heap.size + 1, 1, none⟩) (by simp) (.slice A2 ((evL k n 0 q).length + 1) c2))
        have hz6 : w.heap.size + 2 ≤ (w4.setCell ⟨w.heap.size + 1, 1, none⟩ (.slice A2 ((evL k n 0 q).length + 1) c2)).heap.size := by simp [World.setCell]; omega
        clear hown4 hb4 hl4 r0 r1 r2 r3 s0 s1 s2 s3 g0 g1 g2 g3
        go_wp2_with fail
        go_roundw
        case rel => exact ⟨q + 1, _, by omega, by go_num, HX.out, by rw [HSU.out]; exact HOW6.out, ⟨u1, u2, HY.out⟩, HBE6.out, hz6⟩
        case measure => simp [intOf]; omega
    · have hqe : q = k := by omega
      subst hqe
      obtain ⟨f0, f1, f2, f3, f4⟩ := HC1.out
      rw [evL_len] at HOW
      go_wp2_with fail
      refine bodyPost_ret (v := .tuple #[.agg #[.int .i64 n, .slice A1 q c1], .bool true]) (by simp [results, Try.results63, go_sem, f0, f1]) rfl ?_
      refine ⟨A1, c1, by rw [evL_len], ?_, ?_⟩
      · have hr := ((HOW.out.far (p := ⟨w.heap.size, 0, none⟩) (by simp) (.int .i64 n)).far (p := ⟨w.heap.size, 1, none⟩) (by simp) (.slice A1 q c1))
        have hr2 := OwnI.rw_ (xs := evL q n 0 q) (cap := c1) (A := A1) (by rw [evL_len]; exact hr) (by rw [evL_len]; omega)
        exact hr2.mono (by omega)
      · exact (HBE.out.setCell (Nat.le_refl _) _).setCell (Nat.le_refl _) _

theorem impl_EvenRhythm_any (n k : Nat) (w : World) (hn1 : 1 ≤ n) (hn2 : n ≤ 24) (hk : k ≤ n) :
    Calls Try.prog 38 #[.int .i64 k, .int .i64 n] w (RetRh2 w n (evB n k) true) := by
  have HS := Lib.hid (fun V => impl_ShiftedEven_any n k V hn1 hn2 hk)
  have HC := Lib.hid (Cells2.new w (.int .i64 0) (.slice none 0 0) 26)
  have HB := Lib.hid ((Below.refl w.heap.size w).alloc (Nat.le_refl _) (.cells #[.int .i64 0, .slice none 0 0] 26))
  have HL := Lib.hid (evB_len n k)
  generalize evB n k = L at HS HL ⊢
  go_enter Try.func38, Try.ntmps38
  go_wp2_with fail
  refine (HS.out _).mono ?_
  rintro e w1 ⟨A1, c1, rfl, hrw, hb⟩
  obtain ⟨f0, f1, f2, f3, f4⟩ := HC.out.below hb HC.out.2.2.2.2
  have HB1 := Lib.hid (HB.out.trans (hb.mono HB.out.size))
  have HRW := Lib.hid hrw
  clear hb hrw
  go_wp2_with fail
  refine bodyPost_ret (v := .tuple #[.agg #[.int .i64 n, .slice A1 L.length c1], .bool true]) (by simp [results, Try.results38, go_sem, f0, f1]) rfl ?_
  exact ⟨A1, c1, rfl, (((HRW.out.far (p := ⟨w.heap.size, 0, none⟩) (by simp) _).far (p := ⟨w.heap.size, 1, none⟩) (by simp) _)).mono HB.out.size, (HB1.out.setCell (Nat.le_refl _) _).setCell (Nat.le_refl _) _⟩

end Go.Proofs.Ytlejlcnemibgiaa

namespace Go.Proofs.Ytlejlcnemibgiaa
open Go.RowKit
set_option linter.unusedVariables false
set_option linter.unusedSimpArgs false

theorem RW.rvOf {w : World} {base : Nat} {A : Option Addr} {xs : List Int} (h : RW w base A xs) (q : Nat) (hq : q < w.heap.size) (hb : q ≤ base) (n : Int) (c : Nat) : ∃ b, (RV.mk n xs A c b).Lies w q ∧ (b = q ∨ base ≤ b) := by
  by_cases hn : 0 < xs.length
  · obtain ⟨b, e, hge, ht⟩ := h.2 hn
    exact ⟨b, ⟨h.1, by show q ≤ b; omega, ht.1, fun _ => ⟨e, ht.tabV⟩⟩, .inr hge⟩
  · exact ⟨q, ⟨h.1, Nat.le_refl _, hq, fun h' => absurd h' hn⟩, .inl rfl⟩
theorem RV.Lies.rw' {r : RV} {w : World} {base : Nat} (h : r.Lies w base) : RW w base r.A r.xs :=
  ⟨h.1, fun hn => ⟨r.b, (h.2.2.2 hn).1, h.2.1, (h.2.2.2 hn).2⟩⟩
theorem Cells2.frmY {w w' : World} {g : Nat} {u v : Value} {S : Nat → Prop} (h : Cells2 w g u v) (hf : Frm S w w') (hS : ¬ S g) : Cells2 w' g u v :=
  ⟨(hf.cell h.2.2.2.2 hS).trans h.1, (hf.cell h.2.2.2.2 hS).trans h.2.1, (hf.frozen h.2.2.2.2 hS).trans h.2.2.1, (hf.frozen h.2.2.2.2 hS).trans h.2.2.2.1, Nat.lt_of_lt_of_le h.2.2.2.2 hf.size⟩
theorem rh_fitsE {N : Nat} {bs : List Int} (hok : RhOk N bs) : ∀ x ∈ bs, Fits x := fun x hx => by
  have h1 := rhok_range hok x hx
  have h2 := hok.2.1
  unfold Fits; omega

/-- What a call hands back that hands a rhythm and a number. -/
def RetRhI (w : World) (n : Int) (xs : List Int) (d : Int) (e : Ending) (w' : World) : Prop := ∃ A cap, e = .returned (.tuple #[.agg #[.int .i64 n, .slice A xs.length cap], .int .i64 d]) ∧ RW w' w.heap.size A xs ∧ Below w.heap.size w w'

def fewF (N : Nat) (a : List Int) (k : Nat) : Int := farV N a (rotL N (evB N a.length) (k : Int))

set_option maxRecDepth 100000 in
set_option maxHeartbeats 4000000 in
theorem impl_FewestMoves_any (N : Nat) (A : Option Addr) (ca : Nat) (a : List Int) (w : World) (hA : Ints w w.heap.size A a) (ha : RhOk N a) :
    Calls Try.prog 15 #[.agg #[.int .i64 N, .slice A a.length ca]] w (RetRhI w N (fewX N a) (farV N a (fewX N a))) := by
  have hn1 : 1 ≤ N := by have := ha.1; omega
  have hn2 : N ≤ 24 := by have := ha.2.1; omega
  have hal : a.length ≤ N := rhok_len ha
  have hfn : Fits (N : Int) := by unfold Fits; omega
  have heok := evB_ok hn1 hn2 hal
  have hel := evB_len N a.length
  have hr : rhB N a = true := rhB_iff.2 ha
  have HRO := Lib.hid (fun V h => hr ▸ impl_RhythmOk_any N A ca a V hfn h)
  have HEV := Lib.hid (fun V => impl_EvenRhythm_any N a.length V hn1 hn2 hal)
  have HXL := Lib.hid (fun (k : Nat) => (show RhOk N (rotL N (evB N a.length) (k : Int)) ∧ (rotL N (evB N a.length) (k : Int)).length = a.length from ⟨(rotL_ok heok k).1, (rotL_ok heok k).2.trans hel⟩))
  have HX0 := Lib.hid (show rotL N (evB N a.length) ((0 : Nat) : Int) = evB N a.length from (rotL_same heok 0).2 (fun t ht => by rw [show (t : Int) - 0 = t by omega, Int.emod_eq_of_lt (by omega) (by omega)]))
  have HRT := Lib.hid (fun (k : Nat) (hk : k ≤ 1000) (A1 : Option Addr) (c1 : Nat) V h => impl_rotated_any N A1 c1 (evB N a.length) k V h heok hk)
  have HDI := Lib.hid (fun (k : Nat) (B : Option Addr) (cb : Nat) V h1 h2 => show Calls Try.prog 24 #[.agg #[.int .i64 N, .slice A a.length ca], .agg #[.int .i64 N, .slice B (rotL N (evB N a.length) (k : Int)).length cb]] V (fun e w' => e = .returned (.int .i64 (fewF N a k)) ∧ Below V.heap.size V w') from impl_distance_any N A B ca cb a (rotL N (evB N a.length) (k : Int)) V h1 h2 ha (rotL_ok heok k).1 ((rotL_ok heok k).2.trans hel).symm)
  have HK := Lib.hid (show bestK (fewF N a) N = fewK N a from rfl)
  have HKM := Lib.hid (fun m (hm : 1 ≤ m) => bestK_lt (fewF N a) m hm)
  have HEF := Lib.hid (rh_fitsE heok)
  have HEL := Lib.hid hel
  have HA := Lib.hid hA
  have hal0 := (Below.refl w.heap.size w).alloc (Nat.le_refl _) (.cells #[.int .i64 N, .slice A a.length ca] 26)
  have hal1 := hal0.alloc hal0.size (.cells #[.int .i64 0, .slice none 0 0] 26)
  have HC0 := Lib.hid ((Cells2.new w (.int .i64 N) (.slice A a.length ca) 26).alloc (.cells #[.int .i64 0, .slice none 0 0] 26))
  have HZ0 := Lib.hid (Cells2.new_at (w.alloc (.cells #[.int .i64 N, .slice A a.length ca] 26)) (.int .i64 0) (.slice none 0 0) 26 (w.heap.size + 1) (by simp))
  have HB0 := Lib.hid hal1
  have HI0 := Lib.hid (hA.lift hal1)
  clear hA ha heok hel hr hal0 hal1 hfn
  obtain ⟨c0, c1, _, _, _⟩ := HC0.out
  go_enter Try.func15, Try.ntmps15
  go_wp2_with fail
  refine (HRO.out _ HI0.out).mono ?_
  rintro e w1 ⟨rfl, hb⟩
  have HB1 := Lib.hid (HB0.out.trans (hb.mono HB0.out.size))
  have HC1 := Lib.hid (HC0.out.below hb HC0.out.2.2.2.2)
  have HZ1 := Lib.hid (HZ0.out.below hb HZ0.out.2.2.2.2)
  clear hb c0 c1
  obtain ⟨c0, c1, _, _, _⟩ := HC1.out
  go_wp2_with fail
  refine (HEV.out _).mono ?_
  rintro e w2 ⟨Ae, ce, rfl, hrw, hb⟩
  obtain ⟨q, hq⟩ : ∃ q, w.heap.size = q := ⟨_, rfl⟩
  have HQ := Lib.hid hq
  rw [hq] at HB1 HC1 HZ1 HA ⊢
  clear hq
  have hq1 : q + 2 ≤ w1.heap.size := by have := HZ1.out.2.2.2.2; omega
  have hz2 := hb.size
  obtain ⟨be, hLe, hbe⟩ := hrw.rvOf q (by omega) (by omega) (N : Int) ce
  have hbl : be < w2.heap.size := hLe.2.2.1
  have HB2 := Lib.hid (HB1.out.trans (hb.mono (by omega)))
  have HC2 := Lib.hid (HC1.out.below hb HC1.out.2.2.2.2)
  have HZ2 := Lib.hid (HZ1.out.below hb HZ1.out.2.2.2.2)
  have hal2 := (Below.refl w2.heap.size w2).alloc (Nat.le_refl _) (.cells #[.int .i64 N, .slice Ae (evB N a.length).length ce] 26)
  have hal3 := hal2.alloc hal2.size (.cells #[.int .i64 N, .slice Ae (evB N a.length).length ce] 26)
  have HE2 := Lib.hid (Cells2.new w2 (.int .i64 N) (.slice Ae (evB N a.length).length ce) 26)
  have HE3 := Lib.hid (HE2.out.alloc (.cells #[.int .i64 N, .slice Ae (evB N a.length).length ce] 26))
  have HG3 := Lib.hid (Cells2.new_at (w2.alloc (.cells #[.int .i64 N, .slice Ae (evB N a.length).length ce] 26)) (.int .i64 N) (.slice Ae (evB N a.length).length ce) 26 (w2.heap.size + 1) (by simp))
  have HL3 := Lib.hid (hLe.frm (Frm.pure hal3 (fun _ => False)) (fun h => h))
  have HC3 := Lib.hid (HC2.out.below hal3 HC2.out.2.2.2.2)
  have HZ3 := Lib.hid (HZ2.out.below hal3 HZ2.out.2.2.2.2)
  have HB3 := Lib.hid (HB2.out.trans (hal3.mono (by omega)))
  clear hb hrw hLe hal2 hal3 c0 c1
  obtain ⟨e0, e1, _, _, _⟩ := HE2.out
  obtain ⟨c0, c1, _, _, _⟩ := HC3.out
  go_wp2_with fail
  generalize (w2.alloc (.cells #[.int .i64 N, .slice Ae (evB N a.length).length ce] 26)).alloc (.cells #[.int .i64 N, .slice Ae (evB N a.length).length ce] 26) = w3 at *
  obtain ⟨ge, hge⟩ : ∃ g, w2.heap.size = g := ⟨_, rfl⟩
  rw [hge] at HE2 HE3 HG3 hz2 hbl ⊢
  obtain ⟨E, hE⟩ : ∃ E, evB N a.length = E := ⟨_, rfl⟩
  rw [hE] at HEV HXL HX0 HRT HDI HEF HEL HE3 HG3 HL3 ⊢
  have HEE := Lib.hid hE
  have hgq : q + 2 ≤ ge := by omega
  clear hge hE HE2 e0 e1 c0 c1
  go_loopw [25] (fun i wr => ∃ (j : Nat) (r : RV), j ≤ N ∧ i = .int .i64 j ∧ r.n = N ∧ r.xs = rotL N E (bestK (fewF N a) j : Nat) ∧ r.Lies wr q ∧ (r.b ≠ q + 1 ∧ r.b ≠ ge + 1) ∧ Cells2 wr (ge + 1) (.int .i64 N) r.slc ∧ Cells2 wr ge (.int .i64 N) (.slice Ae E.length ce) ∧ (⟨N, E, Ae, ce, be⟩ : RV).Lies wr q ∧ Cells2 wr q (.int .i64 N) (.slice A a.length ca) ∧ Cells2 wr (q + 1) (.int .i64 0) (.slice none 0 0) ∧ Below q w wr) (fun i _ => N - (intOf i).toNat)
  case atStart => exact ⟨0, ⟨N, E, Ae, ce, be⟩, Nat.zero_le _, rfl, rfl, HX0.out.symm, HL3.out, ⟨by show be ≠ q + 1; omega, by show be ≠ ge + 1; omega⟩, HG3.out, HE3.out, HL3.out, HC3.out, HZ3.out, HB3.out⟩
  case round =>
    obtain ⟨j, r, hj, rfl, hrn, hrx, hrl, hrb, hbest, hec, hel, hac, hzc, hbel⟩ := hrel
    obtain ⟨wo, rfl⟩ : ∃ wo : World, wo = wr := ⟨_, rfl⟩
    have HBS := Lib.hid hbest
    have HEC := Lib.hid hec
    have HELs := Lib.hid hel
    have HAC := Lib.hid hac
    have HZC := Lib.hid hzc
    have HBE := Lib.hid hbel
    have HRL := Lib.hid hrl
    have hgs := hbest.2.2.2.2
    obtain ⟨n', X, AX, cX, bX⟩ := r
    change n' = (N : Int) at hrn
    subst hrn
    change X = _ at hrx
    have HRX := Lib.hid hrx
    dsimp only at hrb
    obtain ⟨c0, c1, _, _, _⟩ := hac
    obtain ⟨e0, e1, _, _, _⟩ := hec
    clear hbest hel hzc hbel hrl hrx
    by_cases hlt : j < N
    · have hI := HELs.out.ints HEF.out
      have HIE := Lib.hid (show Ints wo wo.heap.size Ae E from hI)
      have HRJ := Lib.hid (HRT.out j (by omega) Ae ce)
      have HXJ := Lib.hid (HXL.out j)
      have HDJ := Lib.hid (HDI.out j)
      have HDB := Lib.hid (HDI.out (bestK (fewF N a) j))
      rw [← HRX.out] at HDB
      have HBK := Lib.hid (show bestK (fewF N a) (j + 1) = if fewF N a j < fewF N a (bestK (fewF N a) j) then j else bestK (fewF N a) j from rfl)
      obtain ⟨Y, hY⟩ : ∃ Y, rotL N E (j : Int) = Y := ⟨_, rfl⟩
      have HYY := Lib.hid hY
      rw [hY] at HRJ HXJ HDJ
      obtain ⟨F1, hF1⟩ : ∃ F, fewF N a j = F := ⟨_, rfl⟩
      obtain ⟨F2, hF2⟩ : ∃ F, fewF N a (bestK (fewF N a) j) = F := ⟨_, rfl⟩
      rw [hF1] at HDJ HBK
      rw [hF2] at HDB HBK
      have hji : (j : Int) < (N : Int) := by omega
      clear hI hY hF1 hF2
      go_wp2_with fail
      refine (HRJ.out _ HIE.out).mono ?_
      rintro e w5 ⟨A5, c5, rfl, hrw, hb⟩
      have hz5 := hb.size
      obtain ⟨b5, hL5, hb5⟩ := hrw.rvOf q (by omega) (by omega) (N : Int) c5
      have hal := (Below.refl w5.heap.size w5).alloc (Nat.le_refl _) (.cells #[.int .i64 N, .slice A5 Y.length c5] 26)
      have HF6 := Lib.hid ((Frm.pure hb (fun _ => False)).trans (Frm.pure hal (fun _ => False)))
      have HB6 := Lib.hid ((HBE.out.trans (hb.mono (by omega))).trans (hal.mono (by omega)))
      have HL6 := Lib.hid (hL5.frm (Frm.pure hal (fun _ => False)) (fun h => h))
      have HN6 := Lib.hid (Cells2.new w5 (.int .i64 N) (.slice A5 Y.length c5) 26)
      have hbY : b5 ≠ q + 1 ∧ b5 ≠ ge + 1 := by omega
      clear hb hrw hL5 hal e0 e1 c0 c1
      have HBS6 := Lib.hid (HBS.out.frmY HF6.out (fun h => h))
      have HAC6 := Lib.hid (HAC.out.frmY HF6.out (fun h => h))
      have HRL6 := Lib.hid (HRL.out.frm HF6.out (fun h => h))
      obtain ⟨c0, c1, _, _, _⟩ := HAC6.out
      obtain ⟨n0, n1, _, _, _⟩ := HN6.out
      obtain ⟨g0, g1, _, _, _⟩ := HBS6.out
      unfold RV.slc at g1
      dsimp only at g1
      go_wp2_with fail
      generalize w5.alloc (.cells #[.int .i64 N, .slice A5 Y.length c5] 26) = w6 at *
      obtain ⟨nx, hnx⟩ : ∃ x, w5.heap.size = x := ⟨_, rfl⟩
      rw [hnx] at HN6 n0 n1 hz5 ⊢
      clear hnx
      (refine wp_region_held_drew (S := (fun w' => w'.cell? ⟨q, 0, none⟩ = some (.int .i64 N) ∧ w'.cell? ⟨q, 1, none⟩ = some (.slice A a.length ca) ∧ w'.cell? ⟨nx, 0, none⟩ = some (.int .i64 N) ∧ w'.cell? ⟨nx, 1, none⟩ = some (.slice A5 Y.length c5) ∧ w'.cell? ⟨ge + 1, 0, none⟩ = some (.int .i64 N) ∧ w'.cell? ⟨ge + 1, 1, none⟩ = some (.slice AX X.length cX))) (by kernel_rfl) ?_ (fun hHeld => ?_); (focus ((try dsimp only); exact ⟨c0, c1, n0, n1, g0, g1⟩)))
      have HF7 := Lib.hid (HF6.out.drew)
      have HG7 := Lib.hid ((Frm.refl (fun _ => False) w6).drew)
      have HB7 := Lib.hid (Below.drew5_ HB6.out)
      have hq6 : q ≤ w6.drew.heap.size := by have := HN6.out.2.2.2.2; show q ≤ w6.heap.size; omega
      generalize w6.drew = w7 at *
      have HIA7 := Lib.hid ((HA.out.below HB7.out).mono hq6)
      have HIY7 := Lib.hid ((HL6.out.frm HG7.out (fun h => h)).ints (rh_fitsE HXJ.out.1))
      have HIX7 := Lib.hid ((HRL6.out.frm HG7.out (fun h => h)).ints (show ∀ x ∈ X, Fits x by rw [HRX.out]; exact rh_fitsE (HXL.out _).1))
      (refine wpAnyH_take (i := 0) (v := ?_) rfl (by kernel_rfl) (by kernel_rfl) (by kernel_rfl) (fun _ _ _ h => h) (Or.inl ⟨by rfl, ?_⟩) (by assumption) ?_; rotate_left; (focus (intro wS hSw; (try dsimp only at hSw); go_simp; (try with_reducible rfl))); (try simp only [Act.put, List.getElem_toArray, List.getElem_cons_zero, List.getElem_cons_succ, List.setIfInBounds_toArray, List.set_cons_zero, List.set_cons_succ]))
      (refine wpAnyH_take (i := 1) (v := ?_) rfl (by kernel_rfl) (by kernel_rfl) (by kernel_rfl) (fun _ _ _ h => h) (Or.inl ⟨by rfl, ?_⟩) (by assumption) ?_; rotate_left; (focus (intro wS hSw; (try dsimp only at hSw); go_simp; (try with_reducible rfl))); (try simp only [Act.put, List.getElem_toArray, List.getElem_cons_zero, List.getElem_cons_succ, List.setIfInBounds_toArray, List.set_cons_zero, List.set_cons_succ]))
      (refine wpAnyH_take (i := 3) (v := ?_) rfl (by kernel_rfl) (by kernel_rfl) (by kernel_rfl) (fun _ _ _ h => h) (Or.inl ⟨by rfl, ?_⟩) (by assumption) ?_; rotate_left; (focus (intro wS hSw; (try dsimp only at hSw); go_simp; (try with_reducible rfl))); (try simp only [Act.put, List.getElem_toArray, List.getElem_cons_zero, List.getElem_cons_succ, List.setIfInBounds_toArray, List.set_cons_zero, List.set_cons_succ]))
      (refine wpAnyH_take (i := 4) (v := ?_) rfl (by kernel_rfl) (by kernel_rfl) (by kernel_rfl) (fun _ _ _ h => h) (Or.inl ⟨by rfl, ?_⟩) (by assumption) ?_; rotate_left; (focus (intro wS hSw; (try dsimp only at hSw); go_simp; (try with_reducible rfl))); (try simp only [Act.put, List.getElem_toArray, List.getElem_cons_zero, List.getElem_cons_succ, List.setIfInBounds_toArray, List.set_cons_zero, List.set_cons_succ]))
      (refine wpAnyH_ready (rs := [2]) (by kernel_rfl) (by simp) ?_; refine AllReadyH.cons rfl (fun K hK => ?_) AllReadyH.nil; go_simp)
      go_at_call 24
      refine (HDJ.out _ _ _ HIA7.out HIY7.out).mono ?_
      rintro e w8 ⟨rfl, hb⟩
      have HG8 := Lib.hid (HG7.out.trans (Frm.pure hb (fun _ => False)))
      have HIA8 := Lib.hid (HIA7.out.lift hb)
      have HIX8 := Lib.hid (HIX7.out.lift hb)
      have HB8 := Lib.hid (HB7.out.trans (hb.mono hq6))
      have hq8 := Nat.le_trans hq6 hb.size
      clear hb c0 c1 n0 n1 g0 g1
      have HAC8 := Lib.hid (HAC6.out.frmY HG8.out (fun h => h))
      have HN8 := Lib.hid (HN6.out.frmY HG8.out (fun h => h))
      have HBS8 := Lib.hid (HBS6.out.frmY HG8.out (fun h => h))
      obtain ⟨c0, c1, _, _, _⟩ := HAC8.out
      obtain ⟨n0, n1, _, _, _⟩ := HN8.out
      obtain ⟨g0, g1, _, _, _⟩ := HBS8.out
      unfold RV.slc at g1
      dsimp only at g1
      go_wp2_with fail
      (refine hK.out _ _ ?_ (fun hHeld2 => ?_); (focus ((try dsimp only); exact ⟨c0, c1, n0, n1, g0, g1⟩)); (clear hK K); (try simp only [Act.put, List.getElem_toArray, List.getElem_cons_zero, List.getElem_cons_succ, List.setIfInBounds_toArray, List.set_cons_zero, List.set_cons_succ]))
      (refine wpAnyH_ready (rs := [5]) (by kernel_rfl) (by simp) ?_; refine AllReadyH.cons rfl (fun K hK => ?_) AllReadyH.nil; go_simp)
      go_at_call 24
      refine (HDB.out _ _ _ HIA8.out HIX8.out).mono ?_
      rintro e w9 ⟨rfl, hb⟩
      have HG9 := Lib.hid (HG8.out.trans (Frm.pure hb (fun _ => False)))
      have HB9 := Lib.hid (HB8.out.trans (hb.mono hq8))
      clear hb c0 c1 n0 n1 g0 g1
      have HAC9 := Lib.hid (HAC6.out.frmY HG9.out (fun h => h))
      have HN9 := Lib.hid (HN6.out.frmY HG9.out (fun h => h))
      have HBS9 := Lib.hid (HBS6.out.frmY HG9.out (fun h => h))
      have HEC9 := Lib.hid ((HEC.out.frmY HF6.out (fun h => h)).frmY HG9.out (fun h => h))
      have HEL9 := Lib.hid ((HELs.out.frm HF6.out (fun h => h)).frm HG9.out (fun h => h))
      have HZC9 := Lib.hid ((HZC.out.frmY HF6.out (fun h => h)).frmY HG9.out (fun h => h))
      have HL9 := Lib.hid (HL6.out.frm HG9.out (fun h => h))
      have HRL9 := Lib.hid (HRL6.out.frm HG9.out (fun h => h))
      obtain ⟨c0, c1, _, _, _⟩ := HAC9.out
      obtain ⟨n0, n1, _, _, _⟩ := HN9.out
      obtain ⟨g0, g1, gf0, gf1, _⟩ := HBS9.out
      unfold RV.slc at g1
      dsimp only at g1
      go_wp2_with fail
      (refine hK.out _ _ ?_ (fun hHeld2 => ?_); (focus ((try dsimp only); exact ⟨c0, c1, n0, n1, g0, g1⟩)); (clear hK K); (try simp only [Act.put, List.getElem_toArray, List.getElem_cons_zero, List.getElem_cons_succ, List.setIfInBounds_toArray, List.set_cons_zero, List.set_cons_succ]))
      (refine wpAnyH_take (i := 6) (v := ?_) rfl (by kernel_rfl) (by kernel_rfl) (by kernel_rfl) (fun _ _ _ h => h) (Or.inl ⟨by rfl, ?_⟩) (by assumption) ?_; rotate_left; (focus (intro wS hSw; (try dsimp only at hSw); go_simp; (try with_reducible rfl))); (try simp only [Act.put, List.getElem_toArray, List.getElem_cons_zero, List.getElem_cons_succ, List.setIfInBounds_toArray, List.set_cons_zero, List.set_cons_succ]))
      refine wpAnyH_done (by kernel_rfl) ?_ _
      by_cases hlt2 : F1 < F2
      · rw [if_pos hlt2] at HBK
        have HS9 := Lib.hid ((HBS9.out.set0 (.int .i64 N)).set1 (.slice A5 Y.length c5))
        have HFS := Lib.hid ((Frm.setCell (S := fun c => c = ge + 1) (p := ⟨ge + 1, 0, none⟩) (Frm.refl _ w9) rfl (.int .i64 N)).setCell (p := ⟨ge + 1, 1, none⟩) rfl (.slice A5 Y.length c5))
        go_wp2_with fail
        go_roundw
        case rel => exact ⟨j + 1, ⟨N, Y, A5, c5, b5⟩, by omega, by go_num, rfl, by rw [HBK.out]; exact HYY.out.symm, HL9.out.frm HFS.out (show ¬ b5 = ge + 1 from hbY.2), hbY, HS9.out, HEC9.out.frmY HFS.out (show ¬ ge = ge + 1 by omega), HEL9.out.frm HFS.out (show ¬ be = ge + 1 by omega), HAC9.out.frmY HFS.out (show ¬ q = ge + 1 by omega), HZC9.out.frmY HFS.out (show ¬ q + 1 = ge + 1 by omega), HB9.out.trans (HFS.out.below (B := q) (fun c h => by have h : c = ge + 1 := h; omega) (by have := HAC9.out.2.2.2.2; omega))⟩
        case measure => simp [intOf]; omega
      · rw [if_neg hlt2] at HBK
        go_wp2_with fail
        go_roundw
        case rel => exact ⟨j + 1, ⟨N, X, AX, cX, bX⟩, by omega, by go_num, rfl, by rw [HBK.out]; exact HRX.out, HRL9.out, hrb, HBS9.out, HEC9.out, HEL9.out, HAC9.out, HZC9.out, HB9.out⟩
        case measure => simp [intOf]; omega
    · have hjN : j = N := by omega
      subst hjN
      have HVX := Lib.hid (show fewX j a = X by
        have h1 := HRX.out
        rw [HK.out] at h1
        rw [h1, ← HEE.out]
        rfl)
      have HDB := Lib.hid (HDI.out (bestK (fewF j a) j))
      rw [← HRX.out] at HDB
      have HVF := Lib.hid (show fewF j a (bestK (fewF j a) j) = farV j a (fewX j a) by
        unfold fewX
        rw [HK.out]
        rfl)
      rw [HVF.out] at HDB
      obtain ⟨F, hF⟩ : ∃ F, farV j a (fewX j a) = F := ⟨_, rfl⟩
      have HFF := Lib.hid hF
      rw [hF] at HDB
      obtain ⟨g0, g1, _, _, _⟩ := HBS.out
      unfold RV.slc at g1
      dsimp only at g1
      clear hF e0 e1
      go_wp2_with fail
      (refine wp_region_held_drew (S := (fun w' => w'.cell? ⟨q, 0, none⟩ = some (.int .i64 j) ∧ w'.cell? ⟨q, 1, none⟩ = some (.slice A a.length ca) ∧ w'.cell? ⟨ge + 1, 0, none⟩ = some (.int .i64 j) ∧ w'.cell? ⟨ge + 1, 1, none⟩ = some (.slice AX X.length cX))) (by kernel_rfl) ?_ (fun hHeld => ?_); (focus ((try dsimp only); exact ⟨c0, c1, g0, g1⟩)))
      have HG7 := Lib.hid ((Frm.refl (fun _ => False) wo).drew)
      have HB7 := Lib.hid (Below.drew5_ HBE.out)
      have hq6 : q + 2 ≤ wo.drew.heap.size := by have := HZC.out.2.2.2.2; show q + 2 ≤ wo.heap.size; omega
      generalize wo.drew = w7 at *
      have HIA7 := Lib.hid ((HA.out.below HB7.out).mono (show q ≤ w7.heap.size by omega))
      have HIX7 := Lib.hid ((HRL.out.frm HG7.out (fun h => h)).ints (show ∀ x ∈ X, Fits x by rw [HRX.out]; exact rh_fitsE (HXL.out _).1))
      (refine wpAnyH_take (i := 0) (v := ?_) rfl (by kernel_rfl) (by kernel_rfl) (by kernel_rfl) (fun _ _ _ h => h) (Or.inl ⟨by rfl, ?_⟩) (by assumption) ?_; rotate_left; (focus (intro wS hSw; (try dsimp only at hSw); go_simp; (try with_reducible rfl))); (try simp only [Act.put, List.getElem_toArray, List.getElem_cons_zero, List.getElem_cons_succ, List.setIfInBounds_toArray, List.set_cons_zero, List.set_cons_succ]))
      (refine wpAnyH_take (i := 1) (v := ?_) rfl (by kernel_rfl) (by kernel_rfl) (by kernel_rfl) (fun _ _ _ h => h) (Or.inl ⟨by rfl, ?_⟩) (by assumption) ?_; rotate_left; (focus (intro wS hSw; (try dsimp only at hSw); go_simp; (try with_reducible rfl))); (try simp only [Act.put, List.getElem_toArray, List.getElem_cons_zero, List.getElem_cons_succ, List.setIfInBounds_toArray, List.set_cons_zero, List.set_cons_succ]))
      (refine wpAnyH_take (i := 2) (v := ?_) rfl (by kernel_rfl) (by kernel_rfl) (by kernel_rfl) (fun _ _ _ h => h) (Or.inl ⟨by rfl, ?_⟩) (by assumption) ?_; rotate_left; (focus (intro wS hSw; (try dsimp only at hSw); go_simp; (try with_reducible rfl))); (try simp only [Act.put, List.getElem_toArray, List.getElem_cons_zero, List.getElem_cons_succ, List.setIfInBounds_toArray, List.set_cons_zero, List.set_cons_succ]))
      (refine wpAnyH_ready (rs := [3]) (by kernel_rfl) (by simp) ?_; refine AllReadyH.cons rfl (fun K hK => ?_) AllReadyH.nil; go_simp)
      go_at_call 24
      refine (HDB.out _ _ _ HIA7.out HIX7.out).mono ?_
      rintro e w8 ⟨rfl, hb⟩
      have HG8 := Lib.hid (HG7.out.trans (Frm.pure hb (fun _ => False)))
      have HB8 := Lib.hid (HB7.out.trans (hb.mono (by omega)))
      have hq8 := Nat.le_trans hq6 hb.size
      clear hb c0 c1 g0 g1
      have HAC8 := Lib.hid (HAC.out.frmY HG8.out (fun h => h))
      have HBS8 := Lib.hid (HBS.out.frmY HG8.out (fun h => h))
      have HZC8 := Lib.hid (HZC.out.frmY HG8.out (fun h => h))
      have HRL8 := Lib.hid (HRL.out.frm HG8.out (fun h => h))
      obtain ⟨c0, c1, _, _, _⟩ := HAC8.out
      obtain ⟨g0, g1, _, _, _⟩ := HBS8.out
      obtain ⟨z0, z1, zf0, zf1, _⟩ := HZC8.out
      unfold RV.slc at g1
      dsimp only at g1
      go_wp2_with fail
      (refine hK.out _ _ ?_ (fun hHeld2 => ?_); (focus ((try dsimp only); exact ⟨c0, c1, g0, g1⟩)); (clear hK K); (try simp only [Act.put, List.getElem_toArray, List.getElem_cons_zero, List.getElem_cons_succ, List.setIfInBounds_toArray, List.set_cons_zero, List.set_cons_succ]))
      (refine wpAnyH_ready (rs := [4]) (by kernel_rfl) (by simp) ?_; refine AllReadyH.cons rfl (fun K hK => ?_) AllReadyH.nil; go_simp)
      have HS9 := Lib.hid ((HZC8.out.set0 (.int .i64 j)).set1 (.slice AX X.length cX))
      have HFS := Lib.hid ((Frm.setCell (S := fun c => c = q + 1) (p := ⟨q + 1, 0, none⟩) (Frm.refl _ w8) rfl (.int .i64 j)).setCell (p := ⟨q + 1, 1, none⟩) rfl (.slice AX X.length cX))
      have HAC9 := Lib.hid (HAC8.out.frmY HFS.out (show ¬ q = q + 1 by omega))
      have HBS9 := Lib.hid (HBS8.out.frmY HFS.out (show ¬ ge + 1 = q + 1 by omega))
      have HRL9 := Lib.hid (HRL8.out.frm HFS.out (show ¬ bX = q + 1 from hrb.1))
      have HB9 := Lib.hid (HB8.out.trans (HFS.out.below (B := q) (fun c h => by have h : c = q + 1 := h; omega) (by omega)))
      clear c0 c1 g0 g1 z0 z1
      obtain ⟨c0, c1, _, _, _⟩ := HAC9.out
      obtain ⟨g0, g1, _, _, _⟩ := HBS9.out
      obtain ⟨z0, z1, _, _, _⟩ := HS9.out
      unfold RV.slc at g1
      dsimp only at g1
      (refine hK.out _ _ ?_ (fun hHeld2 => ?_); (focus ((try dsimp only); exact ⟨c0, c1, g0, g1⟩)); (clear hK K); (try simp only [Act.put, List.getElem_toArray, List.getElem_cons_zero, List.getElem_cons_succ, List.setIfInBounds_toArray, List.set_cons_zero, List.set_cons_succ]))
      (refine wpAnyH_take (i := 5) (v := ?_) rfl (by kernel_rfl) (by kernel_rfl) (by kernel_rfl) (fun _ _ _ h => h) (Or.inl ⟨by rfl, ?_⟩) (by assumption) ?_; rotate_left; (focus (intro wS hSw; (try dsimp only at hSw); go_simp; (try with_reducible rfl))); (try simp only [Act.put, List.getElem_toArray, List.getElem_cons_zero, List.getElem_cons_succ, List.setIfInBounds_toArray, List.set_cons_zero, List.set_cons_succ]))
      refine wpAnyH_done (by kernel_rfl) ?_ _
      go_wp2_with fail
      refine bodyPost_ret (v := .tuple #[.agg #[.int .i64 j, .slice AX X.length cX], .int .i64 F]) (by simp [results, Try.results15, go_sem, z0, z1]) rfl ?_
      rw [HFF.out, HVX.out]
      exact ⟨AX, cX, rfl, by rw [HQ.out]; exact HRL9.out.rw', by rw [HQ.out]; exact HB9.out⟩

end Go.Proofs.Ytlejlcnemibgiaa

