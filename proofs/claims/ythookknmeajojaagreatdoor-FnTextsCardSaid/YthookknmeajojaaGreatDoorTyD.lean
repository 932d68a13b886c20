/-
  Several texts of this proof in one: MetI, IRow, MetM.
-/
import Derived.Test.YthookknmeajojaaGreatDoorTyC
import Derived.Test.YthookknmeajojaaGreatDoorRw
import Derived.Test.YthookknmeajojaaGreatDoorFrm
import Derived.Test.YthookknmeajojaaGreatDoorCells
import Derived.Deep.AppendLies
import Derived.Laws.AppendOwnNone
import Derived.Laws.OwnMore
import Derived.Test.YthookknmeajojaaGreatDoorShK
namespace Go.Proofs.YthookknmeajojaaGreatDoor
open Go.RowKit
set_option linter.unusedVariables false
set_option linter.unusedSimpArgs false

theorem Ints.takeM {w : World} {B : Nat} {A : Option Addr} {xs : List Int} (h : Ints w B A xs) (j : Nat) : Ints w B A (xs.take j) := by
  refine ⟨by have := h.1; rw [List.length_take]; omega, fun x hx => h.2.1 x (List.mem_of_mem_take hx), fun hn => ?_⟩
  rw [List.length_take] at hn
  obtain ⟨b, off, e, hb, hc⟩ := h.2.2 (by omega)
  refine ⟨b, off, e, hb, fun i hi => ?_⟩
  rw [List.length_take] at hi
  rw [hc i (by omega), List.getD_eq_getElem?_getD, List.getD_eq_getElem?_getD, List.getElem?_take, if_pos (by omega)]
theorem Ints.dropM {w : World} {B b off : Nat} {xs : List Int} (h : Ints w B (some ⟨b, off, none⟩) xs) (j : Nat) : Ints w B (some ⟨b, off + j, none⟩) (xs.drop j) := by
  refine ⟨by have := h.1; rw [List.length_drop]; omega, fun x hx => h.2.1 x (List.mem_of_mem_drop hx), fun hn => ?_⟩
  rw [List.length_drop] at hn
  obtain ⟨b', off', e, hb, hc⟩ := h.2.2 (by omega)
  injection e with e
  injection e with e1 e2
  subst e1 e2
  refine ⟨_, _, rfl, hb, fun i hi => ?_⟩
  rw [List.length_drop] at hi
  rw [Nat.add_assoc, hc (j + i) (by omega), List.getD_eq_getElem?_getD, List.getD_eq_getElem?_getD, List.getElem?_drop]
theorem Ints.none_ {w : World} {B : Nat} (A : Option Addr) : Ints w B A [] := ⟨Nat.zero_le _, (by intro x hx; cases hx), fun h => absurd h (Nat.lt_irrefl 0)⟩

set_option maxHeartbeats 400000 in
theorem impl_product_any (A : Option Addr) (cap : Nat) (xs : List Int) (w : World) (B : Nat) (hA : Ints w B A xs) (h27 : In27 xs) (hp : prd xs ≤ 100000) :
    Calls Tryz.prog 109 #[.slice A xs.length cap] w fun e w' => e = .returned (.int .i64 (prd xs)) ∧ w = w' := by
  have hlen := hA.1
  unfold maxLen at hlen
  have HC := Lib.hid hA.2.2
  have HP := Lib.hid (fun j => And.intro (prd_pos (h27.take j)) (prd_take_le h27 j))
  have HX := Lib.hid (fun j (hj : j < xs.length) => h27 (xs.getD j 0) (by rw [List.getD_eq_getElem?_getD, List.getElem?_eq_getElem hj]; exact List.getElem_mem hj))
  have HT := Lib.hid (fun j x (hj : j < xs.length) (hx : xs.getD j 0 = x) => prd_take hj hx)
  have HE := Lib.hid (show prd (xs.take xs.length) = prd xs by rw [List.take_length])
  have HZ := Lib.hid (show prd (xs.take 0) = 1 by rw [List.take_zero]; rfl)
  generalize prd xs = P at *
  clear hA h27
  go_enter Tryz.func109, Tryz.ntmps109
  go_wp2
  go_loop [3, 8] (fun s i => ∃ j : Nat, j ≤ xs.length ∧ i = .int .i64 j ∧ s = .int .i64 (prd (xs.take j))) (fun _ i => xs.length - (intOf i).toNat)
  case atStart => exact ⟨0, Nat.zero_le _, rfl, by rw [HZ.out]⟩
  case round =>
    obtain ⟨j, hj, rfl, rfl⟩ := hrel
    by_cases hlt : j < xs.length
    · obtain ⟨b, off, rfl, hB, hc⟩ := HC.out (by omega)
      have hcell := hc j hlt
      have hx := HX.out j hlt
      have hp1 := HP.out (j + 1)
      have hp0 := HP.out j
      obtain ⟨x, hxe⟩ : ∃ x, xs.getD j 0 = x := ⟨_, rfl⟩
      rw [hxe] at hcell hx
      have hs := HT.out j x hlt hxe
      rw [hs] at hp1
      have HS := Lib.hid hs
      generalize prd (xs.take j) = Q at *
      have hw : IntKind.i64.wrap (Q * x) = Q * x := i64w (by omega)
      clear hc hxe hs
      go_wp2
      go_round
      case rel => exact ⟨j + 1, by omega, by go_num, by rw [HS.out]⟩
      case measure => simp [intOf]; omega
    · have hjn : j = xs.length := by omega
      subst hjn
      rw [HE.out]
      go_wp2
      go_ret
      exact ⟨rfl, rfl⟩

set_option maxHeartbeats 400000 in
theorem impl_MeterOk_any (A : Option Addr) (cap : Nat) (xs : List Int) (w : World) (hA : Ints w w.heap.size A xs) (hm : MetOk xs) :
    Calls Tryz.prog 64 #[.slice A xs.length cap] w fun e w' => e = .returned (.bool true) ∧ Below w.heap.size w w' := by
  have hab : allB xs 2 7 = true := by
    unfold allB
    rw [List.all_eq_true]
    intro x hx
    have := hm.2.2.1 x hx
    exact inB_true ⟨by omega, by omega⟩
  have HAW := Lib.hid (hab ▸ impl_allWithin_any A cap xs 2 7 w hA)
  have HPR := Lib.hid (fun V h => impl_product_any A cap xs V w.heap.size h hm.2.2.1 (by have := hm.2.2.2; omega))
  have hin : inB (xs.length : Int) 1 5 = true := inB_true ⟨by have := hm.1; omega, by have := hm.2.1; omega⟩
  have hle : prd xs ≤ 24 := hm.2.2.2
  generalize prd xs = p at *
  have HA := Lib.hid hA
  clear hA hm hab
  go_enter Tryz.func64, Tryz.ntmps64
  go_wp2_with (go_at_call 39; refine (within_any _ _ _ _).mono ?_; rintro e w' ⟨rfl, rfl⟩)
  refine HAW.out.mono ?_
  rintro e w1 ⟨rfl, hb⟩
  have HB := Lib.hid hb
  clear hb
  go_wp2_with fail
  refine (HPR.out _ (HA.out.below HB.out)).mono ?_
  rintro e w2 ⟨rfl, rfl⟩
  go_wp2_with fail
  go_ret
  exact ⟨by simp [hle], HB.out⟩

def layL (U m : Nat) : List Int := (List.range m).map fun i => ((i * U : Nat) : Int)
theorem layL_succ (U m : Nat) : layL U (m + 1) = layL U m ++ [((m * U : Nat) : Int)] := by simp [layL, List.range_succ]
theorem layL_len (U m : Nat) : (layL U m).length = m := by simp [layL]
theorem layL_at (U : Nat) {m i : Nat} (hi : i < m) : (layL U m).getD i 0 = ((i * U : Nat) : Int) := by
  unfold layL
  rw [List.getD_eq_getElem?_getD, List.getElem?_eq_getElem (by simpa using hi)]
  simp

end Go.Proofs.YthookknmeajojaaGreatDoor

namespace Go.Proofs.YthookknmeajojaaGreatDoor
open Go.RowKit
set_option linter.unusedVariables false
set_option linter.unusedSimpArgs false

/-- A row: its numbers, and where they lie. -/
structure SV where
  xs : List Int
  A : Option Addr
  c : Nat
instance : Inhabited SV := ⟨⟨[], none, 0⟩⟩
def SV.slc (r : SV) : Value := .slice r.A r.xs.length r.c
/-- The row reads, and lies in another block than o. -/
def SV.Rd (r : SV) (w : World) (o : Option Nat) : Prop := r.xs.length ≤ r.c ∧ Ints w w.heap.size r.A r.xs ∧ (0 < r.xs.length → ∀ b off t, r.A = some ⟨b, off, t⟩ → o ≠ some b)
theorem SV.Rd.frm {r : SV} {w w' : World} {o o' : Option Nat} {S : Nat → Prop} (h : r.Rd w o) (hf : Frm S w w') (hS : ∀ b, S b → o = some b) (ho : ∀ g, o' = some g → o = some g ∨ w.heap.size ≤ g) : r.Rd w' o' := by
  refine ⟨h.1, ⟨h.2.1.1, h.2.1.2.1, fun hn => ?_⟩, fun hn b off t e he => ?_⟩
  · obtain ⟨b, off, e, hb, hc⟩ := h.2.1.2.2 hn
    exact ⟨b, off, e, Nat.lt_of_lt_of_le hb hf.size, fun i hi => (hf.cell hb (fun hs => h.2.2 hn b off none e (hS b hs))).trans (hc i hi)⟩
  · obtain ⟨b', off', e', hb', _⟩ := h.2.1.2.2 hn
    rw [e] at e'
    injection e' with e'
    injection e' with e1 e2 e3
    subst e1
    rcases ho b he with h1 | h1
    · exact h.2.2 hn b off t e h1
    · omega
theorem SV.Rd.lift {r : SV} {w w' : World} {o : Option Nat} (h : r.Rd w o) (hb : Below w.heap.size w w') : r.Rd w' o := h.frm (Frm.pure hb (fun _ => False)) (fun _ h => h.elim) (fun _ h => .inl h)
/-- Where a row lies that is old. -/
theorem SV.Rd.old {r : SV} {w : World} {o : Option Nat} (h1 : r.xs.length ≤ r.c) (h : Ints w w.heap.size r.A r.xs) (ho : ∀ g, o = some g → w.heap.size ≤ g) : r.Rd w o :=
  ⟨h1, h, fun hn b off t e he => by
    obtain ⟨b', off', e', hb', _⟩ := h.2.2 hn
    rw [e] at e'
    injection e' with e'
    injection e' with e1 e2 e3
    subst e1
    have := ho b he
    omega⟩

/-- v is a slice of rows of the call's own that holds them. -/
def OwnW (w : World) (base : Nat) (v : Value) (rs : List SV) : Prop :=
  w.ownsRow base 24 1 v rs.length (rs.map SV.slc) ∧ ∀ r ∈ rs, r.Rd w v.ownBlock
section
variable {w w' : World} {base : Nat} {v : Value} {rs : List SV}
theorem OwnW.nil (w : World) (base : Nat) : OwnW w base (.slice none 0 0) [] := ⟨World.ownsRow_nil _ _ _ _, fun r hr => by cases hr⟩
theorem OwnW.form (h : OwnW w base v rs) : ∃ A cap, v = .slice A rs.length cap := by
  rcases h.1.2 with ⟨rfl, h0⟩ | ⟨g, cap, cur, rfl, _⟩
  · exact ⟨none, 0, by rw [h0]⟩
  · exact ⟨some ⟨g, 0, none⟩, cap, rfl⟩
theorem OwnW.lt (h : OwnW w base v rs) : ∀ g, v.ownBlock = some g → base ≤ g ∧ g < w.heap.size := h.1.lt
theorem OwnW.lift (h : OwnW w base v rs) (hb : Below w.heap.size w w') : OwnW w' base v rs := by
  refine ⟨⟨h.1.1, ?_⟩, fun r hr => (h.2 r hr).lift hb⟩
  rcases h.1.2 with h0 | ⟨g, cap, cur, e, hg, hh, rest⟩
  · exact .inl h0
  · have hlt : g < w.heap.size := (Array.getElem?_eq_some_iff.1 hh).1
    exact .inr ⟨g, cap, cur, e, hg, by rw [hb.block g hlt]; exact hh, rest⟩
theorem OwnW.drew (h : OwnW w base v rs) : OwnW w.drew base v rs := h
theorem OwnW.mono {base' : Nat} (h : OwnW w base v rs) (hb : base' ≤ base) : OwnW w base' v rs := ⟨⟨h.1.1, by
    rcases h.1.2 with h0 | ⟨g, cap, cur, e, hg, rest⟩
    · exact .inl h0
    · exact .inr ⟨g, cap, cur, e, by omega, rest⟩⟩, h.2⟩
theorem OwnW.cells {A : Option Addr} {cap : Nat} (h : OwnW w base (.slice A rs.length cap) rs) (hn : 0 < rs.length) : ∃ g, A = some ⟨g, 0, none⟩ ∧ base ≤ g ∧ g < w.heap.size ∧ ∀ i (hi : i < rs.length), w.cell? ⟨g, i, none⟩ = some rs[i].slc := by
  rcases h.1.2 with ⟨hv, h0⟩ | ⟨g, cap', cur, hv, hge, hh, hnc, hm, hsz, hxs⟩
  · omega
  · have hA : A = some ⟨g, 0, none⟩ := by injection hv
    subst hA
    refine ⟨g, rfl, hge, (h.1.lt g rfl).2, fun i hi => ?_⟩
    have h0 := World.ownsRow.cells h.1 (g := g) rfl i rs[i].slc (by rw [List.getElem?_map, List.getElem?_eq_getElem hi]; rfl)
    rwa [Go.WideShapes.add_plain, Nat.zero_add] at h0
/-- A literal of one row. -/
theorem OwnW.lit (r : SV) (hb : base ≤ w.heap.size) (hr : r.xs.length ≤ r.c ∧ Ints w w.heap.size r.A r.xs) : OwnW (w.alloc (.cells #[r.slc] 24)) base (.slice (some ⟨w.heap.size, 0, none⟩) 1 1) [r] := by
  refine ⟨World.ownsRow_lit w #[r.slc] 1 hb (by unfold maxLen; omega) rfl, fun r' hr' => ?_⟩
  rw [List.mem_singleton] at hr'
  subst hr'
  have h0 : r'.Rd w (some w.heap.size) := SV.Rd.old hr.1 hr.2 (fun g hg => by injection hg with hg; omega)
  exact h0.lift ((Below.refl _ _).alloc (Nat.le_refl _) _)
theorem OwnW.appended {news : List SV} {g cap : Nat} (h : OwnW w base v rs) (ho : w'.ownsRow base 24 1 (.slice (some ⟨g, 0, none⟩) (rs.length + news.length) cap) (rs.length + news.length) (rs.map SV.slc ++ news.map SV.slc))
    (hg : w.grownBy w' v.ownBlock) (hat : v.ownBlock = some g ∨ g = w.heap.size) (hn : ∀ r ∈ news, r.Rd w v.ownBlock) : OwnW w' base (.slice (some ⟨g, 0, none⟩) (rs ++ news).length cap) (rs ++ news) := by
  have hf : Frm (fun c => v.ownBlock = some c) w w' := ⟨hg.os, hg.tape, hg.output, hg.size, fun c hc hS => hg.block c hc (fun e => hS e.symm)⟩
  refine ⟨by rw [List.length_append, List.map_append]; exact ho, fun r hr => ?_⟩
  have hr' : r.Rd w v.ownBlock := by
    rcases List.mem_append.1 hr with h1 | h1
    · exact h.2 r h1
    · exact hn r h1
  refine hr'.frm hf (fun b hb => hb) (fun k hk => ?_)
  have : g = k := by simpa [Value.ownBlock] using hk
  subst this
  rcases hat with h1 | h1
  · exact .inl h1
  · exact .inr (by omega)
end

theorem Tryz.infoIntS : (Tryz.prog.info? 24).map (fun i => (i.zero, i.size, i.bytes)) = some (some (.slice none 0 0), 1, 24) := by kernel_rfl

theorem news_rows {w : World} {b off : Nat} {rs : List SV} (hc : ∀ i (hi : i < rs.length), w.cell? ⟨b, off + i, none⟩ = some rs[i].slc) :
    (∀ j u, (rs.map SV.slc)[j]? = some u → w.cell? ((⟨b, off, none⟩ : Addr).add j) = some u) ∧ ∀ u ∈ rs.map SV.slc, u.oneCell' = true := by
  refine ⟨fun j u hu => ?_, fun u hu => ?_⟩
  · rw [List.getElem?_map] at hu
    have hj : j < rs.length := by
      apply Classical.byContradiction
      intro hh
      rw [List.getElem?_eq_none (by omega)] at hu
      cases hu
    rw [Addr.add_lit, hc j hj]
    rw [List.getElem?_eq_getElem hj] at hu
    exact hu
  · obtain ⟨t, _, rfl⟩ := List.mem_map.1 hu
    rfl

/-- 'append(out, rows...)' of at least one row, at a step of a region that draws its order. -/
theorem step_append_rowsW {w : World} {ops : Array Oper} {o : Oper} {a : Act} {K : Act → World → Prop} {Q : Exit → Act → World → Prop} {E : Prop} (hgd : o.guard = none) (s x : Operand)
    (ho : o.op = .call { callee := .builtin .append, args := #[s, x], argTypes := #[107, 107] })
    (base : Nat) (v : Value) (rs : List SV) (hs : a.eval s = v) (hown : OwnW w base v rs) (b off c : Nat) (news : List SV) (hx : a.eval x = .slice (some ⟨b, off, none⟩) news.length c)
    (hc : ∀ i (hi : i < news.length), w.cell? ⟨b, off + i, none⟩ = some news[i].slc) (hn : ∀ r ∈ news, r.Rd w v.ownBlock) (hm : 0 < news.length) (hlen : rs.length + news.length ≤ 1000000) (hbase : base ≤ w.heap.size)
    (h : ∀ v' w', OwnW w' base v' (rs ++ news) → w.grownBy w' v.ownBlock → (∀ g, v'.ownBlock = some g → v.ownBlock = some g ∨ w.heap.size ≤ g) → K (a.put o.dst v') w') :
    if Region.wanted o (yielded ops a.tmps) = true then Oper.wp Tryz.prog o a w K Q else E := by
  obtain ⟨i, hi, hz, hsz, hby⟩ := info_parts Tryz.infoIntS
  refine step_append_lies w hgd s x _ ho base 24 i _ 1 24 Tryz.underlying107 hi hz hsz hby rfl (by omega) v rs.length _ hs hown.1 ⟨b, off, none⟩ news.length c (news.map SV.slc) hx (by simp) (news_rows hc).1 (news_rows hc).2 hm (by unfold maxLen; omega) (by omega) hbase _ rfl ?_
  intro g cap w' hown' hgrow hat hlt
  have := hown.appended hown' hgrow hat hn
  rw [List.length_append] at this
  exact h _ w' this hgrow (fun k hk => by
    have e : g = k := by simpa [Value.ownBlock] using hk
    subst e
    rcases hat with h1 | h1
    · exact .inl h1
    · exact .inr (by omega))

/-- The same at a plain region. -/
theorem wpList_append_rowsW {w : World} {ops : Array Oper} {rest : List Oper} {o : Oper} {a : Act} {Q : Exit → Act → World → Prop} (hgd : o.guard = none) (s x : Operand)
    (ho : o.op = .call { callee := .builtin .append, args := #[s, x], argTypes := #[107, 107] })
    (base : Nat) (v : Value) (rs : List SV) (hs : a.eval s = v) (hown : OwnW w base v rs) (b off c : Nat) (news : List SV) (hx : a.eval x = .slice (some ⟨b, off, none⟩) news.length c)
    (hc : ∀ i (hi : i < news.length), w.cell? ⟨b, off + i, none⟩ = some news[i].slc) (hn : ∀ r ∈ news, r.Rd w v.ownBlock) (hm : 0 < news.length) (hlen : rs.length + news.length ≤ 1000000) (hbase : base ≤ w.heap.size)
    (h : ∀ v' w', OwnW w' base v' (rs ++ news) → w.grownBy w' v.ownBlock → (∀ g, v'.ownBlock = some g → v.ownBlock = some g ∨ w.heap.size ≤ g) → wpList Tryz.prog ops Q rest (a.put o.dst v') w') : wpList Tryz.prog ops Q (o :: rest) a w := by
  obtain ⟨i, hi, hz, hsz, hby⟩ := info_parts Tryz.infoIntS
  refine wpList_append_lies w hgd s x _ ho base 24 i _ 1 24 Tryz.underlying107 hi hz hsz hby rfl (by omega) v rs.length _ hs hown.1 ⟨b, off, none⟩ news.length c (news.map SV.slc) hx (by simp) (news_rows hc).1 (news_rows hc).2 hm (by unfold maxLen; omega) (by omega) hbase _ rfl ?_
  intro g cap w' hown' hgrow hat hlt
  have := hown.appended hown' hgrow hat hn
  rw [List.length_append] at this
  exact h _ w' this hgrow (fun k hk => by
    have e : g = k := by simpa [Value.ownBlock] using hk
    subst e
    rcases hat with h1 | h1
    · exact .inl h1
    · exact .inr (by omega))

/-- 'append(out, nil...)' at a step of a region that draws its order. -/
theorem step_append_noneW {w : World} {ops : Array Oper} {o : Oper} {a : Act} {K : Act → World → Prop} {Q : Exit → Act → World → Prop} {E : Prop} (hgd : o.guard = none) (s x : Operand)
    (ho : o.op = .call { callee := .builtin .append, args := #[s, x], argTypes := #[107, 107] })
    (base : Nat) (v : Value) (rs : List SV) (hs : a.eval s = v) (hown : OwnW w base v rs) (hx : a.eval x = .slice none 0 0)
    (h : K (a.put o.dst v) w) : if Region.wanted o (yielded ops a.tmps) = true then Oper.wp Tryz.prog o a w K Q else E := by
  have hw : Region.wanted o (yielded ops a.tmps) = true := by simp [Region.wanted, hgd]
  rw [if_pos hw]
  obtain ⟨i, hi, hz, hsz, hby⟩ := info_parts Tryz.infoIntS
  have hrun := run_append_owned_none (P := Tryz.prog) (w := w) base 107 o.type 24 i 1 Tryz.underlying107 hi v rs.length _ hown.1
  unfold Oper.wp
  simp [execOp, ho, resolve, invoke, builtin, hs, hx, hrun, Result.andThen]
  exact h

end Go.Proofs.YthookknmeajojaaGreatDoor

namespace Go.Proofs.YthookknmeajojaaGreatDoor
open Go.RowKit Go.Shelf
set_option linter.unusedVariables false
set_option linter.unusedSimpArgs false

theorem OwnI.capM {w : World} {base : Nat} {A : Option Addr} {cap : Nat} {xs : List Int} (h : OwnI w base (.slice A xs.length cap) xs) : xs.length ≤ cap := by
  rcases h.2 with ⟨hv, h0⟩ | ⟨g, cap', cur, hv, hge, hh, hnc, hm, hsz, hxs⟩
  · omega
  · injection hv with h1 h2 h3; omega
theorem OwnI.monoM {w : World} {base base' : Nat} {v : Value} {xs : List Int} (h : OwnI w base v xs) (hb : base' ≤ base) : OwnI w base' v xs :=
  ⟨h.1, by
    rcases h.2 with h0 | ⟨g, cap, cur, e, hg, rest⟩
    · exact .inl h0
    · exact .inr ⟨g, cap, cur, e, by omega, rest⟩⟩
theorem ints_cellsM {w : World} {B g off : Nat} {xs : List Int} (h : Ints w B (some ⟨g, off, none⟩) xs) : ∀ j, j < xs.length → w.cell? ⟨g, off + j, none⟩ = some (.int .i64 (xs.getD j 0)) := by
  intro j hj
  obtain ⟨b, o, e, _, hc⟩ := h.2.2 (by omega)
  injection e with e
  injection e with e1 e2
  subst e1 e2
  exact hc j hj

theorem clone_intsM (A : Option Addr) (cap : Nat) (xs : List Int) (w : World) (h : Ints w w.heap.size A xs) (hl : xs.length ≤ 1048576) :
    Calls Tryz.prog 123 #[.slice A xs.length cap] w fun e w' => ∃ v, e = .returned v ∧ OwnI w' w.heap.size v xs ∧ Below w.heap.size w w' := by
  by_cases hp : 0 < xs.length
  · obtain ⟨b, off, rfl, _, _⟩ := h.2.2 hp
    refine (Any.slices_Clone_int Tryz.lays15 b off xs.length cap xs w (Nat.le_refl _) (by omega) (ints_cellsM h)).mono ?_
    rintro e w' ⟨v, rfl, ho, _, hb⟩
    rw [List.take_length] at ho
    exact ⟨v, rfl, ho, hb⟩
  · have h0 : xs = [] := List.eq_nil_of_length_eq_zero (by omega)
    subst h0
    cases A with
    | none =>
      refine (Any.slices_Clone_int_nil Tryz.lays15 0 cap w).mono ?_
      rintro e w' ⟨rfl, rfl⟩
      exact ⟨_, rfl, OwnI.nil _ _, Below.refl _ _⟩
    | some a =>
      refine (Any.slices_Clone_int_zero Tryz.lays15 a cap w).mono ?_
      rintro e w' ⟨v, rfl, ho, _, hb⟩
      exact ⟨v, rfl, ho, hb⟩

theorem metL_bnd : ∀ (f n : Nat) (b : List Int), (metL f n b).length ≤ 6 ^ f
  | 0, _, _ => by show (0 : Nat) ≤ 1; omega
  | f + 1, n, b => by
    have hP : ∀ j, (metP f n b j).length ≤ j * 6 ^ f := by
      intro j
      induction j with
      | zero => show (0 : Nat) ≤ _; omega
      | succ j ih =>
        by_cases h : n % (j + 2) = 0
        · rw [metP_yes h, List.length_append, Nat.succ_mul]
          have := metL_bnd f (n / (j + 2)) (b ++ [((j + 2 : Nat) : Int)])
          omega
        · rw [metP_no h, Nat.succ_mul]; exact Nat.le_trans ih (Nat.le_add_right _ _)
    by_cases h1 : n = 1
    · subst h1; rw [metL_one]; exact Nat.pow_pos (n := f + 1) (show 0 < 6 by omega)
    · by_cases h5 : b.length = 5
      · rw [metL_five h1 h5]; exact Nat.zero_le _
      · rw [metL_go h1 h5]
        have := hP 6
        rw [Nat.pow_succ]; omega
theorem metP_bnd (f n : Nat) (b : List Int) (hf : f ≤ 5) : ∀ j, j ≤ 6 → (metP f n b j).length ≤ 50000 := by
  intro j hj
  have hP : ∀ j, (metP f n b j).length ≤ j * 6 ^ f := by
    intro j
    induction j with
    | zero => show (0 : Nat) ≤ _; omega
    | succ j ih =>
      by_cases h : n % (j + 2) = 0
      · rw [metP_yes h, List.length_append, Nat.succ_mul]
        have := metL_bnd f (n / (j + 2)) (b ++ [((j + 2 : Nat) : Int)])
        omega
      · rw [metP_no h, Nat.succ_mul]; exact Nat.le_trans ih (Nat.le_add_right _ _)
  have h1 := hP j
  have h2 : 6 ^ f ≤ 6 ^ 5 := Nat.pow_le_pow_right (by omega) hf
  have h3 : j * 6 ^ f ≤ 6 * 6 ^ 5 := Nat.mul_le_mul hj h2
  have h4 : (6 : Nat) * 6 ^ 5 = 46656 := by decide
  omega

/-- The rows lie in blocks from B on. -/
def NewR (B : Nat) (rs : List SV) : Prop := ∀ r ∈ rs, 0 < r.xs.length → ∀ b off t, r.A = some ⟨b, off, t⟩ → B ≤ b
theorem NewR.app {B : Nat} {rs ss : List SV} (h : NewR B rs) (k : NewR B ss) : NewR B (rs ++ ss) := fun r hr => by
  rcases List.mem_append.1 hr with h1 | h1
  · exact h r h1
  · exact k r h1
theorem NewR.mono {B B' : Nat} {rs : List SV} (h : NewR B rs) (hB : B' ≤ B) : NewR B' rs := fun r hr hn b off t e => Nat.le_trans hB (h r hr hn b off t e)
theorem NewR.nil (B : Nat) : NewR B [] := fun r hr => by cases hr
def RetM (w : World) (L : List (List Int)) (e : Ending) (w' : World) : Prop := ∃ v rs, e = .returned v ∧ OwnW w' w.heap.size v rs ∧ rs.map SV.xs = L ∧ (rs = [] → v = .slice none 0 0) ∧ NewR w.heap.size rs ∧ Below w.heap.size w w'

end Go.Proofs.YthookknmeajojaaGreatDoor

