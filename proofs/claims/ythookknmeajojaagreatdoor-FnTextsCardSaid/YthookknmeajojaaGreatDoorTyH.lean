/-
  Several texts of this proof in one: SpSq, PIntS, PNum, PNumI.
-/
import Derived.RangeFuncBound
import Derived.RangeFuncCalls
import Derived.RangeFuncLeaves
import Derived.Shelf.Abstract
import Derived.Shelf.RegionOpen
import Derived.WalkKit
import Derived.OwnWalkIn
import Derived.TacticsInMore
import Derived.LoopNIn
import Derived.LoopIn
import Derived.Shelf.Strings.Search3
import Derived.Test.YthookknmeajojaaGreatDoorShP
import Derived.Test.YthookknmeajojaaGreatDoorTyF
import Derived.Test.YthookknmeajojaaGreatDoorTyG
import Derived.Deep.CutRange
import Derived.ArgAppend
import Derived.Test.YthookknmeajojaaGreatDoorFrm
import Derived.RangeFuncKeeps
import Derived.RangeFuncBox
import Derived.Maps.AppendAt
namespace Go.Proofs.YthookknmeajojaaGreatDoor
open Go.RowKit Go.Shelf
set_option linter.unusedVariables false
set_option linter.unusedSimpArgs false

def boxT (W : World) (b : Nat) : Nat := match W.cell? ⟨b, 0, none⟩ with
  | some (.string r) => r.size
  | _ => 0
theorem boxT_eq {W : World} {b : Nat} {r : ByteArray} (h : W.cell? ⟨b, 0, none⟩ = some (.string r)) : boxT W b = r.size := by unfold boxT; rw [h]

set_option maxRecDepth 100000 in
set_option maxHeartbeats 2000000 in
theorem splitSeq1_any (n l bs bp bv : Nat) (us : List ByteArray) (J : List ByteArray → World → Prop) (Jx : World → Prop)
    (hJs : ∀ pre W v, J pre W → J pre (W.setCell ⟨bs, 0, none⟩ v))
    (hJc : ∀ pre W, J pre W → W.cell? ⟨bp, 0, none⟩ = some (.string ⟨#[44]⟩) ∧ W.cell? ⟨bv, 0, none⟩ = some (.int .i64 0) ∧ W.frozen? ⟨bs, 0, none⟩ = false)
    (hY : ∀ pre x W, J pre W → (∃ post, us = pre ++ x :: post) → YieldAt Fence.wide (n - 1) Tryz.prog l #[.string x] W fun e W' =>
      (e = .returned (.bool true) ∧ J (pre ++ [x]) W' ∧ W'.cell? ⟨bs, 0, none⟩ = W.cell? ⟨bs, 0, none⟩) ∨ (e = .returned (.bool false) ∧ Jx W'))
    (s : ByteArray) (hs : s.size ≤ 1048576) (W : World) (hc : W.cell? ⟨bs, 0, none⟩ = some (.string s)) (h0 : J [] W) (hu : splT 44 s = us) (hn : 1 ≤ n) :
    CallsIn Fence.wide n Tryz.prog 146 #[.func (.yield l) #[] #[], .pointer (some ⟨bp, 0, none⟩), .pointer (some ⟨bs, 0, none⟩), .pointer (some ⟨bv, 0, none⟩)] W fun e W' =>
      (∃ v, e = .returned v) ∧ (J us W' ∨ Jx W') := by
  have HU := Lib.hid hu
  have HJS := Lib.hid hJs
  have HJC := Lib.hid hJc
  have HY := Lib.hid hY
  have HJ0 := Lib.hid h0
  obtain ⟨hp0, hv0, hfz0⟩ := hJc [] W h0
  clear hJs hJc hY hu h0
  refine callsIn_of_wp Tryz.func146 rfl trivial ?_ rfl
  simp only [Tryz.ntmps146, List.size_toArray, List.length_cons, List.length_nil, Nat.reduceAdd, Nat.reduceSub, Array.replicate_succ, Array.replicate_zero, List.push_toArray, List.append_toArray, List.nil_append, List.cons_append]
  gi_wp2
  gi_loopw [7] (fun _ wr => ∃ (pre : List ByteArray) (r : ByteArray), wr.cell? ⟨bs, 0, none⟩ = some (.string r) ∧ r.size ≤ 1048576 ∧ J pre wr ∧ us = pre ++ splT 44 r) (fun _ wr => boxT wr bs)
  case atStart => exact ⟨[], s, hc, hs, HJ0.out, by rw [HU.out]; rfl⟩
  case round =>
    obtain ⟨pre, r, hcr, hrs, hJr, hur⟩ := hrel
    obtain ⟨hpc, hvc, hfc⟩ := HJC.out _ _ hJr
    have HIX := Lib.hid (fun V => (callsIn_wide (n := n - 1)).2 (Any.strings_Index_one { Tryz.lays155 with } r 44 V))
    have HUR := Lib.hid hur
    have HJR := Lib.hid hJr
    have HRS := Lib.hid hrs
    clear hur hJr hc hp0 hv0 hfz0
    cases hix : decide (Lib.indexByte r.data.toList 44 = -1) with
    | true =>
      have hix' := of_decide_eq_true hix
      rw [hix'] at HIX
      have hsp := splT_none 44 r hix'
      clear hix hix'
      obtain ⟨fn, tmps, assign, body, hy, hR⟩ := HY.out pre r wr HJR.out ⟨[], by rw [HUR.out, hsp]⟩
      have HUE := Lib.hid (show us = pre ++ [r] by rw [HUR.out, hsp])
      clear hsp
      gi_wp2_with (refine ⟨trivial, ?_⟩; gi_at_call 96; refine (HIX.out _).mono ?_; rintro e w' ⟨rfl, rfl⟩)
      refine hR.mono ?_
      rintro e W3 (⟨rfl, hJ3, hk3⟩ | ⟨rfl, hJx3⟩)
      · gi_wp2
        go_end0
        exact ⟨⟨_, rfl⟩, .inl (by rw [HUE.out]; exact hJ3)⟩
      · gi_wp2
        go_end0
        exact ⟨⟨_, rfl⟩, .inr hJx3⟩
    | false =>
      have hix' := of_decide_eq_false hix
      obtain ⟨o, ho⟩ : ∃ o : Nat, Lib.indexByte r.data.toList 44 = o := ⟨(Lib.indexByte r.data.toList 44).toNat, by have := Lib.indexByte_ge r.data.toList 44; omega⟩
      rw [ho] at HIX
      obtain ⟨ho1, hsp⟩ := splT_some 44 r o ho
      clear hix hix' ho
      obtain ⟨fn, tmps, assign, body, hy, hR⟩ := HY.out pre (r.extract 0 o) wr HJR.out ⟨_, by rw [HUR.out, hsp]⟩
      have HUE := Lib.hid (show us = (pre ++ [r.extract 0 o]) ++ splT 44 (r.extract (o + 1) r.size) by rw [HUR.out, hsp]; simp)
      clear hsp
      have ho0 : (0 : Int) ≤ (o : Int) := Int.natCast_nonneg _
      gi_wp2_with (refine ⟨trivial, ?_⟩; gi_at_call 96; refine (HIX.out _).mono ?_; rintro e w' ⟨rfl, rfl⟩)
      refine hR.mono ?_
      rintro e W3 (⟨rfl, hJ3, hk3⟩ | ⟨rfl, hJx3⟩)
      · obtain ⟨hpc3, hvc3, hfc3⟩ := HJC.out _ _ hJ3
        have hcr3 := hk3.trans hcr
        gi_wp2
        have hcn := World.cell?_setCell_same W3 ⟨bs, 0, none⟩ (.string (r.extract (o + 1) r.size)) hcr3
        have hlt : (r.extract (o + 1) r.size).size < r.size := by simp; omega
        exact ⟨⟨pre ++ [r.extract 0 o], r.extract (o + 1) r.size, hcn, by have := HRS.out; omega, HJS.out _ _ _ hJ3, HUE.out⟩, by rw [boxT_eq hcn, boxT_eq hcr]; exact hlt⟩
      · gi_wp2
        refine bodyPost_ret (results_none rfl _ _ _) rfl ?_
        exact ⟨⟨_, rfl⟩, .inr hJx3⟩

end Go.Proofs.YthookknmeajojaaGreatDoor

namespace Go.Proofs.YthookknmeajojaaGreatDoor
open Go.RowKit Go.Shelf
set_option linter.unusedVariables false
set_option linter.unusedSimpArgs false

def digsB (s : ByteArray) : Bool := decide (0 < s.size) && s.data.toList.all digB
theorem digs_no {s : ByteArray} {k : Nat} (h : k < s.size) (hk : digB s[k] = false) : digsB s = false := by
  unfold digsB
  rw [Bool.and_eq_false_iff]
  right
  rw [List.all_eq_false]
  exact ⟨s[k], by show (s.data)[k] ∈ s.data.toList; simp, by rw [hk]; simp⟩
theorem digs_yes {s : ByteArray} (h : ∀ k (hk : k < s.size), digB s[k] = true) : digsB s = decide (0 < s.size) := by
  unfold digsB
  rw [show s.data.toList.all digB = true from ?_, Bool.and_true]
  rw [List.all_eq_true]
  intro c hc
  obtain ⟨k, hk, e⟩ := List.getElem_of_mem hc
  rw [← e]
  exact h k (by simpa using hk)

theorem pint_shape {s : ByteArray} {v : Int} (h : pintV s = some v) :
    (∃ N : Nat, v = N ∧ s.data.toList = Lib.decDigits N ∧ N ≤ 9223372036854775807) ∨ (∃ N : Nat, 0 < N ∧ v = -(N : Int) ∧ s.data.toList = 45 :: Lib.decDigits N ∧ N ≤ 9223372036854775808) := by
  obtain ⟨hf, he⟩ := (pint_iff s v).1 h
  unfold Fits at hf
  by_cases h0 : 0 ≤ v
  · obtain ⟨N, rfl⟩ := Int.eq_ofNat_of_zero_le h0
    exact .inl ⟨N, rfl, by rw [← he, itoL_pos], by omega⟩
  · obtain ⟨N, hN⟩ := Int.eq_ofNat_of_zero_le (show 0 ≤ -v by omega)
    obtain rfl : v = -(N : Int) := by omega
    exact .inr ⟨N, by omega, rfl, by rw [← he, itoL_neg N (by omega)], by omega⟩
def negB (s : ByteArray) : Bool := decide (s.data.toList.head? = some 45)
def bodT (s : ByteArray) : ByteArray := if negB s then s.extract 1 s.size else s
theorem bod_neg {s : ByteArray} {l : List UInt8} (h : s.data.toList = 45 :: l) : negB s = true ∧ (bodT s).data.toList = l := by
  have hn : negB s = true := by unfold negB; rw [h]; rfl
  refine ⟨hn, ?_⟩
  unfold bodT
  rw [if_pos hn, Lib.extract_data, h, List.drop_one, List.tail_cons]
  have hl : s.size = l.length + 1 := by have := congrArg List.length h; simpa using this
  exact List.take_of_length_le (by omega)
theorem bod_pos {s : ByteArray} {N : Nat} (h : s.data.toList = Lib.decDigits N) : negB s = false ∧ (bodT s).data.toList = Lib.decDigits N := by
  have hn : negB s = false := by
    unfold negB
    rw [h]
    obtain ⟨h1, _, h3⟩ := dec_dig N
    cases hd : Lib.decDigits N with
    | nil => exact absurd hd h3
    | cons c r =>
      have := digB_iff.1 (h1 c (by rw [hd]; simp))
      apply decide_eq_false
      intro e
      injection e with e
      subst e
      exact absurd this (by decide)
  refine ⟨hn, ?_⟩
  unfold bodT
  rw [hn]
  exact h
theorem digs_of {t : ByteArray} {N : Nat} (h : t.data.toList = Lib.decDigits N) (hN : N ≤ 9223372036854775808) : digsB t = true ∧ t.size ≤ 19 ∧ decV 0 t.data.toList = N := by
  obtain ⟨h1, h2, h3⟩ := dec_dig N
  have hs : t.size = (Lib.decDigits N).length := by rw [← h]; simp
  have hl := decD_len 18 N (by omega)
  refine ⟨?_, by omega, by rw [h]; exact h2⟩
  unfold digsB
  rw [h, List.all_eq_true.2 h1, Bool.and_true, decide_eq_true_eq, hs]
  exact List.length_pos_iff.2 h3
/-- What is read has digits, no more than nineteen, and is what they spell. -/
theorem pint_tail {s : ByteArray} {v : Int} (h : pintV s = some v) : digsB (bodT s) = true ∧ (bodT s).size ≤ 19 ∧
    (negB s = false → v = decV 0 (bodT s).data.toList ∧ decV 0 (bodT s).data.toList ≤ 9223372036854775807) ∧ (negB s = true → v = -(decV 0 (bodT s).data.toList : Int) ∧ decV 0 (bodT s).data.toList ≤ 9223372036854775808) := by
  rcases pint_shape h with ⟨N, hv, hl, hN⟩ | ⟨N, h0, hv, hl, hN⟩
  · obtain ⟨hn, hb⟩ := bod_pos hl
    obtain ⟨d1, d2, d3⟩ := digs_of hb (by omega)
    exact ⟨d1, d2, fun _ => ⟨by rw [d3]; exact hv, by rw [d3]; exact hN⟩, fun e => by rw [hn] at e; cases e⟩
  · obtain ⟨hn, hb⟩ := bod_neg hl
    obtain ⟨d1, d2, d3⟩ := digs_of hb hN
    exact ⟨d1, d2, fun e => (by rw [hn] at e; cases e), fun _ => ⟨by rw [d3]; exact hv, by rw [d3]; exact hN⟩⟩

theorem tdiv10 (d : Nat) (h : d ≤ 9) : (-9223372036854775808 + (d : Int)).tdiv 10 = -(((9223372036854775808 - d) / 10 : Nat) : Int) := by
  rw [show (-9223372036854775808 + (d : Int)) = -((9223372036854775808 - d : Nat) : Int) by omega, Int.neg_tdiv]
  rfl

end Go.Proofs.YthookknmeajojaaGreatDoor

namespace Go.Proofs.YthookknmeajojaaGreatDoor
open Go.RowKit
set_option linter.unusedVariables false
set_option linter.unusedSimpArgs false

/-- The numbers that the pieces spell, at most sixty-four of them. -/
def numF : List ByteArray → List Int → Option (List Int)
  | [], acc => some acc
  | u :: r, acc => match pintV u with
    | none => none
    | some v => if acc.length = 64 then none else numF r (acc ++ [v])
theorem numF_bad {u : ByteArray} (r : List ByteArray) (acc : List Int) (h : pintV u = none) : numF (u :: r) acc = none := by rw [numF, h]
theorem numF_full {u : ByteArray} (r : List ByteArray) {acc : List Int} {v : Int} (h : pintV u = some v) (hl : acc.length = 64) : numF (u :: r) acc = none := by rw [numF, h]; exact if_pos hl
theorem numF_on {u : ByteArray} (r : List ByteArray) {acc : List Int} {v : Int} (h : pintV u = some v) (hl : ¬ acc.length = 64) : numF (u :: r) acc = numF r (acc ++ [v]) := by rw [numF, h]; exact if_neg hl
def numsV (s : ByteArray) : Option (List Int) := if s.data.toList = [45] then some [] else numF (splT 44 s) []
theorem numsV_dash {s : ByteArray} (h : s.data.toList = [45]) : numsV s = some [] := if_pos h
theorem numsV_on {s : ByteArray} (h : ¬ s.data.toList = [45]) : numsV s = numF (splT 44 s) [] := if_neg h
theorem OwnTx.read {w : World} {base cap : Nat} {A : Option Addr} {us : List ByteArray} (h : OwnTx w base (.slice A us.length cap) us) (h0 : 0 < us.length) : ∃ g, A = some ⟨g, 0, none⟩ ∧ base ≤ g ∧ g < w.heap.size ∧ ∀ i, i < us.length → w.cell? ⟨g, i, none⟩ = some (.string (us.getD i ⟨#[]⟩)) := by
  rcases h.2 with ⟨hv, h1⟩ | ⟨g, cap', cur, hv, hg, hh, hnc, hm, hsz, hxs⟩
  · omega
  · have hA : A = some ⟨g, 0, none⟩ := by injection hv
    subst hA
    refine ⟨g, rfl, hg, (h.lt g rfl).2, fun i hi => ?_⟩
    have := World.ownsRow.cells h (g := g) rfl i (.string (us.getD i ⟨#[]⟩)) (by rw [List.getElem?_map, List.getElem?_eq_getElem hi]; simp [List.getD_eq_getElem?_getD, hi])
    rwa [Go.WideShapes.add_plain, Nat.zero_add] at this

/-- 'append(s, y)' onto an empty slice without room. -/
theorem wpList_append_int0 {w : World} {ops : Array Oper} {rest : List Oper} {o : Oper} {a : Act} {Q : Exit → Act → World → Prop} (hgd : o.guard = none) (s x : Operand)
    (ho : o.op = .call { callee := .builtin .append, args := #[s, x], argTypes := #[24, 24] })
    (ao : Option Addr) (hs : a.eval s = .slice ao 0 0) (g : Nat) (y : Int) (hx : a.eval x = .slice (some ⟨g, 0, none⟩) 1 1) (hcell : w.cell? ⟨g, 0, none⟩ = some (.int .i64 y))
    (h : ∀ v' w', OwnI w' w.heap.size v' [y] → Below w.heap.size w w' → wpList Tryz.prog ops Q rest (a.put o.dst v') w') : wpList Tryz.prog ops Q (o :: rest) a w := by
  obtain ⟨i, hi, hz, hsz, hby⟩ := info_parts Tryz.infoInt
  refine wpList_append_grows w hgd s x _ ho 3 i _ 1 8 Tryz.underlying24 hi hz hsz hby rfl (by omega) ao 0 0 [] hs (fun _ => ⟨rfl, rfl⟩) (by simp) (by intro b _ j u hj; simp at hj) ⟨g, 0, none⟩ 1 1 [.int .i64 y] hx (by simp) ?_ ?_ (by omega) (by unfold maxLen; omega) (by omega) ?_
  · intro j t hj
    match j, hj with
    | 0, hj => simp at hj; subst hj; exact hcell
  · intro t ht
    simp at ht
    subst ht
    rfl
  · intro v' w' hown hgrow
    exact h v' w' (by unfold OwnI; simpa using hown) ((Below.refl _ _).grown hgrow (Nat.le_refl _) (fun k hk => by cases hk))

theorem ownI_base {w : World} {base base' : Nat} {v : Value} {xs : List Int} (h : OwnI w base v xs) (hb : base' ≤ base) : OwnI w base' v xs :=
  ⟨h.1, by
    rcases h.2 with h0 | ⟨g, cap, cur, e, hg, rest⟩
    · exact .inl h0
    · exact .inr ⟨g, cap, cur, e, by omega, rest⟩⟩
/-- Numbers and whether it went well. -/
def RetNums (w : World) (o : Option (List Int)) (e : Ending) (w' : World) : Prop :=
  ∃ A cap, e = .returned (.tuple #[.slice A (o.getD []).length cap, .bool o.isSome]) ∧ Ints w' w'.heap.size A (o.getD []) ∧ Below w.heap.size w w'

end Go.Proofs.YthookknmeajojaaGreatDoor

namespace Go.Proofs.YthookknmeajojaaGreatDoor
open Go.RowKit Go.Shelf
set_option linter.unusedVariables false
set_option linter.unusedSimpArgs false

set_option maxRecDepth 100000 in
theorem splitSeq_any (s sep : ByteArray) (w : World) :
    Calls Tryz.prog 68 #[.string s, .string sep] w fun e w' =>
      e = .returned (.func (.func 146) #[] #[.pointer (some ⟨w.heap.size + 1, 0, none⟩), .pointer (some ⟨w.heap.size, 0, none⟩), .pointer (some ⟨w.heap.size + 2, 0, none⟩)]) ∧
      w' = ((w.alloc (.cells #[.string s] 9)).alloc (.cells #[.string sep] 9)).alloc (.cells #[.int .i64 0] 3) := by
  have H : ∀ W : World, Calls Tryz.prog 114 #[.string s, .string sep, .int .i64 0] W fun e w' =>
      e = .returned (.func (.func 146) #[] #[.pointer (some ⟨W.heap.size + 1, 0, none⟩), .pointer (some ⟨W.heap.size, 0, none⟩), .pointer (some ⟨W.heap.size + 2, 0, none⟩)]) ∧
      w' = ((W.alloc (.cells #[.string s] 9)).alloc (.cells #[.string sep] 9)).alloc (.cells #[.int .i64 0] 3) := by
    intro W
    go_enter Tryz.func114, Tryz.ntmps114
    go_wp2_with fail
    go_ret
    exact ⟨rfl, rfl⟩
  go_enter Tryz.func68, Tryz.ntmps68
  go_wp2_with (go_at_call 114; refine (H _).mono ?_; rintro e w' ⟨rfl, rfl⟩)
  go_ret
  exact ⟨rfl, rfl⟩

/-- The state between two rounds: v, in its box b2, holds acc; W0 is the world at the loop's start. -/
structure PS (W0 : World) (b2 bs : Nat) (v : Value) (acc : List Int) (W : World) : Prop where
  frm : Frm (fun c => c = b2 ∨ c = bs) W0 W
  size : W0.heap.size + 2 ≤ W.heap.size
  out : W.cell? ⟨b2, 0, none⟩ = some v
  fz : W.frozen? ⟨b2, 0, none⟩ = false
  fs : W.frozen? ⟨bs, 0, none⟩ = false
  own : OwnI W (W0.heap.size + 2) v acc
theorem frm_putObj {S : Nat → Prop} {W0 W : World} (h : Frm S W0 W) {l : Nat} (hl : W0.heap.size ≤ l) (o : Obj) : Frm S W0 (W.putObj l o) :=
  ⟨h.os, h.tape, h.output, by rw [World.putObj_size]; exact h.size, fun c hc hS => (World.putObj_heap_other (by omega)).trans (h.block c hc hS)⟩
theorem PS.setS {W0 W : World} {b2 bs : Nat} {v : Value} {acc : List Int} (h : PS W0 b2 bs v acc W) (h1 : b2 ≠ bs) (h3 : bs < W0.heap.size) (u : Value) : PS W0 b2 bs v acc (W.setCell ⟨bs, 0, none⟩ u) where
  frm := h.frm.setCell (.inr rfl) u
  size := by have := h.size; simpa [World.setCell] using this
  out := by rw [World.cell?_setCell_other W _ _ _ (fun e => h1 (by injection e with e1; first | exact e1 | exact e1.symm))]; exact h.out
  fz := by rw [World.frozen?_setCell]; exact h.fz
  fs := by rw [World.frozen?_setCell]; exact h.fs
  own := ownsRow_setCell_below h.own (by show bs < W0.heap.size + 2; omega) u
theorem PS.putL {W0 W : World} {b2 bs l : Nat} {v : Value} {acc : List Int} (h : PS W0 b2 bs v acc W) (h1 : b2 < W0.heap.size) (h2 : bs < W0.heap.size) (hl : W0.heap.size ≤ l) {o : Obj} (ho : W.heap[l]? = some o) (hlp : o.isCells = false) (o' : Obj) : PS W0 b2 bs v acc (W.putObj l o') where
  frm := frm_putObj h.frm hl o'
  size := by rw [World.putObj_size]; exact h.size
  out := (World.cell?_of_block (a := ⟨b2, 0, none⟩) (World.putObj_heap_other (by show b2 ≠ l; omega))).trans h.out
  fz := (World.frozen?_of_block (a := ⟨b2, 0, none⟩) (World.putObj_heap_other (by show b2 ≠ l; omega))).trans h.fz
  fs := (World.frozen?_of_block (a := ⟨bs, 0, none⟩) (World.putObj_heap_other (by show bs ≠ l; omega))).trans h.fs
  own := ownsRow_putObj h.own _ ho hlp

theorem Frm.next {S T S' : Nat → Prop} {W0 W W' : World} (h : Frm S W0 W) (k : Frm T W W') (hT : ∀ c, c < W0.heap.size → T c → S' c) (hS : ∀ c, S c → S' c) : Frm S' W0 W' :=
  ⟨k.os.trans h.os, k.tape.trans h.tape, k.output.trans h.output, Nat.le_trans h.size k.size, fun c hc hn => (k.block c (Nat.lt_of_lt_of_le hc h.size) (fun t => hn (hT c hc t))).trans (h.block c hc (fun t => hn (hS c t)))⟩

theorem keep_over {w3 w4 : World} {B b : Nat} {o : Obj} {v : Value} (hb4 : Below B (w3.alloc o) w4) (h : b < B) (hc : w3.cell? ⟨b, 0, none⟩ = some v) (hf : w3.frozen? ⟨b, 0, none⟩ = false) : w4.cell? ⟨b, 0, none⟩ = some v ∧ w4.frozen? ⟨b, 0, none⟩ = false :=
  ⟨(hb4.cell (p := ⟨b, 0, none⟩) h).trans (cell_kept hc (World.grownBy_alloc w3 o none) (fun r e => by cases e)), (hb4.frozen (p := ⟨b, 0, none⟩) h).trans ((frozen_kept hc (World.grownBy_alloc w3 o none) (fun r e => by cases e)).trans hf)⟩

/-- 'append(s, y)' in a round. -/
theorem wpListIn_append_int {F : Fence} {n : Nat} {w : World} {ops : Array Oper} {rest : List Oper} {o : Oper} {a : Act} {Q : Exit → Act → World → Prop} (hgd : o.guard = none) (s x : Operand)
    (ho : o.op = .call { callee := .builtin .append, args := #[s, x], argTypes := #[24, 24] })
    (base : Nat) (v : Value) (xs : List Int) (hs : a.eval s = v) (hown : OwnI w base v xs) (g : Nat) (y : Int) (hx : a.eval x = .slice (some ⟨g, 0, none⟩) 1 1)
    (hcell : w.cell? ⟨g, 0, none⟩ = some (.int .i64 y)) (hlen : xs.length ≤ 1048576) (hbase : base ≤ w.heap.size)
    (h : ∀ v' w', OwnI w' base v' (xs ++ [y]) → Below base w w' → wpListIn F n Tryz.prog ops Q rest (a.put o.dst v') w') : wpListIn F n Tryz.prog ops Q (o :: rest) a w := by
  obtain ⟨i, hi, hz, hsz, hby⟩ := info_parts Tryz.infoInt
  refine wpListIn_append_own _ hgd s x _ ho base 3 i _ 1 8 Tryz.underlying24 hi hz hsz hby rfl (by omega) v xs.length _ hs hown ⟨g, 0, none⟩ 1 1 [.int .i64 y] hx rfl ?_ ?_ (by unfold maxLen; omega) (by omega) hbase ?_
  · intro j u hj
    match j, hj with
    | 0, hj =>
      simp at hj
      subst hj
      exact hcell
  · intro u hu
    simp at hu
    subst hu
    rfl
  · intro v' w' hown' hgrow _
    refine h v' w' ?_ ?_
    · unfold OwnI
      simpa using hown'
    · exact (Below.refl base w).grown hgrow hbase (fun k hk => (hown.lt k hk).1)

/-- What a round leaves as it was: the box of the text to come, and the two blocks of the loop's own. -/
def KpR (d bs : Nat) (W W' : World) : Prop := W'.cell? ⟨bs, 0, none⟩ = W.cell? ⟨bs, 0, none⟩ ∧ W'.heap[d]? = W.heap[d]? ∧ W'.heap[d + 1]? = W.heap[d + 1]?
theorem KpR.of {d bs : Nat} {W W' : World} {T : Nat → Prop} (h : Frm T W W') (h1 : d + 1 < W.heap.size) (h2 : bs < W.heap.size) (t1 : ¬ T bs) (t2 : ¬ T d) (t3 : ¬ T (d + 1)) : KpR d bs W W' :=
  ⟨h.cell h2 t1, h.block d (by omega) t2, h.block (d + 1) h1 t3⟩
/-- How a round may end: it goes on, or the function returns. -/
def rndP (d bs : Nat) (I Ix : World → Prop) (W : World) : Exit → Act → World → Prop
  | .normal, _, W' => KpR d bs W W' ∧ I W'
  | .ret, _, W' => KpR d bs W W' ∧ Ix W'
  | .exit _, _, _ => False
  | .goto _, _, _ => False
  | .panic _, _, _ => False
  | .outgrown, _, _ => False

set_option maxHeartbeats 1000000 in
/-- A loop over the pieces of a text between commas, whose rounds go on or return. -/
theorem over_pieces {g : Operand} {p : Tmp} {assign body : Code} {Q : Exit → Act → World → Prop} {a : Act} {w : World} {n : Nat} (hn : 3 ≤ n) {bs bp bv : Nat}
    (hg : a.eval g = .func (.func 146) #[] #[.pointer (some ⟨bp, 0, none⟩), .pointer (some ⟨bs, 0, none⟩), .pointer (some ⟨bv, 0, none⟩)])
    {us : List ByteArray} {s : ByteArray} (hs : s.size ≤ 1048576) (hu : splT 44 s = us) (hc : w.cell? ⟨bs, 0, none⟩ = some (.string s))
    (I : List ByteArray → World → Prop) (Ix : World → Prop)
    (hIs : ∀ pre W v, I pre W → I pre (W.setCell ⟨bs, 0, none⟩ v))
    (hIc : ∀ pre W, I pre W → W.cell? ⟨bp, 0, none⟩ = some (.string ⟨#[44]⟩) ∧ W.cell? ⟨bv, 0, none⟩ = some (.int .i64 0) ∧ W.frozen? ⟨bs, 0, none⟩ = false)
    (hIp : ∀ pre W o o', I pre W → W.heap[w.heap.size + 1]? = some o → o.isCells = false → I pre (W.putObj (w.heap.size + 1) o'))
    (hIxp : ∀ W o o', Ix W → W.heap[w.heap.size + 1]? = some o → o.isCells = false → Ix (W.putObj (w.heap.size + 1) o'))
    (h0 : ∀ r, I [] ((w.alloc (.deferred (some []))).alloc (.loop r))) (a₁ : ByteArray → Act)
    (hassign : ∀ (l : Nat) (x : ByteArray) (W : World) (K : Act → World → Prop), K (a₁ x) W →
      assign.wpIn (Fence.wide.inRound l) (n - 1 - 1) Tryz.prog (Exit.then K (fun _ _ _ => False)) { tmps := ((#[p] : Array Tmp).zip #[Value.string x]).foldl (fun t (p, v) => t.setIfInBounds p v) a.tmps, defers := [] } W)
    (hbody : ∀ (l : Nat) (pre : List ByteArray) (x : ByteArray) (W : World), I pre W → (∃ post, us = pre ++ x :: post) →
      body.wpIn (Fence.wide.inRound l) (n - 1 - 1) Tryz.prog (rndP w.heap.size bs (I (pre ++ [x])) Ix W) (a₁ x) W)
    (hdone : ∀ W, I us W → W.heap[w.heap.size]? = some (.deferred (some [])) → Q .normal { a with defers := { target := .collected w.heap.size, args := #[] } :: a.defers } W)
    (hstop : ∀ W, Ix W → W.heap[w.heap.size]? = some (.deferred (some [])) → Code.ret.wpIn Fence.wide n Tryz.prog Q { a with defers := { target := .collected w.heap.size, args := #[] } :: a.defers } W) :
    (Code.rangeFunc g #[p] assign body).wpIn Fence.wide n Tryz.prog Q a w := by
  have hbs : bs < w.heap.size := World.block_lt_of_cell? _ _ hc
  refine wpIn_rangeFunc fun fn _ => ?_
  obtain ⟨R, hR⟩ : ∃ R : LoopState → Option Code → Loop, ∀ st pe, R st pe = { state := st, pending := pe, fn, tmps := a.tmps, params := #[p], assign, body, defers := w.heap.size } := ⟨_, fun _ _ => rfl⟩
  obtain ⟨W1, hW1⟩ : ∃ W1, (w.alloc (.deferred (some []))).alloc (.loop (R .ready none)) = W1 := ⟨_, rfl⟩
  have hl1 : W1.heap[w.heap.size + 1]? = some (.loop (R .ready none)) := by
    rw [← hW1]
    simpa using World.alloc_heap_new (w.alloc (.deferred (some []))) (.loop (R .ready none))
  have hd1 : W1.heap[w.heap.size]? = some (.deferred (some [])) := by
    rw [← hW1]
    exact (Below.heap_alloc _ _ _ (by simp)).trans (World.alloc_heap_new w _)
  have hc1 : W1.cell? ⟨bs, 0, none⟩ = some (.string s) := by
    rw [← hW1]
    exact ((((Below.refl w.heap.size w).alloc (Nat.le_refl _) _).alloc (by simp) _).cell (p := ⟨bs, 0, none⟩) hbs).trans hc
  refine ⟨w.heap.size + 1, [{ target := .collected w.heap.size, args := #[] }], W1, { target := .fn (.func 146) #[.pointer (some ⟨bp, 0, none⟩), .pointer (some ⟨bs, 0, none⟩), .pointer (some ⟨bv, 0, none⟩)], args := #[.func (.yield (w.heap.size + 1)) #[] #[]] }, W1, 146, #[.func (.yield (w.heap.size + 1)) #[] #[], .pointer (some ⟨bp, 0, none⟩), .pointer (some ⟨bs, 0, none⟩), .pointer (some ⟨bv, 0, none⟩)], W1, ?_, ?_, fun _ _ => trivial, ?_, fun _ => by omega, ?_⟩
  · rw [← hW1, hR]
    exact run_enterLoop_outer _ _ _ _ _
  · simp only [resolve, hg]
    simp [go_sem]
  · simp [invoke, go_sem, enters_of Tryz.func146 (by kernel_rfl) rfl]
  · refine (splitSeq1_any (n - 1) (w.heap.size + 1) bs bp bv us
      (fun pre W => I pre W ∧ W.heap[w.heap.size + 1]? = some (.loop (R .ready none)) ∧ W.heap[w.heap.size]? = some (.deferred (some [])))
      (fun W => Ix W ∧ W.heap[w.heap.size + 1]? = some (.loop (R .done (some .ret))) ∧ W.heap[w.heap.size]? = some (.deferred (some [])))
      (fun pre W v h => ⟨hIs pre W v h.1, (Below.heap_setCell W ⟨bs, 0, none⟩ v _ (by show w.heap.size + 1 ≠ bs; omega)).trans h.2.1, (Below.heap_setCell W ⟨bs, 0, none⟩ v _ (by show w.heap.size ≠ bs; omega)).trans h.2.2⟩)
      (fun pre W h => hIc pre W h.1) ?_ s hs W1 hc1 ⟨by rw [← hW1]; exact h0 _, hl1, hd1⟩ hu (by omega)).mono ?_
    · rintro pre x W ⟨hi, hl, hd⟩ hpost
      have hlt := (Array.getElem?_eq_some_iff.1 hl).1
      have hy := run_yield (P := Tryz.prog) (args := #[.string x]) hl (by rw [hR]; rfl)
      rw [hR] at hy
      obtain ⟨Wb, hWb⟩ : ∃ Wb, W.putObj (w.heap.size + 1) (.loop (R .busy none)) = Wb := ⟨_, rfl⟩
      have hlb : Wb.heap[w.heap.size + 1]? = some (.loop (R .busy none)) := by rw [← hWb]; exact World.putObj_heap_same hlt
      have hdb : Wb.heap[w.heap.size]? = some (.deferred (some [])) := by rw [← hWb]; exact (World.putObj_heap_other (by omega)).trans hd
      have hcb : Wb.cell? ⟨bs, 0, none⟩ = W.cell? ⟨bs, 0, none⟩ := by rw [← hWb]; exact World.cell?_of_block (a := ⟨bs, 0, none⟩) (World.putObj_heap_other (by show bs ≠ w.heap.size + 1; omega))
      have hib : I pre Wb := by rw [← hWb]; exact hIp _ _ _ _ hi hl rfl
      refine ⟨fn, _, assign, body, hy, roundIn_of_wpIn trivial (hassign _ x W _ ?_)⟩
      refine ⟨Wb, ?_, ?_⟩
      · rw [run_beginRound hl (by rw [hR]), ← hWb, hR, hR]
      · refine wpIn_mono (hbody _ pre x Wb hib hpost) fun e a3 W3 hp => ?_
        have fin : ∀ jump, KpR w.heap.size bs Wb W3 → W3.heap[w.heap.size + 1]? = some (.loop (R .busy none)) ∧
            (Instr.endRound (w.heap.size + 1) jump).run Tryz.prog W3 = .ok (.bool jump.isNone) (W3.putObj (w.heap.size + 1) (.loop (R (if jump.isNone then .ready else .done) jump))) ∧
            (W3.putObj (w.heap.size + 1) (.loop (R (if jump.isNone then .ready else .done) jump))).heap[w.heap.size + 1]? = some (.loop (R (if jump.isNone then .ready else .done) jump)) ∧
            (W3.putObj (w.heap.size + 1) (.loop (R (if jump.isNone then .ready else .done) jump))).heap[w.heap.size]? = some (.deferred (some [])) ∧
            (W3.putObj (w.heap.size + 1) (.loop (R (if jump.isNone then .ready else .done) jump))).cell? ⟨bs, 0, none⟩ = W.cell? ⟨bs, 0, none⟩ := by
          intro jump hk
          have hl3 := hk.2.2.trans hlb
          refine ⟨hl3, ?_, World.putObj_heap_same (Array.getElem?_eq_some_iff.1 hl3).1, (World.putObj_heap_other (by omega)).trans (hk.2.1.trans hdb),
            (World.cell?_of_block (a := ⟨bs, 0, none⟩) (World.putObj_heap_other (by show bs ≠ w.heap.size + 1; omega))).trans (hk.1.trans hcb)⟩
          rw [run_endRound jump hl3, hR, hR]
        cases e with
        | normal =>
          obtain ⟨k1, k2, k3, k4, k5⟩ := fin none hp.1
          exact ⟨_, _, k2, .inl ⟨rfl, ⟨hIp _ _ _ _ hp.2 k1 rfl, k3, k4⟩, k5⟩⟩
        | ret =>
          obtain ⟨k1, k2, k3, k4, k5⟩ := fin (some .ret) hp.1
          exact ⟨_, _, k2, .inr ⟨rfl, hIxp _ _ _ hp.2 k1 rfl, k3, k4⟩⟩
        | exit id => exact hp.elim
        | goto t => exact hp.elim
        | panic ch => exact hp.elim
        | outgrown => exact hp.elim
    · rintro e W2 ⟨⟨v, rfl⟩, (⟨hi, hl, hd⟩ | ⟨hi, hl, hd⟩)⟩
      · refine ⟨none, _, by rw [run_endLoop hl (by rw [hR]; simp), hR], hdone _ (hIp _ _ _ _ hi hl rfl) ((World.putObj_heap_other (by omega)).trans hd)⟩
      · refine ⟨some .ret, _, by rw [run_endLoop hl (by rw [hR]; simp), hR], hstop _ (hIxp _ _ _ hi hl rfl) ((World.putObj_heap_other (by omega)).trans hd)⟩

theorem round_ret {w W0 W w3 : World} {v : Value} {acc : List Int} {us : List ByteArray} {J : World → Prop} {a : Act} (h : PS W0 (w.heap.size + 1 + 1) (w.heap.size + 1 + 1 + 1) v acc W) (hsz : W0.heap.size = w.heap.size + 6) (hn : numF us [] = none) (hb3 : Below W.heap.size W w3)
    (hcR : w3.cell? ⟨w.heap.size, 0, none⟩ = some (.slice none 0 0)) (hcK : w3.cell? ⟨w.heap.size + 1, 0, none⟩ = some (.bool false)) :
    rndP W0.heap.size (w.heap.size + 1 + 1 + 1) J (fun W => numF us [] = none ∧ Frm (fun c => c = w.heap.size + 1 + 1 ∨ c = w.heap.size + 1 + 1 + 1 ∨ c = w.heap.size ∨ c = w.heap.size + 1) W0 W ∧ W0.heap.size + 2 ≤ W.heap.size ∧ W.cell? ⟨w.heap.size, 0, none⟩ = some (.slice none 0 0) ∧ W.cell? ⟨w.heap.size + 1, 0, none⟩ = some (.bool false)) W .ret a
      ((w3.setCell ⟨w.heap.size, 0, none⟩ (.slice none 0 0)).setCell ⟨w.heap.size + 1, 0, none⟩ (.bool false)) := by
  have hz := h.size
  have hz3 := hb3.size
  have hF : Frm (fun c => c = w.heap.size ∨ c = w.heap.size + 1) W ((w3.setCell ⟨w.heap.size, 0, none⟩ (.slice none 0 0)).setCell ⟨w.heap.size + 1, 0, none⟩ (.bool false)) := ((Frm.pure hb3 _).setCell (.inl rfl) _).setCell (.inr rfl) _
  refine ⟨KpR.of hF (by omega) (by omega) (by omega) (by omega) (by omega), hn, h.frm.next hF (fun c _ hc => by omega) (fun c hc => by omega), Nat.le_trans hz hF.size, ?_, ?_⟩
  · rw [World.cell?_setCell_other _ _ _ _ (fun e => by injection e with e1; omega)]
    exact World.cell?_setCell_same _ _ _ hcR
  · have h2 : (w3.setCell ⟨w.heap.size, 0, none⟩ (.slice none 0 0)).cell? ⟨w.heap.size + 1, 0, none⟩ = some (.bool false) := by
      rw [World.cell?_setCell_other _ _ _ _ (fun e => by injection e with e1; omega)]
      exact hcK
    exact World.cell?_setCell_same _ _ _ h2

/-- Numbers of the call's own and whether it went well. -/
def RetNumO (w : World) (o : Option (List Int)) (e : Ending) (w' : World) : Prop :=
  ∃ A cap, e = .returned (.tuple #[.slice A (o.getD []).length cap, .bool o.isSome]) ∧ OwnI w' w.heap.size (.slice A (o.getD []).length cap) (o.getD []) ∧ (∀ x ∈ o.getD [], Fits x) ∧ Below w.heap.size w w'
theorem RetNumO.plain {w : World} {o : Option (List Int)} {e : Ending} {w' : World} (h : RetNumO w o e w') : RetNums w o e w' := by
  obtain ⟨A, c, h1, h2, h3, h4⟩ := h
  exact ⟨A, c, h1, h2.ints h3, h4⟩

set_option maxRecDepth 100000 in
set_option maxHeartbeats 2000000 in
theorem impl_ParseNumbers_own (s : ByteArray) (w : World) (hs : s.size ≤ 1048576) (hE : Errs w) (hP : Pow w) :
    Calls Tryz.prog 32 #[.string s] w (RetNumO w (numsV s)) := by
  refine (callsIn_wide (n := 6)).1 ?_
  have hsm := @Oper.semAt_some
  have HE := Lib.hid hE
  have HP := Lib.hid hP
  clear hE hP
  by_cases hd : s.data.toList = [45]
  · have HV := Lib.hid (numsV_dash hd)
    have hse : s = ⟨#[45]⟩ := (show Str s [45] from hd).eq
    subst hse
    clear hd
    refine callsIn_of_wp_marks Tryz.func32 rfl trivial ?_ rfl
    simp only [Tryz.ntmps32, List.size_toArray, List.length_cons, List.length_nil, Nat.reduceAdd, Nat.reduceSub, Array.replicate_succ, Array.replicate_zero, List.push_toArray, List.append_toArray, List.nil_append, List.cons_append]
    gi_wp2
    have bR := (Boxed.new w 24 (.slice none 0 0)).alloc (.cells #[.bool true] 4)
    have bK := Boxed.new (w.alloc (.cells #[.slice none 0 0] 24)) 4 (.bool true)
    have h1 := bR.cell
    have h2 := bK.cell
    simp only [World.size_alloc] at h2
    refine ⟨.tuple #[.slice none 0 0, .bool true], ?_, ?_⟩
    · simp [results, Tryz.f32, go_sem, h1, h2]
    · rw [HV.out]
      exact ⟨none, 0, rfl, OwnI.nil _ _, by simp, ((Below.refl _ w).alloc (Nat.le_refl _) _).alloc (by simp) _⟩
  · have HV := Lib.hid (numsV_on hd)
    have heq : (s.toList == [45]) = false := by rw [beq_eq_false_iff_ne]; intro h; exact hd (by rw [← Lib.toList_data]; exact h)
    clear hd
    generalize numsV s = nv at HV ⊢
    refine callsIn_of_wp_marks Tryz.func32 rfl trivial ?_ rfl
    simp only [Tryz.ntmps32, List.size_toArray, List.length_cons, List.length_nil, Nat.reduceAdd, Nat.reduceSub, Array.replicate_succ, Array.replicate_zero, List.push_toArray, List.append_toArray, List.nil_append, List.cons_append]
    gi_wp2_with (refine ⟨trivial, ?_⟩; gi_at_call 68; refine (callsIn_wide.2 (splitSeq_any s _ _)).mono ?_; rintro e w' ⟨rfl, rfl⟩)
    have bR := Boxed.new w 24 (.slice none 0 0)
    have bK := Boxed.new (w.alloc (.cells #[.slice none 0 0] 24)) 4 (.bool false)
    have b2 := Boxed.new ((w.alloc (.cells #[.slice none 0 0] 24)).alloc (.cells #[.bool false] 4)) 24 (.slice none 0 0)
    have bs := Boxed.new (((w.alloc (.cells #[.slice none 0 0] 24)).alloc (.cells #[.bool false] 4)).alloc (.cells #[.slice none 0 0] 24)) 9 (.string s)
    have bp := Boxed.new ((((w.alloc (.cells #[.slice none 0 0] 24)).alloc (.cells #[.bool false] 4)).alloc (.cells #[.slice none 0 0] 24)).alloc (.cells #[.string s] 9)) 9 (.string ⟨#[44]⟩)
    have bv := Boxed.new (((((w.alloc (.cells #[.slice none 0 0] 24)).alloc (.cells #[.bool false] 4)).alloc (.cells #[.slice none 0 0] 24)).alloc (.cells #[.string s] 9)).alloc (.cells #[.string ⟨#[44]⟩] 9)) 3 (.int .i64 0)
    have bR := ((((bR.alloc (.cells #[.bool false] 4)).alloc (.cells #[.slice none 0 0] 24)).alloc (.cells #[.string s] 9)).alloc (.cells #[.string ⟨#[44]⟩] 9)).alloc (.cells #[.int .i64 0] 3)
    have bK := (((bK.alloc (.cells #[.slice none 0 0] 24)).alloc (.cells #[.string s] 9)).alloc (.cells #[.string ⟨#[44]⟩] 9)).alloc (.cells #[.int .i64 0] 3)
    have b2 := ((b2.alloc (.cells #[.string s] 9)).alloc (.cells #[.string ⟨#[44]⟩] 9)).alloc (.cells #[.int .i64 0] 3)
    have bs := (bs.alloc (.cells #[.string ⟨#[44]⟩] 9)).alloc (.cells #[.int .i64 0] 3)
    have bp := bp.alloc (.cells #[.int .i64 0] 3)
    have hbW : Below w.heap.size w ((((((w.alloc (.cells #[.slice none 0 0] 24)).alloc (.cells #[.bool false] 4)).alloc (.cells #[.slice none 0 0] 24)).alloc (.cells #[.string s] 9)).alloc (.cells #[.string ⟨#[44]⟩] 9)).alloc (.cells #[.int .i64 0] 3)) :=
      ((((((Below.refl _ w).alloc (Nat.le_refl _) _).alloc (by simp) _).alloc (by simp; omega) _).alloc (by simp; omega) _).alloc (by simp; omega) _).alloc (by simp; omega) _
    generalize hW0 : ((((((w.alloc (.cells #[.slice none 0 0] 24)).alloc (.cells #[.bool false] 4)).alloc (.cells #[.slice none 0 0] 24)).alloc (.cells #[.string s] 9)).alloc (.cells #[.string ⟨#[44]⟩] 9)).alloc (.cells #[.int .i64 0] 3)) = W0 at bR bK b2 bs bp bv hbW ⊢
    have hsz : W0.heap.size = w.heap.size + 6 := by rw [← hW0]; simp
    simp only [World.size_alloc] at bR bK b2 bs bp bv
    clear hW0
    obtain ⟨us, hu⟩ : ∃ us, splT 44 s = us := ⟨_, rfl⟩
    have HUL := Lib.hid (fun u => splT_size 44 s u)
    rw [hu] at HV HUL
    refine over_pieces (n := 6) (by omega) rfl hs hu (bs := w.heap.size + 1 + 1 + 1) (bp := w.heap.size + 1 + 1 + 1 + 1) (bv := w.heap.size + 1 + 1 + 1 + 2) bs.cell
      (fun pre W => ∃ v acc post, us = pre ++ post ∧ numF us [] = numF post acc ∧ acc.length ≤ 64 ∧ (∀ x ∈ acc, Fits x) ∧ PS W0 (w.heap.size + 1 + 1) (w.heap.size + 1 + 1 + 1) v acc W)
      (fun W => numF us [] = none ∧ Frm (fun c => c = w.heap.size + 1 + 1 ∨ c = w.heap.size + 1 + 1 + 1 ∨ c = w.heap.size ∨ c = w.heap.size + 1) W0 W ∧ W0.heap.size + 2 ≤ W.heap.size ∧ W.cell? ⟨w.heap.size, 0, none⟩ = some (.slice none 0 0) ∧ W.cell? ⟨w.heap.size + 1, 0, none⟩ = some (.bool false))
      ?_ ?_ ?_ ?_ ?_ (fun x => { tmps := #[.string s, undef, .pointer (some ⟨w.heap.size, 0, none⟩), .pointer (some ⟨w.heap.size + 1, 0, none⟩), .pointer (some ⟨w.heap.size + 1 + 1, 0, none⟩), .string x, undef, undef, .string s, .bool false, .string s, .func (.func 146) #[] #[.pointer (some ⟨w.heap.size + 1 + 1 + 1 + 1, 0, none⟩), .pointer (some ⟨w.heap.size + 1 + 1 + 1, 0, none⟩), .pointer (some ⟨w.heap.size + 1 + 1 + 1 + 2, 0, none⟩)], .string x, undef, undef, undef, undef, undef, undef, undef, undef, undef, undef, undef, undef, undef, undef, undef, undef, undef], defers := [] }) ?_ ?_ ?_ ?_
    · rintro pre W v ⟨v1, acc, post, e1, e2, e3, e4, e5⟩
      exact ⟨v1, acc, post, e1, e2, e3, e4, e5.setS (by omega) (by omega) v⟩
    · rintro pre W ⟨v1, acc, post, e1, e2, e3, e4, e5⟩
      exact ⟨(e5.frm.cell (by omega) (by omega)).trans bp.cell, (e5.frm.cell (by omega) (by omega)).trans bv.cell, e5.fs⟩
    · rintro pre W o o' ⟨v1, acc, post, e1, e2, e3, e4, e5⟩ ho hn
      exact ⟨v1, acc, post, e1, e2, e3, e4, e5.putL (by omega) (by omega) (by omega) ho hn o'⟩
    · rintro W o o' ⟨e1, e2, e3, e4, e5⟩ ho hn
      exact ⟨e1, frm_putObj e2 (by omega) o', by rw [World.putObj_size]; exact e3, (World.cell?_of_block (a := ⟨w.heap.size, 0, none⟩) (World.putObj_heap_other (by show w.heap.size ≠ _; omega))).trans e4, (World.cell?_of_block (a := ⟨w.heap.size + 1, 0, none⟩) (World.putObj_heap_other (by show w.heap.size + 1 ≠ _; omega))).trans e5⟩
    · intro r
      refine ⟨.slice none 0 0, [], us, rfl, rfl, by simp, by simp, ?_⟩
      exact { frm := ((Frm.refl _ W0).alloc _).alloc _, size := by simp, out := ((b2.alloc _).alloc _).cell, fz := ((b2.alloc _).alloc _).frozen, fs := ((bs.alloc _).alloc _).frozen, own := OwnI.nil _ _ }
    · intro l x W K hK
      gi_wp2
      exact hK
    · rintro l pre x W ⟨v1, acc, post, e1, e2, e3, e4, e5⟩ ⟨post', hpost⟩
      have hpp : post = x :: post' := List.append_cancel_left (e1.symm.trans hpost)
      subst hpp
      have hbB : Below w.heap.size w W := hbW.trans (e5.frm.below (fun c h => by omega) (by omega))
      have HPI := Lib.hid (impl_ParseInt_any x (by have := HUL.out x (by rw [e1]; simp); omega) W (HE.out.below hbB) (HP.out.below hbB))
      have hc2 := e5.out
      have hf2 := e5.fz
      have hcR := (e5.frm.cell (c := w.heap.size) (o := 0) (by omega) (by omega)).trans bR.cell
      have hfR := (e5.frm.frozen (c := w.heap.size) (o := 0) (by omega) (by omega)).trans bR.frozen
      have hcK := (e5.frm.cell (c := w.heap.size + 1) (o := 0) (by omega) (by omega)).trans bK.cell
      have hfK := (e5.frm.frozen (c := w.heap.size + 1) (o := 0) (by omega) (by omega)).trans bK.frozen
      obtain ⟨A1, c1, rfl⟩ := e5.own.form
      have HE5 := Lib.hid e5
      have HE2 := Lib.hid e2
      have HE4 := Lib.hid e4
      have HE1 := Lib.hid e1
      have HSZ := Lib.hid hsz
      have hWz := e5.size
      clear bR bK b2 bs bp bv hbW e5 e2 e4 e1 hsz hpost
      cases hpv : pintV x with
      | none =>
        rw [hpv] at HPI
        have HNN := Lib.hid (show numF us [] = none by rw [HE2.out]; exact numF_bad _ _ hpv)
        clear hpv
        gi_wp2_with (refine ⟨trivial, ?_⟩; gi_at_call 69; refine (CallsIn.inRound l (callsIn_wide.2 HPI.out)).mono ?_; rintro e w3 ⟨rfl, hb3⟩; have hcR3 := (hb3.cell (p := ⟨w.heap.size, 0, none⟩) (by show w.heap.size < W.heap.size; have := HSZ.out; omega)).trans hcR; have hcK3 := (hb3.cell (p := ⟨w.heap.size + 1, 0, none⟩) (by show w.heap.size + 1 < W.heap.size; have := HSZ.out; omega)).trans hcK; have hfR3 := (hb3.frozen (p := ⟨w.heap.size, 0, none⟩) (by show w.heap.size < W.heap.size; have := HSZ.out; omega)).trans hfR; have hfK3 := (hb3.frozen (p := ⟨w.heap.size + 1, 0, none⟩) (by show w.heap.size + 1 < W.heap.size; have := HSZ.out; omega)).trans hfK)
        exact round_ret HE5.out HSZ.out HNN.out hb3 hcR3 hcK3
      | some k =>
        rw [hpv] at HPI
        by_cases h64 : acc.length = 64
        · have heq6 : ((acc.length : Int) == 64) = true := by rw [h64]; rfl
          have HNN := Lib.hid (show numF us [] = none by rw [HE2.out]; exact numF_full _ hpv h64)
          clear hpv h64
          gi_wp2_with (refine ⟨trivial, ?_⟩; gi_at_call 69; refine (CallsIn.inRound l (callsIn_wide.2 HPI.out)).mono ?_; rintro e w3 ⟨rfl, hb3⟩; have hc23 := (hb3.cell (p := ⟨w.heap.size + 1 + 1, 0, none⟩) (by show w.heap.size + 1 + 1 < W.heap.size; have := HSZ.out; omega)).trans hc2; have hcR3 := (hb3.cell (p := ⟨w.heap.size, 0, none⟩) (by show w.heap.size < W.heap.size; have := HSZ.out; omega)).trans hcR; have hcK3 := (hb3.cell (p := ⟨w.heap.size + 1, 0, none⟩) (by show w.heap.size + 1 < W.heap.size; have := HSZ.out; omega)).trans hcK; have hfR3 := (hb3.frozen (p := ⟨w.heap.size, 0, none⟩) (by show w.heap.size < W.heap.size; have := HSZ.out; omega)).trans hfR; have hfK3 := (hb3.frozen (p := ⟨w.heap.size + 1, 0, none⟩) (by show w.heap.size + 1 < W.heap.size; have := HSZ.out; omega)).trans hfK)
          exact round_ret HE5.out HSZ.out HNN.out hb3 hcR3 hcK3
        · have heq6 : ((acc.length : Int) == 64) = false := by rw [beq_eq_false_iff_ne]; omega
          have HNN := Lib.hid (show numF us [] = numF post' (acc ++ [k]) by rw [HE2.out]; exact numF_on _ hpv h64)
          have HKF := Lib.hid ((pint_iff x k).1 hpv).1
          have H64 := Lib.hid h64
          clear hpv h64
          gi_wp2_with (first
            | (refine ⟨trivial, ?_⟩; gi_at_call 69; refine (CallsIn.inRound l (callsIn_wide.2 HPI.out)).mono ?_; rintro e w3 ⟨rfl, hb3⟩; have hc23 := (hb3.cell (p := ⟨w.heap.size + 1 + 1, 0, none⟩) (by show w.heap.size + 1 + 1 < W.heap.size; have := HSZ.out; omega)).trans hc2; have hf23 := (hb3.frozen (p := ⟨w.heap.size + 1 + 1, 0, none⟩) (by show w.heap.size + 1 + 1 < W.heap.size; have := HSZ.out; omega)).trans hf2)
            | (gi_at_builtin; refine wpListIn_append_int rfl _ _ rfl (W0.heap.size + 2) _ acc rfl ((HE5.out.own.grown hb3).alloc _) _ k rfl ?_ ?_ ?_ ?_; (exact cell_new1 _ _ _); (omega); (have hqq := hb3.size; simp; omega); intro v' w4 hown4 hb4; obtain ⟨A6, c6, rfl⟩ := hown4.form; obtain ⟨hc24, hf24⟩ := keep_over hb4 (b := w.heap.size + 1 + 1) (by have := HSZ.out; omega) hc23 hf23))
          have hsz := HSZ.out
          have hz3 := hb3.size
          have hz4 := hb4.size
          simp at hz4
          have ho5 : OwnI w4 (W0.heap.size + 2) (.slice A6 (acc.length + 1) c6) (acc ++ [k]) := by simpa using hown4
          have hF4 : Frm (fun c => c = w.heap.size + 1 + 1 ∨ W0.heap.size + 2 ≤ c) W w4 := ((Frm.of_below (hb3.mono hWz) (fun c _ h => .inr h)).alloc _).trans (Frm.of_below hb4 (fun c _ h => .inr h))
          have hF5 := hF4.setCell (p := ⟨w.heap.size + 1 + 1, 0, none⟩) (.inl rfl) (.slice A6 (acc.length + 1) c6)
          refine ⟨KpR.of hF5 (by omega) (by omega) (by omega) (by omega) (by omega), ?_⟩
          refine ⟨.slice A6 (acc.length + 1) c6, acc ++ [k], post', by rw [HE1.out]; simp, HNN.out, by have := H64.out; simp; omega, fun y hy => ?_, ?_⟩
          · rcases List.mem_append.1 hy with h | h
            · exact HE4.out y h
            · simp at h; subst h; exact HKF.out
          · exact { frm := HE5.out.frm.next hF5 (fun c hc h => by omega) (fun c h => h), size := Nat.le_trans hWz hF5.size, out := World.cell?_setCell_same _ _ _ hc24, fz := by rw [World.frozen?_setCell]; exact hf24, fs := (hF5.frozen (by omega) (by omega)).trans HE5.out.fs, own := ownsRow_setCell_below ho5 (by show w.heap.size + 1 + 1 < W0.heap.size + 2; omega) _ }
    · rintro W ⟨v1, acc, post, e1, e2, e3, e4, e5⟩ hD
      have hpp : post = [] := by have := congrArg List.length e1; rw [List.length_append] at this; exact List.eq_nil_of_length_eq_zero (by omega)
      subst hpp
      have hc2 := e5.out
      have hcR := (e5.frm.cell (c := w.heap.size) (o := 0) (by omega) (by omega)).trans bR.cell
      have hfR := (e5.frm.frozen (c := w.heap.size) (o := 0) (by omega) (by omega)).trans bR.frozen
      have hcK := (e5.frm.cell (c := w.heap.size + 1) (o := 0) (by omega) (by omega)).trans bK.cell
      have hfK := (e5.frm.frozen (c := w.heap.size + 1) (o := 0) (by omega) (by omega)).trans bK.frozen
      obtain ⟨A1, c1, rfl⟩ := e5.own.form
      have hfr := e5.frm
      have hown := e5.own
      have hsz5 := e5.size
      have hn : nv = some acc := by rw [HV.out, e2]; rfl
      clear b2 bR bK bs bp bv
      gi_wp2
      obtain ⟨W5, hW5⟩ : ∃ W5, (W.setCell ⟨w.heap.size, 0, none⟩ (.slice A1 acc.length c1)).setCell ⟨w.heap.size + 1, 0, none⟩ (.bool true) = W5 := ⟨_, rfl⟩
      have h2 : W5.cell? ⟨w.heap.size + 1, 0, none⟩ = some (.bool true) := by
        rw [← hW5]
        refine World.cell?_setCell_same' _ _ _ ?_
        rw [World.cell?_setCell_other _ _ _ _ (fun e => by injection e with e1; omega), hcK]; rfl
      have h1 : W5.cell? ⟨w.heap.size, 0, none⟩ = some (.slice A1 acc.length c1) := by
        rw [← hW5, World.cell?_setCell_other _ _ _ _ (fun e => by injection e with e1; omega)]
        exact World.cell?_setCell_same _ _ _ hcR
      have hD5 : W5.heap[W0.heap.size]? = some (.deferred (some [])) := by
        rw [← hW5]
        exact (Below.heap_setCell _ ⟨w.heap.size + 1, 0, none⟩ _ _ (by show W0.heap.size ≠ w.heap.size + 1; omega)).trans ((Below.heap_setCell _ ⟨w.heap.size, 0, none⟩ _ _ (by show W0.heap.size ≠ w.heap.size; omega)).trans hD)
      have ho5 : OwnI W5 (W0.heap.size + 2) (.slice A1 acc.length c1) acc := by
        rw [← hW5]
        exact ownsRow_setCell_below (ownsRow_setCell_below hown (by show w.heap.size < W0.heap.size + 2; omega) _) (by show w.heap.size + 1 < W0.heap.size + 2; omega) _
      have hb5 : Below w.heap.size w W5 := by
        rw [← hW5]
        exact (((hbW.trans (hfr.below (fun c h => by omega) (by omega))).setCell (p := ⟨w.heap.size, 0, none⟩) (by simp) _).setCell (p := ⟨w.heap.size + 1, 0, none⟩) (by simp) _)
      rw [hW5]
      clear hW5
      have hp1 := (World.cell?_of_block (a := ⟨w.heap.size, 0, none⟩) (World.putObj_heap_other (w := W5) (r := W0.heap.size) (o := .deferred none) (by show w.heap.size ≠ W0.heap.size; omega))).trans h1
      have hp2 := (World.cell?_of_block (a := ⟨w.heap.size + 1, 0, none⟩) (World.putObj_heap_other (w := W5) (r := W0.heap.size) (o := .deferred none) (by show w.heap.size + 1 ≠ W0.heap.size; omega))).trans h2
      refine ⟨by simp, .inl ⟨_, _, rfl, run_takeDeferred hD5, ?_⟩⟩
      refine ⟨.tuple #[.slice A1 acc.length c1, .bool true], ?_, ?_⟩
      · simp [results, Tryz.f32, go_sem, hp1, hp2]
      · rw [hn]
        exact ⟨A1, c1, rfl, ownI_base (base := W0.heap.size + 2) (ownsRow_putObj ho5 _ hD5 rfl) (by omega), e4, hb5.trans (belowK_b (w := w) (Nat.le_refl _) W5 W0.heap.size _ _ (by omega) hD5 rfl rfl)⟩
    · rintro W ⟨e1, e2, e3, e4, e5⟩ hD
      clear b2 bR bK bs bp bv
      gi_wp2
      have hp1 := (World.cell?_of_block (a := ⟨w.heap.size, 0, none⟩) (World.putObj_heap_other (w := W) (r := W0.heap.size) (o := .deferred none) (by show w.heap.size ≠ W0.heap.size; omega))).trans e4
      have hp2 := (World.cell?_of_block (a := ⟨w.heap.size + 1, 0, none⟩) (World.putObj_heap_other (w := W) (r := W0.heap.size) (o := .deferred none) (by show w.heap.size + 1 ≠ W0.heap.size; omega))).trans e5
      refine ⟨by simp, .inl ⟨_, _, rfl, run_takeDeferred hD, ?_⟩⟩
      refine ⟨.tuple #[.slice none 0 0, .bool false], ?_, ?_⟩
      · simp [results, Tryz.f32, go_sem, hp1, hp2]
      · rw [HV.out, e1]
        exact ⟨none, 0, rfl, OwnI.nil _ _, by simp, (hbW.trans (e2.below (fun c h => by omega) (by omega))).trans (belowK_b (w := w) (Nat.le_refl _) W W0.heap.size _ _ (by omega) hD rfl rfl)⟩

theorem impl_ParseNumbers_any (s : ByteArray) (w : World) (hs : s.size ≤ 1048576) (hE : Errs w) (hP : Pow w) :
    Calls Tryz.prog 32 #[.string s] w (RetNums w (numsV s)) := (impl_ParseNumbers_own s w hs hE hP).mono fun _ _ h => h.plain

end Go.Proofs.YthookknmeajojaaGreatDoor

