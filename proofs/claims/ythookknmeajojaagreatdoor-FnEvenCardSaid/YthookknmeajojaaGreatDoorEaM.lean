/-
  Several texts of this proof in one: Rv, Rhs, EvU, Dst, Few, Near, EvX.
-/
import Derived.Test.YthookknmeajojaaGreatDoorEaF
import Derived.Test.YthookknmeajojaaGreatDoorEaC
import Derived.Deep.AppendLies
import Derived.Test.YthookknmeajojaaGreatDoorEaH
import Derived.Test.YthookknmeajojaaGreatDoorEaJ
import Derived.Test.YthookknmeajojaaGreatDoorEaE
import Derived.Test.YthookknmeajojaaGreatDoorEaI
import Derived.Test.YthookknmeajojaaGreatDoorEaG
namespace Go.Proofs.YthookknmeajojaaGreatDoor
open Go.RowKit
set_option linter.unusedVariables false
set_option linter.unusedSimpArgs false

/-- A rhythm in a slice: its size, beats, and where they lie. -/
structure RV where
  n : Int
  xs : List Int
  A : Option Addr
  c : Nat
  b : Nat
instance : Inhabited RV := ⟨⟨0, [], none, 0, 0⟩⟩
def RV.slc (r : RV) : Value := .slice r.A r.xs.length r.c
def RV.cells (r : RV) : List Value := [.int .i64 r.n, r.slc]
def cellsR : List RV → List Value
  | [] => []
  | r :: rs => .int .i64 r.n :: r.slc :: cellsR rs
theorem cellsR_len : ∀ rs, (cellsR rs).length = rs.length * 2
  | [] => rfl
  | r :: rs => by simp [cellsR, cellsR_len rs]; omega
theorem cellsR_app : ∀ rs ss, cellsR (rs ++ ss) = cellsR rs ++ cellsR ss
  | [], ss => rfl
  | r :: rs, ss => by simp [cellsR, cellsR_app rs ss]
theorem cellsR_get : ∀ (rs : List RV) (i : Nat) (h : i < rs.length), (cellsR rs)[i * 2]? = some (.int .i64 rs[i].n) ∧ (cellsR rs)[i * 2 + 1]? = some rs[i].slc
  | r :: rs, 0, _ => ⟨rfl, rfl⟩
  | r :: rs, i + 1, h => by
    have := cellsR_get rs i (by simpa using h)
    rw [show (i + 1) * 2 = i * 2 + 1 + 1 by omega]
    simpa [cellsR] using this

/-- The beats of r lie in block r.b. -/
def RV.Lies (r : RV) (w : World) (base : Nat) : Prop :=
  r.xs.length ≤ 1048576 ∧ base ≤ r.b ∧ r.b < w.heap.size ∧ (0 < r.xs.length → r.A = some ⟨r.b, 0, none⟩ ∧ TabV w r.b r.xs.length (fun t => .int .i64 (r.xs.getD t 0)))
theorem RV.Lies.frm {r : RV} {w w' : World} {base : Nat} {S : Nat → Prop} (h : r.Lies w base) (hf : Frm S w w') (hS : ¬ S r.b) : r.Lies w' base :=
  ⟨h.1, h.2.1, Nat.lt_of_lt_of_le h.2.2.1 hf.size, fun hn => ⟨(h.2.2.2 hn).1, (h.2.2.2 hn).2.frm hf hS⟩⟩
theorem RV.Lies.mono {r : RV} {w : World} {base base' : Nat} (h : r.Lies w base) (hb : base' ≤ base) : r.Lies w base' := ⟨h.1, by have := h.2.1; omega, h.2.2⟩
theorem RV.Lies.ints {r : RV} {w : World} {base : Nat} (h : r.Lies w base) (hf : ∀ x ∈ r.xs, Fits x) : Ints w w.heap.size r.A r.xs := by
  refine ⟨by have := h.1; unfold maxLen; omega, hf, fun hn => ?_⟩
  obtain ⟨e, ht⟩ := h.2.2.2 hn
  exact ⟨r.b, 0, e, ht.1, fun i hi => by rw [Nat.zero_add]; exact (ht.2 i hi).1⟩
theorem RW.rv {w : World} {base : Nat} {A : Option Addr} {xs : List Int} (h : RW w base A xs) (hb : base < w.heap.size) (n : Int) (c : Nat) : ∃ b, (RV.mk n xs A c b).Lies w base := by
  by_cases hn : 0 < xs.length
  · obtain ⟨b, e, hge, ht⟩ := h.2 hn
    exact ⟨b, h.1, hge, ht.1, fun _ => ⟨e, ht.tabV⟩⟩
  · exact ⟨base, h.1, Nat.le_refl _, hb, fun h' => absurd h' hn⟩

end Go.Proofs.YthookknmeajojaaGreatDoor

namespace Go.Proofs.YthookknmeajojaaGreatDoor
open Go.RowKit
set_option linter.unusedVariables false
set_option linter.unusedSimpArgs false

/-- v is a slice of rhythms of the call's own, in blocks from base on, that holds the list; each one's beats in a block of their own. -/
def OwnR (w : World) (base : Nat) (v : Value) (rs : List RV) : Prop :=
  w.ownsRow base 26 2 v rs.length (cellsR rs) ∧ (∀ r ∈ rs, r.Lies w base) ∧ rs.Pairwise (fun r s => r.b < s.b) ∧ ∀ g, v.ownBlock = some g → ∀ r ∈ rs, g ≠ r.b
section
variable {w w' : World} {base : Nat} {v : Value} {rs : List RV}
theorem OwnR.nil (w : World) (base : Nat) : OwnR w base (.slice none 0 0) [] := ⟨World.ownsRow_nil _ _ _ _, by simp, List.Pairwise.nil, by simp⟩
theorem OwnR.empty_at (w : World) (base g : Nat) (hg : w.heap.size = g) (hb : base ≤ g) : OwnR (w.alloc (.cells #[] 26)) base (.slice (some ⟨g, 0, none⟩) 0 0) [] := by
  subst hg
  exact ⟨⟨rfl, .inr ⟨w.heap.size, 0, #[], rfl, hb, heap_alloc_new w _, Nat.le_refl _, Nat.zero_le _, rfl, rfl⟩⟩, by simp, List.Pairwise.nil, by simp⟩
theorem OwnR.form (h : OwnR w base v rs) : ∃ A cap, v = .slice A rs.length cap := by
  rcases h.1.2 with ⟨rfl, h0⟩ | ⟨g, cap, cur, rfl, _⟩
  · exact ⟨none, 0, by rw [h0]⟩
  · exact ⟨some ⟨g, 0, none⟩, cap, rfl⟩
theorem OwnR.frm {S : Nat → Prop} (h : OwnR w base v rs) (hf : Frm S w w') (hS : ∀ c, base ≤ c → c < w.heap.size → ¬ S c) : OwnR w' base v rs := by
  refine ⟨⟨h.1.1, ?_⟩, fun r hr => (h.2.1 r hr).frm hf (hS _ (h.2.1 r hr).2.1 (h.2.1 r hr).2.2.1), h.2.2.1, h.2.2.2⟩
  rcases h.1.2 with h0 | ⟨g, cap, cur, e, hg, hh, rest⟩
  · exact .inl h0
  · have hlt : g < w.heap.size := (Array.getElem?_eq_some_iff.1 hh).1
    exact .inr ⟨g, cap, cur, e, hg, by rw [hf.block g hlt (hS g hg hlt)]; exact hh, rest⟩
theorem OwnR.grown (h : OwnR w base v rs) (hb : Below w.heap.size w w') : OwnR w' base v rs := h.frm (Frm.pure hb (fun _ => False)) (fun _ _ _ h => h)
theorem OwnR.alloc (h : OwnR w base v rs) (o : Obj) : OwnR (w.alloc o) base v rs := h.grown ((Below.refl _ _).alloc (Nat.le_refl _) o)
theorem OwnR.mono {base' : Nat} (h : OwnR w base v rs) (hb : base' ≤ base) : OwnR w base' v rs := ⟨⟨h.1.1, by
    rcases h.1.2 with h0 | ⟨g, cap, cur, e, hg, rest⟩
    · exact .inl h0
    · exact .inr ⟨g, cap, cur, e, by omega, rest⟩⟩, fun r hr => (h.2.1 r hr).mono hb, h.2.2⟩
theorem OwnR.lt (h : OwnR w base v rs) : ∀ g, v.ownBlock = some g → base ≤ g ∧ g < w.heap.size := h.1.lt
end

theorem Tryz.infoRhythm : (Tryz.prog.info? 26).map (fun i => (i.zero, i.size, i.bytes)) = some (some (.agg #[.int .i64 0, .slice none 0 0]), 2, 32) := by kernel_rfl

/-- 'append(s, r)' onto a slice of rhythms of the call's own. -/
theorem wpList_append_rh {w : World} {ops : Array Oper} {rest : List Oper} {o : Oper} {a : Act} {Q : Exit → Act → World → Prop} (hgd : o.guard = none) (s x : Operand)
    (ho : o.op = .call { callee := .builtin .append, args := #[s, x], argTypes := #[34, 34] })
    (base : Nat) (v : Value) (rs : List RV) (hs : a.eval s = v) (hown : OwnR w base v rs) (g : Nat) (r : RV) (hx : a.eval x = .slice (some ⟨g, 0, none⟩) 1 1)
    (hc : w.cell? ⟨g, 0, none⟩ = some (.int .i64 r.n) ∧ w.cell? ⟨g, 1, none⟩ = some r.slc) (hr : r.Lies w base) (hlt : ∀ r' ∈ rs, r'.b < r.b) (hne : ∀ g, v.ownBlock = some g → g ≠ r.b)
    (hlen : rs.length ≤ 1048576) (hbase : base ≤ w.heap.size)
    (h : ∀ v' w', OwnR w' base v' (rs ++ [r]) → Below base w w' → wpList Tryz.prog ops Q rest (a.put o.dst v') w') : wpList Tryz.prog ops Q (o :: rest) a w := by
  obtain ⟨i, hi, hz, hsz, hby⟩ := info_parts Tryz.infoRhythm
  refine wpList_append_lies w hgd s x _ ho base 26 i _ 2 32 Tryz.underlying34 hi hz hsz hby rfl (by omega) v rs.length _ hs hown.1 ⟨g, 0, none⟩ 1 1 r.cells hx rfl ?_ ?_ (by omega) (by unfold maxLen; omega) (by omega) hbase _ rfl ?_
  · intro j u hj
    match j, hj with
    | 0, hj => simp [RV.cells] at hj; subst hj; exact hc.1
    | 1, hj => simp [RV.cells] at hj; subst hj; exact hc.2
  · intro u hu
    simp [RV.cells] at hu
    rcases hu with rfl | rfl <;> rfl
  · intro g' cap w' hown' hgrow hat hlt'
    have hsame : ∀ r' ∈ rs ++ [r], r'.Lies w' base ∧ g' ≠ r'.b := by
      intro r' hr'
      have hl : r'.Lies w base ∧ ∀ g, v.ownBlock = some g → g ≠ r'.b := by
        rcases List.mem_append.1 hr' with h1 | h1
        · exact ⟨hown.2.1 r' h1, fun g hg => hown.2.2.2 g hg r' h1⟩
        · rw [List.mem_singleton] at h1; subst h1; exact ⟨hr, hne⟩
      have hblk : w'.heap[r'.b]? = w.heap[r'.b]? := hgrow.block _ hl.1.2.2.1 (fun e => hl.2 _ e.symm rfl)
      refine ⟨⟨hl.1.1, hl.1.2.1, Nat.lt_of_lt_of_le hl.1.2.2.1 hgrow.size, fun hn => ⟨(hl.1.2.2.2 hn).1, ?_⟩⟩, ?_⟩
      · have ht := (hl.1.2.2.2 hn).2
        exact ⟨Nat.lt_of_lt_of_le ht.1 hgrow.size, fun t h => ⟨(World.cell?_of_block (a := ⟨r'.b, t, none⟩) hblk).trans (ht.2 t h).1, (World.frozen?_of_block (a := ⟨r'.b, t, none⟩) hblk).trans (ht.2 t h).2⟩⟩
      · rcases hat with h1 | h1
        · exact hl.2 g' h1
        · have := hl.1.2.2.1; omega
    refine h _ w' ⟨?_, fun r' hr' => (hsame r' hr').1, ?_, ?_⟩ ((Below.refl base w).grown hgrow hbase (fun k hk => (hown.1.lt k hk).1))
    · rw [cellsR_app, List.length_append]; exact hown'
    · rw [List.pairwise_append]
      refine ⟨hown.2.2.1, by simp, fun a ha b hb => ?_⟩
      rw [List.mem_singleton] at hb
      subst hb
      exact hlt a ha
    · intro g2 hg2 r' hr'
      have : g' = g2 := by simpa [Value.ownBlock] using hg2
      subst this
      exact (hsame r' hr').2

/-- A slice of rhythms that lies below block B and reads as the list. -/
def RdR (w : World) (B : Nat) (A : Option Addr) (rs : List RV) : Prop :=
  rs.length ≤ 1048576 ∧ (∀ r ∈ rs, Ints w B r.A r.xs) ∧
  (0 < rs.length → ∃ g, A = some ⟨g, 0, none⟩ ∧ g < B ∧ ∀ i (h : i < rs.length), w.cell? ⟨g, i * 2, none⟩ = some (.int .i64 rs[i].n) ∧ w.cell? ⟨g, i * 2 + 1, none⟩ = some rs[i].slc)
theorem RdR.below {w w' : World} {B : Nat} {A : Option Addr} {rs : List RV} (h : RdR w B A rs) (hb : Below B w w') : RdR w' B A rs := by
  refine ⟨h.1, fun r hr => (h.2.1 r hr).below hb, fun hn => ?_⟩
  obtain ⟨g, e, hg, hc⟩ := h.2.2 hn
  exact ⟨g, e, hg, fun i hi => ⟨(hb.cell (p := ⟨g, i * 2, none⟩) hg).trans (hc i hi).1, (hb.cell (p := ⟨g, i * 2 + 1, none⟩) hg).trans (hc i hi).2⟩⟩
theorem RdR.mono {w : World} {B B' : Nat} {A : Option Addr} {rs : List RV} (h : RdR w B A rs) (hB : B ≤ B') : RdR w B' A rs := by
  refine ⟨h.1, fun r hr => (h.2.1 r hr).mono hB, fun hn => ?_⟩
  obtain ⟨g, e, hg, hc⟩ := h.2.2 hn
  exact ⟨g, e, by omega, hc⟩
theorem RdR.lift {w w' : World} {A : Option Addr} {rs : List RV} (h : RdR w w.heap.size A rs) (hb : Below w.heap.size w w') : RdR w' w'.heap.size A rs := (h.below hb).mono hb.size
theorem Ints.drew6_ {w : World} {B : Nat} {A : Option Addr} {xs : List Int} (h : Ints w B A xs) : Ints w.drew B A xs := h
theorem OwnR.rd {w : World} {base : Nat} {A : Option Addr} {cap : Nat} {rs : List RV} (h : OwnR w base (.slice A rs.length cap) rs) (hl : rs.length ≤ 1048576) (hf : ∀ r ∈ rs, ∀ x ∈ r.xs, Fits x) : RdR w w.heap.size A rs := by
  refine ⟨hl, fun r hr => (h.2.1 r hr).ints (hf r hr), fun hn => ?_⟩
  rcases h.1.2 with ⟨hv, h0⟩ | ⟨g, cap', cur, hv, hge, hh, hnc, hm, hsz, hxs⟩
  · omega
  · have hA : A = some ⟨g, 0, none⟩ := by injection hv
    subst hA
    refine ⟨g, rfl, (h.1.lt g rfl).2, fun i hi => ?_⟩
    have h0 := World.ownsRow.cells h.1 (g := g) rfl (i * 2) _ (cellsR_get rs i hi).1
    have h1 := World.ownsRow.cells h.1 (g := g) rfl (i * 2 + 1) _ (cellsR_get rs i hi).2
    rw [Go.WideShapes.add_plain, Nat.zero_add] at h0 h1
    exact ⟨h0, h1⟩

/-- A rhythm that a call has just handed back, beside a list that the caller owns. -/
theorem OwnR.fresh {wo w1 w2 : World} {base : Nat} {v : Value} {rs : List RV} {xs : List Int} {A : Option Addr} (hown : OwnR wo base v rs) (hb1 : Below wo.heap.size wo w1) (hrw : RW w1 wo.heap.size A xs) (hbase : base ≤ wo.heap.size)
    (hb2 : Below w1.heap.size w1 w2) (hlt : wo.heap.size < w2.heap.size) (n : Int) (c : Nat) :
    ∃ b, (RV.mk n xs A c b).Lies w2 base ∧ (∀ r' ∈ rs, r'.b < b) ∧ (∀ g, v.ownBlock = some g → g ≠ b) ∧ OwnR w2 base v rs := by
  obtain ⟨b, hl⟩ := (hrw.below hb2).rv hlt n c
  have hge : wo.heap.size ≤ b := hl.2.1
  refine ⟨b, hl.mono hbase, fun r' hr' => ?_, fun g hg => ?_, (hown.grown hb1).grown hb2⟩
  · have := (hown.2.1 r' hr').2.2.1; omega
  · have := (hown.lt g hg).2; omega

/-- What a call hands back: the rhythms, in memory of the call's own. -/
def keyR (rs : List RV) : List (Int × List Int) := rs.map fun r => (r.n, r.xs)
theorem keyR_len (rs : List RV) : (keyR rs).length = rs.length := by simp [keyR]
theorem keyR_fit {rs : List RV} {L : List (Int × List Int)} (h : keyR rs = L) (hf : ∀ p ∈ L, ∀ x ∈ p.2, Fits x) : ∀ r ∈ rs, ∀ x ∈ r.xs, Fits x := by
  intro r hr
  subst h
  exact hf (r.n, r.xs) (List.mem_map.2 ⟨r, hr, rfl⟩)
def RetRs (w : World) (L : List (Int × List Int)) (e : Ending) (w' : World) : Prop := ∃ v rs, e = .returned v ∧ keyR rs = L ∧ OwnR w' w.heap.size v rs ∧ Below w.heap.size w w'

end Go.Proofs.YthookknmeajojaaGreatDoor

namespace Go.Proofs.YthookknmeajojaaGreatDoor
open Go.RowKit
set_option linter.unusedVariables false
set_option linter.unusedSimpArgs false

set_option maxRecDepth 100000 in
set_option maxHeartbeats 2000000 in
theorem impl_RotationsOf_len (N : Nat) (A : Option Addr) (cap : Nat) (bs : List Int) (w : World) (hA : Ints w w.heap.size A bs) (hok : RhOk N bs) :
    Calls Tryz.prog 14 #[.agg #[.int .i64 N, .slice A bs.length cap]] w fun e w' => (∃ A' c, e = .returned (.slice A' (perV N bs) c)) ∧ Below w.heap.size w w' := by
  have hn1 : 1 ≤ N := by have := hok.1; omega
  have hn2 : N ≤ 24 := by have := hok.2.1; omega
  have hRO := fun V h => impl_RhythmOk_any N A cap bs V (by unfold Fits; omega) h
  rw [rhB_iff.2 hok] at hRO
  have HRO := Lib.hid hRO
  have HPE := Lib.hid (fun V h => impl_period_any N A cap bs V h hok)
  have HRT := Lib.hid (fun (k : Nat) (hk : k ≤ 1000) V h => impl_rotated_any N A cap bs k V h hok hk)
  have hp := (perV_is hok).2.1
  have HB0 := Lib.hid ((Below.refl w.heap.size w).alloc (Nat.le_refl _) (.cells #[.int .i64 N, .slice A (bs).length cap] 26))
  have HVA := Lib.hid (Hav.boxed hA N cap)
  clear hA hok hRO
  obtain ⟨⟨p0, p1, _, _, _⟩, _⟩ := HVA.out
  generalize perV N bs = P at *
  go_enter Tryz.func14, Tryz.ntmps14
  go_wp2_with fail
  refine (HRO.out _ HVA.out.2).mono ?_
  rintro e w1 ⟨rfl, hb⟩
  have HB1 := Lib.hid (HB0.out.trans (hb.mono HB0.out.size))
  have HVA := Lib.hid (HVA.out.lift hb)
  clear hb p0 p1
  obtain ⟨⟨p0, p1, _, _, _⟩, _⟩ := HVA.out
  go_wp2_with fail
  refine (HPE.out _ HVA.out.2).mono ?_
  rintro e w2 ⟨rfl, hb⟩
  have HB2 := Lib.hid (HB1.out.trans (hb.mono HB1.out.size))
  have HVA := Lib.hid (HVA.out.lift hb)
  clear hb p0 p1
  go_wp2_with fail
  have hw2 : w.heap.size < w2.heap.size := HVA.out.1.2.2.2.2
  have HV0 := HVA
  go_loopw [3, 10] (fun so i wr => ∃ (q : Nat) (rs : List RV), q ≤ P ∧ i = .int .i64 q ∧ OwnR wr w2.heap.size so rs ∧ rs.length = q ∧ Below w2.heap.size w2 wr) (fun _ i _ => P - (intOf i).toNat)
  case atStart => exact ⟨0, [], Nat.zero_le _, rfl, OwnR.nil _ _, rfl, Below.refl _ _⟩
  case round =>
    obtain ⟨q, rs, hq, rfl, hown, hrl, hbel⟩ := hrel
    obtain ⟨wo, rfl⟩ : ∃ wo : World, wo = wr := ⟨_, rfl⟩
    obtain ⟨A1, c1, rfl⟩ := hown.form
    have HO := Lib.hid hown
    have HB := Lib.hid hbel
    have hwz := hbel.size
    have HRL := Lib.hid hrl
    have HVA := Lib.hid (HV0.out.lift hbel)
    clear HV0 hown hbel hrl
    obtain ⟨⟨p0, p1, _, _, _⟩, _⟩ := HVA.out
    by_cases hlt : q < P
    · have hqi : (q : Int) < (P : Int) := by omega
      have HRQ := Lib.hid (HRT.out q (by omega))
      generalize rotL N bs ((q : Nat) : Int) = X at HRQ
      go_wp2_with fail
      refine (HRQ.out _ HVA.out.2).mono ?_
      rintro e w3 ⟨A2, c2, rfl, hrw, hb1⟩
      have hz1 := hb1.size
      obtain ⟨b, hL, hblt, hbne, hown1⟩ := HO.out.fresh hb1 hrw hwz ((Below.refl w3.heap.size w3).alloc (Nat.le_refl _) (.cells #[.int .i64 N, .slice A2 X.length c2] 26)) (by simp; omega) N c2
      have HL := Lib.hid hL
      have HLT := Lib.hid hblt
      have HNE := Lib.hid hbne
      have HO1 := Lib.hid hown1
      have HB1 := Lib.hid ((HB.out.trans (hb1.mono hwz)).alloc (by omega) (.cells #[.int .i64 N, .slice A2 X.length c2] 26))
      have HCC := Lib.hid (Cells2.new w3 (.int .i64 N) (.slice A2 X.length c2) 26)
      clear hL hblt hbne hown1 hb1 hrw
      go_wp2_with (at_builtin; refine wpList_append_rh rfl (.tmp 13) (.tmp 17) rfl w2.heap.size _ rs rfl HO1.out w3.heap.size ⟨N, X, A2, c2, b⟩ (by rfl) ⟨HCC.out.1, HCC.out.2.1⟩ HL.out HLT.out HNE.out (by have := HRL.out; omega) (by simp; omega) ?_; intro v2 w4 hown2 hb2)
      have HO2 := Lib.hid hown2
      have HB2 := Lib.hid (HB1.out.trans hb2)
      clear hown2 hb2
      go_wp2_with fail
      go_roundw
      case rel => exact ⟨q + 1, rs ++ [⟨N, X, A2, c2, b⟩], by omega, by go_num, HO2.out, by rw [List.length_append, HRL.out]; rfl, HB2.out⟩
      case measure => simp [intOf]; omega
    · have hqe : q = P := by omega
      have hPq : P = rs.length := by have := HRL.out; omega
      go_wp2_with fail
      go_ret
      exact ⟨⟨A1, c1, by rw [hPq]; rfl⟩, HB2.out.trans (HB.out.mono (by omega))⟩

end Go.Proofs.YthookknmeajojaaGreatDoor

namespace Go.Proofs.YthookknmeajojaaGreatDoor
open Go.RowKit
set_option linter.unusedVariables false
set_option linter.unusedSimpArgs false

def lstV (f : Int → Int) (lo : Int) : Nat → Int
  | 0 => -1
  | j + 1 => leastF f lo j
theorem lstV_succ {f : Int → Int} (hf : ∀ s, 0 ≤ f s) {lo : Int} (j : Nat) : lstV f lo (j + 1) = if lstV f lo j < 0 ∨ f (lo + j) < lstV f lo j then f (lo + j) else lstV f lo j := by
  cases j with
  | zero =>
    rw [if_pos (Or.inl (show lstV f lo 0 < 0 by show (-1 : Int) < 0; decide))]
    show f lo = _
    simp
  | succ j =>
    have hge : ∀ m, 0 ≤ leastF f lo m := fun m => by
      obtain ⟨_, s, _, _, e⟩ := leastF_spec f lo m
      rw [e]; exact hf s
    have e1 : lstV f lo (j + 1 + 1) = leastF f lo (j + 1) := rfl
    have e2 : lstV f lo (j + 1) = leastF f lo j := rfl
    have e3 : leastF f lo (j + 1) = if f (lo + ((j + 1 : Nat) : Int)) < leastF f lo j then f (lo + ((j + 1 : Nat) : Int)) else leastF f lo j := rfl
    rw [e1, e2, e3]
    have := hge j
    by_cases h : f (lo + ((j + 1 : Nat) : Int)) < leastF f lo j
    · rw [if_pos h, if_pos (Or.inr h)]
    · rw [if_neg h, if_neg (by omega)]
theorem lstV_lo (f : Int → Int) (hf : ∀ s, 0 ≤ f s) (lo : Int) (j : Nat) : -1 ≤ lstV f lo j := by
  cases j with
  | zero => exact Int.le_refl _
  | succ j =>
    obtain ⟨_, s, _, _, e⟩ := leastF_spec f lo j
    show -1 ≤ leastF f lo j
    rw [e]; have := hf s; omega
theorem abs_max (d : Int) : (if d < -d then -d else d) = absI d := by unfold absI; split <;> split <;> omega
theorem abs_two (p q : Int) : (if p - q < q - p then q - p else p - q) = absI (p - q) := by unfold absI; split <;> split <;> omega
theorem ext_two {n : Int} {b : List Int} {t : Int} {m : Nat} {c : Int} (hm : t % (b.length : Int) = m) (hc : t / (b.length : Int) = c) : extB n b t = b.getD m 0 + c * n := by
  unfold extB
  rw [hm, hc, Int.toNat_natCast]
theorem tdiv_rem (t k : Int) (hk : 0 < k) : (t - t % k).tdiv k = t / k := by
  have := Int.emod_add_mul_ediv t k
  rw [show t - t % k = k * (t / k) by omega]
  exact Int.mul_tdiv_cancel_left _ (by omega)
/-- What the sum has come to. -/
def sumP (n : Int) (a b : List Int) (s : Int) (i : Nat) : Int := sigN (fun i => absI (extB n a i - extB n b (i + s))) i
theorem sumP_succ (n : Int) (a b : List Int) (s : Int) (i : Nat) : sumP n a b s (i + 1) = sumP n a b s i + absI (extB n a i - extB n b (i + s)) := rfl
theorem absI_sym (x y : Int) : absI (x - y) = absI (y - x) := by unfold absI; split <;> split <;> omega

theorem farV_none {n : Int} {a b : List Int} (h : a.length = 0) : farV n a b = 0 := by
  obtain ⟨s, e⟩ := farV_ex n a b
  rw [e]
  unfold farS farG
  rw [h]
  rfl
section
variable {N : Nat} {a b : List Int}
/-- Where beat i goes, with a turn of s, and the numbers that come up. -/
theorem dst_nums (ha : RhOk N a) (hb : RhOk N b) (hl : a.length = b.length) {i : Nat} (hi : i < a.length) {s : Int} (hs : -(a.length : Int) ≤ s ∧ s ≤ a.length) :
    ∃ (m : Nat) (c : Int), ((i : Int) + s) % (a.length : Int) = m ∧ m < b.length ∧ ((i : Int) + s) / (a.length : Int) = c ∧ -2 ≤ c ∧ c ≤ 2 ∧ ((i : Int) + s - m).tdiv a.length = c ∧ extB N b (i + s) = b.getD m 0 + c * N := by
  have hk : (0 : Int) < a.length := by omega
  have h0 := Int.emod_nonneg ((i : Int) + s) (show (a.length : Int) ≠ 0 by omega)
  have h1 := Int.emod_lt_of_pos ((i : Int) + s) hk
  obtain ⟨m, hm⟩ := Int.eq_ofNat_of_zero_le h0
  have hq := Int.emod_add_mul_ediv ((i : Int) + s) a.length
  refine ⟨m, _, hm, by omega, rfl, ?_, ?_, ?_, ?_⟩
  · refine Int.le_ediv_of_mul_le hk (by omega)
  · have := Int.ediv_lt_of_lt_mul (a := (i : Int) + s) (b := 3) hk (by omega); omega
  · rw [← hm]; exact tdiv_rem _ _ hk
  · exact ext_two (by rw [← hl]; exact hm) (by rw [← hl])
theorem sumP_bnd (ha : RhOk N a) (hb : RhOk N b) (hl : a.length = b.length) {s : Int} (hs : -(a.length : Int) ≤ s ∧ s ≤ a.length) : ∀ i, i ≤ a.length → 0 ≤ sumP N a b s i ∧ sumP N a b s i ≤ i * 100
  | 0, _ => ⟨Int.le_refl _, by simp [sumP, sigN]⟩
  | i + 1, h => by
    have ih := sumP_bnd ha hb hl hs i (by omega)
    obtain ⟨m, c, _, hm, _, hc1, hc2, _, e⟩ := dst_nums ha hb hl (i := i) (by omega) hs
    have r := ext_range ha i (by omega)
    have q := hb.2.2.1 m hm
    have := ha.1
    have := ha.2.1
    rw [sumP_succ, e]
    have hcn : -48 ≤ c * N ∧ c * N ≤ 48 := by
      rcases (show c = -2 ∨ c = -1 ∨ c = 0 ∨ c = 1 ∨ c = 2 by omega) with rfl | rfl | rfl | rfl | rfl <;> omega
    unfold absI
    split <;> omega
end

end Go.Proofs.YthookknmeajojaaGreatDoor

namespace Go.Proofs.YthookknmeajojaaGreatDoor
open Go.RowKit
set_option linter.unusedVariables false
set_option linter.unusedSimpArgs false

theorem RW.rvOf {w : World} {base : Nat} {A : Option Addr} {xs : List Int} (h : RW w base A xs) (q : Nat) (hq : q < w.heap.size) (hb : q ≤ base) (n : Int) (c : Nat) : ∃ b, (RV.mk n xs A c b).Lies w q ∧ (b = q ∨ base ≤ b) := by
  by_cases hn : 0 < xs.length
  · obtain ⟨b, e, hge, ht⟩ := h.2 hn
    exact ⟨b, ⟨h.1, by show q ≤ b; omega, ht.1, fun _ => ⟨e, ht.tabV⟩⟩, .inr hge⟩
  · exact ⟨q, ⟨h.1, Nat.le_refl _, hq, fun h' => absurd h' hn⟩, .inl rfl⟩
theorem RV.Lies.rw' {r : RV} {w : World} {base : Nat} (h : r.Lies w base) : RW w base r.A r.xs :=
  ⟨h.1, fun hn => ⟨r.b, (h.2.2.2 hn).1, h.2.1, (h.2.2.2 hn).2⟩⟩
theorem Cells2.frmY {w w' : World} {g : Nat} {u v : Value} {S : Nat → Prop} (h : Cells2 w g u v) (hf : Frm S w w') (hS : ¬ S g) : Cells2 w' g u v :=
  ⟨(hf.cell h.2.2.2.2 hS).trans h.1, (hf.cell h.2.2.2.2 hS).trans h.2.1, (hf.frozen h.2.2.2.2 hS).trans h.2.2.1, (hf.frozen h.2.2.2.2 hS).trans h.2.2.2.1, Nat.lt_of_lt_of_le h.2.2.2.2 hf.size⟩
theorem rh_fitsE {N : Nat} {bs : List Int} (hok : RhOk N bs) : ∀ x ∈ bs, Fits x := fun x hx => by
  have h1 := rhok_range hok x hx
  have h2 := hok.2.1
  unfold Fits; omega

/-- What a call hands back that hands a rhythm and a number. -/
def RetRhI (w : World) (n : Int) (xs : List Int) (d : Int) (e : Ending) (w' : World) : Prop := ∃ A cap, e = .returned (.tuple #[.agg #[.int .i64 n, .slice A xs.length cap], .int .i64 d]) ∧ RW w' w.heap.size A xs ∧ Below w.heap.size w w'

def fewF (N : Nat) (a : List Int) (k : Nat) : Int := farV N a (rotL N (evB N a.length) (k : Int))

end Go.Proofs.YthookknmeajojaaGreatDoor

namespace Go.Proofs.YthookknmeajojaaGreatDoor
open Go.RowKit
set_option linter.unusedVariables false
set_option linter.unusedSimpArgs false

/-- How many beats the even rhythm, turned by k, shares with a. -/
def nearG (N : Nat) (a : List Int) (k : Nat) : Int := (comN (rotL N (evB N a.length) (k : Int)) a (rotL N (evB N a.length) (k : Int)).length : Nat)
def nearF (N : Nat) (a : List Int) (k : Nat) : Int := -nearG N a k
def nearK (N : Nat) (a : List Int) : Nat := bestK (nearF N a) N
def nearX (N : Nat) (a : List Int) : List Int := rotL N (evB N a.length) (nearK N a : Int)

set_option maxRecDepth 100000 in
set_option maxHeartbeats 4000000 in
theorem impl_NearestEven_any (N : Nat) (A : Option Addr) (ca : Nat) (a : List Int) (w : World) (hA : Ints w w.heap.size A a) (ha : RhOk N a) :
    Calls Tryz.prog 19 #[.agg #[.int .i64 N, .slice A a.length ca]] w (RetRhI w N (nearX N a) (comN (nearX N a) a (nearX N a).length : Nat)) := by
  have hn1 : 1 ≤ N := by have := ha.1; omega
  have hn2 : N ≤ 24 := by have := ha.2.1; omega
  have hal : a.length ≤ N := rhok_len ha
  have hfn : Fits (N : Int) := by unfold Fits; omega
  have heok := evB_ok hn1 hn2 hal
  have hel := evB_len N a.length
  have hr : rhB N a = true := rhB_iff.2 ha
  have HRO := Lib.hid (fun V h => hr ▸ impl_RhythmOk_any N A ca a V hfn h)
  have HEV := Lib.hid (fun V => impl_EvenRhythm_any N a.length V hn1 hn2 hal)
  have HXL := Lib.hid (fun (k : Nat) => (show RhOk N (rotL N (evB N a.length) (k : Int)) ∧ (rotL N (evB N a.length) (k : Int)).length = a.length from ⟨(rotL_ok heok k).1, (rotL_ok heok k).2.trans hel⟩))
  have HX0 := Lib.hid (show rotL N (evB N a.length) ((0 : Nat) : Int) = evB N a.length from (rotL_same heok 0).2 (fun t ht => by rw [show (t : Int) - 0 = t by omega, Int.emod_eq_of_lt (by omega) (by omega)]))
  have HRT := Lib.hid (fun (k : Nat) (hk : k ≤ 1000) (A1 : Option Addr) (c1 : Nat) V h => impl_rotated_any N A1 c1 (evB N a.length) k V h heok hk)
  have HDI := Lib.hid (fun (k : Nat) (B : Option Addr) (cb : Nat) V h1 h2 => show Calls Tryz.prog 51 #[.agg #[.int .i64 N, .slice B (rotL N (evB N a.length) (k : Int)).length cb], .agg #[.int .i64 N, .slice A a.length ca]] V (fun e w' => e = .returned (.int .i64 (nearG N a k)) ∧ Below V.heap.size V w') from impl_common_any N B A cb ca (rotL N (evB N a.length) (k : Int)) a V h1 h2 (rotL_ok heok k).1 ha)
  have HK := Lib.hid (show bestK (nearF N a) N = nearK N a from rfl)
  have HKM := Lib.hid (fun m (hm : 1 ≤ m) => bestK_lt (nearF N a) m hm)
  have HEF := Lib.hid (rh_fitsE heok)
  have HEL := Lib.hid hel
  have HA := Lib.hid hA
  have hal0 := (Below.refl w.heap.size w).alloc (Nat.le_refl _) (.cells #[.int .i64 N, .slice A a.length ca] 26)
  have hal1 := hal0.alloc hal0.size (.cells #[.int .i64 0, .slice none 0 0] 26)
  have HC0 := Lib.hid ((Cells2.new w (.int .i64 N) (.slice A a.length ca) 26).alloc (.cells #[.int .i64 0, .slice none 0 0] 26))
  have HZ0 := Lib.hid (Cells2.new_at (w.alloc (.cells #[.int .i64 N, .slice A a.length ca] 26)) (.int .i64 0) (.slice none 0 0) 26 (w.heap.size + 1) (by simp))
  have HB0 := Lib.hid hal1
  have HI0 := Lib.hid (hA.lift hal1)
  clear hA ha heok hel hr hal0 hal1 hfn
  obtain ⟨c0, c1, _, _, _⟩ := HC0.out
  go_enter Tryz.func19, Tryz.ntmps19
  go_wp2_with fail
  refine (HRO.out _ HI0.out).mono ?_
  rintro e w1 ⟨rfl, hb⟩
  have HB1 := Lib.hid (HB0.out.trans (hb.mono HB0.out.size))
  have HC1 := Lib.hid (HC0.out.below hb HC0.out.2.2.2.2)
  have HZ1 := Lib.hid (HZ0.out.below hb HZ0.out.2.2.2.2)
  clear hb c0 c1
  obtain ⟨c0, c1, _, _, _⟩ := HC1.out
  go_wp2_with fail
  refine (HEV.out _).mono ?_
  rintro e w2 ⟨Ae, ce, rfl, hrw, hb⟩
  obtain ⟨q, hq⟩ : ∃ q, w.heap.size = q := ⟨_, rfl⟩
  have HQ := Lib.hid hq
  rw [hq] at HB1 HC1 HZ1 HA ⊢
  clear hq
  have hq1 : q + 2 ≤ w1.heap.size := by have := HZ1.out.2.2.2.2; omega
  have hz2 := hb.size
  obtain ⟨be, hLe, hbe⟩ := hrw.rvOf q (by omega) (by omega) (N : Int) ce
  have hbl : be < w2.heap.size := hLe.2.2.1
  have HB2 := Lib.hid (HB1.out.trans (hb.mono (by omega)))
  have HC2 := Lib.hid (HC1.out.below hb HC1.out.2.2.2.2)
  have HZ2 := Lib.hid (HZ1.out.below hb HZ1.out.2.2.2.2)
  have hal2 := (Below.refl w2.heap.size w2).alloc (Nat.le_refl _) (.cells #[.int .i64 N, .slice Ae (evB N a.length).length ce] 26)
  have hal3 := hal2.alloc hal2.size (.cells #[.int .i64 N, .slice Ae (evB N a.length).length ce] 26)
  have HE2 := Lib.hid (Cells2.new w2 (.int .i64 N) (.slice Ae (evB N a.length).length ce) 26)
  have HE3 := Lib.hid (HE2.out.alloc (.cells #[.int .i64 N, .slice Ae (evB N a.length).length ce] 26))
  have HG3 := Lib.hid (Cells2.new_at (w2.alloc (.cells #[.int .i64 N, .slice Ae (evB N a.length).length ce] 26)) (.int .i64 N) (.slice Ae (evB N a.length).length ce) 26 (w2.heap.size + 1) (by simp))
  have HL3 := Lib.hid (hLe.frm (Frm.pure hal3 (fun _ => False)) (fun h => h))
  have HC3 := Lib.hid (HC2.out.below hal3 HC2.out.2.2.2.2)
  have HZ3 := Lib.hid (HZ2.out.below hal3 HZ2.out.2.2.2.2)
  have HB3 := Lib.hid (HB2.out.trans (hal3.mono (by omega)))
  clear hb hrw hLe hal2 hal3 c0 c1
  obtain ⟨e0, e1, _, _, _⟩ := HE2.out
  obtain ⟨c0, c1, _, _, _⟩ := HC3.out
  go_wp2_with fail
  generalize (w2.alloc (.cells #[.int .i64 N, .slice Ae (evB N a.length).length ce] 26)).alloc (.cells #[.int .i64 N, .slice Ae (evB N a.length).length ce] 26) = w3 at *
  obtain ⟨ge, hge⟩ : ∃ g, w2.heap.size = g := ⟨_, rfl⟩
  rw [hge] at HE2 HE3 HG3 hz2 hbl ⊢
  obtain ⟨E, hE⟩ : ∃ E, evB N a.length = E := ⟨_, rfl⟩
  rw [hE] at HEV HXL HX0 HRT HDI HEF HEL HE3 HG3 HL3 ⊢
  have HEE := Lib.hid hE
  have hgq : q + 2 ≤ ge := by omega
  clear hge hE HE2 e0 e1 c0 c1
  go_loopw [25] (fun i wr => ∃ (j : Nat) (r : RV), j ≤ N ∧ i = .int .i64 j ∧ r.n = N ∧ r.xs = rotL N E (bestK (nearF N a) j : Nat) ∧ r.Lies wr q ∧ (r.b ≠ q + 1 ∧ r.b ≠ ge + 1) ∧ Cells2 wr (ge + 1) (.int .i64 N) r.slc ∧ Cells2 wr ge (.int .i64 N) (.slice Ae E.length ce) ∧ (⟨N, E, Ae, ce, be⟩ : RV).Lies wr q ∧ Cells2 wr q (.int .i64 N) (.slice A a.length ca) ∧ Cells2 wr (q + 1) (.int .i64 0) (.slice none 0 0) ∧ Below q w wr) (fun i _ => N - (intOf i).toNat)
  case atStart => exact ⟨0, ⟨N, E, Ae, ce, be⟩, Nat.zero_le _, rfl, rfl, HX0.out.symm, HL3.out, ⟨by show be ≠ q + 1; omega, by show be ≠ ge + 1; omega⟩, HG3.out, HE3.out, HL3.out, HC3.out, HZ3.out, HB3.out⟩
  case round =>
    obtain ⟨j, r, hj, rfl, hrn, hrx, hrl, hrb, hbest, hec, hel, hac, hzc, hbel⟩ := hrel
    obtain ⟨wo, rfl⟩ : ∃ wo : World, wo = wr := ⟨_, rfl⟩
    have HBS := Lib.hid hbest
    have HEC := Lib.hid hec
    have HELs := Lib.hid hel
    have HAC := Lib.hid hac
    have HZC := Lib.hid hzc
    have HBE := Lib.hid hbel
    have HRL := Lib.hid hrl
    have hgs := hbest.2.2.2.2
    obtain ⟨n', X, AX, cX, bX⟩ := r
    change n' = (N : Int) at hrn
    subst hrn
    change X = _ at hrx
    have HRX := Lib.hid hrx
    dsimp only at hrb
    obtain ⟨c0, c1, _, _, _⟩ := hac
    obtain ⟨e0, e1, _, _, _⟩ := hec
    clear hbest hel hzc hbel hrl hrx
    by_cases hlt : j < N
    · have hI := HELs.out.ints HEF.out
      have HIE := Lib.hid (show Ints wo wo.heap.size Ae E from hI)
      have HRJ := Lib.hid (HRT.out j (by omega) Ae ce)
      have HXJ := Lib.hid (HXL.out j)
      have HDJ := Lib.hid (HDI.out j)
      have HDB := Lib.hid (HDI.out (bestK (nearF N a) j))
      rw [← HRX.out] at HDB
      have HBK := Lib.hid (show bestK (nearF N a) (j + 1) = if nearF N a j < nearF N a (bestK (nearF N a) j) then j else bestK (nearF N a) j from rfl)
      obtain ⟨Y, hY⟩ : ∃ Y, rotL N E (j : Int) = Y := ⟨_, rfl⟩
      have HYY := Lib.hid hY
      rw [hY] at HRJ HXJ HDJ
      obtain ⟨F1, hF1⟩ : ∃ F, nearG N a j = F := ⟨_, rfl⟩
      obtain ⟨F2, hF2⟩ : ∃ F, nearG N a (bestK (nearF N a) j) = F := ⟨_, rfl⟩
      rw [show nearF N a j = -nearG N a j from rfl, show nearF N a (bestK (nearF N a) j) = -nearG N a (bestK (nearF N a) j) from rfl] at HBK
      rw [hF1] at HDJ HBK
      rw [hF2] at HDB HBK
      have hji : (j : Int) < (N : Int) := by omega
      clear hI hY hF1 hF2
      go_wp2_with fail
      refine (HRJ.out _ HIE.out).mono ?_
      rintro e w5 ⟨A5, c5, rfl, hrw, hb⟩
      have hz5 := hb.size
      obtain ⟨b5, hL5, hb5⟩ := hrw.rvOf q (by omega) (by omega) (N : Int) c5
      have hal := (Below.refl w5.heap.size w5).alloc (Nat.le_refl _) (.cells #[.int .i64 N, .slice A5 Y.length c5] 26)
      have HF6 := Lib.hid ((Frm.pure hb (fun _ => False)).trans (Frm.pure hal (fun _ => False)))
      have HB6 := Lib.hid ((HBE.out.trans (hb.mono (by omega))).trans (hal.mono (by omega)))
      have HL6 := Lib.hid (hL5.frm (Frm.pure hal (fun _ => False)) (fun h => h))
      have HN6 := Lib.hid (Cells2.new w5 (.int .i64 N) (.slice A5 Y.length c5) 26)
      have hbY : b5 ≠ q + 1 ∧ b5 ≠ ge + 1 := by omega
      clear hb hrw hL5 hal e0 e1 c0 c1
      have HBS6 := Lib.hid (HBS.out.frmY HF6.out (fun h => h))
      have HAC6 := Lib.hid (HAC.out.frmY HF6.out (fun h => h))
      have HRL6 := Lib.hid (HRL.out.frm HF6.out (fun h => h))
      obtain ⟨c0, c1, _, _, _⟩ := HAC6.out
      obtain ⟨n0, n1, _, _, _⟩ := HN6.out
      obtain ⟨g0, g1, _, _, _⟩ := HBS6.out
      unfold RV.slc at g1
      dsimp only at g1
      go_wp2_with fail
      generalize w5.alloc (.cells #[.int .i64 N, .slice A5 Y.length c5] 26) = w6 at *
      obtain ⟨nx, hnx⟩ : ∃ x, w5.heap.size = x := ⟨_, rfl⟩
      rw [hnx] at HN6 n0 n1 hz5 ⊢
      clear hnx
      (refine wp_region_held_drew (S := (fun w' => w'.cell? ⟨q, 0, none⟩ = some (.int .i64 N) ∧ w'.cell? ⟨q, 1, none⟩ = some (.slice A a.length ca) ∧ w'.cell? ⟨nx, 0, none⟩ = some (.int .i64 N) ∧ w'.cell? ⟨nx, 1, none⟩ = some (.slice A5 Y.length c5) ∧ w'.cell? ⟨ge + 1, 0, none⟩ = some (.int .i64 N) ∧ w'.cell? ⟨ge + 1, 1, none⟩ = some (.slice AX X.length cX))) (by kernel_rfl) ?_ (fun hHeld => ?_); (focus ((try dsimp only); exact ⟨c0, c1, n0, n1, g0, g1⟩)))
      have HF7 := Lib.hid (HF6.out.drew)
      have HG7 := Lib.hid ((Frm.refl (fun _ => False) w6).drew)
      have HB7 := Lib.hid (Below.drew5_ HB6.out)
      have hq6 : q ≤ w6.drew.heap.size := by have := HN6.out.2.2.2.2; show q ≤ w6.heap.size; omega
      generalize w6.drew = w7 at *
      have HIA7 := Lib.hid ((HA.out.below HB7.out).mono hq6)
      have HIY7 := Lib.hid ((HL6.out.frm HG7.out (fun h => h)).ints (rh_fitsE HXJ.out.1))
      have HIX7 := Lib.hid ((HRL6.out.frm HG7.out (fun h => h)).ints (show ∀ x ∈ X, Fits x by rw [HRX.out]; exact rh_fitsE (HXL.out _).1))
      (refine wpAnyH_take (i := 0) (v := ?_) rfl (by kernel_rfl) (by kernel_rfl) (by kernel_rfl) (fun _ _ _ h => h) (Or.inl ⟨by rfl, ?_⟩) (by assumption) ?_; rotate_left; (focus (intro wS hSw; (try dsimp only at hSw); go_simp; (try with_reducible rfl))); (try simp only [Act.put, List.getElem_toArray, List.getElem_cons_zero, List.getElem_cons_succ, List.setIfInBounds_toArray, List.set_cons_zero, List.set_cons_succ]))
      (refine wpAnyH_take (i := 1) (v := ?_) rfl (by kernel_rfl) (by kernel_rfl) (by kernel_rfl) (fun _ _ _ h => h) (Or.inl ⟨by rfl, ?_⟩) (by assumption) ?_; rotate_left; (focus (intro wS hSw; (try dsimp only at hSw); go_simp; (try with_reducible rfl))); (try simp only [Act.put, List.getElem_toArray, List.getElem_cons_zero, List.getElem_cons_succ, List.setIfInBounds_toArray, List.set_cons_zero, List.set_cons_succ]))
      (refine wpAnyH_take (i := 3) (v := ?_) rfl (by kernel_rfl) (by kernel_rfl) (by kernel_rfl) (fun _ _ _ h => h) (Or.inl ⟨by rfl, ?_⟩) (by assumption) ?_; rotate_left; (focus (intro wS hSw; (try dsimp only at hSw); go_simp; (try with_reducible rfl))); (try simp only [Act.put, List.getElem_toArray, List.getElem_cons_zero, List.getElem_cons_succ, List.setIfInBounds_toArray, List.set_cons_zero, List.set_cons_succ]))
      (refine wpAnyH_take (i := 4) (v := ?_) rfl (by kernel_rfl) (by kernel_rfl) (by kernel_rfl) (fun _ _ _ h => h) (Or.inl ⟨by rfl, ?_⟩) (by assumption) ?_; rotate_left; (focus (intro wS hSw; (try dsimp only at hSw); go_simp; (try with_reducible rfl))); (try simp only [Act.put, List.getElem_toArray, List.getElem_cons_zero, List.getElem_cons_succ, List.setIfInBounds_toArray, List.set_cons_zero, List.set_cons_succ]))
      (refine wpAnyH_ready (rs := [2]) (by kernel_rfl) (by simp) ?_; refine AllReadyH.cons rfl (fun K hK => ?_) AllReadyH.nil; go_simp)
      go_at_call 51
      refine (HDJ.out _ _ _ HIY7.out HIA7.out).mono ?_
      rintro e w8 ⟨rfl, hb⟩
      have HG8 := Lib.hid (HG7.out.trans (Frm.pure hb (fun _ => False)))
      have HIA8 := Lib.hid (HIA7.out.lift hb)
      have HIX8 := Lib.hid (HIX7.out.lift hb)
      have HB8 := Lib.hid (HB7.out.trans (hb.mono hq6))
      have hq8 := Nat.le_trans hq6 hb.size
      clear hb c0 c1 n0 n1 g0 g1
      have HAC8 := Lib.hid (HAC6.out.frmY HG8.out (fun h => h))
      have HN8 := Lib.hid (HN6.out.frmY HG8.out (fun h => h))
      have HBS8 := Lib.hid (HBS6.out.frmY HG8.out (fun h => h))
      obtain ⟨c0, c1, _, _, _⟩ := HAC8.out
      obtain ⟨n0, n1, _, _, _⟩ := HN8.out
      obtain ⟨g0, g1, _, _, _⟩ := HBS8.out
      unfold RV.slc at g1
      dsimp only at g1
      go_wp2_with fail
      (refine hK.out _ _ ?_ (fun hHeld2 => ?_); (focus ((try dsimp only); exact ⟨c0, c1, n0, n1, g0, g1⟩)); (clear hK K); (try simp only [Act.put, List.getElem_toArray, List.getElem_cons_zero, List.getElem_cons_succ, List.setIfInBounds_toArray, List.set_cons_zero, List.set_cons_succ]))
      (refine wpAnyH_ready (rs := [5]) (by kernel_rfl) (by simp) ?_; refine AllReadyH.cons rfl (fun K hK => ?_) AllReadyH.nil; go_simp)
      go_at_call 51
      refine (HDB.out _ _ _ HIX8.out HIA8.out).mono ?_
      rintro e w9 ⟨rfl, hb⟩
      have HG9 := Lib.hid (HG8.out.trans (Frm.pure hb (fun _ => False)))
      have HB9 := Lib.hid (HB8.out.trans (hb.mono hq8))
      clear hb c0 c1 n0 n1 g0 g1
      have HAC9 := Lib.hid (HAC6.out.frmY HG9.out (fun h => h))
      have HN9 := Lib.hid (HN6.out.frmY HG9.out (fun h => h))
      have HBS9 := Lib.hid (HBS6.out.frmY HG9.out (fun h => h))
      have HEC9 := Lib.hid ((HEC.out.frmY HF6.out (fun h => h)).frmY HG9.out (fun h => h))
      have HEL9 := Lib.hid ((HELs.out.frm HF6.out (fun h => h)).frm HG9.out (fun h => h))
      have HZC9 := Lib.hid ((HZC.out.frmY HF6.out (fun h => h)).frmY HG9.out (fun h => h))
      have HL9 := Lib.hid (HL6.out.frm HG9.out (fun h => h))
      have HRL9 := Lib.hid (HRL6.out.frm HG9.out (fun h => h))
      obtain ⟨c0, c1, _, _, _⟩ := HAC9.out
      obtain ⟨n0, n1, _, _, _⟩ := HN9.out
      obtain ⟨g0, g1, gf0, gf1, _⟩ := HBS9.out
      unfold RV.slc at g1
      dsimp only at g1
      go_wp2_with fail
      (refine hK.out _ _ ?_ (fun hHeld2 => ?_); (focus ((try dsimp only); exact ⟨c0, c1, n0, n1, g0, g1⟩)); (clear hK K); (try simp only [Act.put, List.getElem_toArray, List.getElem_cons_zero, List.getElem_cons_succ, List.setIfInBounds_toArray, List.set_cons_zero, List.set_cons_succ]))
      (refine wpAnyH_take (i := 6) (v := ?_) rfl (by kernel_rfl) (by kernel_rfl) (by kernel_rfl) (fun _ _ _ h => h) (Or.inl ⟨by rfl, ?_⟩) (by assumption) ?_; rotate_left; (focus (intro wS hSw; (try dsimp only at hSw); go_simp; (try with_reducible rfl))); (try simp only [Act.put, List.getElem_toArray, List.getElem_cons_zero, List.getElem_cons_succ, List.setIfInBounds_toArray, List.set_cons_zero, List.set_cons_succ]))
      refine wpAnyH_done (by kernel_rfl) ?_ _
      by_cases hlt2 : F2 < F1
      · rw [if_pos (show -F1 < -F2 by omega)] at HBK
        have HS9 := Lib.hid ((HBS9.out.set0 (.int .i64 N)).set1 (.slice A5 Y.length c5))
        have HFS := Lib.hid ((Frm.setCell (S := fun c => c = ge + 1) (p := ⟨ge + 1, 0, none⟩) (Frm.refl _ w9) rfl (.int .i64 N)).setCell (p := ⟨ge + 1, 1, none⟩) rfl (.slice A5 Y.length c5))
        go_wp2_with fail
        go_roundw
        case rel => exact ⟨j + 1, ⟨N, Y, A5, c5, b5⟩, by omega, by go_num, rfl, by rw [HBK.out]; exact HYY.out.symm, HL9.out.frm HFS.out (show ¬ b5 = ge + 1 from hbY.2), hbY, HS9.out, HEC9.out.frmY HFS.out (show ¬ ge = ge + 1 by omega), HEL9.out.frm HFS.out (show ¬ be = ge + 1 by omega), HAC9.out.frmY HFS.out (show ¬ q = ge + 1 by omega), HZC9.out.frmY HFS.out (show ¬ q + 1 = ge + 1 by omega), HB9.out.trans (HFS.out.below (B := q) (fun c h => by have h : c = ge + 1 := h; omega) (by have := HAC9.out.2.2.2.2; omega))⟩
        case measure => simp [intOf]; omega
      · rw [if_neg (show ¬ -F1 < -F2 by omega)] at HBK
        go_wp2_with fail
        go_roundw
        case rel => exact ⟨j + 1, ⟨N, X, AX, cX, bX⟩, by omega, by go_num, rfl, by rw [HBK.out]; exact HRX.out, HRL9.out, hrb, HBS9.out, HEC9.out, HEL9.out, HAC9.out, HZC9.out, HB9.out⟩
        case measure => simp [intOf]; omega
    · have hjN : j = N := by omega
      subst hjN
      have HVX := Lib.hid (show nearX j a = X by
        have h1 := HRX.out
        rw [HK.out] at h1
        rw [h1, ← HEE.out]
        rfl)
      have HDB := Lib.hid (HDI.out (bestK (nearF j a) j))
      rw [← HRX.out] at HDB
      have HVF := Lib.hid (show nearG j a (bestK (nearF j a) j) = (comN (nearX j a) a (nearX j a).length : Nat) by
        unfold nearX
        rw [HK.out]
        rfl)
      rw [HVF.out] at HDB
      obtain ⟨F, hF⟩ : ∃ F : Int, ((comN (nearX j a) a (nearX j a).length : Nat) : Int) = F := ⟨_, rfl⟩
      have HFF := Lib.hid hF
      rw [hF] at HDB
      obtain ⟨g0, g1, _, _, _⟩ := HBS.out
      unfold RV.slc at g1
      dsimp only at g1
      clear hF e0 e1
      go_wp2_with fail
      (refine wp_region_held_drew (S := (fun w' => w'.cell? ⟨q, 0, none⟩ = some (.int .i64 j) ∧ w'.cell? ⟨q, 1, none⟩ = some (.slice A a.length ca) ∧ w'.cell? ⟨ge + 1, 0, none⟩ = some (.int .i64 j) ∧ w'.cell? ⟨ge + 1, 1, none⟩ = some (.slice AX X.length cX))) (by kernel_rfl) ?_ (fun hHeld => ?_); (focus ((try dsimp only); exact ⟨c0, c1, g0, g1⟩)))
      have HG7 := Lib.hid ((Frm.refl (fun _ => False) wo).drew)
      have HB7 := Lib.hid (Below.drew5_ HBE.out)
      have hq6 : q + 2 ≤ wo.drew.heap.size := by have := HZC.out.2.2.2.2; show q + 2 ≤ wo.heap.size; omega
      generalize wo.drew = w7 at *
      have HIA7 := Lib.hid ((HA.out.below HB7.out).mono (show q ≤ w7.heap.size by omega))
      have HIX7 := Lib.hid ((HRL.out.frm HG7.out (fun h => h)).ints (show ∀ x ∈ X, Fits x by rw [HRX.out]; exact rh_fitsE (HXL.out _).1))
      (refine wpAnyH_take (i := 0) (v := ?_) rfl (by kernel_rfl) (by kernel_rfl) (by kernel_rfl) (fun _ _ _ h => h) (Or.inl ⟨by rfl, ?_⟩) (by assumption) ?_; rotate_left; (focus (intro wS hSw; (try dsimp only at hSw); go_simp; (try with_reducible rfl))); (try simp only [Act.put, List.getElem_toArray, List.getElem_cons_zero, List.getElem_cons_succ, List.setIfInBounds_toArray, List.set_cons_zero, List.set_cons_succ]))
      (refine wpAnyH_take (i := 1) (v := ?_) rfl (by kernel_rfl) (by kernel_rfl) (by kernel_rfl) (fun _ _ _ h => h) (Or.inl ⟨by rfl, ?_⟩) (by assumption) ?_; rotate_left; (focus (intro wS hSw; (try dsimp only at hSw); go_simp; (try with_reducible rfl))); (try simp only [Act.put, List.getElem_toArray, List.getElem_cons_zero, List.getElem_cons_succ, List.setIfInBounds_toArray, List.set_cons_zero, List.set_cons_succ]))
      (refine wpAnyH_take (i := 2) (v := ?_) rfl (by kernel_rfl) (by kernel_rfl) (by kernel_rfl) (fun _ _ _ h => h) (Or.inl ⟨by rfl, ?_⟩) (by assumption) ?_; rotate_left; (focus (intro wS hSw; (try dsimp only at hSw); go_simp; (try with_reducible rfl))); (try simp only [Act.put, List.getElem_toArray, List.getElem_cons_zero, List.getElem_cons_succ, List.setIfInBounds_toArray, List.set_cons_zero, List.set_cons_succ]))
      (refine wpAnyH_ready (rs := [3]) (by kernel_rfl) (by simp) ?_; refine AllReadyH.cons rfl (fun K hK => ?_) AllReadyH.nil; go_simp)
      go_at_call 51
      refine (HDB.out _ _ _ HIX7.out HIA7.out).mono ?_
      rintro e w8 ⟨rfl, hb⟩
      have HG8 := Lib.hid (HG7.out.trans (Frm.pure hb (fun _ => False)))
      have HB8 := Lib.hid (HB7.out.trans (hb.mono (by omega)))
      have hq8 := Nat.le_trans hq6 hb.size
      clear hb c0 c1 g0 g1
      have HAC8 := Lib.hid (HAC.out.frmY HG8.out (fun h => h))
      have HBS8 := Lib.hid (HBS.out.frmY HG8.out (fun h => h))
      have HZC8 := Lib.hid (HZC.out.frmY HG8.out (fun h => h))
      have HRL8 := Lib.hid (HRL.out.frm HG8.out (fun h => h))
      obtain ⟨c0, c1, _, _, _⟩ := HAC8.out
      obtain ⟨g0, g1, _, _, _⟩ := HBS8.out
      obtain ⟨z0, z1, zf0, zf1, _⟩ := HZC8.out
      unfold RV.slc at g1
      dsimp only at g1
      go_wp2_with fail
      (refine hK.out _ _ ?_ (fun hHeld2 => ?_); (focus ((try dsimp only); exact ⟨c0, c1, g0, g1⟩)); (clear hK K); (try simp only [Act.put, List.getElem_toArray, List.getElem_cons_zero, List.getElem_cons_succ, List.setIfInBounds_toArray, List.set_cons_zero, List.set_cons_succ]))
      (refine wpAnyH_ready (rs := [4]) (by kernel_rfl) (by simp) ?_; refine AllReadyH.cons rfl (fun K hK => ?_) AllReadyH.nil; go_simp)
      have HS9 := Lib.hid ((HZC8.out.set0 (.int .i64 j)).set1 (.slice AX X.length cX))
      have HFS := Lib.hid ((Frm.setCell (S := fun c => c = q + 1) (p := ⟨q + 1, 0, none⟩) (Frm.refl _ w8) rfl (.int .i64 j)).setCell (p := ⟨q + 1, 1, none⟩) rfl (.slice AX X.length cX))
      have HAC9 := Lib.hid (HAC8.out.frmY HFS.out (show ¬ q = q + 1 by omega))
      have HBS9 := Lib.hid (HBS8.out.frmY HFS.out (show ¬ ge + 1 = q + 1 by omega))
      have HRL9 := Lib.hid (HRL8.out.frm HFS.out (show ¬ bX = q + 1 from hrb.1))
      have HB9 := Lib.hid (HB8.out.trans (HFS.out.below (B := q) (fun c h => by have h : c = q + 1 := h; omega) (by omega)))
      clear c0 c1 g0 g1 z0 z1
      obtain ⟨c0, c1, _, _, _⟩ := HAC9.out
      obtain ⟨g0, g1, _, _, _⟩ := HBS9.out
      obtain ⟨z0, z1, _, _, _⟩ := HS9.out
      unfold RV.slc at g1
      dsimp only at g1
      (refine hK.out _ _ ?_ (fun hHeld2 => ?_); (focus ((try dsimp only); exact ⟨c0, c1, g0, g1⟩)); (clear hK K); (try simp only [Act.put, List.getElem_toArray, List.getElem_cons_zero, List.getElem_cons_succ, List.setIfInBounds_toArray, List.set_cons_zero, List.set_cons_succ]))
      (refine wpAnyH_take (i := 5) (v := ?_) rfl (by kernel_rfl) (by kernel_rfl) (by kernel_rfl) (fun _ _ _ h => h) (Or.inl ⟨by rfl, ?_⟩) (by assumption) ?_; rotate_left; (focus (intro wS hSw; (try dsimp only at hSw); go_simp; (try with_reducible rfl))); (try simp only [Act.put, List.getElem_toArray, List.getElem_cons_zero, List.getElem_cons_succ, List.setIfInBounds_toArray, List.set_cons_zero, List.set_cons_succ]))
      refine wpAnyH_done (by kernel_rfl) ?_ _
      go_wp2_with fail
      refine bodyPost_ret (v := .tuple #[.agg #[.int .i64 j, .slice AX X.length cX], .int .i64 F]) (by simp [results, Tryz.results19, go_sem, z0, z1]) rfl ?_
      rw [HFF.out, HVX.out]
      exact ⟨AX, cX, rfl, by rw [HQ.out]; exact HRL9.out.rw', by rw [HQ.out]; exact HB9.out⟩

end Go.Proofs.YthookknmeajojaaGreatDoor

namespace Go.Proofs.YthookknmeajojaaGreatDoor
open Go.RowKit
set_option linter.unusedVariables false
set_option linter.unusedSimpArgs false

theorem comN_full (a b : List Int) : ∀ i, comN a b i = i ↔ ∀ j, j < i → hasB b (a.getD j 0) = true
  | 0 => ⟨fun _ j h => by omega, fun _ => rfl⟩
  | i + 1 => by
    have ih := comN_full a b i
    have hle := comN_le a b i
    show comN a b i + (if hasB b (a.getD i 0) = true then 1 else 0) = i + 1 ↔ _
    constructor
    · intro h j hj
      by_cases hb : hasB b (a.getD i 0) = true
      · rw [if_pos hb] at h
        by_cases e : j = i
        · subst e; exact hb
        · exact ih.1 (by omega) j (by omega)
      · rw [if_neg hb] at h; omega
    · intro h
      rw [if_pos (h i (by omega)), ih.2 (fun j hj => h j (by omega))]

section
variable {N : Nat} {a : List Int}
theorem asc_sub_len : ∀ (m l : List Int), m.Pairwise (fun x y => x < y) → l.Pairwise (fun x y => x < y) → (∀ x ∈ l, x ∈ m) → l.length ≤ m.length
  | [], l, _, _, hs => by
    cases l with
    | nil => exact Nat.le_refl _
    | cons x l => exact absurd (hs x (by simp)) (by simp)
  | y :: m, [], _, _, _ => Nat.zero_le _
  | y :: m, x :: l, hm, hl, hs => by
    rw [List.pairwise_cons] at hm hl
    have := asc_sub_len m l hm.2 hl.2 (fun z hz => by
      have h1 := hl.1 z hz
      rcases List.mem_cons.1 (hs z (by simp [hz])) with h2 | h2
      · subst h2
        rcases List.mem_cons.1 (hs x (by simp)) with h3 | h3
        · omega
        · have := hm.1 x h3; omega
      · exact h2)
    simpa using this
theorem asc_sub_eq : ∀ (m l : List Int), m.Pairwise (fun x y => x < y) → l.Pairwise (fun x y => x < y) → (∀ x ∈ l, x ∈ m) → l.length = m.length → l = m
  | [], l, _, _, _, hn => List.eq_nil_of_length_eq_zero hn
  | y :: m, [], _, _, _, hn => by simp at hn
  | y :: m, x :: l, hm, hl, hs, hn => by
    have hm0 := hm
    have hl0 := hl
    rw [List.pairwise_cons] at hm hl
    rcases List.mem_cons.1 (hs x (by simp)) with h3 | h3
    · subst h3
      rw [asc_sub_eq m l hm.2 hl.2 (fun z hz => by
        have h1 := hl.1 z hz
        rcases List.mem_cons.1 (hs z (by simp [hz])) with h2 | h2
        · omega
        · exact h2) (by simpa using hn)]
    · have hy := hm.1 x h3
      have := asc_sub_len m (x :: l) hm.2 hl0 (fun z hz => by
        have h1 : x ≤ z := by
          rcases List.mem_cons.1 hz with h | h
          · omega
          · have := hl.1 z h; omega
        rcases List.mem_cons.1 (hs z hz) with h2 | h2
        · omega
        · exact h2)
      simp at this hn
      omega

theorem near_rot (h : RhOk N a) : rotP N (nearX N a) (evB N a.length) := by
  have hn1 : 1 ≤ N := by have := h.1; omega
  have hn2 : N ≤ 24 := by have := h.2.1; omega
  have ho := evB_ok hn1 hn2 (rhok_len h)
  exact rotP_symm ho (rotP_of ho _)
theorem near_ok (h : RhOk N a) : RhOk N (nearX N a) ∧ (nearX N a).length = a.length := by
  have hn1 : 1 ≤ N := by have := h.1; omega
  have hn2 : N ≤ 24 := by have := h.2.1; omega
  have ho := evB_ok hn1 hn2 (rhok_len h)
  have := rotL_ok ho (nearK N a : Int)
  exact ⟨this.1, this.2.trans (evB_len _ _)⟩
theorem com_all {x : List Int} (hx : RhOk N x) (h : RhOk N a) (hl : x.length = a.length) : comN x a x.length = a.length ↔ x = a := by
  rw [← hl, comN_full]
  constructor
  · intro hh
    refine asc_sub_eq a x (rhok_asc h) (rhok_asc hx) (fun y hy => ?_) hl
    obtain ⟨j, hj, e⟩ := List.mem_iff_getElem.1 hy
    have := hh j hj
    rw [List.getD_eq_getElem?_getD, List.getElem?_eq_getElem hj, Option.getD_some, e] at this
    simpa [hasB] using this
  · rintro rfl j hj
    rw [List.getD_eq_getElem?_getD, List.getElem?_eq_getElem hj, Option.getD_some]
    simp [hasB]
theorem near_even (h : RhOk N a) : comN (nearX N a) a (nearX N a).length = a.length ↔ evnB (stepsL N a) = true := by
  have hn1 : 1 ≤ N := by have := h.1; omega
  have hn2 : N ≤ 24 := by have := h.2.1; omega
  have ho := evB_ok hn1 hn2 (rhok_len h)
  rw [com_all (near_ok h).1 h (near_ok h).2, even_rot_from h]
  constructor
  · intro e
    rw [← e]
    have := rotP_of ho (nearK N a : Int)
    rw [show (evB N (nearX N a).length) = evB N a.length by rw [(near_ok h).2]]
    exact this
  · rintro ⟨r, hr, e⟩
    have hb := bestK_le (nearF N a) N r hr
    have hk : nearG N a r ≤ nearG N a (nearK N a) := by
      unfold nearF at hb
      have : bestK (fun k => -nearG N a k) N = nearK N a := rfl
      rw [this] at hb
      omega
    have h1 : nearG N a r = (a.length : Nat) := by
      unfold nearG
      rw [e, (com_all h h rfl).2 rfl]
    have h2 := comN_le (nearX N a) a (nearX N a).length
    have h3 : nearG N a (nearK N a) = (comN (nearX N a) a (nearX N a).length : Nat) := rfl
    refine (com_all (near_ok h).1 h (near_ok h).2).1 ?_
    have h4 := (near_ok h).2
    omega
end

end Go.Proofs.YthookknmeajojaaGreatDoor

