/-
  MeetInMiddle of both.
-/
import Derived.Test.YtjegomgpldpmpaaWayS
namespace Go.Proofs.Ytjegomgpldpmpaa
open Go.RowKit Go.Shelf Go.Sort
set_option linter.unusedVariables false
set_option linter.unusedSimpArgs false

noncomputable def midN (n m : Int) (a b : List Int) : Int := if movedB n m a b = true then n else 0
noncomputable def midX (n m : Int) (a b : List Int) : List Int := if movedB n m a b = true then wayAt n.toNat a b ((farV n a b).toNat / 2) else []

set_option maxRecDepth 100000 in
set_option maxHeartbeats 1000000 in
theorem impl_WayTo_nil (n m : Int) (A B : Option Addr) (ca cb : Nat) (a b : List Int) (w : World) (hn : Fits n) (hm : Fits m) (hA : Ints w w.heap.size A a) (hB : Ints w w.heap.size B b) (hv : movedB n m a b = false) :
    Calls Try.prog 8 #[.agg #[.int .i64 n, .slice A a.length ca], .agg #[.int .i64 m, .slice B b.length cb]] w fun e w' => e = .returned (.slice none 0 0) ∧ Below w.heap.size w w' := by
  have HS := Lib.hid (fun V h1 h2 => hv ▸ impl_areMoved_any n m A B ca cb a b V hn hm h1 h2)
  clear hv
  have hal0 := (Below.refl w.heap.size w).alloc (Nat.le_refl _) (.cells #[.int .i64 n, .slice A a.length ca] 28)
  have hal1 := hal0.alloc hal0.size (.cells #[.int .i64 m, .slice B b.length cb] 28)
  have HC0 := Lib.hid ((Cells2.new w (.int .i64 n) (.slice A a.length ca) 28).alloc (.cells #[.int .i64 m, .slice B b.length cb] 28))
  have HD0 := Lib.hid (Cells2.new_at (w.alloc (.cells #[.int .i64 n, .slice A a.length ca] 28)) (.int .i64 m) (.slice B b.length cb) 28 (w.heap.size + 1) (by simp))
  have HB0 := Lib.hid hal1
  have HIA := Lib.hid (hA.lift hal1)
  have HIB := Lib.hid (hB.lift hal1)
  clear hA hB hal0 hal1
  obtain ⟨c0, c1, _, _, _⟩ := HC0.out
  obtain ⟨d0, d1, _, _, _⟩ := HD0.out
  go_enter Try.func8, Try.ntmps8
  go_wp2_with fail
  refine (HS.out _ HIA.out HIB.out).mono ?_
  rintro e w1 ⟨rfl, hb⟩
  have HB1 := Lib.hid (HB0.out.trans (hb.mono HB0.out.size))
  clear hb
  go_wp2_with fail
  go_ret
  exact ⟨rfl, HB1.out⟩

theorem RV.Lies.rw {r : RV} {w : World} {base : Nat} (h : r.Lies w base) : RW w base r.A r.xs :=
  ⟨h.1, fun hn => ⟨r.b, (h.2.2.2 hn).1, h.2.1, (h.2.2.2 hn).2⟩⟩
theorem way_mid {N : Nat} {a b : List Int} {rs : List RV} {D : Nat} (h : keyR rs = wayP N a b (D + 1)) : rs.length = D + 1 ∧ ∀ (hp : D / 2 < rs.length), rs[D / 2].n = N ∧ rs[D / 2].xs = wayAt N a b (D / 2) := by
  have hl := congrArg List.length h
  rw [keyR_len, wayP_len] at hl
  refine ⟨hl, fun hp => ?_⟩
  have := congrArg (fun l => l[D / 2]?) h
  unfold keyR wayP at this
  simp only [List.getElem?_map, List.getElem?_eq_getElem hp, Option.map_some, List.getElem?_range (show D / 2 < D + 1 by omega), Option.some.injEq, Prod.mk.injEq] at this
  exact this

set_option maxRecDepth 100000 in
set_option maxHeartbeats 2000000 in
theorem impl_MeetInMiddle_any (n m : Int) (A B : Option Addr) (ca cb : Nat) (a b : List Int) (w : World) (hn : Fits n) (hm : Fits m) (hA : Ints w w.heap.size A a) (hB : Ints w w.heap.size B b) :
    Calls Try.prog 15 #[.agg #[.int .i64 n, .slice A a.length ca], .agg #[.int .i64 m, .slice B b.length cb]] w (RetRh2 w (midN n m a b) (midX n m a b) (movedB n m a b)) := by
  cases hv : movedB n m a b
  · have HV := Lib.hid (show midN n m a b = 0 ∧ midX n m a b = [] by unfold midN midX; rw [hv]; exact ⟨rfl, rfl⟩)
    have HV0 := Lib.hid (show wayV n m a b = [] by unfold wayV; rw [hv]; rfl)
    rw [HV.out.1, HV.out.2]
    have HS := Lib.hid (fun V h1 h2 => impl_WayTo_nil n m A B ca cb a b V hn hm h1 h2 (hv))
    clear hv
    have hal0 := (Below.refl w.heap.size w).alloc (Nat.le_refl _) (.cells #[.int .i64 n, .slice A a.length ca] 28)
    have hal1 := hal0.alloc hal0.size (.cells #[.int .i64 m, .slice B b.length cb] 28)
    have hal2 := hal1.alloc hal1.size (.cells #[.int .i64 0, .slice none 0 0] 28)
    have HC0 := Lib.hid (((Cells2.new w (.int .i64 n) (.slice A a.length ca) 28).alloc (.cells #[.int .i64 m, .slice B b.length cb] 28)).alloc (.cells #[.int .i64 0, .slice none 0 0] 28))
    have HD0 := Lib.hid ((Cells2.new_at (w.alloc (.cells #[.int .i64 n, .slice A a.length ca] 28)) (.int .i64 m) (.slice B b.length cb) 28 (w.heap.size + 1) (by simp)).alloc (.cells #[.int .i64 0, .slice none 0 0] 28))
    have HZ0 := Lib.hid (Cells2.new_at ((w.alloc (.cells #[.int .i64 n, .slice A a.length ca] 28)).alloc (.cells #[.int .i64 m, .slice B b.length cb] 28)) (.int .i64 0) (.slice none 0 0) 28 (w.heap.size + 1 + 1) (by simp))
    have HB0 := Lib.hid hal2
    have HIA := Lib.hid (hA.lift hal2)
    have HIB := Lib.hid (hB.lift hal2)
    clear hA hB hal0 hal1 hal2
    obtain ⟨c0, c1, _, _, _⟩ := HC0.out
    obtain ⟨d0, d1, _, _, _⟩ := HD0.out
    obtain ⟨z0, z1, _, _, _⟩ := HZ0.out
    have hnil : ∀ V : World, (binOp .eql 26 (.slice none 0 0) (.slice none 0 0)).run Try.prog V = .ok (.bool true) V := fun V => Lib.run_eql_slice_nil V _ _ none 0 0 0 0 Try.underlying26
    go_enter Try.func15, Try.ntmps15
    go_wp2_with fail
    refine (HS.out _ HIA.out HIB.out).mono ?_
    rintro e w1 ⟨rfl, hb⟩
    have HB1 := Lib.hid (HB0.out.trans (hb.mono HB0.out.size))
    have HZ1 := Lib.hid (HZ0.out.below hb HZ0.out.2.2.2.2)
    clear hb z0 z1 c0 c1 d0 d1
    obtain ⟨z0, z1, z2, z3, _⟩ := HZ1.out
    have HZ2 := Lib.hid ((HZ1.out.set0 (.int .i64 0)).set1 (.slice none 0 0))
    have HF2 := Lib.hid ((HB1.out.setCell (p := ⟨w.heap.size + 1 + 1, 0, none⟩) (by show w.heap.size ≤ w.heap.size + 1 + 1; omega) (.int .i64 0)).setCell (p := ⟨w.heap.size + 1 + 1, 1, none⟩) (by show w.heap.size ≤ w.heap.size + 1 + 1; omega) (.slice none 0 0))
    obtain ⟨y0, y1, _, _, _⟩ := HZ2.out
    go_wp2_with fail
    refine bodyPost_ret (v := .tuple #[.agg #[.int .i64 0, .slice none 0 0], .bool false]) (by simp [results, Try.results15, go_sem, y0, y1]) rfl ?_
    exact ⟨_, _, rfl, ⟨Nat.zero_le _, fun h => absurd h (Nat.lt_irrefl 0)⟩, HF2.out⟩
  · obtain ⟨ha, hb1, hnm, hl⟩ := movedB_yes hv
    subst hnm
    obtain ⟨N, rfl⟩ := Int.eq_ofNat_of_zero_le (show 0 ≤ n by have := ha.1; omega)
    obtain ⟨D, hD⟩ := Int.eq_ofNat_of_zero_le (farV_nonneg N a b)
    have hD2 : D ≤ 576 := by have := farV_small ha hb1 hl; omega
    have HV := Lib.hid (show midN N N a b = N ∧ midX N N a b = wayAt N a b (D / 2) by
      unfold midN midX
      rw [hv, if_pos rfl, if_pos rfl, hD, Int.toNat_natCast, Int.toNat_natCast]
      exact ⟨rfl, rfl⟩)
    rw [HV.out.1, HV.out.2]
    have HS := Lib.hid (fun V h1 h2 => show Calls Try.prog 8 _ V (RetRs V (wayP N a b (D + 1))) by
      have := impl_WayTo_yes N A B ca cb a b V h1 h2 hv
      rw [hD, Int.toNat_natCast] at this
      exact this)
    clear hv ha hb1 hl hD
    have hal0 := (Below.refl w.heap.size w).alloc (Nat.le_refl _) (.cells #[.int .i64 N, .slice A a.length ca] 28)
    have hal1 := hal0.alloc hal0.size (.cells #[.int .i64 N, .slice B b.length cb] 28)
    have hal2 := hal1.alloc hal1.size (.cells #[.int .i64 0, .slice none 0 0] 28)
    have HC0 := Lib.hid (((Cells2.new w (.int .i64 N) (.slice A a.length ca) 28).alloc (.cells #[.int .i64 N, .slice B b.length cb] 28)).alloc (.cells #[.int .i64 0, .slice none 0 0] 28))
    have HD0 := Lib.hid ((Cells2.new_at (w.alloc (.cells #[.int .i64 N, .slice A a.length ca] 28)) (.int .i64 N) (.slice B b.length cb) 28 (w.heap.size + 1) (by simp)).alloc (.cells #[.int .i64 0, .slice none 0 0] 28))
    have HZ0 := Lib.hid (Cells2.new_at ((w.alloc (.cells #[.int .i64 N, .slice A a.length ca] 28)).alloc (.cells #[.int .i64 N, .slice B b.length cb] 28)) (.int .i64 0) (.slice none 0 0) 28 (w.heap.size + 1 + 1) (by simp))
    have HB0 := Lib.hid hal2
    have HIA := Lib.hid (hA.lift hal2)
    have HIB := Lib.hid (hB.lift hal2)
    clear hA hB hal0 hal1 hal2
    obtain ⟨c0, c1, _, _, _⟩ := HC0.out
    obtain ⟨d0, d1, _, _, _⟩ := HD0.out
    obtain ⟨z0, z1, _, _, _⟩ := HZ0.out
    have h2 : ((D : Int) + 1 - 1).tdiv 2 = ((D / 2 : Nat) : Int) := by rw [Int.tdiv_eq_ediv_of_nonneg (by omega)]; omega
    have hw1 : IntKind.i64.wrap ((D : Int) + 1 - 1) = (D : Int) + 1 - 1 := i64w (by omega)
    have hw2 : IntKind.i64.wrap ((D / 2 : Nat) : Int) = ((D / 2 : Nat) : Int) := i64w (by omega)
    have hd1 : ((D : Int) + 1 == 0) = false := beq_eq_false_iff_ne.2 (by omega)
    have hP0 : (0 : Int) ≤ ((D / 2 : Nat) : Int) := by omega
    have hP1 : ((D / 2 : Nat) : Int) < (D : Int) + 1 := by omega
    have hnil : ∀ (V : World) (g c : Nat), (binOp .eql 26 (.slice (some ⟨g, 0, none⟩) (D + 1) c) (.slice none 0 0)).run Try.prog V = .ok (.bool false) V := fun V g c => Lib.run_eql_slice_nil V _ _ (some ⟨g, 0, none⟩) (D + 1) c 0 0 Try.underlying26
    go_enter Try.func15, Try.ntmps15
    go_wp2_with fail
    refine (HS.out _ HIA.out HIB.out).mono ?_
    rintro e w1 ⟨v, rs, rfl, hk, ho, hb⟩
    obtain ⟨hrl, hmid⟩ := way_mid hk
    obtain ⟨A1, k1, rfl⟩ := ho.form
    have hlt : D / 2 < rs.length := by omega
    obtain ⟨e1, e2⟩ := hmid hlt
    have hls := ho.2.1 _ (List.getElem_mem hlt)
    have hcel : ∃ g, A1 = some ⟨g, 0, none⟩ ∧ w1.cell? ⟨g, D / 2 * 2, none⟩ = some (.int .i64 rs[D / 2].n) ∧ w1.cell? ⟨g, D / 2 * 2 + 1, none⟩ = some rs[D / 2].slc := by
      rcases ho.1.2 with ⟨h0, h1⟩ | ⟨g, cap', cur, hv, hge, hh, hnc, hm, hsz, hxs⟩
      · omega
      · have hA : A1 = some ⟨g, 0, none⟩ := by injection hv
        refine ⟨g, hA, ?_⟩
        subst hA
        have t0 := World.ownsRow.cells ho.1 (g := g) rfl _ _ (cellsR_get rs _ hlt).1
        have t1 := World.ownsRow.cells ho.1 (g := g) rfl _ _ (cellsR_get rs _ hlt).2
        rw [Go.WideShapes.add_plain, Nat.zero_add] at t0 t1
        exact ⟨t0, t1⟩
    obtain ⟨g, rfl, m0, m1⟩ := hcel
    have HRW := Lib.hid hls.rw
    generalize rs[D / 2] = s at *
    obtain ⟨n', X', AS, cS, bS⟩ := s
    change n' = (N : Int) at e1
    change X' = _ at e2
    unfold RV.slc at m1
    dsimp only at m0 m1 HRW
    have HE2 := Lib.hid e2
    subst e1
    have HB1 := Lib.hid (HB0.out.trans (hb.mono HB0.out.size))
    have HZ1 := Lib.hid (HZ0.out.below hb HZ0.out.2.2.2.2)
    rw [hrl]
    clear hb z0 z1 c0 c1 d0 d1 hk ho hrl hmid hlt hls e2
    obtain ⟨z0, z1, z2, z3, _⟩ := HZ1.out
    have HZ2 := Lib.hid ((HZ1.out.set0 (.int .i64 N)).set1 (.slice AS X'.length cS))
    have HF2 := Lib.hid ((HB1.out.setCell (p := ⟨w.heap.size + 1 + 1, 0, none⟩) (by show w.heap.size ≤ w.heap.size + 1 + 1; omega) (.int .i64 N)).setCell (p := ⟨w.heap.size + 1 + 1, 1, none⟩) (by show w.heap.size ≤ w.heap.size + 1 + 1; omega) (.slice AS X'.length cS))
    obtain ⟨y0, y1, _, _, _⟩ := HZ2.out
    go_wp2_with fail
    refine bodyPost_ret (v := .tuple #[.agg #[.int .i64 N, .slice AS X'.length cS], .bool true]) (by simp [results, Try.results15, go_sem, y0, y1]) rfl ?_
    rw [← HE2.out]
    exact ⟨_, _, rfl, ((HRW.out.far (p := ⟨w.heap.size + 1 + 1, 0, none⟩) (by show w.heap.size + 1 + 1 < _; simp) _).far (p := ⟨w.heap.size + 1 + 1, 1, none⟩) (by show w.heap.size + 1 + 1 < _; simp) _).mono HB0.out.size, HF2.out⟩

set_option maxRecDepth 100000 in
set_option maxHeartbeats 2000000 in
theorem spec_MeetInMiddle_any (n m : Int) (A B : Option Addr) (ca cb : Nat) (a b : List Int) (w : World) (hn : Fits n) (hm : Fits m) (hA : Ints w w.heap.size A a) (hB : Ints w w.heap.size B b) :
    Calls Try.prog 14 #[.agg #[.int .i64 n, .slice A a.length ca], .agg #[.int .i64 m, .slice B b.length cb]] w (RetRh2 w (midN n m a b) (midX n m a b) (movedB n m a b)) := by
  cases hv : movedB n m a b
  · have HV := Lib.hid (show midN n m a b = 0 ∧ midX n m a b = [] by unfold midN midX; rw [hv]; exact ⟨rfl, rfl⟩)
    have HV0 := Lib.hid (show wayV n m a b = [] by unfold wayV; rw [hv]; rfl)
    rw [HV.out.1, HV.out.2]
    have HS := Lib.hid (fun V h1 h2 => spec_WayTo_any n m A B ca cb a b V hn hm h1 h2 )
    clear hv
    have hal0 := (Below.refl w.heap.size w).alloc (Nat.le_refl _) (.cells #[.int .i64 n, .slice A a.length ca] 28)
    have hal1 := hal0.alloc hal0.size (.cells #[.int .i64 m, .slice B b.length cb] 28)
    have hal2 := hal1.alloc hal1.size (.cells #[.int .i64 0, .slice none 0 0] 28)
    have HC0 := Lib.hid (((Cells2.new w (.int .i64 n) (.slice A a.length ca) 28).alloc (.cells #[.int .i64 m, .slice B b.length cb] 28)).alloc (.cells #[.int .i64 0, .slice none 0 0] 28))
    have HD0 := Lib.hid ((Cells2.new_at (w.alloc (.cells #[.int .i64 n, .slice A a.length ca] 28)) (.int .i64 m) (.slice B b.length cb) 28 (w.heap.size + 1) (by simp)).alloc (.cells #[.int .i64 0, .slice none 0 0] 28))
    have HZ0 := Lib.hid (Cells2.new_at ((w.alloc (.cells #[.int .i64 n, .slice A a.length ca] 28)).alloc (.cells #[.int .i64 m, .slice B b.length cb] 28)) (.int .i64 0) (.slice none 0 0) 28 (w.heap.size + 1 + 1) (by simp))
    have HB0 := Lib.hid hal2
    have HIA := Lib.hid (hA.lift hal2)
    have HIB := Lib.hid (hB.lift hal2)
    clear hA hB hal0 hal1 hal2
    obtain ⟨c0, c1, _, _, _⟩ := HC0.out
    obtain ⟨d0, d1, _, _, _⟩ := HD0.out
    obtain ⟨z0, z1, _, _, _⟩ := HZ0.out
    skip
    go_enter Try.func14, Try.ntmps14
    go_wp2_with fail
    refine (HS.out _ HIA.out HIB.out).mono ?_
    rintro e w1 ⟨v, rs, rfl, hk, ho, hb⟩; obtain ⟨A1, k1, rfl⟩ := ho.form; have hrl : rs.length = 0 := (by rw [← keyR_len, hk, HV0.out]; rfl); rw [hrl]; clear hk ho hrl
    have HB1 := Lib.hid (HB0.out.trans (hb.mono HB0.out.size))
    have HZ1 := Lib.hid (HZ0.out.below hb HZ0.out.2.2.2.2)
    clear hb z0 z1 c0 c1 d0 d1
    obtain ⟨z0, z1, z2, z3, _⟩ := HZ1.out
    have HZ2 := Lib.hid ((HZ1.out.set0 (.int .i64 0)).set1 (.slice none 0 0))
    have HF2 := Lib.hid ((HB1.out.setCell (p := ⟨w.heap.size + 1 + 1, 0, none⟩) (by show w.heap.size ≤ w.heap.size + 1 + 1; omega) (.int .i64 0)).setCell (p := ⟨w.heap.size + 1 + 1, 1, none⟩) (by show w.heap.size ≤ w.heap.size + 1 + 1; omega) (.slice none 0 0))
    obtain ⟨y0, y1, _, _, _⟩ := HZ2.out
    go_wp2_with fail
    refine bodyPost_ret (v := .tuple #[.agg #[.int .i64 0, .slice none 0 0], .bool false]) (by simp [results, Try.results14, go_sem, y0, y1]) rfl ?_
    exact ⟨_, _, rfl, ⟨Nat.zero_le _, fun h => absurd h (Nat.lt_irrefl 0)⟩, HF2.out⟩
  · obtain ⟨ha, hb1, hnm, hl⟩ := movedB_yes hv
    subst hnm
    obtain ⟨N, rfl⟩ := Int.eq_ofNat_of_zero_le (show 0 ≤ n by have := ha.1; omega)
    obtain ⟨D, hD⟩ := Int.eq_ofNat_of_zero_le (farV_nonneg N a b)
    have hD2 : D ≤ 576 := by have := farV_small ha hb1 hl; omega
    have HV := Lib.hid (show midN N N a b = N ∧ midX N N a b = wayAt N a b (D / 2) by
      unfold midN midX
      rw [hv, if_pos rfl, if_pos rfl, hD, Int.toNat_natCast, Int.toNat_natCast]
      exact ⟨rfl, rfl⟩)
    rw [HV.out.1, HV.out.2]
    have HS := Lib.hid (fun V h1 h2 => show Calls Try.prog 6 _ V (RetRs V (wayP N a b (D + 1))) by
      have := spec_WayTo_yes N A B ca cb a b V h1 h2 hv
      rw [hD, Int.toNat_natCast] at this
      exact this)
    clear hv ha hb1 hl hD
    have hal0 := (Below.refl w.heap.size w).alloc (Nat.le_refl _) (.cells #[.int .i64 N, .slice A a.length ca] 28)
    have hal1 := hal0.alloc hal0.size (.cells #[.int .i64 N, .slice B b.length cb] 28)
    have hal2 := hal1.alloc hal1.size (.cells #[.int .i64 0, .slice none 0 0] 28)
    have HC0 := Lib.hid (((Cells2.new w (.int .i64 N) (.slice A a.length ca) 28).alloc (.cells #[.int .i64 N, .slice B b.length cb] 28)).alloc (.cells #[.int .i64 0, .slice none 0 0] 28))
    have HD0 := Lib.hid ((Cells2.new_at (w.alloc (.cells #[.int .i64 N, .slice A a.length ca] 28)) (.int .i64 N) (.slice B b.length cb) 28 (w.heap.size + 1) (by simp)).alloc (.cells #[.int .i64 0, .slice none 0 0] 28))
    have HZ0 := Lib.hid (Cells2.new_at ((w.alloc (.cells #[.int .i64 N, .slice A a.length ca] 28)).alloc (.cells #[.int .i64 N, .slice B b.length cb] 28)) (.int .i64 0) (.slice none 0 0) 28 (w.heap.size + 1 + 1) (by simp))
    have HB0 := Lib.hid hal2
    have HIA := Lib.hid (hA.lift hal2)
    have HIB := Lib.hid (hB.lift hal2)
    clear hA hB hal0 hal1 hal2
    obtain ⟨c0, c1, _, _, _⟩ := HC0.out
    obtain ⟨d0, d1, _, _, _⟩ := HD0.out
    obtain ⟨z0, z1, _, _, _⟩ := HZ0.out
    have h2 : ((D : Int) + 1 - 1).tdiv 2 = ((D / 2 : Nat) : Int) := by rw [Int.tdiv_eq_ediv_of_nonneg (by omega)]; omega
    have hw1 : IntKind.i64.wrap ((D : Int) + 1 - 1) = (D : Int) + 1 - 1 := i64w (by omega)
    have hw2 : IntKind.i64.wrap ((D / 2 : Nat) : Int) = ((D / 2 : Nat) : Int) := i64w (by omega)
    have hd1 : ((D : Int) + 1 == 0) = false := beq_eq_false_iff_ne.2 (by omega)
    have hP0 : (0 : Int) ≤ ((D / 2 : Nat) : Int) := by omega
    have hP1 : ((D / 2 : Nat) : Int) < (D : Int) + 1 := by omega
    skip
    go_enter Try.func14, Try.ntmps14
    go_wp2_with fail
    refine (HS.out _ HIA.out HIB.out).mono ?_
    rintro e w1 ⟨v, rs, rfl, hk, ho, hb⟩
    obtain ⟨hrl, hmid⟩ := way_mid hk
    obtain ⟨A1, k1, rfl⟩ := ho.form
    have hlt : D / 2 < rs.length := by omega
    obtain ⟨e1, e2⟩ := hmid hlt
    have hls := ho.2.1 _ (List.getElem_mem hlt)
    have hcel : ∃ g, A1 = some ⟨g, 0, none⟩ ∧ w1.cell? ⟨g, D / 2 * 2, none⟩ = some (.int .i64 rs[D / 2].n) ∧ w1.cell? ⟨g, D / 2 * 2 + 1, none⟩ = some rs[D / 2].slc := by
      rcases ho.1.2 with ⟨h0, h1⟩ | ⟨g, cap', cur, hv, hge, hh, hnc, hm, hsz, hxs⟩
      · omega
      · have hA : A1 = some ⟨g, 0, none⟩ := by injection hv
        refine ⟨g, hA, ?_⟩
        subst hA
        have t0 := World.ownsRow.cells ho.1 (g := g) rfl _ _ (cellsR_get rs _ hlt).1
        have t1 := World.ownsRow.cells ho.1 (g := g) rfl _ _ (cellsR_get rs _ hlt).2
        rw [Go.WideShapes.add_plain, Nat.zero_add] at t0 t1
        exact ⟨t0, t1⟩
    obtain ⟨g, rfl, m0, m1⟩ := hcel
    have HRW := Lib.hid hls.rw
    generalize rs[D / 2] = s at *
    obtain ⟨n', X', AS, cS, bS⟩ := s
    change n' = (N : Int) at e1
    change X' = _ at e2
    unfold RV.slc at m1
    dsimp only at m0 m1 HRW
    have HE2 := Lib.hid e2
    subst e1
    have HB1 := Lib.hid (HB0.out.trans (hb.mono HB0.out.size))
    have HZ1 := Lib.hid (HZ0.out.below hb HZ0.out.2.2.2.2)
    rw [hrl]
    clear hb z0 z1 c0 c1 d0 d1 hk ho hrl hmid hlt hls e2
    obtain ⟨z0, z1, z2, z3, _⟩ := HZ1.out
    have HZ2 := Lib.hid ((HZ1.out.set0 (.int .i64 N)).set1 (.slice AS X'.length cS))
    have HF2 := Lib.hid ((HB1.out.setCell (p := ⟨w.heap.size + 1 + 1, 0, none⟩) (by show w.heap.size ≤ w.heap.size + 1 + 1; omega) (.int .i64 N)).setCell (p := ⟨w.heap.size + 1 + 1, 1, none⟩) (by show w.heap.size ≤ w.heap.size + 1 + 1; omega) (.slice AS X'.length cS))
    obtain ⟨y0, y1, _, _, _⟩ := HZ2.out
    go_wp2_with fail
    refine bodyPost_ret (v := .tuple #[.agg #[.int .i64 N, .slice AS X'.length cS], .bool true]) (by simp [results, Try.results14, go_sem, y0, y1]) rfl ?_
    rw [← HE2.out]
    exact ⟨_, _, rfl, ((HRW.out.far (p := ⟨w.heap.size + 1 + 1, 0, none⟩) (by show w.heap.size + 1 + 1 < _; simp) _).far (p := ⟨w.heap.size + 1 + 1, 1, none⟩) (by show w.heap.size + 1 + 1 < _; simp) _).mono HB0.out.size, HF2.out⟩

end Go.Proofs.Ytjegomgpldpmpaa
