/-
  Slices of passages (two ints each) as lists of pairs; the laws' copies and comparison of them.
-/
import Derived.Test.YtinmhjeljkiefaaDoorFrm
import Derived.Test.YtinmhjeljkiefaaDoorOpen
import Derived.Deep.SlicePairs
namespace Go.Proofs.YtinmhjeljkiefaaDoor
open Go.RowKit Go.ChangeShapes Go.WideShapes Go.ChangeAt Go.Joins
set_option linter.unusedVariables false
set_option linter.unusedSimpArgs false

/-- v is a slice of passages that lies below block B and reads as the list. -/
def Pas (w : World) (B : Nat) (A : Option Addr) (xs : List (Int × Int)) : Prop :=
  xs.length ≤ maxLen ∧ (∀ p ∈ xs, Fits p.1 ∧ Fits p.2) ∧
  (0 < xs.length → ∃ b off, A = some ⟨b, off, none⟩ ∧ b < B ∧ ∀ i, i < xs.length → w.cell? ⟨b, off + i * 2, none⟩ = some (.int .i64 (xs.getD i (0, 0)).1) ∧ w.cell? ⟨b, off + i * 2 + 1, none⟩ = some (.int .i64 (xs.getD i (0, 0)).2))
theorem Pas.below {w w' : World} {B : Nat} {A : Option Addr} {xs : List (Int × Int)} (h : Pas w B A xs) (hb : Below B w w') : Pas w' B A xs := by
  refine ⟨h.1, h.2.1, fun hn => ?_⟩
  obtain ⟨b, off, rfl, hlt, hc⟩ := h.2.2 hn
  exact ⟨b, off, rfl, hlt, fun i hi => ⟨(hb.cell (p := ⟨b, off + i * 2, none⟩) hlt).trans (hc i hi).1, (hb.cell (p := ⟨b, off + i * 2 + 1, none⟩) hlt).trans (hc i hi).2⟩⟩
theorem Pas.mono {w : World} {B B' : Nat} {A : Option Addr} {xs : List (Int × Int)} (h : Pas w B A xs) (hB : B ≤ B') : Pas w B' A xs := by
  refine ⟨h.1, h.2.1, fun hn => ?_⟩
  obtain ⟨b, off, rfl, hlt, hc⟩ := h.2.2 hn
  exact ⟨b, off, rfl, by omega, hc⟩
theorem Pas.lift {w w' : World} {A : Option Addr} {xs : List (Int × Int)} (h : Pas w w.heap.size A xs) (hb : Below w.heap.size w w') : Pas w' w'.heap.size A xs := (h.below hb).mono hb.size
theorem pas_fit {xs : List (Int × Int)} (h : ∀ p ∈ xs, Fits p.1 ∧ Fits p.2) {k : Nat} (hk : k < xs.length) : Fits (xs.getD k (0, 0)).1 ∧ Fits (xs.getD k (0, 0)).2 := by
  rw [List.getD_eq_getElem?_getD, List.getElem?_eq_getElem hk]; exact h _ (List.getElem_mem hk)

theorem Tryd.cellsLPas : Tryd.prog.cellsOf 61 = 2 := by kernel_rfl

set_option maxRecDepth 100000 in
theorem open_paslist {H : Type} {enc : TypeId × Value → H} {W : World} {r : Reach} {b0 : Nat} {v : Value} {d : DataW H} {p : List MemPlace}
    (hv : Value.okWide Tryd.prog W r b0 38 v) (h : DataW.Trod enc Tryd.prog W 0 (fun _ => true) true 38 v d p) :
    ∃ A cap xs, v = .slice A (List.length xs) cap ∧ Pas W W.heap.size A xs := by
  obtain ⟨a0, l0, c0, rfl⟩ := okWide_slice Tryd.underlying38 hv
  obtain ⟨fuel, hf⟩ := h
  rcases Deep.open_slice_pairs Tryd.underlying38 Tryd.underlying61 Tryd.cellsLPas rfl rfl (by kernel_rfl) (by kernel_rfl) hf with ⟨hcs, _⟩ | ⟨x, l, c, m, n, V0, V1, D0, D1, P0, P1, hcs, _, hl, hm, hmm, _, hcell⟩
  · simp only [Value.cells] at hcs
    injection hcs with hcs _
    exact ⟨none, 0, [], hcs, by simp, fun x hx => by simp at hx, fun h => by simp at h⟩
  · simp only [Value.cells] at hcs
    injection hcs with hcs _
    simp only [if_true] at hmm
    have hint : ∀ i, i < m → ∃ q : Int × Int, V0 i = .int .i64 q.1 ∧ V1 i = .int .i64 q.2 ∧ Fits q.1 ∧ Fits q.2 := by
      intro i hi
      obtain ⟨_, _, h0, h1⟩ := hcell i hi
      obtain ⟨a, e0, _, wa⟩ := DataW.trod_int Tryd.underlying3 h0
      obtain ⟨b, e1, _, wb⟩ := DataW.trod_int Tryd.underlying3 h1
      injection e0 with e0 _
      injection e1 with e1 _
      exact ⟨(a, b), e0, e1, fits_of_wf wa, fits_of_wf wb⟩
    obtain ⟨q, hq⟩ := Deep.choose_lt hint
    have hget : ∀ i, i < l → ((List.range l).map q).getD i (0, 0) = q i := fun i hi => by
      rw [List.getD_eq_getElem?_getD, List.getElem?_map, List.getElem?_range hi]; rfl
    refine ⟨some x, c, (List.range l).map q, by simpa using hcs, by simp; omega, fun p hp => ?_, fun h => ?_⟩
    · obtain ⟨i, hi, rfl⟩ := List.mem_map.1 hp
      have hi := List.mem_range.1 hi
      exact (hq i (by omega)).2.2
    · have hl0 : 0 < l := by simpa using h
      obtain ⟨c0, _, _, _⟩ := hcell 0 (by omega)
      obtain ⟨b, off, pt⟩ := x
      have hpt : pt = none := by simpa [Addr.add] using World.cell?_spot c0
      subst hpt
      refine ⟨b, off, rfl, ?_, fun i hi => ?_⟩
      · exact World.block_lt_of_cell? _ _ c0
      · have hi' : i < l := by simpa using hi
        obtain ⟨d0, d1, _, _⟩ := hcell i (by omega)
        obtain ⟨e0, e1, _⟩ := hq i (by omega)
        rw [Addr.add_lit] at d0 d1
        rw [hget i hi', ← e0, ← e1]
        exact ⟨d0, by rw [Nat.add_assoc]; exact d1⟩

theorem Below.drew1_ {B : Nat} {a w : World} (h : Below B a w) : Below B a w.drew := ⟨h.os, h.tape, h.output, h.size, h.block⟩
theorem Pas.drew_ {w : World} {B : Nat} {A : Option Addr} {xs : List (Int × Int)} (h : Pas w B A xs) : Pas w.drew B A xs := h

theorem Tryd.infoPas : (Tryd.prog.info? 59).map (fun i => (i.zero, i.size, i.bytes)) = some (some (.agg #[.int .i64 0, .int .i64 0]), 2, 16) := by kernel_rfl

theorem szPassageS_small (A : Option Addr) (cap : Nat) (n : Nat) (left : Int) (w : World) (hl : (n : Int) ≤ left) (hb : left ≤ 1048576) :
    Calls Tryd.prog 21 #[.slice A n cap, .int .i64 left] w fun e w' => e = .returned (.int .i64 (left - n)) ∧ w = w' := by
  have hw : IntKind.i64.wrap (left - (n : Int)) = left - n := i64w (by omega)
  have hn : ¬ left - (n : Int) < 0 := by omega
  go_enter Tryd.func21, Tryd.ntmps21
  go_wp2
  go_ret
  exact ⟨rfl, rfl⟩
theorem szPassageS_big (A : Option Addr) (cap : Nat) (n : Nat) (left : Int) (w : World) (hm : n ≤ maxLen) (hl : left < (n : Int)) (h0 : 0 ≤ left) (hb : left ≤ 1048576) :
    Calls Tryd.prog 21 #[.slice A n cap, .int .i64 left] w fun e w' => e = .returned (.int .i64 (-1)) ∧ w = w' := by
  unfold maxLen at hm
  have hw : IntKind.i64.wrap (left - (n : Int)) = left - n := i64w (by omega)
  have hn : left - (n : Int) < 0 := by omega
  go_enter Tryd.func21, Tryd.ntmps21
  go_wp2
  go_ret
  exact ⟨rfl, rfl⟩

theorem toPassage_any (x y : Int) (w : World) :
    Calls Tryd.prog 43 #[.agg #[.int .i64 x, .int .i64 y]] w fun e w' => e = .returned (.agg #[.int .i64 x, .int .i64 y]) ∧ Below w.heap.size w w' := by
  go_enter Tryd.func43, Tryd.ntmps43
  go_wp2
  refine bodyPost_ret (v := .agg #[.int .i64 x, .int .i64 y]) (by simp [results, Tryd.results43, go_sem]) rfl ⟨rfl, ?_⟩
  exact (by repeat (first | exact Below.refl _ _ | assumption | (refine Below.alloc ?_ (by first | exact Nat.le_refl _ | (simp; done) | (simp; omega) | omega) _) | (refine Below.drew ?_) | (refine Below.setCell ?_ (by first | exact Nat.le_refl _ | (simp; done) | (simp; omega) | omega) _)))

theorem eqPassage_same (x y : Int) (w : World) :
    Calls Tryd.prog 46 #[.agg #[.int .i64 x, .int .i64 y], .agg #[.int .i64 x, .int .i64 y]] w fun e w' => e = .returned (.bool true) ∧ Below w.heap.size w w' := by
  go_enter Tryd.func46, Tryd.ntmps46
  go_wp2
  go_ret
  exact ⟨rfl, (by repeat (first | exact Below.refl _ _ | assumption | (refine Below.alloc ?_ (by first | exact Nat.le_refl _ | (simp; done) | (simp; omega) | omega) _) | (refine Below.drew ?_) | (refine Below.setCell ?_ (by first | exact Nat.le_refl _ | (simp; done) | (simp; omega) | omega) _)))⟩
theorem run_make_pas (n : Nat) (hn : n ≤ 1048576) (w : World) :
    (Instr.makeSlice 41 (.int .i64 (n : Int)) (.int .i64 (n : Int))).run Tryd.prog w = .ok (.slice (some ⟨w.heap.size, 0, none⟩) n n) (w.alloc (.cells (madeCells #[.int .i64 0, .int .i64 0] (n * 2)) 59)) := by
  obtain ⟨i, hi, hz, hs, hb⟩ := info_parts Tryd.infoPas
  have hr := run_make (P := Tryd.prog) w 41 59 i _ Tryd.underlying41 hi hz .i64 .i64 n n (by omega) (by omega) (by rw [hb]; omega) (by omega)
  simp only [Int.toNat_natCast, hs] at hr
  exact hr

/-- Cell t of a block of passages of which the first k are laid. -/
def pasF (xs : List (Int × Int)) (k t : Nat) : Value := .int .i64 (if t < k * 2 then (if t % 2 = 0 then (xs.getD (t / 2) (0, 0)).1 else (xs.getD (t / 2) (0, 0)).2) else 0)
theorem pas_made (w : World) (N : Nat) (xs : List (Int × Int)) : TabV (w.alloc (.cells (madeCells #[.int .i64 0, .int .i64 0] (N * 2)) 59)) w.heap.size (N * 2) (pasF xs 0) := by
  have hh : (w.alloc (.cells (madeCells #[.int .i64 0, .int .i64 0] (N * 2)) 59)).heap[w.heap.size]? = some (.cells (madeCells #[.int .i64 0, .int .i64 0] (N * 2)) 59 (0, 0)) := heap_alloc_new w _
  refine ⟨by simp, fun t ht => ⟨?_, frozen_of_row _ _ _ _ _ hh⟩⟩
  rw [cell_of_row _ _ _ _ _ _ hh]
  have hsz : t < (madeCells #[.int .i64 0, .int .i64 0] (N * 2)).size := by rw [size_madeCells]; exact ht
  rw [Array.getElem?_eq_getElem hsz]
  have : pasF xs 0 t = .int .i64 0 := by unfold pasF; simp
  rw [this]
  simp only [madeCells, Array.getElem_map, Array.getElem_range]
  have h2 : t % 2 = 0 ∨ t % 2 = 1 := by omega
  show some ((#[Value.int .i64 0, Value.int .i64 0])[t % 2]!) = _
  rcases h2 with h | h <;> rw [h] <;> rfl
theorem pasF_at (xs : List (Int × Int)) (k i : Nat) (h : i < k) : pasF xs k (i * 2) = .int .i64 (xs.getD i (0, 0)).1 ∧ pasF xs k (i * 2 + 1) = .int .i64 (xs.getD i (0, 0)).2 := by
  unfold pasF
  rw [if_pos (show i * 2 < k * 2 by omega), if_pos (show i * 2 + 1 < k * 2 by omega), if_pos (show i * 2 % 2 = 0 by omega), if_neg (show ¬ (i * 2 + 1) % 2 = 0 by omega), show i * 2 / 2 = i by omega, show (i * 2 + 1) / 2 = i by omega]
  exact ⟨rfl, rfl⟩
theorem pasF_new (xs : List (Int × Int)) (k : Nat) : pasF xs k (k * 2) = .int .i64 0 ∧ pasF xs k (k * 2 + 1) = .int .i64 0 := by
  unfold pasF
  rw [if_neg (by omega), if_neg (by omega)]
  exact ⟨rfl, rfl⟩
theorem pasF_old (xs : List (Int × Int)) (k t : Nat) (h1 : t ≠ k * 2) (h2 : t ≠ k * 2 + 1) : pasF xs (k + 1) t = pasF xs k t := by
  unfold pasF
  by_cases h : t < k * 2
  · rw [if_pos h, if_pos (show t < (k + 1) * 2 by omega)]
  · rw [if_neg h, if_neg (show ¬ t < (k + 1) * 2 by omega)]
theorem TabV.pas {w : World} {b : Nat} {xs : List (Int × Int)} (h : TabV w b (xs.length * 2) (pasF xs xs.length)) (hl : xs.length ≤ maxLen) (hf : ∀ p ∈ xs, Fits p.1 ∧ Fits p.2) : Pas w w.heap.size (some ⟨b, 0, none⟩) xs :=
  ⟨hl, hf, fun hn => ⟨b, 0, rfl, h.1, fun i hi => by
    obtain ⟨e0, e1⟩ := pasF_at xs xs.length i hi
    rw [Nat.zero_add]
    exact ⟨h.get (by omega) e0, h.get (by omega) e1⟩⟩⟩

set_option maxRecDepth 100000 in
set_option maxHeartbeats 1000000 in
theorem toPassageS_any (A : Option Addr) (cap : Nat) (xs : List (Int × Int)) (w : World) (hA : Pas w w.heap.size A xs) (hl : xs.length ≤ 1048576) :
    Calls Tryd.prog 23 #[.slice A xs.length cap] w fun e w' => ∃ A', e = .returned (.slice A' xs.length xs.length) ∧ Pas w' w'.heap.size A' xs ∧ Below w.heap.size w w' := by
  have hmk := fun W : World => run_make_pas xs.length hl W
  have HC := Lib.hid hA.2.2
  have HF := Lib.hid hA.2.1
  have HL := Lib.hid hA.1
  clear hA
  go_enter Tryd.func23, Tryd.ntmps23
  go_wp2
  have hnew := pas_made w xs.length xs
  go_loopw [4] (fun i wr => ∃ k : Nat, k ≤ xs.length ∧ i = .int .i64 k ∧ TabV wr w.heap.size (xs.length * 2) (pasF xs k) ∧ Below w.heap.size w wr) (fun i _ => xs.length - (intOf i).toNat)
  case atStart => exact ⟨0, Nat.zero_le _, rfl, hnew, (Below.refl _ _).alloc (Nat.le_refl _) _⟩
  case round =>
    obtain ⟨k, hk, rfl, htab, hbel⟩ := hrel
    obtain ⟨wo, rfl⟩ : ∃ wo : World, wo = wr := ⟨_, rfl⟩
    by_cases hlt : k < xs.length
    · obtain ⟨b, off, rfl, hB, hc⟩ := HC.out (by omega)
      obtain ⟨hc0, hc1⟩ := hc k hlt
      rw [← hbel.cell (p := ⟨b, off + k * 2, none⟩) hB] at hc0
      rw [← hbel.cell (p := ⟨b, off + k * 2 + 1, none⟩) hB] at hc1
      have HX := Lib.hid (pasF_at xs (k + 1) k (by omega))
      generalize xs.getD k (0, 0) = q at hc0 hc1 HX
      obtain ⟨x, y⟩ := q
      have HT := Lib.hid htab
      have HB := Lib.hid hbel
      clear hc htab hbel hnew
      go_wp2_with fail
      refine (toPassage_any x y _).mono ?_
      rintro e w1 ⟨rfl, hb1⟩
      have ht1 := HT.out.frm (Frm.pure hb1 (fun _ => False)) (fun h => h)
      have hto0 := ht1.get (t := k * 2) (by omega) (pasF_new xs k).1
      have hto1 := ht1.get (t := k * 2 + 1) (by omega) (pasF_new xs k).2
      have hfr0 := (ht1.2 (k * 2) (by omega)).2
      have hfr1 := (ht1.2 (k * 2 + 1) (by omega)).2
      have HT1 := Lib.hid ht1
      have HB1 := Lib.hid (HB.out.trans (hb1.mono HB.out.size))
      clear ht1 hb1
      go_wp2_with fail
      go_roundw
      case rel =>
        refine ⟨k + 1, by omega, by go_num, ?_, (HB1.out.setCell (Nat.le_refl _) _).setCell (Nat.le_refl _) _⟩
        refine TabV.set_ (f := fun t => if t = k * 2 then .int .i64 x else pasF xs k t) (TabV.set_ HT1.out (k * 2) _ (by omega) (by simp) (fun t _ ht => by simp [ht])) (k * 2 + 1) _ (by omega) HX.out.2 (fun t _ ht => ?_)
        by_cases h0 : t = k * 2
        · subst h0; simp only [if_pos]; exact HX.out.1
        · simp only [if_neg h0]; exact pasF_old xs k t h0 ht
      case measure => simp [intOf]; omega
    · have hke : k = xs.length := by omega
      subst hke
      clear hnew
      go_wp2
      go_ret
      exact ⟨_, rfl, htab.pas HL.out HF.out, hbel⟩

set_option maxRecDepth 100000 in
set_option maxHeartbeats 1000000 in
theorem eqPassageS_same (A1 A2 : Option Addr) (c1 c2 : Nat) (xs : List (Int × Int)) (w : World) (h1 : Pas w w.heap.size A1 xs) (h2 : Pas w w.heap.size A2 xs) (hl : xs.length ≤ 1048576) :
    Calls Tryd.prog 25 #[.slice A1 xs.length c1, .slice A2 xs.length c2] w fun e w' => e = .returned (.bool true) ∧ Below w.heap.size w w' := by
  have HA := Lib.hid h1.2.2
  have HB := Lib.hid h2.2.2
  clear h1 h2
  go_enter Tryd.func25, Tryd.ntmps25
  go_wp2
  go_loopw [5] (fun i wr => ∃ k : Nat, k ≤ xs.length ∧ i = .int .i64 k ∧ Below w.heap.size w wr) (fun i _ => xs.length - (intOf i).toNat)
  case atStart => exact ⟨0, Nat.zero_le _, rfl, Below.refl _ _⟩
  case round =>
    obtain ⟨k, hk, rfl, hbel⟩ := hrel
    obtain ⟨wo, rfl⟩ : ∃ wo : World, wo = wr := ⟨_, rfl⟩
    have HBE := Lib.hid hbel
    by_cases hlt : k < xs.length
    · obtain ⟨g1, o1, rfl, hg1, hc1⟩ := HA.out (by omega)
      obtain ⟨g2, o2, rfl, hg2, hc2⟩ := HB.out (by omega)
      have a0 := (hbel.cell (p := ⟨g1, o1 + k * 2, none⟩) hg1).trans (hc1 k hlt).1
      have a1 := (hbel.cell (p := ⟨g1, o1 + k * 2 + 1, none⟩) hg1).trans (hc1 k hlt).2
      have b0 := (hbel.cell (p := ⟨g2, o2 + k * 2, none⟩) hg2).trans (hc2 k hlt).1
      have b1 := (hbel.cell (p := ⟨g2, o2 + k * 2 + 1, none⟩) hg2).trans (hc2 k hlt).2
      generalize xs.getD k (0, 0) = q at a0 a1 b0 b1
      obtain ⟨x, y⟩ := q
      have hk0 : (0 : Int) ≤ (k : Int) := Int.natCast_nonneg _
      have hk1 : (k : Int) < (xs.length : Int) := by omega
      clear hc1 hc2 hbel
      go_wp2_with fail
      (refine wp_region_held_drew (S := (fun w' => w'.cell? ⟨g1, o1 + k * 2, none⟩ = some (.int .i64 x) ∧ w'.cell? ⟨g1, o1 + k * 2 + 1, none⟩ = some (.int .i64 y) ∧ w'.cell? ⟨g2, o2 + k * 2, none⟩ = some (.int .i64 x) ∧ w'.cell? ⟨g2, o2 + k * 2 + 1, none⟩ = some (.int .i64 y))) (by kernel_rfl) ?_ (fun hHeld => ?_); (focus ((try dsimp only); exact ⟨a0, a1, b0, b1⟩)))
      ((refine wpAnyH_take (i := 0) (v := ?_) rfl (by kernel_rfl) (by kernel_rfl) (by kernel_rfl) (fun _ _ _ h => h) (Or.inl ⟨by rfl, ?_⟩) (by assumption) ?_; rotate_left; (focus (intro wS hSw; (try dsimp only at hSw); go_simp; (try with_reducible rfl))); (try simp only [Act.put, List.getElem_toArray, List.getElem_cons_zero, List.getElem_cons_succ, List.setIfInBounds_toArray, List.set_cons_zero, List.set_cons_succ])); (refine wpAnyH_take (i := 1) (v := ?_) rfl (by kernel_rfl) (by kernel_rfl) (by kernel_rfl) (fun _ _ _ h => h) (Or.inl ⟨by rfl, ?_⟩) (by assumption) ?_; rotate_left; (focus (intro wS hSw; (try dsimp only at hSw); go_simp; (try with_reducible rfl))); (try simp only [Act.put, List.getElem_toArray, List.getElem_cons_zero, List.getElem_cons_succ, List.setIfInBounds_toArray, List.set_cons_zero, List.set_cons_succ])); (refine wpAnyH_take (i := 2) (v := ?_) rfl (by kernel_rfl) (by kernel_rfl) (by kernel_rfl) (fun _ _ _ h => h) (Or.inl ⟨by rfl, ?_⟩) (by assumption) ?_; rotate_left; (focus (intro wS hSw; (try dsimp only at hSw); go_simp; (try with_reducible rfl))); (try simp only [Act.put, List.getElem_toArray, List.getElem_cons_zero, List.getElem_cons_succ, List.setIfInBounds_toArray, List.set_cons_zero, List.set_cons_succ])); (refine wpAnyH_take (i := 3) (v := ?_) rfl (by kernel_rfl) (by kernel_rfl) (by kernel_rfl) (fun _ _ _ h => h) (Or.inl ⟨by rfl, ?_⟩) (by assumption) ?_; rotate_left; (focus (intro wS hSw; (try dsimp only at hSw); go_simp; (try with_reducible rfl))); (try simp only [Act.put, List.getElem_toArray, List.getElem_cons_zero, List.getElem_cons_succ, List.setIfInBounds_toArray, List.set_cons_zero, List.set_cons_succ])); (refine wpAnyH_take (i := 4) (v := ?_) rfl (by kernel_rfl) (by kernel_rfl) (by kernel_rfl) (fun _ _ _ h => h) (Or.inl ⟨by rfl, ?_⟩) (by assumption) ?_; rotate_left; (focus (intro wS hSw; (try dsimp only at hSw); go_simp; (try with_reducible rfl))); (try simp only [Act.put, List.getElem_toArray, List.getElem_cons_zero, List.getElem_cons_succ, List.setIfInBounds_toArray, List.set_cons_zero, List.set_cons_succ])); (refine wpAnyH_take (i := 5) (v := ?_) rfl (by kernel_rfl) (by kernel_rfl) (by kernel_rfl) (fun _ _ _ h => h) (Or.inl ⟨by rfl, ?_⟩) (by assumption) ?_; rotate_left; (focus (intro wS hSw; (try dsimp only at hSw); go_simp; (try with_reducible rfl))); (try simp only [Act.put, List.getElem_toArray, List.getElem_cons_zero, List.getElem_cons_succ, List.setIfInBounds_toArray, List.set_cons_zero, List.set_cons_succ])); (refine wpAnyH_take (i := 6) (v := ?_) rfl (by kernel_rfl) (by kernel_rfl) (by kernel_rfl) (fun _ _ _ h => h) (Or.inl ⟨by rfl, ?_⟩) (by assumption) ?_; rotate_left; (focus (intro wS hSw; (try dsimp only at hSw); go_simp; (try with_reducible rfl))); (try simp only [Act.put, List.getElem_toArray, List.getElem_cons_zero, List.getElem_cons_succ, List.setIfInBounds_toArray, List.set_cons_zero, List.set_cons_succ])); (refine wpAnyH_take (i := 7) (v := ?_) rfl (by kernel_rfl) (by kernel_rfl) (by kernel_rfl) (fun _ _ _ h => h) (Or.inl ⟨by rfl, ?_⟩) (by assumption) ?_; rotate_left; (focus (intro wS hSw; (try dsimp only at hSw); go_simp; (try with_reducible rfl))); (try simp only [Act.put, List.getElem_toArray, List.getElem_cons_zero, List.getElem_cons_succ, List.setIfInBounds_toArray, List.set_cons_zero, List.set_cons_succ])))
      (refine wpAnyH_ready (rs := [8]) (by kernel_rfl) (by simp) ?_; refine AllReadyH.cons rfl (fun K hK => ?_) AllReadyH.nil; go_simp)
      go_at_call 46
      refine (eqPassage_same x y _).mono ?_
      rintro e w1 ⟨rfl, hb⟩
      have HB1 := Lib.hid ((Below.drew1_ HBE.out).trans (hb.mono (show w.heap.size ≤ wo.drew.heap.size from HBE.out.size)))
      have hg1' : g1 < wo.drew.heap.size := Nat.lt_of_lt_of_le hg1 HBE.out.size
      have hg2' : g2 < wo.drew.heap.size := Nat.lt_of_lt_of_le hg2 HBE.out.size
      have a0' := (hb.cell (p := ⟨g1, o1 + k * 2, none⟩) hg1').trans a0
      have a1' := (hb.cell (p := ⟨g1, o1 + k * 2 + 1, none⟩) hg1').trans a1
      have b0' := (hb.cell (p := ⟨g2, o2 + k * 2, none⟩) hg2').trans b0
      have b1' := (hb.cell (p := ⟨g2, o2 + k * 2 + 1, none⟩) hg2').trans b1
      clear hb a0 a1 b0 b1
      go_wp2_with fail
      (refine hK.out _ _ ?_ (fun hHeld2 => ?_); (focus ((try dsimp only); exact ⟨a0', a1', b0', b1'⟩)); (clear hK K); (try simp only [Act.put, List.getElem_toArray, List.getElem_cons_zero, List.getElem_cons_succ, List.setIfInBounds_toArray, List.set_cons_zero, List.set_cons_succ]))
      (refine wpAnyH_take (i := 9) (v := ?_) rfl (by kernel_rfl) (by kernel_rfl) (by kernel_rfl) (fun _ _ _ h => h) (Or.inl ⟨by rfl, ?_⟩) (by assumption) ?_; rotate_left; (focus (intro wS hSw; (try dsimp only at hSw); go_simp; (try with_reducible rfl))); (try simp only [Act.put, List.getElem_toArray, List.getElem_cons_zero, List.getElem_cons_succ, List.setIfInBounds_toArray, List.set_cons_zero, List.set_cons_succ]))
      refine wpAnyH_done (by kernel_rfl) ?_ _
      clear a0' a1' b0' b1'
      go_wp2_with fail
      go_roundw
      case rel => exact ⟨k + 1, by omega, by go_num, HB1.out⟩
      case measure => simp [intOf]; omega
    · go_wp2
      go_ret
      exact ⟨rfl, HBE.out⟩

end Go.Proofs.YtinmhjeljkiefaaDoor
