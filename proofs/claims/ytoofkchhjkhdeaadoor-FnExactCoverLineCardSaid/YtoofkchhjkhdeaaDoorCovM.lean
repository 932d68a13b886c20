/-
  The mirror of a pattern and what an element takes, by the program; Equal and Clone on ints.
-/
import Derived.Test.YtoofkchhjkhdeaaDoorCovX
import Derived.Test.YtoofkchhjkhdeaaDoorCovA
import Derived.Test.YtoofkchhjkhdeaaDoorShQ
import Derived.Test.YtoofkchhjkhdeaaDoorShK
import Derived.Test.YtoofkchhjkhdeaaDoorRlaw
namespace Go.Proofs.YtoofkchhjkhdeaaDoor
open Go.RowKit Go.Shelf
set_option linter.unusedVariables false
set_option linter.unusedSimpArgs false

theorem OwnI.capC {w : World} {base : Nat} {A : Option Addr} {cap : Nat} {xs : List Int} (h : OwnI w base (.slice A xs.length cap) xs) : xs.length ≤ cap := by
  rcases h.2 with ⟨hv, h0⟩ | ⟨g, cap', cur, hv, hge, hh, hnc, hm, hsz, hxs⟩
  · omega
  · injection hv with h1 h2 h3; omega
theorem OwnI.monoC {w : World} {base base' : Nat} {v : Value} {xs : List Int} (h : OwnI w base v xs) (hb : base' ≤ base) : OwnI w base' v xs :=
  ⟨h.1, by
    rcases h.2 with h0 | ⟨g, cap, cur, e, hg, rest⟩
    · exact .inl h0
    · exact .inr ⟨g, cap, cur, e, by omega, rest⟩⟩
theorem ints_cellsK {w : World} {B g off : Nat} {xs : List Int} (h : Ints w B (some ⟨g, off, none⟩) xs) : ∀ j, j < xs.length → w.cell? ⟨g, off + j, none⟩ = some (.int .i64 (xs.getD j 0)) := by
  intro j hj
  obtain ⟨b, o, e, _, hc⟩ := h.2.2 (by omega)
  injection e with e
  injection e with e1 e2
  subst e1 e2
  exact hc j hj
theorem clone_intsC (A : Option Addr) (cap : Nat) (xs : List Int) (w : World) (h : Ints w w.heap.size A xs) (hl : xs.length ≤ 1048576) :
    Calls Tryd.prog 33 #[.slice A xs.length cap] w fun e w' => ∃ v, e = .returned v ∧ OwnI w' w.heap.size v xs ∧ Below w.heap.size w w' := by
  by_cases hp : 0 < xs.length
  · obtain ⟨b, off, rfl, _, _⟩ := h.2.2 hp
    refine (Any.slices_Clone_int Tryd.lays15 b off xs.length cap xs w (Nat.le_refl _) (by omega) (ints_cellsK h)).mono ?_
    rintro e w' ⟨v, rfl, ho, _, hb⟩
    rw [List.take_length] at ho
    exact ⟨v, rfl, ho, hb⟩
  · have h0 : xs = [] := List.eq_nil_of_length_eq_zero (by omega)
    subst h0
    cases A with
    | none =>
      refine (Any.slices_Clone_int_nil Tryd.lays15 0 cap w).mono ?_
      rintro e w' ⟨rfl, rfl⟩
      exact ⟨_, rfl, OwnI.nil _ _, Below.refl _ _⟩
    | some a =>
      refine (Any.slices_Clone_int_zero Tryd.lays15 a cap w).mono ?_
      rintro e w' ⟨v, rfl, ho, _, hb⟩
      exact ⟨v, rfl, ho, hb⟩
theorem equal_intsC (A1 A2 : Option Addr) (c1 c2 : Nat) (xs ys : List Int) (w : World) (B1 B2 : Nat) (h1 : Ints w B1 A1 xs) (h2 : Ints w B2 A2 ys) :
    Calls Tryd.prog 29 #[.slice A1 xs.length c1, .slice A2 ys.length c2] w fun e w' => e = .returned (.bool (decide (xs = ys))) ∧ ∃ q, w' = w.drewN q := by
  have hl1 := h1.1
  have hl2 := h2.1
  unfold maxLen at hl1 hl2
  by_cases hx : xs.length = ys.length
  · by_cases hp : 0 < xs.length
    · obtain ⟨b1, o1, rfl, _, _⟩ := h1.2.2 hp
      obtain ⟨b2, o2, rfl, _, _⟩ := h2.2.2 (by omega)
      refine (Any.slices_Equal_int Tryd.lays111 b1 o1 xs.length c1 b2 o2 ys.length c2 xs ys w (Nat.le_refl _) (Nat.le_refl _) (by omega) (by omega) (ints_cellsK h1) (ints_cellsK h2)).mono ?_
      rintro e w' ⟨rfl, q, rfl⟩
      rw [List.take_length, List.take_length]
      refine ⟨ret_bool ?_, q, rfl⟩
      rw [Bool.eq_iff_iff, beq_iff_eq, decide_eq_true_eq]
    · have e1 : xs = [] := List.eq_nil_of_length_eq_zero (by omega)
      have e2 : ys = [] := List.eq_nil_of_length_eq_zero (by omega)
      subst e1 e2
      refine (Any.slices_Equal_int_empty Tryd.lays111 A1 A2 c1 0 c2 w (by omega)).mono ?_
      rintro e w' ⟨rfl, rfl⟩
      exact ⟨rfl, 0, rfl⟩
  · refine (Any.slices_Equal_int_lens Tryd.lays111 A1 A2 xs.length c1 ys.length c2 w hx).mono ?_
    rintro e w' ⟨rfl, rfl⟩
    refine ⟨ret_bool ?_, 0, rfl⟩
    rw [eq_comm, decide_eq_false_iff_not]
    intro h
    exact hx (by rw [h])
theorem takeC_snoc (L : List Int) {q : Nat} (h : q < L.length) : L.take (q + 1) = L.take q ++ [L.getD q 0] := by
  rw [List.take_succ_eq_append_getElem h, List.getD_eq_getElem?_getD, List.getElem?_eq_getElem h]
  rfl
def takL (L : List Int) (q : Nat) : List Int := L.take q
theorem takL_snoc (L : List Int) {q : Nat} (h : q < L.length) : takL L (q + 1) = takL L q ++ [L.getD q 0] := takeC_snoc L h
theorem takL_all (L : List Int) {q : Nat} (h : L.length ≤ q) : takL L q = L := List.take_of_length_le h
theorem takL_len (L : List Int) (q : Nat) : (takL L q).length ≤ q := by unfold takL; rw [List.length_take]; omega
def RetO (w : World) (xs : List Int) (e : Ending) (w' : World) : Prop := ∃ v, e = .returned v ∧ OwnI w' w.heap.size v xs ∧ Below w.heap.size w w'

set_option maxRecDepth 100000 in
set_option maxHeartbeats 1000000 in
theorem impl_mirrorPattern_ok (A : Option Addr) (cap : Nat) (xs : List Int) (w : World) (hA : Ints w w.heap.size A xs) (hp : patB xs = true) :
    Calls Tryd.prog 30 #[.slice A xs.length cap] w (RetO w (mirL xs)) := by
  obtain ⟨h0, hall⟩ := pat_all hp
  have hl := pat_len hp
  obtain ⟨b, off, rfl, hB, hc⟩ := hA.2.2 h0
  have HP := Lib.hid hall
  have HC := Lib.hid hc
  obtain ⟨m, hm⟩ : ∃ m, xs.length - 1 = m := ⟨_, rfl⟩
  obtain ⟨z, hz⟩ : ∃ z, xs.getD m 0 = z := ⟨_, rfl⟩
  have hzi := pat_in (hall m (by omega))
  have HZ := Lib.hid hz
  rw [hz] at hzi
  have hw0 : IntKind.i64.wrap ((xs.length : Int) - 1) = (m : Int) := by rw [show (xs.length : Int) - 1 = (m : Int) by omega]; exact i64w (by omega)
  have hl1 : (0 : Int) ≤ (m : Int) := Int.natCast_nonneg _
  have hl2 : (m : Int) < (xs.length : Int) := by omega
  have HM := Lib.hid hm
  clear hA hc hz hall hm
  go_enter Tryd.func30, Tryd.ntmps30
  go_wp2_with fail
  go_loopw [3, 4] (fun v i wr => ∃ (q : Nat) (k : Int), q ≤ xs.length ∧ k + q = m ∧ i = .int .i64 k ∧ OwnI wr w.heap.size v (mirP xs q) ∧ Below w.heap.size w wr) (fun _ i _ => (intOf i + 1).toNat)
  case atStart => exact ⟨0, m, Nat.zero_le _, by simp, rfl, OwnI.nil _ _, Below.refl _ _⟩
  case round =>
    obtain ⟨q, k, hq, hkq, rfl, hown, hbel⟩ := hrel
    obtain ⟨wo, rfl⟩ : ∃ wo : World, wo = wr := ⟨_, rfl⟩
    obtain ⟨A1, c1, rfl⟩ := hown.form
    have hws := hbel.size
    by_cases hlt : q < xs.length
    · obtain ⟨k, rfl⟩ := Int.eq_ofNat_of_zero_le (show 0 ≤ k by have := HM.out; omega)
      have hcz := HC.out m (by omega)
      have hcx := HC.out k (by have := HM.out; omega)
      have hxi := pat_in (HP.out k (by have := HM.out; omega))
      have HS := Lib.hid (mirP_succ xs q)
      rw [HZ.out] at hcz
      rw [show xs.length - 1 - q = k by have := HM.out; omega, HM.out, HZ.out] at HS
      obtain ⟨x, hx⟩ : ∃ x, xs.getD k 0 = x := ⟨_, rfl⟩
      rw [hx] at hcx hxi HS
      have hcz' : wo.cell? ⟨b, off + m, none⟩ = some (.int .i64 z) := (hbel.cell (p := ⟨b, off + m, none⟩) hB).trans hcz
      have hcx' : wo.cell? ⟨b, off + k, none⟩ = some (.int .i64 x) := (hbel.cell (p := ⟨b, off + k, none⟩) hB).trans hcx
      have hk0 : (0 : Int) ≤ (k : Int) := Int.natCast_nonneg _
      have hk1 : (k : Int) < (xs.length : Int) := by have := HM.out; omega
      have hwd : IntKind.i64.wrap (z - x) = z - x := i64w (by omega)
      have hwk : IntKind.i64.wrap ((k : Int) - 1) = (k : Int) - 1 := i64w (by have := HM.out; omega)
      have HKQ := Lib.hid hkq
      have hdk : decide (0 ≤ (k : Int)) = true := decide_eq_true hk0
      have hml : (mirP xs q).length ≤ 1048576 := by rw [mirP_len]; omega
      have HO := Lib.hid hown
      have HB := Lib.hid hbel
      clear hx hcz hcx hown hbel hws hkq
      go_wp2_with fail
      go_region_held3 (fun w' => w'.cell? ⟨b, off + m, none⟩ = some (.int .i64 z) ∧ w'.cell? ⟨b, off + k, none⟩ = some (.int .i64 x))
        (first
          | go_keep
          | (obtain ⟨hcc, _⟩ := bcellB hg1
             refine ⟨?_, ?_⟩ <;> (rw [hcc _ _ hB]; simp [go_sem, *])))
        ((refine step_append_int (by rfl) _ _ (by rfl) w.heap.size _ (mirP xs q) (by rfl) ((HO.out.alloc _).drew) _ _ (by rfl) (cell_new1 _ _ _) hml (by have := HB.out.size; simp; omega) ?_; intro v' w1 hown1 hg1))
      obtain ⟨A2, c2, rfl⟩ := hown1.form
      go_wp2_with fail
      go_roundw
      case rel => exact ⟨q + 1, (k : Int) - 1, hlt, by have := HKQ.out; omega, rfl, by rw [HS.out]; exact hown1, ((HB.out.alloc HB.out.size _).drew).trans hg1⟩
      case measure => simp [intOf] <;> omega
    · have hqe : q = xs.length := by omega
      have hdk : decide (0 ≤ k) = false := decide_eq_false (by have := HM.out; omega)
      have hdn : ¬ (0 ≤ k) := by have := HM.out; omega
      have HO := Lib.hid (show OwnI wo w.heap.size (.slice A1 (mirP xs q).length c1) (mirL xs) from by unfold mirL; rw [← hqe]; exact hown)
      have HB := Lib.hid hbel
      clear hown hbel hqe
      go_wp2_with fail
      go_ret
      exact ⟨_, rfl, HO.out, HB.out⟩

set_option maxRecDepth 100000 in
set_option maxHeartbeats 1000000 in
theorem impl_laidBy_ok (A : Option Addr) (cap : Nat) (xs : List Int) (c : Nat) (w : World) (hA : Ints w w.heap.size A xs) (hp : patB xs = true) (hc : c < 50) :
    Calls Tryd.prog 28 #[.slice A xs.length cap, .int .i64 c] w (RetO w (laidL xs c)) := by
  have hl := pat_len hp
  have h0 := (pat_all hp).1
  have HMI := Lib.hid (impl_mirrorPattern_ok A cap xs w hA hp)
  have HIN := Lib.hid (fun j hj => laid_in hp c (j := j) hj)
  have HLA := Lib.hid (laidL_len xs c)
  have hh : c / 2 < 25 := by omega
  have hq2 : (c : Int).tdiv 2 = ((c / 2 : Nat) : Int) := by rw [Int.tdiv_eq_ediv_of_nonneg (by omega)]; omega
  have hr2 : (c : Int).tmod 2 = ((c % 2 : Nat) : Int) := by rw [Int.tmod_eq_emod_of_nonneg (by omega)]; omega
  have hrb : c % 2 < 2 := Nat.mod_lt _ (by decide)
  have hw1 : IntKind.i64.wrap ((c / 2 : Nat) : Int) = ((c / 2 : Nat) : Int) := i64w (by omega)
  have hw2 : IntKind.i64.wrap ((c % 2 : Nat) : Int) = ((c % 2 : Nat) : Int) := i64w (by omega)
  have HAT := Lib.hid (fun j hj => laidL_at xs c (j := j) hj)
  obtain ⟨L, hL⟩ : ∃ L, laidL xs c = L := ⟨_, rfl⟩
  obtain ⟨p, hpp⟩ : ∃ p, c / 2 = p := ⟨_, rfl⟩
  rw [hL] at HIN HLA HAT ⊢
  rw [hpp] at HIN HAT hq2 hw1 hh
  clear hL hpp
  by_cases ho : c % 2 = 1
  · have hs : shp xs c = mirL xs := by unfold shp; rw [if_pos ho]
    rw [hs] at HAT
    have hf := mir_ok hp
    rw [ho] at hr2 hw2
    have hfi : ∀ x ∈ mirL xs, Fits x := fun x hx => by
      obtain ⟨j, hj, e⟩ := List.mem_iff_getElem.1 hx
      have := pat_in ((pat_all hf).2 j hj)
      rw [List.getD_eq_getElem?_getD, List.getElem?_eq_getElem hj, Option.getD_some, e] at this
      unfold Fits; omega
    have HML := Lib.hid (mirL_len xs)
    have HFI := Lib.hid hfi
    clear hs hf ho hrb hA hfi
    go_enter Tryd.func28, Tryd.ntmps28
    go_wp2_with fail
    refine HMI.out.mono ?_
    rintro e w1 ⟨v, rfl, hown, hb⟩
    obtain ⟨A1, c1, rfl⟩ := hown.form
    have hI := hown.ints HFI.out
    have hz := hb.size
    generalize mirL xs = sh at *
    rw [HML.out]
    have HB0 := Lib.hid hb
    have HI := Lib.hid hI
    clear hown hb hI
    go_wp2_with fail
    go_loopw [5, 15] (fun v i wr => ∃ q : Nat, q ≤ xs.length ∧ i = .int .i64 q ∧ OwnI wr w1.heap.size v (takL L q) ∧ Below w1.heap.size w1 wr) (fun _ i _ => xs.length - (intOf i).toNat)
    case atStart => exact ⟨0, Nat.zero_le _, rfl, OwnI.nil _ _, Below.refl _ _⟩
    case round =>
      obtain ⟨q, hq, rfl, hown, hbel⟩ := hrel
      obtain ⟨wo, rfl⟩ : ∃ wo : World, wo = wr := ⟨_, rfl⟩
      obtain ⟨A2, c2, rfl⟩ := hown.form
      have hws := hbel.size
      by_cases hlt : q < xs.length
      · have hIx := HI.out.below hbel
        obtain ⟨b, off, rfl, hB, hce⟩ := hIx.2.2 (by have := HML.out; omega)
        have hcx := hce q (by have := HML.out; omega)
        have hin := HIN.out q hlt
        have hat := HAT.out q hlt
        obtain ⟨x, hx⟩ : ∃ x, sh.getD q 0 = x := ⟨_, rfl⟩
        rw [hx] at hcx hat
        have HS := Lib.hid (takL_snoc L (q := q) (by rw [HLA.out]; exact hlt))
        rw [hat] at HS hin
        have hk0 : (0 : Int) ≤ (q : Int) := Int.natCast_nonneg _
        have hk1 : (q : Int) < (xs.length : Int) := by omega
        have hwd : IntKind.i64.wrap ((p : Int) + x) = (p : Int) + x := i64w (by omega)
        have hwq : IntKind.i64.wrap ((q : Int) + 1) = (q : Int) + 1 := i64w (by omega)
        have hml : (takL L q).length ≤ 1048576 := by have := takL_len L q; omega
        have HO := Lib.hid hown
        have HB := Lib.hid hbel
        clear hx hin hat hce hIx hown hbel
        go_wp2_with (at_builtin; refine wpList_append_int rfl _ _ rfl w1.heap.size _ (takL L q) rfl (HO.out.alloc _) _ _ rfl (cell_new1 _ _ _) hml (by simp; omega) ?_; intro v' w2 hown2 hg2; obtain ⟨A3, c3, rfl⟩ := hown2.form)
        go_roundw
        case rel => exact ⟨q + 1, hlt, by go_num, by rw [HS.out]; rw [List.length_append] at hown2; exact hown2, (HB.out.alloc HB.out.size _).trans hg2⟩
        case measure => simp [intOf]; omega
      · have hqe : q = xs.length := by omega
        have HO := Lib.hid (show OwnI wo w1.heap.size (.slice A2 (takL L q).length c2) L from by
          have e : takL L q = L := takL_all L (by rw [HLA.out]; omega)
          rw [e] at hown ⊢; exact hown)
        have HB := Lib.hid hbel
        clear hown hbel hqe
        go_wp2_with fail
        go_ret
        exact ⟨_, rfl, HO.out.monoC hz, HB0.out.trans (HB.out.mono hz)⟩
  · have ho0 : c % 2 = 0 := by omega
    have hs : shp xs c = xs := by unfold shp; rw [if_neg ho]
    rw [hs] at HAT
    rw [ho0] at hr2 hw2
    have HB0 := Lib.hid (Below.refl w.heap.size w)
    have HI := Lib.hid hA
    have HML := Lib.hid (rfl : xs.length = xs.length)
    have hz := Nat.le_refl w.heap.size
    clear hs ho ho0 hrb hA
    go_enter Tryd.func28, Tryd.ntmps28
    go_wp2_with fail
    go_loopw [5, 15] (fun v i wr => ∃ q : Nat, q ≤ xs.length ∧ i = .int .i64 q ∧ OwnI wr w.heap.size v (takL L q) ∧ Below w.heap.size w wr) (fun _ i _ => xs.length - (intOf i).toNat)
    case atStart => exact ⟨0, Nat.zero_le _, rfl, OwnI.nil _ _, Below.refl _ _⟩
    case round =>
      obtain ⟨q, hq, rfl, hown, hbel⟩ := hrel
      obtain ⟨wo, rfl⟩ : ∃ wo : World, wo = wr := ⟨_, rfl⟩
      obtain ⟨A2, c2, rfl⟩ := hown.form
      have hws := hbel.size
      by_cases hlt : q < xs.length
      · have hIx := HI.out.below hbel
        obtain ⟨b, off, rfl, hB, hce⟩ := hIx.2.2 (by have := HML.out; omega)
        have hcx := hce q (by have := HML.out; omega)
        have hin := HIN.out q hlt
        have hat := HAT.out q hlt
        obtain ⟨x, hx⟩ : ∃ x, xs.getD q 0 = x := ⟨_, rfl⟩
        rw [hx] at hcx hat
        have HS := Lib.hid (takL_snoc L (q := q) (by rw [HLA.out]; exact hlt))
        rw [hat] at HS hin
        have hk0 : (0 : Int) ≤ (q : Int) := Int.natCast_nonneg _
        have hk1 : (q : Int) < (xs.length : Int) := by omega
        have hwd : IntKind.i64.wrap ((p : Int) + x) = (p : Int) + x := i64w (by omega)
        have hwq : IntKind.i64.wrap ((q : Int) + 1) = (q : Int) + 1 := i64w (by omega)
        have hml : (takL L q).length ≤ 1048576 := by have := takL_len L q; omega
        have HO := Lib.hid hown
        have HB := Lib.hid hbel
        clear hx hin hat hce hIx hown hbel
        go_wp2_with (at_builtin; refine wpList_append_int rfl _ _ rfl w.heap.size _ (takL L q) rfl (HO.out.alloc _) _ _ rfl (cell_new1 _ _ _) hml (by simp; omega) ?_; intro v' w2 hown2 hg2; obtain ⟨A3, c3, rfl⟩ := hown2.form)
        go_roundw
        case rel => exact ⟨q + 1, hlt, by go_num, by rw [HS.out]; rw [List.length_append] at hown2; exact hown2, (HB.out.alloc HB.out.size _).trans hg2⟩
        case measure => simp [intOf]; omega
      · have hqe : q = xs.length := by omega
        have HO := Lib.hid (show OwnI wo w.heap.size (.slice A2 (takL L q).length c2) L from by
          have e : takL L q = L := takL_all L (by rw [HLA.out]; omega)
          rw [e] at hown ⊢; exact hown)
        have HB := Lib.hid hbel
        clear hown hbel hqe
        go_wp2_with fail
        go_ret
        exact ⟨_, rfl, HO.out.monoC hz, HB0.out.trans (HB.out.mono hz)⟩

end Go.Proofs.YtoofkchhjkhdeaaDoor
