/-
  The mirror, the masks and the comparison of the reference.
-/
import Derived.Test.YtoofkchhjkhdeaaDoorCovM
import Derived.Test.YtoofkchhjkhdeaaDoorBlkS
namespace Go.Proofs.YtoofkchhjkhdeaaDoor
open Go.RowKit Go.Shelf
set_option linter.unusedVariables false
set_option linter.unusedSimpArgs false

/-- A list that is read lies beside one that grows. -/
def Off (v : Value) (A : Option Addr) : Prop := ∀ g, v.ownBlock = some g → ∀ b off t, A = some ⟨b, off, t⟩ → g ≠ b
theorem Ints.grownR {w w' : World} {v : Value} {A : Option Addr} {U : List Int} (h : Ints w w.heap.size A U) (ho : Off v A) (hg : w.grownBy w' v.ownBlock) : Ints w' w'.heap.size A U :=
  ⟨h.1, h.2.1, fun hn => by
    obtain ⟨b, off, e, hb, hc⟩ := h.2.2 hn
    have hne : some b ≠ v.ownBlock := fun hh => ho b hh.symm b off none e rfl
    exact ⟨b, off, e, Nat.lt_of_lt_of_le hb hg.size, fun i hi => (World.cell?_of_block (a := ⟨b, off + i, none⟩) (hg.block b hb hne)).trans (hc i hi)⟩⟩
theorem Off.grown {w w' : World} {v v' : Value} {A : Option Addr} {U : List Int} {n : Nat} (h : Ints w w.heap.size A U) (hU : 0 < U.length) (ho : Off v A) (hr : SameRoom w w' v v' n) : Off v' A := by
  intro g e b off t ea
  rcases hr with ⟨h1, _⟩ | ⟨g', cap, e1, e2⟩
  · rw [h1] at e
    injection e with e
    obtain ⟨b', off', e', hb', _⟩ := h.2.2 hU
    rw [ea] at e'
    injection e' with e'
    injection e' with e'
    omega
  · refine ho g ?_ b off t ea
    rw [← e, e1, e2]; rfl
def trnP (xs : List Int) (q : Nat) : List Int := (List.range q).map fun j => xs.getD (xs.length - 1 - j) 0
theorem trnP_succ (xs : List Int) (q : Nat) : trnP xs (q + 1) = trnP xs q ++ [xs.getD (xs.length - 1 - q) 0] := by
  unfold trnP
  rw [List.range_succ, List.map_append]
  rfl
theorem trnP_len (xs : List Int) (q : Nat) : (trnP xs q).length = q := by unfold trnP; simp
theorem trnP_at (xs : List Int) {j q : Nat} (hj : j < q) : (trnP xs q).getD j 0 = xs.getD (xs.length - 1 - j) 0 := by
  unfold trnP
  rw [List.getD_eq_getElem?_getD, List.getElem?_map, List.getElem?_range hj]
  rfl

set_option maxRecDepth 100000 in
set_option maxHeartbeats 1000000 in
theorem spec_l03Turn_ok (A : Option Addr) (cap : Nat) (xs : List Int) (w : World) (hA : Ints w w.heap.size A xs) (h0 : 0 < xs.length) (hl : xs.length ≤ 1000) :
    Calls Tryd.prog 43 #[.slice A xs.length cap] w (RetO w (trnP xs xs.length)) := by
  obtain ⟨b, off, rfl, hB, hc⟩ := hA.2.2 h0
  have HC := Lib.hid hc
  obtain ⟨m, hm⟩ : ∃ m, xs.length - 1 = m := ⟨_, rfl⟩
  have hw0 : IntKind.i64.wrap ((xs.length : Int) - 1) = (m : Int) := by rw [show (xs.length : Int) - 1 = (m : Int) by omega]; exact i64w (by omega)
  have HM := Lib.hid hm
  clear hA hc hm
  go_enter Tryd.func43, Tryd.ntmps43
  go_wp2_with fail
  go_loopw [3, 4] (fun v i wr => ∃ (q : Nat) (k : Int), q ≤ xs.length ∧ k + q = m ∧ i = .int .i64 k ∧ OwnI wr w.heap.size v (trnP xs q) ∧ Below w.heap.size w wr) (fun _ i _ => (intOf i + 1).toNat)
  case atStart => exact ⟨0, m, Nat.zero_le _, by simp, rfl, OwnI.empty_at _ _ _ (by simp) (by simp), (Below.refl _ _).alloc (Nat.le_refl _) _⟩
  case round =>
    obtain ⟨q, k, hq, hkq, rfl, hown, hbel⟩ := hrel
    obtain ⟨wo, rfl⟩ : ∃ wo : World, wo = wr := ⟨_, rfl⟩
    obtain ⟨A1, c1, rfl⟩ := hown.form
    by_cases hlt : q < xs.length
    · obtain ⟨k, rfl⟩ := Int.eq_ofNat_of_zero_le (show 0 ≤ k by have := HM.out; omega)
      have hcx := HC.out k (by have := HM.out; omega)
      have HS := Lib.hid (trnP_succ xs q)
      rw [show xs.length - 1 - q = k by have := HM.out; omega] at HS
      obtain ⟨x, hx⟩ : ∃ x, xs.getD k 0 = x := ⟨_, rfl⟩
      rw [hx] at hcx HS
      have hcx' : wo.cell? ⟨b, off + k, none⟩ = some (.int .i64 x) := (hbel.cell (p := ⟨b, off + k, none⟩) hB).trans hcx
      have hk0 : (0 : Int) ≤ (k : Int) := Int.natCast_nonneg _
      have hk1 : (k : Int) < (xs.length : Int) := by have := HM.out; omega
      have hwk : IntKind.i64.wrap ((k : Int) - 1) = (k : Int) - 1 := i64w (by have := HM.out; omega)
      have HKQ := Lib.hid hkq
      have hdk : decide (0 ≤ (k : Int)) = true := decide_eq_true hk0
      have hml : (trnP xs q).length ≤ 1048576 := by rw [trnP_len]; omega
      have HO := Lib.hid hown
      have HB := Lib.hid hbel
      clear hx hcx hown hbel hkq
      go_wp2_with (at_builtin; refine wpList_append_int rfl _ _ rfl w.heap.size _ (trnP xs q) rfl (HO.out.alloc _) _ _ rfl (cell_new1 _ _ _) hml (by have := HB.out.size; simp; omega) ?_; intro v' w2 hown2 hg2; obtain ⟨A3, c3, rfl⟩ := hown2.form)
      go_roundw
      case rel => exact ⟨q + 1, (k : Int) - 1, hlt, by have := HKQ.out; omega, rfl, by rw [HS.out]; rw [List.length_append] at hown2; exact hown2, (HB.out.alloc HB.out.size _).trans hg2⟩
      case measure => simp [intOf] <;> omega
    · have hqe : q = xs.length := by omega
      have hdk : decide (0 ≤ k) = false := decide_eq_false (by have := HM.out; omega)
      have hdn : ¬ (0 ≤ k) := by have := HM.out; omega
      have HO := Lib.hid (show OwnI wo w.heap.size (.slice A1 (trnP xs q).length c1) (trnP xs xs.length) from by rw [← hqe]; exact hown)
      have HB := Lib.hid hbel
      clear hown hbel hqe
      go_wp2_with fail
      go_ret
      exact ⟨_, rfl, HO.out, HB.out⟩

set_option maxRecDepth 100000 in
set_option maxHeartbeats 1000000 in
theorem spec_MirrorPattern_ok (A : Option Addr) (cap : Nat) (xs : List Int) (w : World) (hA : Ints w w.heap.size A xs) (hp : patB xs = true) :
    Calls Tryd.prog 35 #[.slice A xs.length cap] w (RetO w (mirL xs)) := by
  obtain ⟨h0, hall⟩ := pat_all hp
  have hl := pat_len hp
  have HPO := spec_PatternOk_any A cap xs w hA
  rw [hp] at HPO
  have HPO := Lib.hid HPO
  have hE := (Below.refl w.heap.size w).alloc (Nat.le_refl _) (.cells #[] 3)
  have HTU := Lib.hid (spec_l03Turn_ok A cap xs _ (hA.lift hE) h0 (by omega))
  have HE := Lib.hid hE
  have HO0 := Lib.hid (OwnI.empty w w.heap.size (Nat.le_refl _))
  obtain ⟨b, off, rfl, hB, hc⟩ := hA.2.2 h0
  have HC := Lib.hid hc
  have HP := Lib.hid hall
  obtain ⟨m, hm⟩ : ∃ m, xs.length - 1 = m := ⟨_, rfl⟩
  have hw0 : IntKind.i64.wrap ((xs.length : Int) - 1) = (m : Int) := by rw [show (xs.length : Int) - 1 = (m : Int) by omega]; exact i64w (by omega)
  have hl1 : (0 : Int) ≤ (m : Int) := Int.natCast_nonneg _
  have hl2 : (m : Int) < (xs.length : Int) := by omega
  have hml0 : m < xs.length := by omega
  have HM := Lib.hid hm
  have HTL := Lib.hid (trnP_len xs xs.length)
  have HTA := Lib.hid (fun j (hj : j < xs.length) => trnP_at xs hj)
  have HFT := Lib.hid (show ∀ x ∈ trnP xs xs.length, Fits x from fun x hx => by
    obtain ⟨j, hj, e⟩ := List.mem_iff_getElem.1 hx
    rw [trnP_len] at hj
    have h1 := trnP_at xs hj
    rw [List.getD_eq_getElem?_getD, List.getElem?_eq_getElem (by rw [trnP_len]; exact hj), Option.getD_some, e] at h1
    have := pat_in (hall (xs.length - 1 - j) (by omega))
    unfold Fits; omega)
  clear hA hc hE hm
  go_enter Tryd.func35, Tryd.ntmps35
  go_wp2_with fail
  refine HPO.out.mono ?_
  rintro e w' ⟨rfl, hw'⟩
  obtain rfl := hw'
  go_wp2_with fail
  refine HTU.out.mono ?_
  rintro e w1 ⟨v1, rfl, hown1, hb1⟩
  obtain ⟨A1, c1, rfl⟩ := hown1.form
  have HI1 := Lib.hid (hown1.ints HFT.out)
  have HNB := Lib.hid (show ∀ b off t, A1 = some ⟨b, off, t⟩ → w.heap.size < b from fun b off t e => by
    have h9 := (hown1.lt b (by rw [e]; rfl)).1
    simp at h9
    omega)
  have HO1 := Lib.hid (HO0.out.grown hb1)
  have HB1 := Lib.hid (HE.out.trans (hb1.mono HE.out.size))
  rw [HTL.out]
  generalize trnP xs xs.length = U at *
  clear hown1 hb1
  go_wp2_with fail
  have HOF := Lib.hid (show Off (.slice (some ⟨w.heap.size, 0, none⟩) 0 0) A1 from fun g e b off t ea => by
    have e1 : w.heap.size = g := by simpa [Value.ownBlock] using e
    have := HNB.out b off t ea
    omega)
  go_loopw [3, 13] (fun v i wr => ∃ q : Nat, q ≤ xs.length ∧ i = .int .i64 q ∧ OwnI wr w.heap.size v (mirP xs q) ∧ Below w.heap.size w wr ∧ Ints wr wr.heap.size A1 U ∧ Off v A1) (fun _ i _ => xs.length - (intOf i).toNat)
  case atStart => exact ⟨0, Nat.zero_le _, rfl, HO1.out, HB1.out, HI1.out, HOF.out⟩
  case round =>
    obtain ⟨q, hq, rfl, hown, hbel, hI, hoff⟩ := hrel
    obtain ⟨wo, rfl⟩ : ∃ wo : World, wo = wr := ⟨_, rfl⟩
    obtain ⟨A2, c2, rfl⟩ := hown.form
    by_cases hlt : q < xs.length
    · obtain ⟨b1, off1, hA1, hB1, hc1⟩ := hI.2.2 (by rw [HTL.out]; exact h0)
      have hcu := hc1 q (by rw [HTL.out]; exact hlt)
      have hcz := HC.out m hml0
      rw [HTA.out q hlt] at hcu
      have HS := Lib.hid (mirP_succ xs q)
      rw [HM.out] at HS hcu
      have hx1 := pat_in (HP.out (m - q) (by have := HM.out; omega))
      have hz1 := pat_in (HP.out m hml0)
      obtain ⟨x, hx⟩ : ∃ x, xs.getD (m - q) 0 = x := ⟨_, rfl⟩
      obtain ⟨z, hz⟩ : ∃ z, xs.getD m 0 = z := ⟨_, rfl⟩
      rw [hx] at hcu hx1 HS
      rw [hz] at hcz hz1 HS
      have hcz' : wo.cell? ⟨b, off + m, none⟩ = some (.int .i64 z) := (hbel.cell (p := ⟨b, off + m, none⟩) hB).trans hcz
      have hk0 : (0 : Int) ≤ (q : Int) := Int.natCast_nonneg _
      have hk1 : (q : Int) < (xs.length : Int) := by omega
      have hwd : IntKind.i64.wrap (z - x) = z - x := i64w (by omega)
      have hwq : IntKind.i64.wrap ((q : Int) + 1) = (q : Int) + 1 := i64w (by omega)
      have hml : (mirP xs q).length ≤ 1048576 := by rw [mirP_len]; omega
      have hal := (Below.refl wo.heap.size wo).alloc (Nat.le_refl _) (.cells #[.int .i64 (z - x)] 3)
      have HO := Lib.hid hown
      have HB := Lib.hid hbel
      have HI := Lib.hid (hI.lift hal)
      have HOF := Lib.hid hoff
      subst hA1
      clear hx hz hcz hc1 hown hbel hI hoff hal
      go_wp2_with (at_builtin; refine wpList_append_intR rfl _ _ rfl w.heap.size _ (mirP xs q) rfl (HO.out.alloc _) _ _ _ _ rfl (cell_new1 _ _ _) hml (by have := HB.out.size; simp; omega) ?_; intro v' w2 hown2 hgr2 hsr2; obtain ⟨A3, c3, rfl⟩ := hown2.form)
      have hpos : 0 < U.length := by rw [HTL.out]; exact h0
      have HI2 := Lib.hid (HI.out.grownR HOF.out hgr2)
      have HOF2 := Lib.hid (HOF.out.grown HI.out hpos hsr2)
      have HB2 := Lib.hid ((HB.out.alloc HB.out.size (.cells #[.int .i64 (z - x)] 3)).grown hgr2 (by have := HB.out.size; simp; omega) (fun k e => (HO.out.lt k e).1))
      go_roundw
      case rel => exact ⟨q + 1, hlt, by go_num, by rw [HS.out]; rw [List.length_append] at hown2; exact hown2, HB2.out, HI2.out, by have h9 := HOF2.out; rw [List.length_append] at h9; exact h9⟩
      case measure => simp [intOf]; omega
    · have hqe : q = xs.length := by omega
      have hk1 : ¬ (q : Int) < (xs.length : Int) := by omega
      have HO := Lib.hid (show OwnI wo w.heap.size (.slice A2 (mirP xs q).length c2) (mirL xs) from by unfold mirL; rw [← hqe]; exact hown)
      have HB := Lib.hid hbel
      clear hown hbel hqe
      go_wp2_with fail
      go_ret
      exact ⟨_, rfl, HO.out, HB.out⟩

end Go.Proofs.YtoofkchhjkhdeaaDoor
