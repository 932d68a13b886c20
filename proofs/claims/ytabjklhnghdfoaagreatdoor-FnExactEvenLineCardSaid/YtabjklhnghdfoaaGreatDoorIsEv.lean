/-
  Even rhythms: IsEven of both, at a valid rhythm.
-/
import Derived.Test.YtabjklhnghdfoaaGreatDoorSpS
import Derived.Test.YtabjklhnghdfoaaGreatDoorCells
namespace Go.Proofs.YtabjklhnghdfoaaGreatDoor
open Go.RowKit
set_option linter.unusedVariables false
set_option linter.unusedSimpArgs false

def evT (S : List Int) (k : Nat) : Bool := decide ((collL (spnS S k S.length)).getD ((collL (spnS S k S.length)).length - 1) 0 - (collL (spnS S k S.length)).getD 0 0 ≤ 1)
def evnB (S : List Int) : Bool := (List.range S.length).all fun k => decide (k = 0) || evT S k
theorem evnB_def (S : List Int) : evnB S = true ↔ ∀ j, 1 ≤ j → j < S.length → evT S j = true := by
  unfold evnB
  rw [List.all_eq_true]
  constructor
  · intro h j h1 h2
    have := h j (List.mem_range.2 h2)
    rw [Bool.or_eq_true, decide_eq_true_eq] at this
    rcases this with h3 | h3
    · omega
    · exact h3
  · intro h j hj
    rw [Bool.or_eq_true, decide_eq_true_eq]
    by_cases e : j = 0
    · exact .inl e
    · exact .inr (h j (by omega) (List.mem_range.1 hj))
theorem getE_mem {L : List Int} {i : Nat} (h : i < L.length) : L.getD i 0 ∈ L := by
  rw [List.getD_eq_getElem?_getD, List.getElem?_eq_getElem h]; exact List.getElem_mem h
theorem asc_len_ : ∀ (L : List Int) (lo hi : Int), L.Pairwise (fun a b => a < b) → (∀ x ∈ L, lo ≤ x ∧ x ≤ hi) → lo ≤ hi + 1 → (L.length : Int) ≤ hi + 1 - lo
  | [], lo, hi, _, _, h => by simp; omega
  | a :: L, lo, hi, hp, hb, h => by
    rw [List.pairwise_cons] at hp
    have ha := hb a List.mem_cons_self
    have := asc_len_ L (a + 1) hi hp.2 (fun x hx => ⟨by have := hp.1 x hx; omega, (hb x (List.mem_cons_of_mem _ hx)).2⟩) (by omega)
    rw [List.length_cons]; omega
theorem asc_len {L : List Int} (hp : L.Pairwise (fun a b => a < b)) (hb : ∀ x ∈ L, 0 ≤ x ∧ x ≤ 576) : L.length ≤ 577 := by
  have := asc_len_ L 0 576 hp hb (by omega); omega
theorem spnS_fit {S : List Int} (h1 : 1 ≤ S.length) (h : ∀ i, i < S.length → 0 ≤ S.getD i 0 ∧ S.getD i 0 ≤ 24) (k : Nat) (hk : k ≤ 24) :
    0 < (collL (spnS S k S.length)).length ∧ (collL (spnS S k S.length)).length ≤ 1000000 ∧ ∀ x ∈ collL (spnS S k S.length), 0 ≤ x ∧ x ≤ 576 := by
  have hm : ∀ x, x ∈ collL (spnS S k S.length) ↔ x ∈ spnS S k S.length := (collL_asc _).2
  have hx : ∀ x ∈ collL (spnS S k S.length), 0 ≤ x ∧ x ≤ 576 := fun x hx => by
    obtain ⟨i, _, rfl⟩ := List.mem_map.1 ((hm x).1 hx)
    have := spanV_bnd h h1 i k
    omega
  refine ⟨?_, ?_, hx⟩
  · have : spanV S 0 k ∈ collL (spnS S k S.length) := (hm _).2 (List.mem_map.2 ⟨0, List.mem_range.2 (by omega), rfl⟩)
    exact List.length_pos_of_mem this
  · have := asc_len (collL_asc (spnS S k S.length)).1 hx
    omega

set_option maxRecDepth 100000 in
set_option maxHeartbeats 1000000 in
theorem impl_IsEven_any (N : Nat) (A : Option Addr) (cap : Nat) (bs : List Int) (w : World) (hA : Ints w w.heap.size A bs) (hok : RhOk N bs) :
    Calls Tryz.prog 18 #[.agg #[.int .i64 N, .slice A bs.length cap]] w fun e w' => e = .returned (.bool (evnB (stepsL N bs))) ∧ Below w.heap.size w w' := by
  have hn1 : 1 ≤ (N : Int) := hok.1
  have hn2 : (N : Int) ≤ 24 := hok.2.1
  have hr : rhB N bs = true := rhB_iff.2 hok
  have HR := Lib.hid (fun V h => impl_RhythmOk_any N A cap bs V (by unfold Fits; omega) h)
  have HS := Lib.hid (fun V h k (hp : 1 ≤ bs.length) (hk : k ≤ bs.length) => impl_SpanSizes_any N A cap bs k V h hok hp hk)
  have hbl : bs.length ≤ 24 := by have := hok.len; omega
  have hsl := stepsL_len N bs
  have HSB := Lib.hid (fun (hp : 1 ≤ bs.length) k (hk : k ≤ 24) => spnS_fit (S := stepsL N bs) (by omega) (fun i hi => by
    have := stepsK_fit hok _ (Nat.le_refl _) ((stepsL N bs).getD i 0) (by
      rw [List.getD_eq_getElem?_getD, List.getElem?_eq_getElem hi]; exact List.getElem_mem hi)
    omega) k hk)
  have HE := Lib.hid (evnB_def (stepsL N bs))
  rw [hr] at HR
  have HA := Lib.hid hA
  have hal := (Below.refl w.heap.size w).alloc (Nat.le_refl _) (.cells #[.int .i64 N, .slice A bs.length cap] 27)
  have HC0 := Lib.hid (Cells2.new w (.int .i64 N) (.slice A bs.length cap) 27)
  have HB0 := Lib.hid hal
  clear hA hok hr hal
  generalize stepsL N bs = S at *
  go_enter Tryz.func18, Tryz.ntmps18
  go_wp2_with fail
  generalize w.alloc (.cells #[.int .i64 N, .slice A bs.length cap] 27) = w0 at *
  obtain ⟨c0, c1, _, _, _⟩ := HC0.out
  refine (HR.out _ (HA.out.lift HB0.out)).mono ?_
  rintro e w1 ⟨rfl, hb1⟩
  have HB1 := Lib.hid (HB0.out.trans (hb1.mono HB0.out.size))
  have HC1 := Lib.hid (HC0.out.below hb1 HC0.out.2.2.2.2)
  clear c0 c1 hb1
  obtain ⟨c0, c1, _, _, _⟩ := HC1.out
  obtain ⟨q, hq⟩ : ∃ q, w.heap.size = q := ⟨_, rfl⟩
  rw [hq] at HC1 c0 c1
  have HQ := Lib.hid hq
  go_wp2_with fail
  try rw [hq]
  clear hq
  go_loopw [3] (fun i wr => ∃ k : Nat, 1 ≤ k ∧ (k = 1 ∨ k ≤ bs.length) ∧ i = .int .i64 k ∧ (∀ j, 1 ≤ j → j < k → evT S j = true) ∧ Cells2 wr q (.int .i64 N) (.slice A bs.length cap) ∧ Below w.heap.size w wr) (fun i _ => bs.length - (intOf i).toNat)
  case atStart => exact ⟨1, Nat.le_refl _, .inl rfl, rfl, fun j h1 h2 => by omega, HC1.out, HB1.out⟩
  case round =>
    obtain ⟨k, hk1, hk2, rfl, hall, hcel, hbel⟩ := hrel
    obtain ⟨wo, rfl⟩ : ∃ wo : World, wo = wr := ⟨_, rfl⟩
    have HALL := Lib.hid hall
    have HC := Lib.hid hcel
    have HB := Lib.hid hbel
    clear c0 c1 hall hcel hbel
    obtain ⟨c0, c1, _, _, _⟩ := HC.out
    by_cases hlt : k < bs.length
    · have hki : (k : Int) < (bs.length : Int) := by omega
      have HIA := Lib.hid (HA.out.lift HB.out)
      have hwk : IntKind.i64.wrap ((k : Int) + 1) = (k : Int) + 1 := i64w (by omega)
      go_wp2_with fail
      refine (HS.out _ HIA.out k (by omega) (by omega)).mono ?_
      rintro e w2 ⟨v, rfl, ho, hb2⟩
      obtain ⟨A2, c2, rfl⟩ := ho.form
      obtain ⟨hf1, hf2, hf3⟩ := HSB.out (by omega) k (by omega)
      have HI2 := Lib.hid (ho.ints (fun x hx => by have := hf3 x hx; unfold Fits; omega))
      have HC2 := Lib.hid (HC.out.below hb2 HC.out.2.2.2.2)
      have HB2 := Lib.hid (HB.out.trans (hb2.mono HB.out.size))
      have HET := Lib.hid (show evT S k = decide ((collL (spnS S k S.length)).getD ((collL (spnS S k S.length)).length - 1) 0 - (collL (spnS S k S.length)).getD 0 0 ≤ 1) from rfl)
      have hg1 := hf3 ((collL (spnS S k S.length)).getD ((collL (spnS S k S.length)).length - 1) 0) (getE_mem (by omega))
      have hg2 := hf3 ((collL (spnS S k S.length)).getD 0 0) (getE_mem (by omega))
      clear ho hb2 c0 c1 hf3
      obtain ⟨c0, c1, _, _, _⟩ := HC2.out
      obtain ⟨L, hL⟩ : ∃ L, collL (spnS S k S.length) = L := ⟨_, rfl⟩
      rw [hL] at hf1 hf2 HI2 HET hg1 hg2 ⊢
      clear hL
      obtain ⟨bL, oL, rfl, hbL, hcL⟩ := HI2.out.2.2 hf1
      have hx := hcL (L.length - 1) (by omega)
      have hy := hcL 0 hf1
      obtain ⟨x, hx'⟩ : ∃ x, L.getD (L.length - 1) 0 = x := ⟨_, rfl⟩
      obtain ⟨y, hy'⟩ : ∃ y, L.getD 0 0 = y := ⟨_, rfl⟩
      rw [hx'] at hx HET hg1
      rw [hy'] at hy HET hg2
      rw [Nat.add_zero] at hy
      have hw1 : IntKind.i64.wrap ((L.length : Int) - 1) = ((L.length - 1 : Nat) : Int) := by rw [Int.natCast_sub (by omega)]; exact i64w (by omega)
      have hw2 : IntKind.i64.wrap (x - y) = x - y := i64w (by omega)
      have hi1 : ((L.length - 1 : Nat) : Int) < (L.length : Int) := by omega
      have hi0 : (0 : Int) ≤ ((L.length - 1 : Nat) : Int) := Int.natCast_nonneg _
      have hi2 : (0 : Int) < (L.length : Int) := by omega
      clear hx' hy' hcL
      by_cases hle : x - y ≤ 1
      · have hgt : ¬ 1 < x - y := by omega
        have hgd : decide (1 < x - y) = false := decide_eq_false hgt
        have HT := Lib.hid (show evT S k = true by rw [HET.out]; exact decide_eq_true hle)
        go_wp2_with fail
        try go_quiet (fail)
        try go_wp2_with fail
        go_roundw
        case rel => exact ⟨k + 1, by omega, by omega, by go_num, fun j h1 h2 => by
          by_cases e : j = k
          · rw [e]; exact HT.out
          · exact HALL.out j h1 (by omega), by first | exact HC2.out | exact HC2.out.drewN_ _, by first | exact HB2.out | exact Below.drewN_ HB2.out _⟩
        case measure => simp [intOf]; omega
      · have hgt : 1 < x - y := by omega
        have hgd : decide (1 < x - y) = true := decide_eq_true hgt
        have HT := Lib.hid (show evT S k = false by rw [HET.out]; exact decide_eq_false hle)
        have HF := Lib.hid (show evnB S = false from Bool.eq_false_iff.2 fun h => by
          have := HE.out.1 h k hk1 (by omega)
          rw [HT.out] at this; cases this)
        go_wp2_with fail
        try go_quiet (fail)
        try go_wp2_with fail
        go_ret
        exact ⟨ret_bool HF.out.symm, by first | exact HB2.out | exact Below.drewN_ HB2.out _⟩
    · have hki : ¬ (k : Int) < (bs.length : Int) := by omega
      have HT := Lib.hid (show evnB S = true from HE.out.2 fun j h1 h2 => HALL.out j h1 (by omega))
      go_wp2_with fail
      go_ret
      exact ⟨ret_bool HT.out.symm, HB.out⟩

set_option maxRecDepth 100000 in
set_option maxHeartbeats 1000000 in
theorem spec_IsEven_any (N : Nat) (A : Option Addr) (cap : Nat) (bs : List Int) (w : World) (hA : Ints w w.heap.size A bs) (hok : RhOk N bs) :
    Calls Tryz.prog 11 #[.agg #[.int .i64 N, .slice A bs.length cap]] w fun e w' => e = .returned (.bool (evnB (stepsL N bs))) ∧ Below w.heap.size w w' := by
  have hn1 : 1 ≤ (N : Int) := hok.1
  have hn2 : (N : Int) ≤ 24 := hok.2.1
  have hr : rhB N bs = true := rhB_iff.2 hok
  have HR := Lib.hid (fun V h => spec_RhythmOk_any N A cap bs V  h)
  have HS := Lib.hid (fun V h k (hp : 1 ≤ bs.length) (hk : k ≤ bs.length) => spec_SpanSizes_any N A cap bs k V h hok hp hk)
  have hbl : bs.length ≤ 24 := by have := hok.len; omega
  have hsl := stepsL_len N bs
  have HSB := Lib.hid (fun (hp : 1 ≤ bs.length) k (hk : k ≤ 24) => spnS_fit (S := stepsL N bs) (by omega) (fun i hi => by
    have := stepsK_fit hok _ (Nat.le_refl _) ((stepsL N bs).getD i 0) (by
      rw [List.getD_eq_getElem?_getD, List.getElem?_eq_getElem hi]; exact List.getElem_mem hi)
    omega) k hk)
  have HE := Lib.hid (evnB_def (stepsL N bs))
  rw [hr] at HR
  have HA := Lib.hid hA
  have hal := (Below.refl w.heap.size w).alloc (Nat.le_refl _) (.cells #[.int .i64 N, .slice A bs.length cap] 27)
  have HC0 := Lib.hid (Cells2.new w (.int .i64 N) (.slice A bs.length cap) 27)
  have HB0 := Lib.hid hal
  clear hA hok hr hal
  generalize stepsL N bs = S at *
  go_enter Tryz.func11, Tryz.ntmps11
  go_wp2_with fail
  generalize w.alloc (.cells #[.int .i64 N, .slice A bs.length cap] 27) = w0 at *
  obtain ⟨c0, c1, _, _, _⟩ := HC0.out
  refine (HR.out _ (HA.out.lift HB0.out)).mono ?_
  rintro e w1 ⟨rfl, hb1⟩
  have HB1 := Lib.hid (HB0.out.trans (hb1.mono HB0.out.size))
  have HC1 := Lib.hid (HC0.out.below hb1 HC0.out.2.2.2.2)
  clear c0 c1 hb1
  obtain ⟨c0, c1, _, _, _⟩ := HC1.out
  obtain ⟨q, hq⟩ : ∃ q, w.heap.size = q := ⟨_, rfl⟩
  rw [hq] at HC1 c0 c1
  have HQ := Lib.hid hq
  go_wp2_with fail
  try rw [hq]
  clear hq
  go_loopw [3] (fun i wr => ∃ k : Nat, 1 ≤ k ∧ (k = 1 ∨ k ≤ bs.length) ∧ i = .int .i64 k ∧ (∀ j, 1 ≤ j → j < k → evT S j = true) ∧ Cells2 wr q (.int .i64 N) (.slice A bs.length cap) ∧ Below w.heap.size w wr) (fun i _ => bs.length - (intOf i).toNat)
  case atStart => exact ⟨1, Nat.le_refl _, .inl rfl, rfl, fun j h1 h2 => by omega, HC1.out, HB1.out⟩
  case round =>
    obtain ⟨k, hk1, hk2, rfl, hall, hcel, hbel⟩ := hrel
    obtain ⟨wo, rfl⟩ : ∃ wo : World, wo = wr := ⟨_, rfl⟩
    have HALL := Lib.hid hall
    have HC := Lib.hid hcel
    have HB := Lib.hid hbel
    clear c0 c1 hall hcel hbel
    obtain ⟨c0, c1, _, _, _⟩ := HC.out
    by_cases hlt : k < bs.length
    · have hki : (k : Int) < (bs.length : Int) := by omega
      have HIA := Lib.hid (HA.out.lift HB.out)
      have hwk : IntKind.i64.wrap ((k : Int) + 1) = (k : Int) + 1 := i64w (by omega)
      go_wp2_with fail
      refine (HS.out _ HIA.out k (by omega) (by omega)).mono ?_
      rintro e w2 ⟨v, rfl, ho, hb2⟩
      obtain ⟨A2, c2, rfl⟩ := ho.form
      obtain ⟨hf1, hf2, hf3⟩ := HSB.out (by omega) k (by omega)
      have HI2 := Lib.hid (ho.ints (fun x hx => by have := hf3 x hx; unfold Fits; omega))
      have HC2 := Lib.hid (HC.out.below hb2 HC.out.2.2.2.2)
      have HB2 := Lib.hid (HB.out.trans (hb2.mono HB.out.size))
      have HET := Lib.hid (show evT S k = decide ((collL (spnS S k S.length)).getD ((collL (spnS S k S.length)).length - 1) 0 - (collL (spnS S k S.length)).getD 0 0 ≤ 1) from rfl)
      have hg1 := hf3 ((collL (spnS S k S.length)).getD ((collL (spnS S k S.length)).length - 1) 0) (getE_mem (by omega))
      have hg2 := hf3 ((collL (spnS S k S.length)).getD 0 0) (getE_mem (by omega))
      clear ho hb2 c0 c1 hf3
      obtain ⟨c0, c1, _, _, _⟩ := HC2.out
      obtain ⟨L, hL⟩ : ∃ L, collL (spnS S k S.length) = L := ⟨_, rfl⟩
      rw [hL] at hf1 hf2 HI2 HET hg1 hg2 ⊢
      clear hL
      obtain ⟨bL, oL, rfl, hbL, hcL⟩ := HI2.out.2.2 hf1
      have hx := hcL (L.length - 1) (by omega)
      have hy := hcL 0 hf1
      obtain ⟨x, hx'⟩ : ∃ x, L.getD (L.length - 1) 0 = x := ⟨_, rfl⟩
      obtain ⟨y, hy'⟩ : ∃ y, L.getD 0 0 = y := ⟨_, rfl⟩
      rw [hx'] at hx HET hg1
      rw [hy'] at hy HET hg2
      rw [Nat.add_zero] at hy
      have hw1 : IntKind.i64.wrap ((L.length : Int) - 1) = ((L.length - 1 : Nat) : Int) := by rw [Int.natCast_sub (by omega)]; exact i64w (by omega)
      have hw2 : IntKind.i64.wrap (x - y) = x - y := i64w (by omega)
      have hi1 : ((L.length - 1 : Nat) : Int) < (L.length : Int) := by omega
      have hi0 : (0 : Int) ≤ ((L.length - 1 : Nat) : Int) := Int.natCast_nonneg _
      have hi2 : (0 : Int) < (L.length : Int) := by omega
      clear hx' hy' hcL
      by_cases hle : x - y ≤ 1
      · have hgt : ¬ 1 < x - y := by omega
        have hgd : decide (1 < x - y) = false := decide_eq_false hgt
        have HT := Lib.hid (show evT S k = true by rw [HET.out]; exact decide_eq_true hle)
        go_wp2_with fail
        try go_quiet (fail)
        try go_wp2_with fail
        go_roundw
        case rel => exact ⟨k + 1, by omega, by omega, by go_num, fun j h1 h2 => by
          by_cases e : j = k
          · rw [e]; exact HT.out
          · exact HALL.out j h1 (by omega), by first | exact HC2.out | exact HC2.out.drewN_ _, by first | exact HB2.out | exact Below.drewN_ HB2.out _⟩
        case measure => simp [intOf]; omega
      · have hgt : 1 < x - y := by omega
        have hgd : decide (1 < x - y) = true := decide_eq_true hgt
        have HT := Lib.hid (show evT S k = false by rw [HET.out]; exact decide_eq_false hle)
        have HF := Lib.hid (show evnB S = false from Bool.eq_false_iff.2 fun h => by
          have := HE.out.1 h k hk1 (by omega)
          rw [HT.out] at this; cases this)
        go_wp2_with fail
        try go_quiet (fail)
        try go_wp2_with fail
        go_ret
        exact ⟨ret_bool HF.out.symm, by first | exact HB2.out | exact Below.drewN_ HB2.out _⟩
    · have hki : ¬ (k : Int) < (bs.length : Int) := by omega
      have HT := Lib.hid (show evnB S = true from HE.out.2 fun j h1 h2 => HALL.out j h1 (by omega))
      go_wp2_with fail
      go_ret
      exact ⟨ret_bool HT.out.symm, HB.out⟩

end Go.Proofs.YtabjklhnghdfoaaGreatDoor
