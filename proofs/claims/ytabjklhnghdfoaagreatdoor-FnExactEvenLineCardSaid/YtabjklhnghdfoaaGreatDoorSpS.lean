/-
  The sizes of spans: SpanSizes of both, at a valid rhythm with a beat.
-/
import Derived.Test.YtabjklhnghdfoaaGreatDoorStepsOf
import Derived.Test.YtabjklhnghdfoaaGreatDoorSpn
import Derived.Test.YtabjklhnghdfoaaGreatDoorSzs
namespace Go.Proofs.YtabjklhnghdfoaaGreatDoor
open Go.RowKit
set_option linter.unusedVariables false
set_option linter.unusedSimpArgs false

def spnS (S : List Int) (k m : Nat) : List Int := (List.range m).map fun i => spanV S i k
theorem spnS_len (S : List Int) (k m : Nat) : (spnS S k m).length = m := by simp [spnS]
theorem spnS_succ (S : List Int) (k m : Nat) : spnS S k (m + 1) = spnS S k m ++ [spanV S m k] := by simp [spnS, List.range_succ]

set_option maxRecDepth 100000 in
set_option maxHeartbeats 1000000 in
theorem impl_SpanSizes_any (N : Nat) (A : Option Addr) (cap : Nat) (bs : List Int) (k : Nat) (w : World) (hA : Ints w w.heap.size A bs) (hok : RhOk N bs) (hp : 1 ≤ bs.length) (hk : k ≤ bs.length) :
    Calls Tryz.prog 33 #[.agg #[.int .i64 N, .slice A bs.length cap], .int .i64 k] w fun e w' => ∃ v, e = .returned v ∧ OwnI w' w.heap.size v (collL (spnS (stepsL N bs) k (stepsL N bs).length)) ∧ Below w.heap.size w w' := by
  have hn1 : 1 ≤ (N : Int) := hok.1
  have hn2 : (N : Int) ≤ 24 := hok.2.1
  have HS := Lib.hid (fun V h => impl_StepsOf_any N A cap bs V (by unfold Fits; omega) h)
  have hbl : bs.length ≤ 24 := by have := hok.len; omega
  have hsl := stepsL_len N bs
  have hsf : ∀ i, i < (stepsL N bs).length → 0 ≤ (stepsL N bs).getD i 0 ∧ (stepsL N bs).getD i 0 ≤ 24 := fun i hi => by
    have := stepsK_fit hok _ (Nat.le_refl _) ((stepsL N bs).getD i 0) (by
      rw [List.getD_eq_getElem?_getD, List.getElem?_eq_getElem hi]; exact List.getElem_mem hi)
    omega
  rw [stepsOf_ok (rhB_iff.2 hok)] at HS
  generalize stepsL N bs = S at *
  have hs1 : 1 ≤ S.length := by omega
  have hs2 : S.length ≤ 24 := by omega
  have HSF := Lib.hid hsf
  have HSP := Lib.hid (fun i j => spanV_bnd hsf hs1 i j)
  have hz : ((S.length : Int) == 0) = false := beq_eq_false_iff_ne.2 (by omega)
  have hin : inB k 0 S.length = true := by unfold inB; simp; omega
  have HA := Lib.hid hA
  have HK := Lib.hid hk
  have hks : k ≤ 24 := by omega
  clear hA hsf hok hk
  go_enter Tryz.func33, Tryz.ntmps33
  go_wp2_with fail
  refine (HS.out _ (HA.out.lift (by repeat (first | exact Below.refl _ _ | assumption | (refine Below.alloc ?_ (by first | exact Nat.le_refl _ | (simp; done) | (simp; omega) | omega) _) | (refine Below.drew ?_) | (refine Below.setCell ?_ (by first | exact Nat.le_refl _ | (simp; done) | (simp; omega) | omega) _))))).mono ?_
  rintro e w1 ⟨A1, c1, rfl, hI1, hb1⟩
  have HB1 := Lib.hid (((Below.refl w.heap.size w).alloc (Nat.le_refl _) (.cells #[.int .i64 N, .slice A bs.length cap] 27)).trans (hb1.mono (by simp)))
  have HI1 := Lib.hid hI1
  have HO0 := Lib.hid (OwnI.nil w1 w1.heap.size)
  have HB0 := Lib.hid (Below.refl w1.heap.size w1)
  clear hI1 hb1 hsl
  go_wp2_with (go_at_call 32; refine (within_any _ _ _ _).mono ?_; rintro e w' ⟨rfl, rfl⟩)
  go_loopw [6, 22] (fun v i wr => ∃ m : Nat, m ≤ S.length ∧ i = .int .i64 m ∧ OwnI wr w1.heap.size v (spnS S k m) ∧ Below w1.heap.size w1 wr) (fun _ i _ => S.length - (intOf i).toNat)
  case atStart => exact ⟨0, Nat.zero_le _, rfl, HO0.out, HB0.out⟩
  case round =>
    obtain ⟨m, hm, rfl, hown, hbel⟩ := hrel
    obtain ⟨wo, rfl⟩ : ∃ wo : World, wo = wr := ⟨_, rfl⟩
    obtain ⟨Av, cv, rfl⟩ := hown.form
    have HO := Lib.hid hown
    have HBE := Lib.hid hbel
    have HLM := Lib.hid (spnS_len S k m)
    clear hown hbel
    by_cases hlt : m < S.length
    · have hmi : (m : Int) < (S.length : Int) := by omega
      have hm24 : m ≤ 24 := by omega
      have HIO := Lib.hid (HI1.out.lift HBE.out)
      have HSU := Lib.hid (spnS_succ S k m)
      obtain ⟨Q, hQ⟩ : ∃ Q, spnS S k m = Q := ⟨_, rfl⟩
      rw [hQ] at HSU HO HLM ⊢
      have HQ := Lib.hid hQ
      clear hQ
      go_wp2_with (first
        | (go_at_call 47; refine (impl_spanOf_any A1 c1 S m k _ HIO.out hs1 hs2 HSF.out hm24 hks).mono ?_; rintro e w2 ⟨rfl, hb2⟩; have HB2 := Lib.hid hb2; have HO2 := Lib.hid (HO.out.grown hb2); obtain ⟨x, hx⟩ : ∃ x, spanV S m k = x := ⟨_, rfl⟩; rw [hx] at HSU ⊢; clear hb2 hx)
        | (at_builtin; refine wpList_append_int rfl _ _ rfl w1.heap.size _ Q rfl (HO2.out.alloc _) _ _ rfl (cell_new1 _ _ _) (by have := HLM.out; omega) (by have := HB2.out.size; have := HBE.out.size; simp only [World.size_alloc]; omega) ?_; intro v3 w3 hown3 hb3; have HO3 := Lib.hid hown3; have HB3 := Lib.hid (HBE.out.trans ((HB2.out.mono HBE.out.size).trans (((Below.refl w2.heap.size w2).alloc (Nat.le_refl _) (.cells #[.int .i64 x] 3)).mono (by have := HB2.out.size; have := HBE.out.size; omega) |>.trans hb3))); clear hown3 hb3))
      go_roundw
      case rel => exact ⟨m + 1, by omega, by go_num, by rw [HSU.out]; exact HO3.out, HB3.out⟩
      case measure => simp [intOf]; omega
    · have hme : m = S.length := by omega
      have HME := Lib.hid hme
      have hmi : ¬ (m : Int) < (S.length : Int) := by omega
      have HIV := Lib.hid (HO.out.ints (fun x hx => by
        obtain ⟨i, hi, rfl⟩ := List.mem_map.1 hx
        have := HSP.out i k
        have := hks
        unfold Fits; omega))
      obtain ⟨Q, hQ⟩ : ∃ Q, spnS S k m = Q := ⟨_, rfl⟩
      rw [hQ] at HIV HO HLM ⊢
      have HQ := Lib.hid hQ
      clear hQ hme
      go_wp2_with fail
      refine (impl_collected_any Av cv Q _ HIV.out (by have := HLM.out; omega)).mono ?_
      rintro e w4 ⟨v4, rfl, ho4, hb4⟩
      have HO4 := Lib.hid ho4
      have HB4 := Lib.hid (HB1.out.trans ((HBE.out.trans (hb4.mono HBE.out.size)).mono HB1.out.size))
      clear ho4 hb4
      go_wp2_with fail
      go_ret
      have := HB1.out.size
      have := HBE.out.size
      refine ⟨_, rfl, ?_, HB4.out⟩
      rw [← HME.out, HQ.out]
      exact HO4.out.monoB (by omega)

set_option maxRecDepth 100000 in
set_option maxHeartbeats 1000000 in
theorem spec_SpanSizes_any (N : Nat) (A : Option Addr) (cap : Nat) (bs : List Int) (k : Nat) (w : World) (hA : Ints w w.heap.size A bs) (hok : RhOk N bs) (hp : 1 ≤ bs.length) (hk : k ≤ bs.length) :
    Calls Tryz.prog 26 #[.agg #[.int .i64 N, .slice A bs.length cap], .int .i64 k] w fun e w' => ∃ v, e = .returned v ∧ OwnI w' w.heap.size v (collL (spnS (stepsL N bs) k (stepsL N bs).length)) ∧ Below w.heap.size w w' := by
  have hn1 : 1 ≤ (N : Int) := hok.1
  have hn2 : (N : Int) ≤ 24 := hok.2.1
  have HS := Lib.hid (fun V h => spec_StepsOf_any N A cap bs V  h)
  have hbl : bs.length ≤ 24 := by have := hok.len; omega
  have hsl := stepsL_len N bs
  have hsf : ∀ i, i < (stepsL N bs).length → 0 ≤ (stepsL N bs).getD i 0 ∧ (stepsL N bs).getD i 0 ≤ 24 := fun i hi => by
    have := stepsK_fit hok _ (Nat.le_refl _) ((stepsL N bs).getD i 0) (by
      rw [List.getD_eq_getElem?_getD, List.getElem?_eq_getElem hi]; exact List.getElem_mem hi)
    omega
  rw [stepsOf_ok (rhB_iff.2 hok)] at HS
  generalize stepsL N bs = S at *
  have hs1 : 1 ≤ S.length := by omega
  have hs2 : S.length ≤ 24 := by omega
  have HSF := Lib.hid hsf
  have HSP := Lib.hid (fun i j => spanV_bnd hsf hs1 i j)
  have hz : ((S.length : Int) == 0) = false := beq_eq_false_iff_ne.2 (by omega)
  have hin : inB k 0 S.length = true := by unfold inB; simp; omega
  have HA := Lib.hid hA
  have HK := Lib.hid hk
  have hks : k ≤ 24 := by omega
  clear hA hsf hok hk
  go_enter Tryz.func26, Tryz.ntmps26
  go_wp2_with fail
  refine (HS.out _ (HA.out.lift (by repeat (first | exact Below.refl _ _ | assumption | (refine Below.alloc ?_ (by first | exact Nat.le_refl _ | (simp; done) | (simp; omega) | omega) _) | (refine Below.drew ?_) | (refine Below.setCell ?_ (by first | exact Nat.le_refl _ | (simp; done) | (simp; omega) | omega) _))))).mono ?_
  rintro e w1 ⟨A1, c1, rfl, hI1, hb1⟩
  have HB1 := Lib.hid (((Below.refl w.heap.size w).alloc (Nat.le_refl _) (.cells #[.int .i64 N, .slice A bs.length cap] 27)).trans (hb1.mono (by simp)))
  have HI1 := Lib.hid hI1
  have HO0 := Lib.hid (OwnI.empty_at w1 w1.heap.size w1.heap.size rfl (Nat.le_refl _))
  have HB0 := Lib.hid ((Below.refl w1.heap.size w1).alloc (Nat.le_refl _) (.cells #[] 3))
  clear hI1 hb1 hsl
  go_wp2_with (go_at_call 25; refine (l01In_any _ _ _ _).mono ?_; rintro e w' ⟨rfl, rfl⟩)
  go_loopw [6, 23] (fun v i wr => ∃ m : Nat, m ≤ S.length ∧ i = .int .i64 m ∧ OwnI wr w1.heap.size v (spnS S k m) ∧ Below w1.heap.size w1 wr) (fun _ i _ => S.length - (intOf i).toNat)
  case atStart => exact ⟨0, Nat.zero_le _, rfl, HO0.out, HB0.out⟩
  case round =>
    obtain ⟨m, hm, rfl, hown, hbel⟩ := hrel
    obtain ⟨wo, rfl⟩ : ∃ wo : World, wo = wr := ⟨_, rfl⟩
    obtain ⟨Av, cv, rfl⟩ := hown.form
    have HO := Lib.hid hown
    have HBE := Lib.hid hbel
    have HLM := Lib.hid (spnS_len S k m)
    clear hown hbel
    by_cases hlt : m < S.length
    · have hmi : (m : Int) < (S.length : Int) := by omega
      have hm24 : m ≤ 24 := by omega
      have HIO := Lib.hid (HI1.out.lift HBE.out)
      have HSU := Lib.hid (spnS_succ S k m)
      obtain ⟨Q, hQ⟩ : ∃ Q, spnS S k m = Q := ⟨_, rfl⟩
      rw [hQ] at HSU HO HLM ⊢
      have HQ := Lib.hid hQ
      clear hQ
      go_wp2_with (first
        | (go_at_call 42; refine (spec_l03Span_any A1 c1 S m k _ HIO.out hs1 hs2 HSF.out hm24 hks).mono ?_; rintro e w2 ⟨rfl, hb2⟩; have HB2 := Lib.hid hb2; have HO2 := Lib.hid (HO.out.grown hb2); obtain ⟨x, hx⟩ : ∃ x, spanV S m k = x := ⟨_, rfl⟩; rw [hx] at HSU ⊢; clear hb2 hx)
        | (at_builtin; refine wpList_append_int rfl _ _ rfl w1.heap.size _ Q rfl (HO2.out.alloc _) _ _ rfl (cell_new1 _ _ _) (by have := HLM.out; omega) (by have := HB2.out.size; have := HBE.out.size; simp only [World.size_alloc]; omega) ?_; intro v3 w3 hown3 hb3; have HO3 := Lib.hid hown3; have HB3 := Lib.hid (HBE.out.trans ((HB2.out.mono HBE.out.size).trans (((Below.refl w2.heap.size w2).alloc (Nat.le_refl _) (.cells #[.int .i64 x] 3)).mono (by have := HB2.out.size; have := HBE.out.size; omega) |>.trans hb3))); clear hown3 hb3))
      go_roundw
      case rel => exact ⟨m + 1, by omega, by go_num, by rw [HSU.out]; exact HO3.out, HB3.out⟩
      case measure => simp [intOf]; omega
    · have hme : m = S.length := by omega
      have HME := Lib.hid hme
      have hmi : ¬ (m : Int) < (S.length : Int) := by omega
      have HIV := Lib.hid (HO.out.ints (fun x hx => by
        obtain ⟨i, hi, rfl⟩ := List.mem_map.1 hx
        have := HSP.out i k
        have := hks
        unfold Fits; omega))
      obtain ⟨Q, hQ⟩ : ∃ Q, spnS S k m = Q := ⟨_, rfl⟩
      rw [hQ] at HIV HO HLM ⊢
      have HQ := Lib.hid hQ
      clear hQ hme
      go_wp2_with fail
      refine (spec_l03Sizes_any Av cv Q _ HIV.out (by have := HLM.out; omega)).mono ?_
      rintro e w4 ⟨v4, rfl, ho4, hb4⟩
      have HO4 := Lib.hid ho4
      have HB4 := Lib.hid (HB1.out.trans ((HBE.out.trans (hb4.mono HBE.out.size)).mono HB1.out.size))
      clear ho4 hb4
      go_wp2_with fail
      go_ret
      have := HB1.out.size
      have := HBE.out.size
      refine ⟨_, rfl, ?_, HB4.out⟩
      rw [← HME.out, HQ.out]
      exact HO4.out.monoB (by omega)

end Go.Proofs.YtabjklhnghdfoaaGreatDoor
