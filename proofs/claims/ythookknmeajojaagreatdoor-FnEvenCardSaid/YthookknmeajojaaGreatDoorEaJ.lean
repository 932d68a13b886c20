/-
  Several texts of this proof in one: EvP, Has, Evn, EvO, EvQ.
-/
import Derived.Test.YthookknmeajojaaGreatDoorEaG
import Derived.Test.YthookknmeajojaaGreatDoorEaH
import Derived.Test.YthookknmeajojaaGreatDoorEaI
import Derived.Test.YthookknmeajojaaGreatDoorEaC
import Derived.Test.YthookknmeajojaaGreatDoorEaF
import Derived.Test.YthookknmeajojaaGreatDoorEaB
import Derived.Test.YthookknmeajojaaGreatDoorEaE
import Derived.Test.YthookknmeajojaaGreatDoorEaA
import Derived.Deep.RegionLaw
namespace Go.Proofs.YthookknmeajojaaGreatDoor
open Go.RowKit
set_option linter.unusedVariables false
set_option linter.unusedSimpArgs false

set_option maxRecDepth 100000 in
set_option maxHeartbeats 1000000 in
theorem impl_sameSize_any (n m : Int) (A B : Option Addr) (ca cb : Nat) (a b : List Int) (w : World) (hn : Fits n) (hm : Fits m) (hA : Ints w w.heap.size A a) (hB : Ints w w.heap.size B b) :
    Calls Tryz.prog 56 #[.agg #[.int .i64 n, .slice A a.length ca], .agg #[.int .i64 m, .slice B b.length cb]] w fun e w' => e = .returned (.bool (rhB n a && rhB m b && decide (n = m))) ∧ Below w.heap.size w w' := by
  have hal0 := (Below.refl w.heap.size w).alloc (Nat.le_refl _) (.cells #[.int .i64 n, .slice A a.length ca] 26)
  have hal1 := hal0.alloc hal0.size (.cells #[.int .i64 m, .slice B b.length cb] 26)
  have HC0 := Lib.hid ((Cells2.new w (.int .i64 n) (.slice A a.length ca) 26).alloc (.cells #[.int .i64 m, .slice B b.length cb] 26))
  have HD0 := Lib.hid (Cells2.new_at (w.alloc (.cells #[.int .i64 n, .slice A a.length ca] 26)) (.int .i64 m) (.slice B b.length cb) 26 (w.heap.size + 1) (by simp))
  have HB0 := Lib.hid hal1
  have HIA := Lib.hid (hA.lift hal1)
  have HIB := Lib.hid (hB.lift hal1)
  clear hA hB hal0 hal1
  obtain ⟨c0, c1, _, _, _⟩ := HC0.out
  obtain ⟨d0, d1, _, _, _⟩ := HD0.out
  have HR1 := Lib.hid (fun V h => impl_RhythmOk_any n A ca a V hn h)
  have HR2 := Lib.hid (fun V h => impl_RhythmOk_any m B cb b V hm h)
  cases h1 : rhB n a
  · rw [h1] at HR1
    clear h1
    go_enter Tryz.func56, Tryz.ntmps56
    go_wp2_with fail
    refine (HR1.out _ HIA.out).mono ?_
    rintro e w1 ⟨rfl, hb⟩
    have HB1 := Lib.hid (HB0.out.trans (hb.mono HB0.out.size))
    clear hb
    go_wp2_with fail
    go_ret
    exact ⟨rfl, HB1.out⟩
  rw [h1] at HR1
  cases h2 : rhB m b
  · rw [h2] at HR2
    clear h1 h2
    go_enter Tryz.func56, Tryz.ntmps56
    go_wp2_with fail
    refine (HR1.out _ HIA.out).mono ?_
    rintro e w1 ⟨rfl, hb⟩
    have HB1 := Lib.hid (HB0.out.trans (hb.mono HB0.out.size))
    have HI1 := Lib.hid (HIB.out.lift hb)
    have HD1 := Lib.hid (HD0.out.below hb HD0.out.2.2.2.2)
    clear hb d0 d1
    obtain ⟨d0, d1, _, _, _⟩ := HD1.out
    go_wp2_with fail
    refine (HR2.out _ HI1.out).mono ?_
    rintro e w2 ⟨rfl, hb⟩
    have HB2 := Lib.hid (HB1.out.trans (hb.mono HB1.out.size))
    clear hb
    go_wp2_with fail
    go_ret
    exact ⟨rfl, HB2.out⟩
  rw [h2] at HR2
  clear h1 h2
  obtain ⟨q, hq⟩ : ∃ q : Bool, decide (n = m) = q := ⟨_, rfl⟩
  have HQ := Lib.hid hq
  have hq2 : (n == m) = q := by rw [← hq]; by_cases h : n = m <;> simp [h]
  clear hq
  go_enter Tryz.func56, Tryz.ntmps56
  go_wp2_with fail
  refine (HR1.out _ HIA.out).mono ?_
  rintro e w1 ⟨rfl, hb⟩
  have HB1 := Lib.hid (HB0.out.trans (hb.mono HB0.out.size))
  have HI1 := Lib.hid (HIB.out.lift hb)
  have HC1 := Lib.hid (HC0.out.below hb HC0.out.2.2.2.2)
  have HD1 := Lib.hid (HD0.out.below hb HD0.out.2.2.2.2)
  clear hb c0 c1 d0 d1
  obtain ⟨c0, c1, _, _, _⟩ := HC1.out
  obtain ⟨d0, d1, _, _, _⟩ := HD1.out
  go_wp2_with fail
  refine (HR2.out _ HI1.out).mono ?_
  rintro e w2 ⟨rfl, hb⟩
  have HB2 := Lib.hid (HB1.out.trans (hb.mono HB1.out.size))
  have HC2 := Lib.hid (HC1.out.below hb HC1.out.2.2.2.2)
  have HD2 := Lib.hid (HD1.out.below hb HD1.out.2.2.2.2)
  clear hb c0 c1 d0 d1
  obtain ⟨c0, c1, _, _, _⟩ := HC2.out
  obtain ⟨d0, d1, _, _, _⟩ := HD2.out
  go_wp2_with fail
  go_ret
  exact ⟨ret_bool (by rw [HQ.out]; simp), HB2.out⟩

set_option maxRecDepth 100000 in
set_option maxHeartbeats 1000000 in
theorem impl_CommonBeats_ok (n : Nat) (A B : Option Addr) (ca cb : Nat) (a b : List Int) (w : World) (hA : Ints w w.heap.size A a) (hB : Ints w w.heap.size B b) (ha : RhOk n a) (hbo : RhOk n b) :
    Calls Tryz.prog 21 #[.agg #[.int .i64 n, .slice A a.length ca], .agg #[.int .i64 n, .slice B b.length cb]] w fun e w' => e = .returned (.int .i64 (comN a b a.length : Nat)) ∧ Below w.heap.size w w' := by
  have hn : Fits (n : Int) := by have := ha.1; have := ha.2.1; unfold Fits; omega
  obtain ⟨m, hmn⟩ : ∃ m : Int, (n : Int) = m := ⟨_, rfl⟩
  have HS := Lib.hid (fun V h1 h2 => impl_sameSize_any n n A B ca cb a b V hn hn h1 h2)
  rw [show (rhB n a && rhB n b && decide ((n : Int) = n)) = true by rw [rhB_iff.2 ha, rhB_iff.2 hbo]; simp] at HS
  have HF := Lib.hid (fun V h1 h2 => impl_common_any n A B ca cb a b V h1 h2 ha hbo)
  generalize comN a b a.length = F at HF ⊢
  clear ha hbo hn
  rw [hmn] at HS HF ⊢
  clear hmn
  have hm : m = m := rfl
  clear hm
  have hal0 := (Below.refl w.heap.size w).alloc (Nat.le_refl _) (.cells #[.int .i64 m, .slice A a.length ca] 26)
  have hal1 := hal0.alloc hal0.size (.cells #[.int .i64 m, .slice B b.length cb] 26)
  have HC0 := Lib.hid ((Cells2.new w (.int .i64 m) (.slice A a.length ca) 26).alloc (.cells #[.int .i64 m, .slice B b.length cb] 26))
  have HD0 := Lib.hid (Cells2.new_at (w.alloc (.cells #[.int .i64 m, .slice A a.length ca] 26)) (.int .i64 m) (.slice B b.length cb) 26 (w.heap.size + 1) (by simp))
  have HB0 := Lib.hid hal1
  have HIA := Lib.hid (hA.lift hal1)
  have HIB := Lib.hid (hB.lift hal1)
  clear hA hB hal0 hal1
  obtain ⟨c0, c1, _, _, _⟩ := HC0.out
  obtain ⟨d0, d1, _, _, _⟩ := HD0.out
  go_enter Tryz.func21, Tryz.ntmps21
  go_wp2_with fail
  refine (HS.out _ HIA.out HIB.out).mono ?_
  rintro e w1 ⟨rfl, hb⟩
  have HB1 := Lib.hid (HB0.out.trans (hb.mono HB0.out.size))
  have HIA1 := Lib.hid (HIA.out.lift hb)
  have HIB1 := Lib.hid (HIB.out.lift hb)
  have HC1 := Lib.hid (HC0.out.below hb HC0.out.2.2.2.2)
  have HD1 := Lib.hid (HD0.out.below hb HD0.out.2.2.2.2)
  clear hb c0 c1 d0 d1
  obtain ⟨c0, c1, _, _, _⟩ := HC1.out
  obtain ⟨d0, d1, _, _, _⟩ := HD1.out
  go_wp2_with fail
  refine (HF.out _ HIA1.out HIB1.out).mono ?_
  rintro e w2 ⟨rfl, hb⟩
  have HB2 := Lib.hid (HB1.out.trans (hb.mono HB1.out.size))
  clear hb
  go_wp2_with fail
  go_ret
  exact ⟨rfl, HB2.out⟩

set_option maxRecDepth 100000 in
set_option maxHeartbeats 1000000 in
theorem spec_RotateRhythm_cap (N : Nat) (A : Option Addr) (cap : Nat) (bs : List Int) (k : Int) (w : World) (hA : Ints w w.heap.size A bs) (hok : RhOk N bs) (hk0 : 0 ≤ k) (hk1 : k ≤ 1000) :
    Calls Tryz.prog 17 #[.agg #[.int .i64 N, .slice A bs.length cap], .int .i64 k] w fun e w' => ∃ A' c, e = .returned (.tuple #[.agg #[.int .i64 N, .slice A' (rotL N bs k).length c], .bool true]) ∧ (rotL N bs k).length ≤ c ∧ RW w' w.heap.size A' (rotL N bs k) ∧ Below w.heap.size w w' := by
  have hRO := fun V h => spec_RhythmOk_any N A cap bs V h
  rw [rhB_iff.2 hok] at hRO
  have HRO := Lib.hid hRO
  have hin : inB k (-1000) 1000 = true := by unfold inB; simp; omega
  have HM := Lib.hid (fun V h => spec_l02Map_cap N A cap bs 1 k V h hok (fun x h1 h2 => by omega) (by omega))
  rw [rotL_of hok k] at HM
  generalize rotL N bs k = R at HM ⊢
  have hal0 := (Below.refl w.heap.size w).alloc (Nat.le_refl _) (.cells #[.int .i64 N, .slice A bs.length cap] 26)
  have hal2 := hal0.alloc hal0.size (.cells #[.int .i64 0, .slice none 0 0] 26)
  have HC0 := Lib.hid ((Cells2.new w (.int .i64 N) (.slice A bs.length cap) 26).alloc (.cells #[.int .i64 0, .slice none 0 0] 26))
  have HZ0 := Lib.hid (Cells2.new_at (w.alloc (.cells #[.int .i64 N, .slice A bs.length cap] 26)) (.int .i64 0) (.slice none 0 0) 26 (w.heap.size + 1) (by simp))
  have HB0 := Lib.hid hal2
  have HI0 := Lib.hid (hA.lift hal2)
  clear hA hal0 hal2 hRO hok
  obtain ⟨c0, c1, _, _, _⟩ := HC0.out
  obtain ⟨z0, z1, _, _, _⟩ := HZ0.out
  go_enter Tryz.func17, Tryz.ntmps17
  go_wp2_with fail
  refine (HRO.out _ HI0.out).mono ?_
  rintro e w1 ⟨rfl, hb⟩
  have HB1 := Lib.hid (HB0.out.trans (hb.mono HB0.out.size))
  have HC1 := Lib.hid (HC0.out.below hb HC0.out.2.2.2.2)
  have HZ1 := Lib.hid (HZ0.out.below hb HZ0.out.2.2.2.2)
  have HI1 := Lib.hid (HI0.out.lift hb)
  clear hb c0 c1 z0 z1
  obtain ⟨c0, c1, _, _, _⟩ := HC1.out
  obtain ⟨z0, z1, _, _, _⟩ := HZ1.out
  go_wp2_with (go_at_call 48; refine (l01In_any _ _ _ _).mono ?_; rintro e w' ⟨rfl, rfl⟩)
  refine (HM.out _ HI1.out).mono ?_
  rintro e w2 ⟨A2, c2, rfl, hcp, hr, hb⟩
  have HB2 := Lib.hid (HB1.out.trans (hb.mono HB1.out.size))
  have HZ2 := Lib.hid (HZ1.out.below hb HZ1.out.2.2.2.2)
  have HR2 := Lib.hid hr
  have HCP := Lib.hid hcp
  clear hcp
  have hlt : w.heap.size + 1 < w1.heap.size := HZ1.out.2.2.2.2
  clear hb hr c0 c1 z0 z1
  obtain ⟨z0, z1, y0, y1, _⟩ := HZ2.out
  have HZ3 := Lib.hid ((HZ2.out.set0 (.int .i64 N)).set1 (.slice A2 R.length c2))
  obtain ⟨x0, x1, _, _, _⟩ := HZ3.out
  have HF2 := Lib.hid ((HB2.out.setCell (p := ⟨w.heap.size + 1, 0, none⟩) (by show w.heap.size ≤ w.heap.size + 1; omega) (.int .i64 N)).setCell (p := ⟨w.heap.size + 1, 1, none⟩) (by show w.heap.size ≤ w.heap.size + 1; omega) (.slice A2 R.length c2))
  go_wp2_with fail
  refine bodyPost_ret (v := .tuple #[.agg #[.int .i64 N, .slice A2 R.length c2], .bool true]) (by simp [results, Tryz.results17, go_sem, x0, x1]) rfl ?_
  exact ⟨_, _, rfl, HCP.out, ((HR2.out.far (p := ⟨w.heap.size + 1, 0, none⟩) hlt _).far (p := ⟨w.heap.size + 1, 1, none⟩) hlt _).mono (by omega), HF2.out⟩

theorem rotL_fits {N : Nat} {bs : List Int} (hn : N ≤ 24) (k : Int) : ∀ x ∈ rotL N bs k, Fits x := by
  intro x hx
  obtain ⟨t, ht, _, rfl⟩ := rotL_mem.1 hx
  unfold Fits
  omega

set_option maxRecDepth 100000 in
set_option maxHeartbeats 1000000 in
theorem impl_rotationTo_any (N : Nat) (A1 A2 : Option Addr) (c1 c2 : Nat) (a b : List Int) (w : World) (h1 : Ints w w.heap.size A1 a) (h2 : Ints w w.heap.size A2 b) (hok : RhOk N a) :
    Calls Tryz.prog 81 #[.agg #[.int .i64 N, .slice A1 a.length c1], .agg #[.int .i64 N, .slice A2 b.length c2]] w fun e w' => (∃ v : Int, e = .returned (.int .i64 v) ∧ -1 ≤ v ∧ v ≤ 24 ∧ (0 ≤ v ↔ rotP N a b)) ∧ Below w.heap.size w w' := by
  have hn1 : 1 ≤ N := by have := hok.1; omega
  have hn2 : N ≤ 24 := by have := hok.2.1; omega
  have HRT := Lib.hid (fun (k : Nat) (hk : k ≤ 1000) V hV => impl_rotated_any N A1 c1 a k V hV hok hk)
  have HEQ := Lib.hid (fun (k : Nat) (A3 : Option Addr) (c3 : Nat) V g1 g2 => show Calls Tryz.prog _ _ V (fun e w' => e = .returned (.bool (eqB (rotL N a (k : Int)) b)) ∧ Below V.heap.size V w') from impl_equals_any N A3 A2 c3 c2 (rotL N a (k : Int)) b V g1 g2)
  have HFT := Lib.hid (fun (k : Nat) => rotL_fits (bs := a) hn2 (k : Int))
  have HB0 := Lib.hid (((Below.refl w.heap.size w).alloc (Nat.le_refl _) (.cells #[.int .i64 N, .slice A1 (a).length c1] 26)).alloc (by first | exact Nat.le_refl _ | (simp; done) | (simp; omega) | omega) (.cells #[.int .i64 N, .slice A2 (b).length c2] 26))
  have HVA := Lib.hid ((Hav.boxed h1 N c1).alloc (.cells #[.int .i64 N, .slice A2 (b).length c2] 26))
  have HVB := Lib.hid (show Hav ((w.alloc (.cells #[.int .i64 N, .slice A1 (a).length c1] 26)).alloc (.cells #[.int .i64 N, .slice A2 (b).length c2] 26)) N (w.heap.size + 1) A2 c2 b from ⟨Cells2.new_at (w.alloc (.cells #[.int .i64 N, .slice A1 (a).length c1] 26)) _ _ 26 _ (by simp), h2.lift HB0.out⟩)
  clear h1 h2 hok
  obtain ⟨⟨p0, p1, _, _, _⟩, _⟩ := HVA.out
  obtain ⟨⟨s0, s1, _, _, _⟩, _⟩ := HVB.out
  go_enter Tryz.func81, Tryz.ntmps81
  go_wp2_with fail
  generalize (w.alloc (.cells #[.int .i64 N, .slice A1 (a).length c1] 26)).alloc (.cells #[.int .i64 N, .slice A2 (b).length c2] 26) = W at *
  have hqs : w.heap.size + 1 < W.heap.size := HVB.out.1.2.2.2.2
  have HV0 := HVA
  have HW0 := HVB
  clear p0 p1 s0 s1
  go_loopw [8] (fun s wr => ∃ k : Nat, k ≤ N ∧ s = .int .i64 k ∧ (∀ j : Nat, j < k → eqB (rotL N a (j : Int)) b = false) ∧ Below W.heap.size W wr) (fun s _ => N - (intOf s).toNat)
  case atStart => exact ⟨0, by omega, rfl, fun j h => by omega, Below.refl _ _⟩
  case round =>
    obtain ⟨k, hk, rfl, hno, hbel⟩ := hrel
    obtain ⟨wo, rfl⟩ : ∃ wo : World, wo = wr := ⟨_, rfl⟩
    have HNO := Lib.hid hno
    have HBW := Lib.hid hbel
    have HVA := Lib.hid (HV0.out.lift hbel)
    have HVB := Lib.hid (HW0.out.lift hbel)
    have hws := hbel.size
    clear HV0 HW0 hno hbel
    obtain ⟨⟨p0, p1, _, _, _⟩, _⟩ := HVA.out
    obtain ⟨⟨s0, s1, _, _, _⟩, _⟩ := HVB.out
    by_cases hlt : k < N
    · have hki : (k : Int) < (N : Int) := by omega
      have HRK := Lib.hid (HRT.out k (by omega))
      have HEK := Lib.hid (HEQ.out k)
      have HFK := Lib.hid (HFT.out k)
      obtain ⟨r, hr⟩ : ∃ r, eqB (rotL N a (k : Int)) b = r := ⟨_, rfl⟩
      have HR := Lib.hid hr
      rw [hr] at HEK
      clear hr
      generalize hL : rotL N a (k : Int) = L at *
      have HLL := Lib.hid hL
      clear hL
      cases r
      all_goals
        go_wp2_with fail
        have HBW := Lib.hid (Below.drewH_ HBW.out)
        try have HRB := Lib.hid (Below.drewH_ HRB.out)
        try have HWW := Lib.hid (Below.drewH_ HWW.out)
        try have HVA := Lib.hid HVA.out.drew
        try have HVB := Lib.hid HVB.out.drew
        try have HVC := Lib.hid HVC.out.drew
        try have HVT := Lib.hid HVT.out.drew
        try have HVX := Lib.hid HVX.out.drew
        try have HVM := Lib.hid HVM.out.drew
        try have HVF := Lib.hid HVF.out.drew
        try have HVP := Lib.hid HVP.out.drew
        try have HVQ := Lib.hid HVQ.out.drew
        try have HLA := Lib.hid HLA.out.drewR_
        try have HLW := Lib.hid HLW.out.drewR_
        (refine wp_region_held_drew (S := (fun w' => (w'.cell? ⟨w.heap.size, 0, none⟩ = some (.int .i64 N) ∧ w'.cell? ⟨w.heap.size, 1, none⟩ = some (.slice A1 a.length c1)) ∧ (w'.cell? ⟨w.heap.size + 1, 0, none⟩ = some (.int .i64 N) ∧ w'.cell? ⟨w.heap.size + 1, 1, none⟩ = some (.slice A2 b.length c2)))) (by kernel_rfl) ?_ (fun hHeld => ?_); (focus ((try dsimp only); exact ⟨⟨p0, p1⟩, s0, s1⟩)))
        ((refine wpAnyH_take (i := 0) (v := ?_) rfl (by kernel_rfl) (by kernel_rfl) (by kernel_rfl) (fun _ _ _ h => h) (Or.inl ⟨by rfl, ?_⟩) (by assumption) ?_; rotate_left; (focus (intro wS hSw; (try dsimp only at hSw); go_simp; (try with_reducible rfl))); (try simp only [Act.put, List.getElem_toArray, List.getElem_cons_zero, List.getElem_cons_succ, List.setIfInBounds_toArray, List.set_cons_zero, List.set_cons_succ])); (refine wpAnyH_take (i := 1) (v := ?_) rfl (by kernel_rfl) (by kernel_rfl) (by kernel_rfl) (fun _ _ _ h => h) (Or.inl ⟨by rfl, ?_⟩) (by assumption) ?_; rotate_left; (focus (intro wS hSw; (try dsimp only at hSw); go_simp; (try with_reducible rfl))); (try simp only [Act.put, List.getElem_toArray, List.getElem_cons_zero, List.getElem_cons_succ, List.setIfInBounds_toArray, List.set_cons_zero, List.set_cons_succ])); (refine wpAnyH_take (i := 3) (v := ?_) rfl (by kernel_rfl) (by kernel_rfl) (by kernel_rfl) (fun _ _ _ h => h) (Or.inl ⟨by rfl, ?_⟩) (by assumption) ?_; rotate_left; (focus (intro wS hSw; (try dsimp only at hSw); go_simp; (try with_reducible rfl))); (try simp only [Act.put, List.getElem_toArray, List.getElem_cons_zero, List.getElem_cons_succ, List.setIfInBounds_toArray, List.set_cons_zero, List.set_cons_succ])))
        (refine wpAnyH_ready (rs := [2]) (by kernel_rfl) (by simp) ?_; refine AllReadyH.cons rfl (fun K hK => ?_) AllReadyH.nil; go_simp)
        go_at_call 45
        refine (HRK.out _ HVA.out.2).mono ?_
        rintro e w2 ⟨A3, c3, rfl, hrw, hb⟩
        have hz2 := hb.size
        have HBW := Lib.hid (HBW.out.trans (hb.mono HBW.out.size))
        try have HVA := Lib.hid (HVA.out.lift hb)
        try have HVB := Lib.hid (HVB.out.lift hb)
        try have HVC := Lib.hid (HVC.out.lift hb)
        try have HVT := Lib.hid (HVT.out.lift hb)
        try have HVX := Lib.hid (HVX.out.lift hb)
        try have HVM := Lib.hid (HVM.out.lift hb)
        try have HVF := Lib.hid (HVF.out.lift hb)
        try have HVP := Lib.hid (HVP.out.lift hb)
        try have HVQ := Lib.hid (HVQ.out.lift hb)
        try have HLA := Lib.hid (HLA.out.lift hb)
        try have HLW := Lib.hid (HLW.out.lift hb)
        try have HI := Lib.hid (HI.out.lift hb)
        try have HRB := Lib.hid (HRB.out.trans (hb.mono HRB.out.size))
        try have HWW := Lib.hid (HWW.out.trans (hb.mono HWW.out.size))
        clear hb
        have HVX := Lib.hid (hrw.ints HFK.out)
        clear hrw p0 p1 s0 s1
        obtain ⟨⟨p0, p1, _, _, _⟩, _⟩ := HVA.out
        obtain ⟨⟨s0, s1, _, _, _⟩, _⟩ := HVB.out
        go_wp2_with fail
        (refine hK.out _ _ ?_ (fun hHeld2 => ?_); (focus ((try dsimp only); exact ⟨⟨p0, p1⟩, s0, s1⟩)); (clear hK K); (try simp only [Act.put, List.getElem_toArray, List.getElem_cons_zero, List.getElem_cons_succ, List.setIfInBounds_toArray, List.set_cons_zero, List.set_cons_succ]))
        (refine wpAnyH_ready (rs := [4]) (by kernel_rfl) (by simp) ?_; refine AllReadyH.cons rfl (fun K hK => ?_) AllReadyH.nil; go_simp)
        go_at_call 70
        refine (HEK.out A3 c3 _ HVX.out HVB.out.2).mono ?_
        rintro e w3 ⟨rfl, hb⟩
        clear HVX
        have HBW := Lib.hid (HBW.out.trans (hb.mono HBW.out.size))
        try have HVA := Lib.hid (HVA.out.lift hb)
        try have HVB := Lib.hid (HVB.out.lift hb)
        try have HVC := Lib.hid (HVC.out.lift hb)
        try have HVT := Lib.hid (HVT.out.lift hb)
        try have HVX := Lib.hid (HVX.out.lift hb)
        try have HVM := Lib.hid (HVM.out.lift hb)
        try have HVF := Lib.hid (HVF.out.lift hb)
        try have HVP := Lib.hid (HVP.out.lift hb)
        try have HVQ := Lib.hid (HVQ.out.lift hb)
        try have HLA := Lib.hid (HLA.out.lift hb)
        try have HLW := Lib.hid (HLW.out.lift hb)
        try have HI := Lib.hid (HI.out.lift hb)
        try have HRB := Lib.hid (HRB.out.trans (hb.mono HRB.out.size))
        try have HWW := Lib.hid (HWW.out.trans (hb.mono HWW.out.size))
        clear hb
        clear p0 p1 s0 s1
        obtain ⟨⟨p0, p1, _, _, _⟩, _⟩ := HVA.out
        obtain ⟨⟨s0, s1, _, _, _⟩, _⟩ := HVB.out
        go_wp2_with fail
        (refine hK.out _ _ ?_ (fun hHeld2 => ?_); (focus ((try dsimp only); exact ⟨⟨p0, p1⟩, s0, s1⟩)); (clear hK K); (try simp only [Act.put, List.getElem_toArray, List.getElem_cons_zero, List.getElem_cons_succ, List.setIfInBounds_toArray, List.set_cons_zero, List.set_cons_succ]))
        refine wpAnyH_done (by kernel_rfl) ?_ _
      · go_wp2_with fail
        go_roundw
        case rel =>
          refine ⟨k + 1, by omega, by go_num, fun j hj => ?_, HBW.out⟩
          by_cases e : j = k
          · subst e; rw [HLL.out]; exact HR.out
          · exact HNO.out j (by omega)
        case measure => simp [intOf]; omega
      · go_wp2_with fail
        go_ret
        refine ⟨⟨k, rfl, by omega, by omega, fun _ => ⟨k, hlt, ?_⟩, fun _ => by omega⟩, HB0.out.trans (HBW.out.mono (by omega))⟩
        rw [HLL.out]
        exact of_decide_eq_true (show decide (L = b) = true from HR.out)
    · have hkN : k = N := by omega
      subst hkN
      go_wp2_with fail
      go_ret
      refine ⟨⟨-1, rfl, by omega, by omega, fun h => by omega, fun ⟨r, hr, he⟩ => ?_⟩, HB0.out.trans (HBW.out.mono (by omega))⟩
      have := HNO.out r hr
      unfold eqB at this
      rw [he] at this
      simp at this

set_option maxRecDepth 100000 in
set_option maxHeartbeats 1000000 in
theorem impl_RotationTo_ok (n : Nat) (A B : Option Addr) (ca cb : Nat) (a b : List Int) (w : World) (hA : Ints w w.heap.size A a) (hB : Ints w w.heap.size B b) (ha : RhOk n a) (hbo : RhOk n b) :
    Calls Tryz.prog 43 #[.agg #[.int .i64 n, .slice A a.length ca], .agg #[.int .i64 n, .slice B b.length cb]] w fun e w' => (∃ v : Int, e = .returned (.int .i64 v) ∧ -1 ≤ v ∧ v ≤ 24 ∧ (0 ≤ v ↔ rotP n a b)) ∧ Below w.heap.size w w' := by
  have hn : Fits (n : Int) := by have := ha.1; have := ha.2.1; unfold Fits; omega
  obtain ⟨m, hmn⟩ : ∃ m : Int, (n : Int) = m := ⟨_, rfl⟩
  have HS := Lib.hid (fun V h1 h2 => impl_sameSize_any n n A B ca cb a b V hn hn h1 h2)
  rw [show (rhB n a && rhB n b && decide ((n : Int) = n)) = true by rw [rhB_iff.2 ha, rhB_iff.2 hbo]; simp] at HS
  have HF := Lib.hid (fun V h1 h2 => impl_rotationTo_any n A B ca cb a b V h1 h2 ha)
  generalize rotP n a b = F at HF ⊢
  clear ha hbo hn
  rw [hmn] at HS HF ⊢
  clear hmn
  have hal0 := (Below.refl w.heap.size w).alloc (Nat.le_refl _) (.cells #[.int .i64 m, .slice A a.length ca] 26)
  have hal1 := hal0.alloc hal0.size (.cells #[.int .i64 m, .slice B b.length cb] 26)
  have HC0 := Lib.hid ((Cells2.new w (.int .i64 m) (.slice A a.length ca) 26).alloc (.cells #[.int .i64 m, .slice B b.length cb] 26))
  have HD0 := Lib.hid (Cells2.new_at (w.alloc (.cells #[.int .i64 m, .slice A a.length ca] 26)) (.int .i64 m) (.slice B b.length cb) 26 (w.heap.size + 1) (by simp))
  have HB0 := Lib.hid hal1
  have HIA := Lib.hid (hA.lift hal1)
  have HIB := Lib.hid (hB.lift hal1)
  clear hA hB hal0 hal1
  obtain ⟨c0, c1, _, _, _⟩ := HC0.out
  obtain ⟨d0, d1, _, _, _⟩ := HD0.out
  go_enter Tryz.func43, Tryz.ntmps43
  go_wp2_with fail
  refine (HS.out _ HIA.out HIB.out).mono ?_
  rintro e w1 ⟨rfl, hb⟩
  have HB1 := Lib.hid (HB0.out.trans (hb.mono HB0.out.size))
  have HIA1 := Lib.hid (HIA.out.lift hb)
  have HIB1 := Lib.hid (HIB.out.lift hb)
  have HC1 := Lib.hid (HC0.out.below hb HC0.out.2.2.2.2)
  have HD1 := Lib.hid (HD0.out.below hb HD0.out.2.2.2.2)
  clear hb c0 c1 d0 d1
  obtain ⟨c0, c1, _, _, _⟩ := HC1.out
  obtain ⟨d0, d1, _, _, _⟩ := HD1.out
  go_wp2_with fail
  refine (HF.out _ HIA1.out HIB1.out).mono ?_
  rintro e w2 ⟨⟨v, rfl, hv⟩, hb⟩
  have HB2 := Lib.hid (HB1.out.trans (hb.mono HB1.out.size))
  clear hb
  go_wp2_with fail
  go_ret
  exact ⟨⟨v, rfl, hv⟩, HB2.out⟩

set_option maxRecDepth 100000 in
set_option maxHeartbeats 1000000 in
theorem impl_AreRotations_ok (n : Nat) (A B : Option Addr) (ca cb : Nat) (a b : List Int) (w : World) (hA : Ints w w.heap.size A a) (hB : Ints w w.heap.size B b) (ha : RhOk n a) (hbo : RhOk n b) (r : Bool) (hr : r = true ↔ rotP n a b) :
    Calls Tryz.prog 11 #[.agg #[.int .i64 n, .slice A a.length ca], .agg #[.int .i64 n, .slice B b.length cb]] w fun e w' => e = .returned (.bool r) ∧ Below w.heap.size w w' := by
  have HF := Lib.hid (fun V h1 h2 => impl_RotationTo_ok n A B ca cb a b V h1 h2 ha hbo)
  obtain ⟨F, hFe⟩ : ∃ F : Prop, rotP n a b = F := ⟨_, rfl⟩
  rw [hFe] at HF hr
  clear ha hbo hFe
  have HR := Lib.hid hr
  clear hr
  have hal0 := (Below.refl w.heap.size w).alloc (Nat.le_refl _) (.cells #[.int .i64 n, .slice A a.length ca] 26)
  have hal1 := hal0.alloc hal0.size (.cells #[.int .i64 n, .slice B b.length cb] 26)
  have HC0 := Lib.hid ((Cells2.new w (.int .i64 n) (.slice A a.length ca) 26).alloc (.cells #[.int .i64 n, .slice B b.length cb] 26))
  have HD0 := Lib.hid (Cells2.new_at (w.alloc (.cells #[.int .i64 n, .slice A a.length ca] 26)) (.int .i64 n) (.slice B b.length cb) 26 (w.heap.size + 1) (by simp))
  have HB0 := Lib.hid hal1
  have HIA := Lib.hid (hA.lift hal1)
  have HIB := Lib.hid (hB.lift hal1)
  clear hA hB hal0 hal1
  obtain ⟨c0, c1, _, _, _⟩ := HC0.out
  obtain ⟨d0, d1, _, _, _⟩ := HD0.out
  go_enter Tryz.func11, Tryz.ntmps11
  go_wp2_with fail
  refine (HF.out _ HIA.out HIB.out).mono ?_
  rintro e w1 ⟨⟨v, rfl, hv1, hv2, hv⟩, hb⟩
  have HB1 := Lib.hid (HB0.out.trans (hb.mono HB0.out.size))
  have HVV := Lib.hid hv
  clear hb hv
  by_cases h0 : 0 ≤ v
  · have hg : decide (v ≥ 0) = true := decide_eq_true h0
    go_wp2_with fail
    go_ret
    refine ⟨?_, HB1.out⟩
    rw [HR.out.2 (HVV.out.1 h0)]
    first | rfl | (refine ret_bool ?_; simp; omega)
  · have hg : decide (v ≥ 0) = false := decide_eq_false h0
    go_wp2_with fail
    go_ret
    refine ⟨?_, HB1.out⟩
    rw [show r = false from by
      cases hx : r
      · rfl
      · exact absurd (HVV.out.2 (HR.out.1 hx)) (by omega)]
    first | rfl | (refine ret_bool ?_; simp; omega)

end Go.Proofs.YthookknmeajojaaGreatDoor

namespace Go.Proofs.YthookknmeajojaaGreatDoor
open Go.RowKit
set_option linter.unusedVariables false
set_option linter.unusedSimpArgs false

set_option maxHeartbeats 400000 in
theorem slices_Index_any (A : Option Addr) (cap : Nat) (xs : List Int) (x : Int) (w : World) (B : Nat) (hA : Ints w B A xs) :
    Calls Tryz.prog 151 #[.slice A xs.length cap, .int .i64 x] w fun e w' => (∃ r : Int, e = .returned (.int .i64 r) ∧ hasB xs x = decide (0 ≤ r)) ∧ w = w' := by
  obtain ⟨hlen, hfit, hcells⟩ := hA
  unfold maxLen at hlen
  have HC := Lib.hid hcells
  clear hfit hcells
  go_enter Tryz.func151, Tryz.ntmps151
  go_wp2
  go_loop [5, 8] (fun _ i => ∃ k : Nat, k ≤ xs.length ∧ i = .int .i64 k ∧ ∀ j, j < k → xs.getD j 0 ≠ x) (fun _ i => xs.length - (intOf i).toNat)
  case atStart => exact ⟨0, Nat.zero_le _, rfl, fun j h => by omega⟩
  case round =>
    obtain ⟨k, hk, rfl, hno⟩ := hrel
    have HNO := Lib.hid hno
    clear hno
    by_cases hlt : k < xs.length
    · obtain ⟨b, off, rfl, hB, hc⟩ := HC.out (by omega)
      have hcell := hc k hlt
      obtain ⟨y, hy⟩ : ∃ y, xs.getD k 0 = y := ⟨_, rfl⟩
      rw [hy] at hcell
      have HY := Lib.hid hy
      clear hy hc
      by_cases hxy : x = y
      · have hb : (x == y) = true := beq_iff_eq.2 hxy
        have HF := Lib.hid (hasB_yes hlt (HY.out.trans hxy.symm))
        clear hxy
        go_wp2
        go_ret
        exact ⟨⟨_, rfl, by rw [HF.out]; simp⟩, rfl⟩
      · have hb : (x == y) = false := beq_eq_false_iff_ne.2 hxy
        have HX := Lib.hid hxy
        clear hxy
        go_wp2
        go_round
        case rel =>
          refine ⟨k + 1, by omega, by go_num, fun j hj => ?_⟩
          by_cases e : j = k
          · subst e; rw [HY.out]; exact fun h => HX.out h.symm
          · exact HNO.out j (by omega)
        case measure => simp [intOf]; omega
    · have HF := Lib.hid (hasB_no (fun i hi => HNO.out i (by omega)))
      go_wp2
      go_ret
      exact ⟨⟨_, rfl, by rw [HF.out]; rfl⟩, rfl⟩

set_option maxHeartbeats 400000 in
theorem slices_Contains_any (A : Option Addr) (cap : Nat) (xs : List Int) (x : Int) (w : World) (B : Nat) (hA : Ints w B A xs) :
    Calls Tryz.prog 128 #[.slice A xs.length cap, .int .i64 x] w fun e w' => e = .returned (.bool (hasB xs x)) ∧ w = w' := by
  have HI := Lib.hid (slices_Index_any A cap xs x w B hA)
  clear hA
  generalize hasB xs x = b at HI ⊢
  go_enter Tryz.func128, Tryz.ntmps128
  go_wp2_with fail
  refine HI.out.mono ?_
  rintro e w' ⟨⟨r, rfl, hr⟩, rfl⟩
  go_wp2
  go_ret
  exact ⟨ret_bool (by rw [hr]), rfl⟩

set_option maxRecDepth 100000 in
set_option maxHeartbeats 400000 in
theorem impl_has_any (n k : Int) (A : Option Addr) (cap : Nat) (bs : List Int) (w : World) (hA : Ints w w.heap.size A bs) (hn : 1 ≤ n) (hn2 : n ≤ 1000000000) :
    Calls Tryz.prog 87 #[.agg #[.int .i64 n, .slice A bs.length cap], .int .i64 k] w fun e w' => e = .returned (.bool (hasB bs (k % n))) ∧ Below w.heap.size w w' := by
  have HA := Lib.hid (hA.lift ((Below.refl w.heap.size w).alloc (Nat.le_refl _) (.cells #[.int .i64 n, .slice A bs.length cap] 26)))
  clear hA
  obtain ⟨c0, c1⟩ := box2 (Below.refl (w.heap.size + 1) (w.alloc (.cells #[.int .i64 n, .slice A bs.length cap] 26)))
  go_enter Tryz.func87, Tryz.ntmps87
  go_wp2_with fail
  go_quiet (first | (go_at_call 129; exact Calls.quiet_of_left (impl_remainder_any k n _ hn hn2)) | (go_at_call 128; exact Calls.quiet_of_left (slices_Contains_any A cap bs _ _ _ (HA.out.drewN_ _))))
  go_wp2_with fail
  go_ret
  exact ⟨rfl, Below.drewN_ ((Below.refl w.heap.size w).alloc (Nat.le_refl _) _) _⟩

def allB (xs : List Int) (lo hi : Int) : Bool := xs.all (fun x => inB x lo hi)
theorem allB_no {xs : List Int} {lo hi : Int} {i : Nat} (hi' : i < xs.length) (h : inB (xs.getD i 0) lo hi = false) : allB xs lo hi = false := by
  cases ha : allB xs lo hi
  · rfl
  · exfalso
    unfold allB at ha
    rw [List.all_eq_true] at ha
    rw [List.getD_eq_getElem?_getD, List.getElem?_eq_getElem hi'] at h
    rw [show ((some xs[i]).getD 0 : Int) = xs[i] from rfl, ha _ (List.getElem_mem hi')] at h
    cases h
theorem allB_yes {xs : List Int} {lo hi : Int} (h : ∀ i, i < xs.length → inB (xs.getD i 0) lo hi = true) : allB xs lo hi = true := by
  unfold allB
  rw [List.all_eq_true]
  intro x hx
  obtain ⟨i, hi, rfl⟩ := List.getElem_of_mem hx
  have := h i hi
  rwa [List.getD_eq_getElem?_getD, List.getElem?_eq_getElem hi] at this

set_option maxHeartbeats 400000 in
theorem impl_allWithin1_any (x lo hi : Int) (b c : Nat) (w : World) (hb : w.cell? ⟨b, 0, none⟩ = some (.int .i64 lo)) (hc : w.cell? ⟨c, 0, none⟩ = some (.int .i64 hi)) :
    Calls Tryz.prog 143 #[.int .i64 x, .pointer (some ⟨b, 0, none⟩), .pointer (some ⟨c, 0, none⟩)] w fun e w' => e = .returned (.bool (!inB x lo hi)) ∧ Below w.heap.size w w' := by
  go_enter Tryz.func143, Tryz.ntmps143
  go_wp2_with fail
  try go_quiet (first | (go_at_call 39; exact Calls.quiet_of_left (within_any x lo hi _)))
  go_wp2_with (go_at_call 39; refine (within_any _ _ _ _).mono ?_; rintro e w' ⟨rfl, rfl⟩)
  go_ret
  exact ⟨rfl, by first | exact Below.refl _ _ | exact Below.drewN_ (Below.refl _ _) _⟩

set_option maxHeartbeats 400000 in
theorem slices_IndexFunc_any (A : Option Addr) (cap : Nat) (xs : List Int) (lo hi : Int) (b1 b2 : Nat) (w : World) (hA : Ints w w.heap.size A xs) (h1 : b1 < w.heap.size) (h2 : b2 < w.heap.size)
    (hb : w.cell? ⟨b1, 0, none⟩ = some (.int .i64 lo)) (hc : w.cell? ⟨b2, 0, none⟩ = some (.int .i64 hi)) :
    Calls Tryz.prog 171 #[.slice A xs.length cap, .func (.func 143) #[] #[.pointer (some ⟨b1, 0, none⟩), .pointer (some ⟨b2, 0, none⟩)]] w fun e w' => (∃ r : Int, e = .returned (.int .i64 r) ∧ (!allB xs lo hi) = decide (0 ≤ r)) ∧ Below w.heap.size w w' := by
  obtain ⟨hlen, hfit, hcells⟩ := hA
  unfold maxLen at hlen
  have HC := Lib.hid hcells
  have HCL := Lib.hid (fun (x : Int) (V : World) (hV : Below w.heap.size w V) => impl_allWithin1_any x lo hi b1 b2 V ((hV.cell (p := ⟨b1, 0, none⟩) h1).trans hb) ((hV.cell (p := ⟨b2, 0, none⟩) h2).trans hc))
  clear hfit hcells
  go_enter Tryz.func171, Tryz.ntmps171
  go_wp2
  go_loopw [5, 8] (fun _ i wr => ∃ k : Nat, k ≤ xs.length ∧ i = .int .i64 k ∧ Below w.heap.size w wr ∧ ∀ j, j < k → inB (xs.getD j 0) lo hi = true) (fun _ i _ => xs.length - (intOf i).toNat)
  case atStart => exact ⟨0, Nat.zero_le _, rfl, Below.refl _ _, fun j h => by omega⟩
  case round =>
    obtain ⟨k, hk, rfl, hbel, hno⟩ := hrel
    have HNO := Lib.hid hno
    clear hno
    by_cases hlt : k < xs.length
    · obtain ⟨b, off, rfl, hB, hc⟩ := HC.out (by omega)
      have hcell := hc k hlt
      rw [← hbel.cell (p := ⟨b, off + k, none⟩) hB] at hcell
      obtain ⟨y, hy⟩ : ∃ y, xs.getD k 0 = y := ⟨_, rfl⟩
      rw [hy] at hcell
      have HY := Lib.hid hy
      clear hy hc
      have HCY := Lib.hid (HCL.out y wr hbel)
      cases hxy : inB y lo hi
      · have HF := Lib.hid (allB_no hlt (by rw [HY.out]; exact hxy))
        rw [hxy] at HCY
        clear hxy
        go_wp2_with (go_at_call 143; refine HCY.out.mono ?_; rintro e w1 ⟨rfl, hb1⟩)
        go_ret
        exact ⟨⟨_, rfl, by rw [HF.out]; simp⟩, hbel.trans (hb1.mono hbel.size)⟩
      · have HX := Lib.hid hxy
        rw [hxy] at HCY
        clear hxy
        go_wp2_with (go_at_call 143; refine HCY.out.mono ?_; rintro e w1 ⟨rfl, hb1⟩)
        go_roundw
        case rel =>
          refine ⟨k + 1, by omega, by go_num, hbel.trans (hb1.mono hbel.size), fun j hj => ?_⟩
          by_cases e : j = k
          · subst e; rw [HY.out]; exact HX.out
          · exact HNO.out j (by omega)
        case measure => simp [intOf]; omega
    · have HF := Lib.hid (allB_yes (fun i hi => HNO.out i (by omega)))
      go_wp2
      go_ret
      exact ⟨⟨_, rfl, by rw [HF.out]; rfl⟩, hbel⟩

set_option maxHeartbeats 400000 in
theorem slices_ContainsFunc_any (A : Option Addr) (cap : Nat) (xs : List Int) (lo hi : Int) (b1 b2 : Nat) (w : World) (hA : Ints w w.heap.size A xs) (h1 : b1 < w.heap.size) (h2 : b2 < w.heap.size)
    (hb : w.cell? ⟨b1, 0, none⟩ = some (.int .i64 lo)) (hc : w.cell? ⟨b2, 0, none⟩ = some (.int .i64 hi)) :
    Calls Tryz.prog 142 #[.slice A xs.length cap, .func (.func 143) #[] #[.pointer (some ⟨b1, 0, none⟩), .pointer (some ⟨b2, 0, none⟩)]] w fun e w' => e = .returned (.bool (!allB xs lo hi)) ∧ Below w.heap.size w w' := by
  have HI := Lib.hid (slices_IndexFunc_any A cap xs lo hi b1 b2 w hA h1 h2 hb hc)
  clear hA hb hc
  generalize allB xs lo hi = b at HI ⊢
  go_enter Tryz.func142, Tryz.ntmps142
  go_wp2_with fail
  refine HI.out.mono ?_
  rintro e w' ⟨⟨r, rfl, hr⟩, hb⟩
  go_wp2
  go_ret
  exact ⟨ret_bool (by rw [hr]), hb⟩

set_option maxHeartbeats 400000 in
theorem impl_allWithin_any (A : Option Addr) (cap : Nat) (xs : List Int) (lo hi : Int) (w : World) (hA : Ints w w.heap.size A xs) :
    Calls Tryz.prog 108 #[.slice A xs.length cap, .int .i64 lo, .int .i64 hi] w fun e w' => e = .returned (.bool (allB xs lo hi)) ∧ Below w.heap.size w w' := by
  have HA := Lib.hid hA
  clear hA
  have k1 : ((w.alloc (.cells #[.int .i64 lo] 3)).alloc (.cells #[.int .i64 hi] 3)).cell? ⟨w.heap.size, 0, none⟩ = some (.int .i64 lo) := by
    rw [(((Below.refl (w.heap.size + 1) (w.alloc (.cells #[.int .i64 lo] 3))).alloc (by simp) (.cells #[.int .i64 hi] 3)).cell (p := ⟨w.heap.size, 0, none⟩) (by simp))]
    exact cell_new1 _ _ _
  have k2 : ((w.alloc (.cells #[.int .i64 lo] 3)).alloc (.cells #[.int .i64 hi] 3)).cell? ⟨w.heap.size + 1, 0, none⟩ = some (.int .i64 hi) := by
    simp
  have HK := Lib.hid (And.intro k1 k2)
  clear k1 k2
  go_enter Tryz.func108, Tryz.ntmps108
  go_wp2_with (go_at_call 142; refine (slices_ContainsFunc_any A cap xs lo hi w.heap.size (w.heap.size + 1) _ (HA.out.lift (by repeat (first | exact Below.refl _ _ | assumption | (refine Below.alloc ?_ (by first | exact Nat.le_refl _ | (simp; done) | (simp; omega) | omega) _) | (refine Below.drew ?_) | (refine Below.setCell ?_ (by first | exact Nat.le_refl _ | (simp; done) | (simp; omega) | omega) _)))) (by simp; omega) (by simp) HK.out.1 HK.out.2).mono ?_; rintro e w1 ⟨rfl, hb⟩)
  go_ret
  exact ⟨by simp, (((Below.refl w.heap.size w).alloc (Nat.le_refl _) _).alloc (by simp) _).trans (hb.mono (by simp; omega))⟩

end Go.Proofs.YthookknmeajojaaGreatDoor

namespace Go.Proofs.YthookknmeajojaaGreatDoor
open Go.RowKit
set_option linter.unusedVariables false
set_option linter.unusedSimpArgs false

def RetRh2c (w : World) (n : Int) (xs : List Int) (ok : Bool) (e : Ending) (w' : World) : Prop := ∃ A cap, e = .returned (.tuple #[.agg #[.int .i64 n, .slice A xs.length cap], .bool ok]) ∧ xs.length ≤ cap ∧ RW w' w.heap.size A xs ∧ Below w.heap.size w w'
theorem RetRh2c.plain {w w' : World} {n : Int} {xs : List Int} {ok : Bool} {e : Ending} (h : RetRh2c w n xs ok e w') : RetRh2 w n xs ok e w' := by
  obtain ⟨A, c, a, _, b⟩ := h
  exact ⟨A, c, a, b⟩
theorem OwnI.capE {w : World} {base : Nat} {A : Option Addr} {cap : Nat} {xs : List Int} (h : OwnI w base (.slice A xs.length cap) xs) : xs.length ≤ cap := by
  rcases h.2 with ⟨hv, h0⟩ | ⟨g, cap', cur, hv, _, hh, hnc, hm, hsz, hxs⟩
  · omega
  · injection hv with _ _ h3; omega

set_option maxRecDepth 100000 in
set_option maxHeartbeats 1000000 in
theorem impl_ShiftedEven_gen (n k m : Nat) (w : World) (hn1 : 1 ≤ n) (hn2 : n ≤ 24) (hk : k ≤ n) (hm : m < n) (hkm : k = 0 → m = 0) :
    Calls Tryz.prog 8 #[.int .i64 k, .int .i64 n, .int .i64 m] w (RetRh2c w n (evL k n m k) true) := by
  have hi1 : inB (n : Int) 1 24 = true := inB_true ⟨by omega, by omega⟩
  have hi2 : inB (k : Int) 0 n = true := inB_true ⟨by omega, by omega⟩
  have hi3 : inB (m : Int) 0 ((n : Int) - 1) = true := inB_true ⟨by omega, by omega⟩
  have hwn : IntKind.i64.wrap ((n : Int) - 1) = (n : Int) - 1 := i64w (by omega)
  rcases Nat.eq_zero_or_pos k with rfl | hkp
  · have hm0 := hkm rfl
    subst hm0
    go_enter Tryz.func8, Tryz.ntmps8
    go_wp2_with (go_at_call 39; refine (within_any _ _ _ _).mono ?_; rintro e w' ⟨rfl, rfl⟩)
    go_loopw [38] (fun i wr => i = .int .i64 0 ∧ wr = (w.alloc (.cells #[.int .i64 0, .slice none 0 0] 26)).alloc (.cells #[.int .i64 n, .slice none 0 0] 26)) (fun _ _ => 0)
    case atStart => exact ⟨rfl, rfl⟩
    case round =>
      obtain ⟨rfl, rfl⟩ := hrel
      have HC1 := Lib.hid ((Cells2.new w (.int .i64 0) (.slice none 0 0) 26).alloc (.cells #[.int .i64 n, .slice none 0 0] 26))
      have HBE := Lib.hid (((Below.refl w.heap.size w).alloc (Nat.le_refl _) (.cells #[.int .i64 0, .slice none 0 0] 26)).alloc (by first | exact Nat.le_refl _ | (simp; done) | (simp; omega) | omega) (.cells #[.int .i64 n, .slice none 0 0] 26))
      obtain ⟨f0, f1, f2, f3, f4⟩ := HC1.out
      go_wp2_with fail
      refine bodyPost_ret (v := .tuple #[.agg #[.int .i64 n, .slice none 0 0], .bool true]) (by simp [results, Tryz.results8, go_sem, f0, f1]) rfl ?_
      exact ⟨none, 0, rfl, Nat.le_refl 0, ⟨Nat.zero_le _, fun h => absurd h (Nat.lt_irrefl 0)⟩, ((Below.refl w.heap.size w).alloc (Nat.le_refl _) (.cells #[.int .i64 n, .slice none 0 0] 26)).alloc (by first | exact Nat.le_refl _ | (simp; done) | (simp; omega) | omega) (.cells #[.int .i64 n, .slice none 0 0] 26)⟩
  have hk0 : ((k : Int) = 0) = False := eq_false (by omega)
  have hk00 : (k = 0) = False := eq_false (by omega)
  have hkz : ((k : Int) == 0) = false := beq_eq_false_iff_ne.2 (by omega)
  go_enter Tryz.func8, Tryz.ntmps8
  go_wp2_with (go_at_call 39; refine (within_any _ _ _ _).mono ?_; rintro e w' ⟨rfl, rfl⟩)
  clear hi1 hi2 hi3 hwn
  go_loopw [38] (fun i wr => ∃ (q : Nat) (v : Value), q ≤ k ∧ i = .int .i64 q ∧ Cells2 wr (w.heap.size + 1) (.int .i64 n) v ∧ OwnI wr (w.heap.size + 2) v (evL k n m q) ∧ (∃ u1 u2, Cells2 wr w.heap.size u1 u2) ∧ Below w.heap.size w wr ∧ w.heap.size + 2 ≤ wr.heap.size) (fun i _ => k - (intOf i).toNat)
  case atStart =>
    refine ⟨0, .slice none 0 0, Nat.zero_le _, rfl, Cells2.new_at _ _ _ _ _ (by simp), OwnI.nil _ _, ⟨_, _, (Cells2.new w _ _ _).alloc _⟩, ?_, by simp⟩
    exact ((Below.refl _ _).alloc (Nat.le_refl _) _).alloc (by first | exact Nat.le_refl _ | (simp; done) | (simp; omega) | omega) _
  case round =>
    obtain ⟨q, v, hq, rfl, hc2, hown, ⟨u1, u2, hc1⟩, hbel, hsz⟩ := hrel
    obtain ⟨wo, rfl⟩ : ∃ wo : World, wo = wr := ⟨_, rfl⟩
    have HC2 := Lib.hid hc2
    have HC1 := Lib.hid hc1
    have HOW := Lib.hid hown
    have HBE := Lib.hid hbel
    obtain ⟨g0, g1, g2, g3, g4⟩ := HC2.out
    obtain ⟨A1, c1, rfl⟩ := hown.form
    rw [evL_len] at HC2 g1
    clear hc2 hown hbel hc1
    by_cases hlt : q < k
    · have hqn : q * n ≤ 576 := Nat.le_trans (Nat.mul_le_mul (show q ≤ 24 by omega) hn2) (by decide)
      have HSU := Lib.hid (evL_succ k n m q)
      have hp0 : (q : Int) * (n : Int) = ((q * n : Nat) : Int) := by push_cast; rfl
      obtain ⟨P, hP⟩ : ∃ P, q * n = P := ⟨_, rfl⟩
      rw [hP] at hp0 hqn HSU
      obtain ⟨P2, hP2⟩ : ∃ P2, P + m = P2 := ⟨_, rfl⟩
      rw [hP2] at HSU
      obtain ⟨D, hD⟩ : ∃ D, P2 / k = D := ⟨_, rfl⟩
      rw [hD] at HSU
      have hDl : D ≤ 2000 := by rw [← hD]; exact Nat.le_trans (Nat.div_le_self _ _) (by omega)
      have hw1 : IntKind.i64.wrap ((q : Int) * (n : Int)) = P := by rw [hp0]; exact i64w (by omega)
      have hpm : (P : Int) + (m : Int) = (P2 : Int) := by omega
      have hw2 : IntKind.i64.wrap ((P : Int) + (m : Int)) = (P2 : Int) := by rw [hpm]; exact i64w (by omega)
      have hw2b : IntKind.i64.wrap (P : Int) = (P : Int) := i64w (by omega)
      have hw2c : IntKind.i64.wrap (P2 : Int) = (P2 : Int) := i64w (by omega)
      have hdv : Int.tdiv (P2 : Int) k = (D : Int) := by rw [Int.tdiv_eq_ediv_of_nonneg (by omega), ← hD, Int.natCast_ediv]
      have hw3 : IntKind.i64.wrap (D : Int) = D := i64w (by omega)
      have hll : (evL k n m q).length ≤ 1048576 := by rw [evL_len]; omega
      clear hP hD hP2
      go_wp2_with fail
      have hal := (Below.refl wo.drew.heap.size wo.drew).alloc (Nat.le_refl _) (.cells #[.int .i64 D] 3)
      have HC3 := Lib.hid ((show Cells2 wo.drew (w.heap.size + 1) (.int .i64 n) (.slice A1 q c1) from HC2.out).below hal g4)
      have HC4 := Lib.hid ((show Cells2 wo.drew w.heap.size u1 u2 from HC1.out).below hal (by show w.heap.size < wo.heap.size; omega))
      have HOW3 := Lib.hid ((OwnI.alloc (show OwnI wo.drew (w.heap.size + 2) (.slice A1 (evL k n m q).length c1) (evL k n m q) from HOW.out)) (.cells #[.int .i64 D] 3))
      have HBE3 := Lib.hid ((Below.drew5_ HBE.out).trans (hal.mono (show w.heap.size ≤ wo.heap.size by omega)))
      have HNW := Lib.hid (cell_new1 wo.drew (.int .i64 D) 3)
      have hsd : w.heap.size + 2 ≤ wo.drew.heap.size := hsz
      have hzz : w.heap.size + 2 ≤ (wo.drew.alloc (.cells #[.int .i64 D] 3)).heap.size := by rw [World.size_alloc]; omega
      rw [evL_len] at HOW3
      clear hal
      obtain ⟨r0, r1, r2, r3, _⟩ := HC3.out
      go_region_law (refine step_append_int (by rfl) _ _ (by rfl) (w.heap.size + 2) _ (evL k n m q) (by rfl) HOW3.out _ D (by rfl) HNW.out hll hzz ?_; intro v' w4 hown4 hb4; obtain ⟨A2, c2, rfl⟩ := hown4.form; obtain ⟨s0, s1, s2, s3, _⟩ := HC3.out.below hb4 (by omega))
      all_goals
        have hl4 : (evL k n m q ++ [(D : Int)]).length = (evL k n m q).length + 1 := by simp
        rw [hl4] at hown4
        have hz4 := hb4.size
        have HX := Lib.hid ((HC3.out.below hb4 (by omega)).set1 (.slice A2 ((evL k n m q).length + 1) c2))
        have HY := Lib.hid ((HC4.out.below hb4 (by omega)).far (p := ⟨w.heap.size + 1, 1, none⟩) (by simp) (.slice A2 ((evL k n m q).length + 1) c2))
        have HOW6 := Lib.hid (hown4.far (p := ⟨w.heap.size + 1, 1, none⟩) (by simp) (.slice A2 ((evL k n m q).length + 1) c2))
        have HBE6 := Lib.hid ((HBE3.out.trans (hb4.mono (by omega))).setCell (p := ⟨w.heap.size + 1, 1, none⟩) (by simp) (.slice A2 ((evL k n m q).length + 1) c2))
        have hz6 : w.heap.size + 2 ≤ (w4.setCell ⟨w.heap.size + 1, 1, none⟩ (.slice A2 ((evL k n m q).length + 1) c2)).heap.size := by simp [World.setCell]; omega
        clear hown4 hb4 hl4 r0 r1 r2 r3 s0 s1 s2 s3 g0 g1 g2 g3
        go_wp2_with fail
        go_roundw
        case rel => exact ⟨q + 1, _, by omega, by go_num, HX.out, by rw [HSU.out]; exact HOW6.out, ⟨u1, u2, HY.out⟩, HBE6.out, hz6⟩
        case measure => simp [intOf]; omega
    · have hqe : q = k := by omega
      subst hqe
      obtain ⟨f0, f1, f2, f3, f4⟩ := HC1.out
      have hcq : q ≤ c1 := by have := OwnI.capE HOW.out; rwa [evL_len] at this
      rw [evL_len] at HOW
      go_wp2_with fail
      refine bodyPost_ret (v := .tuple #[.agg #[.int .i64 n, .slice A1 q c1], .bool true]) (by simp [results, Tryz.results8, go_sem, f0, f1]) rfl ?_
      refine ⟨A1, c1, by rw [evL_len], by rw [evL_len]; exact hcq, ?_, ?_⟩
      · have hr := ((HOW.out.far (p := ⟨w.heap.size, 0, none⟩) (by simp) (.int .i64 n)).far (p := ⟨w.heap.size, 1, none⟩) (by simp) (.slice A1 q c1))
        have hr2 := OwnI.rw_ (xs := evL q n m q) (cap := c1) (A := A1) (by rw [evL_len]; exact hr) (by rw [evL_len]; omega)
        exact hr2.mono (by omega)
      · exact (HBE.out.setCell (Nat.le_refl _) _).setCell (Nat.le_refl _) _
theorem impl_ShiftedEven_any (n k : Nat) (w : World) (hn1 : 1 ≤ n) (hn2 : n ≤ 24) (hk : k ≤ n) :
    Calls Tryz.prog 8 #[.int .i64 k, .int .i64 n, .int .i64 0] w (RetRh2 w n (evB n k) true) := (impl_ShiftedEven_gen n k 0 w hn1 hn2 hk (by omega) (fun _ => rfl)).mono fun _ _ h => h.plain

theorem impl_EvenRhythm_cap (n k : Nat) (w : World) (hn1 : 1 ≤ n) (hn2 : n ≤ 24) (hk : k ≤ n) :
    Calls Tryz.prog 6 #[.int .i64 k, .int .i64 n] w (RetRh2c w n (evB n k) true) := by
  have HS := Lib.hid (fun V => show Calls Tryz.prog 8 #[.int .i64 k, .int .i64 n, .int .i64 0] V (RetRh2c V n (evB n k) true) from impl_ShiftedEven_gen n k 0 V hn1 hn2 hk (by omega) (fun _ => rfl))
  have HC := Lib.hid (Cells2.new w (.int .i64 0) (.slice none 0 0) 26)
  have HB := Lib.hid ((Below.refl w.heap.size w).alloc (Nat.le_refl _) (.cells #[.int .i64 0, .slice none 0 0] 26))
  have HL := Lib.hid (evB_len n k)
  generalize evB n k = L at HS HL ⊢
  go_enter Tryz.func6, Tryz.ntmps6
  go_wp2_with fail
  refine (HS.out _).mono ?_
  rintro e w1 ⟨A1, c1, rfl, hcp, hrw, hb⟩
  obtain ⟨f0, f1, f2, f3, f4⟩ := HC.out.below hb HC.out.2.2.2.2
  have HB1 := Lib.hid (HB.out.trans (hb.mono HB.out.size))
  have HRW := Lib.hid hrw
  clear hb hrw
  go_wp2_with fail
  refine bodyPost_ret (v := .tuple #[.agg #[.int .i64 n, .slice A1 L.length c1], .bool true]) (by simp [results, Tryz.results6, go_sem, f0, f1]) rfl ?_
  exact ⟨A1, c1, rfl, hcp, (((HRW.out.far (p := ⟨w.heap.size, 0, none⟩) (by simp) _).far (p := ⟨w.heap.size, 1, none⟩) (by simp) _)).mono HB.out.size, (HB1.out.setCell (Nat.le_refl _) _).setCell (Nat.le_refl _) _⟩

theorem impl_EvenRhythm_any (n k : Nat) (w : World) (hn1 : 1 ≤ n) (hn2 : n ≤ 24) (hk : k ≤ n) :
    Calls Tryz.prog 6 #[.int .i64 k, .int .i64 n] w (RetRh2 w n (evB n k) true) := (impl_EvenRhythm_cap n k w hn1 hn2 hk).mono fun _ _ h => h.plain

end Go.Proofs.YthookknmeajojaaGreatDoor

namespace Go.Proofs.YthookknmeajojaaGreatDoor
open Go.RowKit
set_option linter.unusedVariables false
set_option linter.unusedSimpArgs false

theorem Below.drewO_ {B : Nat} {a w : World} (h : Below B a w) : Below B a w.drew := ⟨h.os, h.tape, h.output, h.size, h.block⟩

set_option maxRecDepth 100000 in
set_option maxHeartbeats 2000000 in
theorem impl_others_any (N : Nat) (A : Option Addr) (cap : Nat) (a : List Int) (w : World) (hA : Ints w w.heap.size A a) (hn1 : 1 ≤ N) (hn2 : N ≤ 24) :
    Calls Tryz.prog 50 #[.agg #[.int .i64 N, .slice A a.length cap]] w (RetRh1 w N (othL N a N)) := by
  have HH := Lib.hid (fun (j : Nat) V h => impl_has_any (N : Int) (j : Int) A cap a V h (by omega) (by omega))
  have HLN := Lib.hid (fun j => othL_len (N := N) (a := a) j)
  have HYE := Lib.hid (fun j h => othL_yes (N := N) (a := a) (q := j) h)
  have HNO := Lib.hid (fun j h => othL_no (N := N) (a := a) (q := j) h)
  have HB0 := Lib.hid ((((Below.refl w.heap.size w).alloc (Nat.le_refl _) (.cells #[.int .i64 N, .slice A (a).length cap] 26)).alloc (by first | exact Nat.le_refl _ | (simp; done) | (simp; omega) | omega) (.cells #[.int .i64 0, .slice none 0 0] 26)).alloc (by first | exact Nat.le_refl _ | (simp; done) | (simp; omega) | omega) (.cells #[.int .i64 N, .slice none 0 0] 26))
  have HVA := Lib.hid (((Hav.boxed hA N cap).alloc (.cells #[.int .i64 0, .slice none 0 0] 26)).alloc (.cells #[.int .i64 N, .slice none 0 0] 26))
  have HZ := Lib.hid ((Cells2.new_at (w.alloc (.cells #[.int .i64 N, .slice A (a).length cap] 26)) (.int .i64 0) (.slice none 0 0) 26 (w.heap.size + 1) (by simp)).alloc (.cells #[.int .i64 N, .slice none 0 0] 26))
  have HO := Lib.hid (Cells2.new_at ((w.alloc (.cells #[.int .i64 N, .slice A (a).length cap] 26)).alloc (.cells #[.int .i64 0, .slice none 0 0] 26)) (.int .i64 N) (.slice none 0 0) 26 (w.heap.size + 2) (by simp))
  have HAI := Lib.hid hA
  clear hA
  obtain ⟨⟨p0, p1, _, _, _⟩, _⟩ := HVA.out
  go_enter Tryz.func50, Tryz.ntmps50
  go_wp2_with fail
  generalize ((w.alloc (.cells #[.int .i64 N, .slice A (a).length cap] 26)).alloc (.cells #[.int .i64 0, .slice none 0 0] 26)).alloc (.cells #[.int .i64 N, .slice none 0 0] 26) = W at *
  have hWs : w.heap.size + 3 ≤ W.heap.size := HO.out.2.2.2.2
  have HV0 := HVA
  clear HVA p0 p1
  go_loopw [10] (fun i wr => ∃ (j : Nat) (v : Value), j ≤ N ∧ i = .int .i64 j ∧ Hav wr N w.heap.size A cap a ∧ (∃ u1 u2, Cells2 wr (w.heap.size + 1) u1 u2) ∧ Cells2 wr (w.heap.size + 2) (.int .i64 N) v ∧ OwnI wr (w.heap.size + 3) v (othL N a j) ∧ Below w.heap.size w wr) (fun i _ => N - (intOf i).toNat)
  case atStart => exact ⟨0, .slice none 0 0, Nat.zero_le _, rfl, HV0.out, ⟨_, _, HZ.out⟩, HO.out, OwnI.nil _ _, HB0.out⟩
  case round =>
    obtain ⟨j, v, hj, rfl, hva, ⟨u1, u2, hz⟩, ho, hown, hbel⟩ := hrel
    obtain ⟨wo, rfl⟩ : ∃ wo : World, wo = wr := ⟨_, rfl⟩
    obtain ⟨A1, c1, rfl⟩ := hown.form
    have HBW := Lib.hid hbel
    have HVA := Lib.hid hva
    have HZR := Lib.hid hz
    have HOC := Lib.hid ho
    have HOW := Lib.hid hown
    have hll := HLN.out j
    have hsz : w.heap.size + 3 ≤ wo.heap.size := ho.2.2.2.2
    clear hva hz ho hown hbel HV0 HZ HO
    obtain ⟨⟨p0, p1, _, _, _⟩, _⟩ := HVA.out
    obtain ⟨g0, g1, g2, g3, g4⟩ := HOC.out
    by_cases hlt : j < N
    · have hji : (j : Int) < (N : Int) := by omega
      have HHJ := Lib.hid (HH.out j)
      rw [Int.emod_eq_of_lt (by omega) (by omega)] at HHJ
      obtain ⟨r, hr⟩ : ∃ r, hasB a (j : Int) = r := ⟨_, rfl⟩
      have HR := Lib.hid hr
      rw [hr] at HHJ
      clear hr
      cases r
      · have HSU := Lib.hid (HYE.out j HR.out)
        go_wp2_with fail
        have HBX := HBW
        have HLA := HOW
        have hlo := And.intro HOC.out.2.2.2.2 HZR.out.2.2.2.2
        clear HOW HBW
        have HBW := Lib.hid (Below.refl wo.heap.size wo)
        refine (HHJ.out _ HVA.out.2).mono ?_
        rintro e w1 ⟨rfl, hb⟩
        have hz1 := hb.size
        have HOC := Lib.hid (HOC.out.below hb hlo.1)
        have HZR := Lib.hid (HZR.out.below hb hlo.2)
        have HLA := Lib.hid (HLA.out.grown hb)
        have HBW := Lib.hid (HBW.out.trans (hb.mono HBW.out.size))
        try have HVA := Lib.hid (HVA.out.lift hb)
        try have HVB := Lib.hid (HVB.out.lift hb)
        try have HVC := Lib.hid (HVC.out.lift hb)
        try have HVT := Lib.hid (HVT.out.lift hb)
        try have HVX := Lib.hid (HVX.out.lift hb)
        try have HVM := Lib.hid (HVM.out.lift hb)
        try have HVF := Lib.hid (HVF.out.lift hb)
        try have HVP := Lib.hid (HVP.out.lift hb)
        try have HVQ := Lib.hid (HVQ.out.lift hb)
        try have HLA := Lib.hid (HLA.out.lift hb)
        try have HLW := Lib.hid (HLW.out.lift hb)
        try have HI := Lib.hid (HI.out.lift hb)
        try have HRB := Lib.hid (HRB.out.trans (hb.mono HRB.out.size))
        try have HWW := Lib.hid (HWW.out.trans (hb.mono HWW.out.size))
        clear hb
        clear p0 p1 g0 g1 g2 g3
        obtain ⟨⟨p0, p1, _, _, _⟩, _⟩ := HVA.out
        obtain ⟨g0, g1, g2, g3, _⟩ := HOC.out
        have hal := (Below.refl w1.heap.size w1).alloc (Nat.le_refl _) (.cells #[.int .i64 j] 3)
        have hlo2 : w.heap.size + 3 ≤ w1.heap.size := by omega
        have HOC3 := Lib.hid (HOC.out.below hal (by omega))
        have HZR3 := Lib.hid (HZR.out.below hal (by omega))
        have HVA3 := Lib.hid (HVA.out.lift hal)
        have HLA3 := Lib.hid (HLA.out.alloc (.cells #[.int .i64 j] 3))
        have HBE3 := Lib.hid ((HBX.out.trans (HBW.out.mono (by omega))).trans (hal.mono (by omega)))
        have HNW := Lib.hid (cell_new1 w1 (.int .i64 j) 3)
        have hzz : w.heap.size + 3 ≤ (w1.alloc (.cells #[.int .i64 j] 3)).heap.size := by rw [World.size_alloc]; omega
        clear hal
        go_wp2_with (at_builtin; refine wpList_append_int rfl _ _ rfl (w.heap.size + 3) _ (othL N a j) rfl HLA3.out _ _ rfl HNW.out (by omega) hzz ?_; intro v' w4 hown4 hb4; obtain ⟨A2, c2, rfl⟩ := hown4.form; obtain ⟨s0, s1, s2, s3, _⟩ := HOC3.out.below hb4 (by omega))
        all_goals
          have hl4 : (othL N a j ++ [(j : Int)]).length = (othL N a j).length + 1 := by simp
          rw [hl4] at hown4
          have hz4 := hb4.size
          have HX := Lib.hid ((HOC3.out.below hb4 (by omega)).set1 (.slice A2 ((othL N a j).length + 1) c2))
          have HY := Lib.hid ((HZR3.out.below hb4 (by omega)).far (p := ⟨w.heap.size + 2, 1, none⟩) (by simp) (.slice A2 ((othL N a j).length + 1) c2))
          have HP := Lib.hid ((HVA3.out.1.below hb4 (by omega)).far (p := ⟨w.heap.size + 2, 1, none⟩) (by simp) (.slice A2 ((othL N a j).length + 1) c2))
          have HOW6 := Lib.hid (hown4.far (p := ⟨w.heap.size + 2, 1, none⟩) (by simp) (.slice A2 ((othL N a j).length + 1) c2))
          have HBE6 := Lib.hid ((HBE3.out.trans (hb4.mono (by omega))).setCell (p := ⟨w.heap.size + 2, 1, none⟩) (by simp) (.slice A2 ((othL N a j).length + 1) c2))
          have HIN6 := Lib.hid ((HAI.out.below HBE6.out).mono HBE6.out.size)
          clear hown4 hb4 hl4 s0 s1 s2 s3 g0 g1 g2 g3
          go_roundw
          case rel => exact ⟨j + 1, _, by omega, by go_num, ⟨HP.out, HIN6.out⟩, ⟨u1, u2, HY.out⟩, HX.out, by rw [HSU.out]; exact HOW6.out, HBE6.out⟩
          case measure => simp [intOf]; omega
      · have HSU := Lib.hid (HNO.out j HR.out)
        go_wp2_with fail
        have hlo := And.intro HOC.out.2.2.2.2 HZR.out.2.2.2.2
        refine (HHJ.out _ HVA.out.2).mono ?_
        rintro e w1 ⟨rfl, hb⟩
        have HOC := Lib.hid (HOC.out.below hb hlo.1)
        have HZR := Lib.hid (HZR.out.below hb hlo.2)
        have HOW := Lib.hid (HOW.out.grown hb)
        have HVA := Lib.hid (HVA.out.lift hb)
        have HBW := Lib.hid (HBW.out.trans (hb.mono (by omega)))
        clear hb
        go_wp2_with fail
        go_roundw
        case rel => exact ⟨j + 1, _, by omega, by go_num, HVA.out, ⟨u1, u2, HZR.out⟩, HOC.out, by rw [HSU.out]; exact HOW.out, HBW.out⟩
        case measure => simp [intOf]; omega
    · have hqe : j = N := by omega
      subst hqe
      obtain ⟨f0, f1, f2, f3, f4⟩ := HZR.out
      go_wp2_with fail
      refine bodyPost_ret (v := .agg #[.int .i64 j, .slice A1 (othL j a j).length c1]) (by simp [results, Tryz.results50, go_sem, f0, f1]) rfl ?_
      refine ⟨A1, c1, rfl, ?_, ?_⟩
      · have hr := ((HOW.out.far (p := ⟨w.heap.size + 1, 0, none⟩) (by simp) (.int .i64 j)).far (p := ⟨w.heap.size + 1, 1, none⟩) (by simp) (.slice A1 (othL j a j).length c1))
        have hr2 := OwnI.rw_ hr (by omega)
        exact hr2.mono (by omega)
      · exact (HBW.out.setCell (by simp) _).setCell (by simp) _

set_option maxRecDepth 100000 in
set_option maxHeartbeats 1000000 in
theorem impl_OtherRhythm_ok (N : Nat) (A : Option Addr) (cap : Nat) (bs : List Int) (w : World) (hA : Ints w w.heap.size A bs) (hok : RhOk N bs) :
    Calls Tryz.prog 18 #[.agg #[.int .i64 N, .slice A bs.length cap]] w (RetRh2 w N (othL N bs N) true) := by
  have hn1 : 1 ≤ N := by have := hok.1; omega
  have hn2 : N ≤ 24 := by have := hok.2.1; omega
  have hRO := fun V h => impl_RhythmOk_any N A cap bs V (by unfold Fits; omega) h
  rw [rhB_iff.2 hok] at hRO
  have HRO := Lib.hid hRO
  have HM := Lib.hid (fun V h => impl_others_any N A cap bs V h hn1 hn2)
  generalize othL N bs N = R at HM ⊢
  have hal0 := (Below.refl w.heap.size w).alloc (Nat.le_refl _) (.cells #[.int .i64 N, .slice A bs.length cap] 26)
  have hal2 := hal0.alloc hal0.size (.cells #[.int .i64 0, .slice none 0 0] 26)
  have HC0 := Lib.hid ((Cells2.new w (.int .i64 N) (.slice A bs.length cap) 26).alloc (.cells #[.int .i64 0, .slice none 0 0] 26))
  have HZ0 := Lib.hid (Cells2.new_at (w.alloc (.cells #[.int .i64 N, .slice A bs.length cap] 26)) (.int .i64 0) (.slice none 0 0) 26 (w.heap.size + 1) (by simp))
  have HB0 := Lib.hid hal2
  have HI0 := Lib.hid (hA.lift hal2)
  clear hA hal0 hal2 hRO hok
  obtain ⟨c0, c1, _, _, _⟩ := HC0.out
  obtain ⟨z0, z1, _, _, _⟩ := HZ0.out
  go_enter Tryz.func18, Tryz.ntmps18
  go_wp2_with fail
  refine (HRO.out _ HI0.out).mono ?_
  rintro e w1 ⟨rfl, hb⟩
  have HB1 := Lib.hid (HB0.out.trans (hb.mono HB0.out.size))
  have HC1 := Lib.hid (HC0.out.below hb HC0.out.2.2.2.2)
  have HZ1 := Lib.hid (HZ0.out.below hb HZ0.out.2.2.2.2)
  have HI1 := Lib.hid (HI0.out.lift hb)
  clear hb c0 c1 z0 z1
  obtain ⟨c0, c1, _, _, _⟩ := HC1.out
  obtain ⟨z0, z1, _, _, _⟩ := HZ1.out
  go_wp2_with fail
  refine (HM.out _ HI1.out).mono ?_
  rintro e w2 ⟨A2, c2, rfl, hr, hb⟩
  have HB2 := Lib.hid (HB1.out.trans (hb.mono HB1.out.size))
  have HZ2 := Lib.hid (HZ1.out.below hb HZ1.out.2.2.2.2)
  have HR2 := Lib.hid hr
  have hlt : w.heap.size + 1 < w1.heap.size := HZ1.out.2.2.2.2
  clear hb hr c0 c1 z0 z1
  obtain ⟨z0, z1, y0, y1, _⟩ := HZ2.out
  have HZ3 := Lib.hid ((HZ2.out.set0 (.int .i64 N)).set1 (.slice A2 R.length c2))
  obtain ⟨x0, x1, _, _, _⟩ := HZ3.out
  have HF2 := Lib.hid ((HB2.out.setCell (p := ⟨w.heap.size + 1, 0, none⟩) (by show w.heap.size ≤ w.heap.size + 1; omega) (.int .i64 N)).setCell (p := ⟨w.heap.size + 1, 1, none⟩) (by show w.heap.size ≤ w.heap.size + 1; omega) (.slice A2 R.length c2))
  go_wp2_with fail
  refine bodyPost_ret (v := .tuple #[.agg #[.int .i64 N, .slice A2 R.length c2], .bool true]) (by simp [results, Tryz.results18, go_sem, x0, x1]) rfl ?_
  exact ⟨_, _, rfl, ((HR2.out.far (p := ⟨w.heap.size + 1, 0, none⟩) hlt _).far (p := ⟨w.heap.size + 1, 1, none⟩) hlt _).mono (by omega), HF2.out⟩

end Go.Proofs.YthookknmeajojaaGreatDoor

namespace Go.Proofs.YthookknmeajojaaGreatDoor
open Go.RowKit
set_option linter.unusedVariables false
set_option linter.unusedSimpArgs false

section
variable {N : Nat} {a : List Int}
theorem inn_step (h : RhOk N a) (i : Nat) (hi : i < a.length) {j : Nat} (hj : j < i) : 0 ≤ (a.getD i 0 - a.getD j 0) * (N + a.getD j 0 - a.getD i 0) ∧ (a.getD i 0 - a.getD j 0) * (N + a.getD j 0 - a.getD i 0) ≤ 576 := by
  have h2 : N ≤ 24 := by have := h.2.1; omega
  have h1 := rhok_lt h hj hi
  have r1 := h.2.2.1 i hi
  have r2 := h.2.2.1 j (by omega)
  obtain ⟨x, hx⟩ : ∃ x : Nat, a.getD i 0 - a.getD j 0 = x := ⟨(a.getD i 0 - a.getD j 0).toNat, by omega⟩
  obtain ⟨y, hy⟩ : ∃ y : Nat, (N : Int) + a.getD j 0 - a.getD i 0 = y := ⟨((N : Int) + a.getD j 0 - a.getD i 0).toNat, by omega⟩
  rw [hx, hy]
  have := Nat.mul_le_mul (show x ≤ 24 by omega) (show y ≤ 24 by omega)
  constructor
  · exact Int.natCast_nonneg (x * y)
  · have h3 : ((x * y : Nat) : Int) ≤ 576 := by omega
    rwa [Int.natCast_mul] at h3
theorem inn_le (h : RhOk N a) (i : Nat) (hi : i < a.length) : ∀ j, j ≤ i → 0 ≤ innS N a (a.getD i 0) j ∧ innS N a (a.getD i 0) j ≤ 576 * j
  | 0, _ => ⟨Int.le_refl _, by simp [innS]⟩
  | j + 1, hj => by
    have ih := inn_le h i hi j (by omega)
    have := inn_step h i hi (show j < i by omega)
    unfold innS
    omega
theorem spr_le (h : RhOk N a) : ∀ i, i ≤ a.length → 0 ≤ sprN N a i ∧ sprN N a i ≤ 20000 * i
  | 0, _ => ⟨Int.le_refl _, by simp [sprN]⟩
  | i + 1, hi => by
    have ih := spr_le h i (by omega)
    have := inn_le h i (by omega) i (Nat.le_refl _)
    have hl := rhok_len h
    have h2 : N ≤ 24 := by have := h.2.1; omega
    unfold sprN
    omega
end

set_option maxRecDepth 100000 in
set_option maxHeartbeats 2000000 in
theorem impl_SpreadOf_ok (N : Nat) (A : Option Addr) (cap : Nat) (bs : List Int) (w : World) (hA : Ints w w.heap.size A bs) (hok : RhOk N bs) (hcap : bs.length ≤ cap) :
    Calls Tryz.prog 12 #[.agg #[.int .i64 N, .slice A bs.length cap]] w fun e w' => e = .returned (.int .i64 (sprV N bs)) ∧ Below w.heap.size w w' := by
  have hn1 : 1 ≤ N := by have := hok.1; omega
  have hn2 : N ≤ 24 := by have := hok.2.1; omega
  have hl := rhok_len hok
  have hRO := fun V h => impl_RhythmOk_any N A cap bs V (by unfold Fits; omega) h
  rw [rhB_iff.2 hok] at hRO
  have HRO := Lib.hid hRO
  have HOK := Lib.hid hok
  have HSL := Lib.hid (fun i h => spr_le hok i h)
  have HIL := Lib.hid (fun i hi j hj => inn_le hok i hi j hj)
  have HST := Lib.hid (fun i hi j (hj : j < i) => inn_step hok i hi hj)
  have HB0 := Lib.hid ((Below.refl w.heap.size w).alloc (Nat.le_refl _) (.cells #[.int .i64 N, .slice A (bs).length cap] 26))
  have HVA := Lib.hid (Hav.boxed hA N cap)
  clear hA hok hRO
  obtain ⟨⟨p0, p1, _, _, _⟩, _⟩ := HVA.out
  go_enter Tryz.func12, Tryz.ntmps12
  go_wp2_with fail
  refine (HRO.out _ HVA.out.2).mono ?_
  rintro e w1 ⟨rfl, hb⟩
  have HB1 := Lib.hid (HB0.out.trans (hb.mono HB0.out.size))
  have HVA := Lib.hid (HVA.out.lift hb)
  clear hb p0 p1
  obtain ⟨⟨p0, p1, _, _, _⟩, _⟩ := HVA.out
  go_wp2_with fail
  go_loop [3, 14] (fun m i => ∃ k : Nat, k ≤ bs.length ∧ i = .int .i64 k ∧ m = .int .i64 (sprN N bs k)) (fun _ i => bs.length - (intOf i).toNat)
  case atStart => exact ⟨0, Nat.zero_le _, rfl, rfl⟩
  case round =>
    obtain ⟨k, hk, rfl, rfl⟩ := hrel
    by_cases hlt : k < bs.length
    · obtain ⟨b, off, rfl, hB, hc⟩ := HVA.out.2.2.2 (by omega)
      have HC := Lib.hid hc
      have hcell := hc k hlt
      have hr1 := HOK.out.2.2.1 k hlt
      have HST := Lib.hid (fun j hj => HST.out k hlt j hj)
      have HIL := Lib.hid (fun j hj => HIL.out k hlt j hj)
      have hsl := HSL.out k hk
      have HSU := Lib.hid (show sprN N bs (k + 1) = sprN N bs k + innS N bs (bs.getD k 0) k from rfl)
      obtain ⟨x, hx⟩ : ∃ x, bs.getD k 0 = x := ⟨_, rfl⟩
      rw [hx] at hcell hr1 HSU HST HIL
      obtain ⟨T, hT⟩ : ∃ T, sprN N bs k = T := ⟨_, rfl⟩
      rw [hT] at hsl HSU ⊢
      clear hc hx hT
      have hkc : k ≤ cap := by omega
      go_wp2_with fail
      go_loop [3, 24] (fun m i => ∃ j : Nat, j ≤ k ∧ i = .int .i64 j ∧ m = .int .i64 (T + innS N bs x j)) (fun _ i => k - (intOf i).toNat)
      case atStart => exact ⟨0, Nat.zero_le _, rfl, by simp [innS]⟩
      case round =>
        obtain ⟨j, hj, rfl, rfl⟩ := hrel
        have hil := HIL.out j hj
        by_cases hjk : j < k
        · have hcj := HC.out j (by omega)
          have hr2 := HOK.out.2.2.1 j (by omega)
          have hst := HST.out j hjk
          have HSV := Lib.hid (show innS N bs x (j + 1) = innS N bs x j + (x - bs.getD j 0) * (N + bs.getD j 0 - x) from rfl)
          obtain ⟨y, hy⟩ : ∃ y, bs.getD j 0 = y := ⟨_, rfl⟩
          rw [hy] at hcj hr2 hst HSV
          obtain ⟨I, hI⟩ : ∃ I, innS N bs x j = I := ⟨_, rfl⟩
          rw [hI] at hil HSV ⊢
          obtain ⟨P, hP⟩ : ∃ P, (x - y) * ((N : Int) + y - x) = P := ⟨_, rfl⟩
          rw [hP] at hst HSV
          clear hy hI
          have hji : (j : Int) < (k : Int) := by omega
          have hw1 : IntKind.i64.wrap (x - y) = x - y := i64w (by omega)
          have hw2 : IntKind.i64.wrap ((N : Int) + y) = (N : Int) + y := i64w (by omega)
          have hw3 : IntKind.i64.wrap ((N : Int) + y - x) = (N : Int) + y - x := i64w (by omega)
          have hw4 : IntKind.i64.wrap ((x - y) * ((N : Int) + y - x)) = P := by rw [hP]; exact i64w (by omega)
          have hw5 : IntKind.i64.wrap (T + I + P) = T + I + P := i64w (by omega)
          clear hP
          go_wp2_with fail
          go_round
          case rel => exact ⟨j + 1, by omega, by go_num, by rw [HSV.out]; congr 1; omega⟩
          case measure => simp [intOf]; omega
        · have hjk2 : j = k := by omega
          subst hjk2
          go_wp2_with fail
          go_round
          case rel => exact ⟨j + 1, by omega, by go_num, by rw [HSU.out]⟩
          case measure => simp [intOf]; omega
    · have hke : k = bs.length := by omega
      subst hke
      go_wp2_with fail
      go_ret
      exact ⟨rfl, HB1.out⟩

set_option maxRecDepth 100000 in
set_option maxHeartbeats 1000000 in
theorem impl_CountBeats_ok (N : Nat) (A : Option Addr) (cap : Nat) (bs : List Int) (w : World) (hA : Ints w w.heap.size A bs) (hok : RhOk N bs) :
    Calls Tryz.prog 9 #[.agg #[.int .i64 N, .slice A bs.length cap]] w fun e w' => e = .returned (.int .i64 bs.length) ∧ Below w.heap.size w w' := by
  have hn2 : N ≤ 24 := by have := hok.2.1; omega
  have hl := rhok_len hok
  have hRO := fun V h => impl_RhythmOk_any N A cap bs V (by unfold Fits; omega) h
  rw [rhB_iff.2 hok] at hRO
  have HRO := Lib.hid hRO
  have HB0 := Lib.hid ((Below.refl w.heap.size w).alloc (Nat.le_refl _) (.cells #[.int .i64 N, .slice A (bs).length cap] 26))
  have HVA := Lib.hid (Hav.boxed hA N cap)
  clear hA hok hRO
  obtain ⟨⟨p0, p1, _, _, _⟩, _⟩ := HVA.out
  go_enter Tryz.func9, Tryz.ntmps9
  go_wp2_with fail
  refine (HRO.out _ HVA.out.2).mono ?_
  rintro e w1 ⟨rfl, hb⟩
  have HB1 := Lib.hid (HB0.out.trans (hb.mono HB0.out.size))
  have HVA := Lib.hid (HVA.out.lift hb)
  clear hb p0 p1
  obtain ⟨⟨p0, p1, _, _, _⟩, _⟩ := HVA.out
  go_wp2_with fail
  go_ret
  exact ⟨rfl, HB1.out⟩

set_option maxRecDepth 100000 in
set_option maxHeartbeats 1000000 in
theorem impl_MostSpread_ok (N k : Nat) (w : World) (hn1 : 1 ≤ N) (hn2 : N ≤ 24) (hk : k ≤ N) :
    Calls Tryz.prog 13 #[.int .i64 k, .int .i64 N] w fun e w' => e = .returned (.int .i64 (sprV N (evB N k))) ∧ Below w.heap.size w w' := by
  have hok := evB_ok hn1 hn2 hk
  have HEV := Lib.hid (fun V => impl_EvenRhythm_cap N k V hn1 hn2 hk)
  have HSP := Lib.hid (fun A c V h1 h2 => impl_SpreadOf_ok N A c (evB N k) V h1 hok h2)
  have HFT := Lib.hid (show ∀ x ∈ evB N k, Fits x from fun x hx => by have := rhok_range hok x hx; unfold Fits; omega)
  generalize evB N k = E at *
  clear hok
  go_enter Tryz.func13, Tryz.ntmps13
  go_wp2_with fail
  refine (HEV.out _).mono ?_
  rintro e w1 ⟨A, c, rfl, hcap, hrw, hb⟩
  have HVA := Lib.hid (Hav.boxed (hrw.ints HFT.out) N c)
  have HB1 := Lib.hid (hb.alloc hb.size (.cells #[.int .i64 N, .slice A (E).length c] 26))
  have HCP := Lib.hid hcap
  clear hrw hb hcap
  obtain ⟨⟨p0, p1, _, _, _⟩, _⟩ := HVA.out
  go_wp2_with fail
  refine (HSP.out _ _ _ HVA.out.2 HCP.out).mono ?_
  rintro e w2 ⟨rfl, hb⟩
  have HB2 := Lib.hid (HB1.out.trans (hb.mono HB1.out.size))
  clear hb
  go_wp2_with fail
  go_ret
  exact ⟨rfl, HB2.out⟩

set_option maxRecDepth 100000 in
set_option maxHeartbeats 1000000 in
theorem impl_CountEven_ok (N k : Nat) (w : World) (hn1 : 1 ≤ N) (hn2 : N ≤ 24) (hk : k ≤ N) :
    Calls Tryz.prog 15 #[.int .i64 k, .int .i64 N] w fun e w' => e = .returned (.int .i64 (perV N (evB N k))) ∧ Below w.heap.size w w' := by
  have hok := evB_ok hn1 hn2 hk
  have HEV := Lib.hid (fun V => impl_EvenRhythm_cap N k V hn1 hn2 hk)
  have HSP := Lib.hid (fun A c V h1 => impl_period_any N A c (evB N k) V h1 hok)
  have HFT := Lib.hid (show ∀ x ∈ evB N k, Fits x from fun x hx => by have := rhok_range hok x hx; unfold Fits; omega)
  generalize evB N k = E at *
  clear hok
  go_enter Tryz.func15, Tryz.ntmps15
  go_wp2_with fail
  refine (HEV.out _).mono ?_
  rintro e w1 ⟨A, c, rfl, hcap, hrw, hb⟩
  have HVA := Lib.hid (Hav.boxed (hrw.ints HFT.out) N c)
  have HB1 := Lib.hid (hb.alloc hb.size (.cells #[.int .i64 N, .slice A (E).length c] 26))
  clear hrw hb hcap
  obtain ⟨⟨p0, p1, _, _, _⟩, _⟩ := HVA.out
  go_wp2_with fail
  refine (HSP.out _ _ _ HVA.out.2).mono ?_
  rintro e w2 ⟨rfl, hb⟩
  have HB2 := Lib.hid (HB1.out.trans (hb.mono HB1.out.size))
  clear hb
  go_wp2_with fail
  go_ret
  exact ⟨rfl, HB2.out⟩

end Go.Proofs.YthookknmeajojaaGreatDoor

