/-
  The law FnEven: the walk.
-/
import Derived.Test.YthookknmeajojaaGreatDoorEaJ
import Derived.Test.YthookknmeajojaaGreatDoorEvG
import Derived.Test.YthookknmeajojaaGreatDoorEaM
import Derived.Test.YthookknmeajojaaGreatDoorIsBa
import Derived.Test.YthookknmeajojaaGreatDoorMkOf
import Derived.Test.YthookknmeajojaaGreatDoorEaF
import Derived.BigQuiet
namespace Go.Proofs.YthookknmeajojaaGreatDoor
open Go.RowKit
set_option linter.unusedVariables false
set_option linter.unusedSimpArgs false

/-- What stays through calls. -/
def Stb (P : World → Prop) : Prop := ∀ V V', P V → Below V.heap.size V V' → P V'
theorem Stb.and {P Q : World → Prop} (h : Stb P) (k : Stb Q) : Stb fun V => P V ∧ Q V := fun V V' p b => ⟨h V V' p.1 b, k V V' p.2 b⟩
theorem stb_ints (A : Option Addr) (xs : List Int) : Stb fun V => Ints V V.heap.size A xs := fun _ _ h hb => h.lift hb
theorem stb_below (w : World) : Stb fun V => Below w.heap.size w V := fun _ _ h hb => h.trans (hb.mono h.size)
theorem stb_cells2 (g : Nat) (u v : Value) : Stb fun V => Cells2 V g u v := fun _ _ h hb => h.below hb h.2.2.2.2

set_option maxRecDepth 100000 in
set_option maxHeartbeats 4000000 in
theorem law_FnEven {w : World} (A : Option Addr) (cap : Nat) (xs : List Int) (hA : Byt w w.heap.size A xs) :
    Calls Tryz.prog 3 #[.slice A xs.length cap] w fun e w' => e = .returned (.bool true) ∧ Below w.heap.size w w' := by
  have HA := Lib.hid hA
  have hml := hA.1
  unfold maxLen at hml
  clear hA
  by_cases hbig : 1048576 < xs.length
  · go_enter Tryz.func3, Tryz.ntmps3
    go_wp2_with fail
    go_ret
    exact ⟨rfl, Below.refl _ _⟩
  go_enter Tryz.func3, Tryz.ntmps3
  go_wp2_with fail
  refine (spec_MakeNum_any A cap xs 0 w HA.out (by decide)).mono ?_
  rintro e w1 ⟨⟨x1, rfl, hx0, hx1⟩, hb⟩
  have HB1 := Lib.hid hb
  clear hb
  obtain ⟨x1, rfl⟩ := Int.eq_ofNat_of_zero_le hx0
  obtain ⟨N, hn⟩ : ∃ N : Nat, 1 + (x1 : Int) % 14 = N := ⟨1 + x1 % 14, by omega⟩
  have hwn : IntKind.i64.wrap (N : Int) = N := i64w (by omega)
  have hn1 : 1 ≤ N := by omega
  have hn14 : N ≤ 14 := by omega
  go_wp2_with fail
  clear hn hx0 hx1
  refine (spec_MakeNum_any A cap xs 2 w1 (HA.out.lift HB1.out) (by decide)).mono ?_
  rintro e w2 ⟨⟨x2, rfl, hx0, hx1⟩, hb⟩
  have HB2 := Lib.hid (HB1.out.trans (hb.mono HB1.out.size))
  clear hb
  obtain ⟨x2, rfl⟩ := Int.eq_ofNat_of_zero_le hx0
  obtain ⟨k, hk⟩ : ∃ k : Nat, (x2 : Int) % ((N : Int) + 1) = k := ⟨x2 % (N + 1), by push_cast; rfl⟩
  have htm : (x2 : Int).tmod ((N : Int) + 1) = (x2 : Int) % ((N : Int) + 1) := Int.tmod_eq_emod_of_nonneg (by omega)
  have hmd2 := Int.emod_lt_of_pos (x2 : Int) (show (0 : Int) < (N : Int) + 1 by omega)
  have hkn : k ≤ N := by omega
  have hwn1 : IntKind.i64.wrap ((N : Int) + 1) = (N : Int) + 1 := i64w (by omega)
  have hwk : IntKind.i64.wrap (k : Int) = k := i64w (by omega)
  have hnz : ((N : Int) + 1 = 0) = False := by rw [eq_iff_iff, iff_false]; omega
  clear hmd2
  go_wp2_with fail
  clear hk htm hwn1 hwk hnz hx0 hx1
  have hfE := rh_fitsE (evB_ok hn1 (by omega) hkn)
  have hfG := rh_fitsE (grp_ok (k := k) hn1 hn14)
  refine (impl_EvenRhythm_cap N k w2 hn1 (by omega) hkn).mono ?_
  rintro e w3 ⟨Ae, ce, rfl, hce, hrw, hb⟩
  have hal := (Below.refl w3.heap.size w3).alloc (Nat.le_refl _) (.cells #[.int .i64 N, .slice Ae ((evB N k)).length ce] 26)
  obtain ⟨qe, hqe⟩ : ∃ q, w3.heap.size = q := ⟨_, rfl⟩
  have HE3 := Lib.hid (show Hav (w3.alloc (.cells #[.int .i64 N, .slice Ae ((evB N k)).length ce] 26)) N qe Ae ce (evB N k) from hqe ▸ Hav.boxed (hrw.ints hfE) N ce)
  have HB3 := Lib.hid ((HB2.out.trans (hb.mono HB2.out.size)).trans (hal.mono (Nat.le_trans HB2.out.size hb.size)))
  clear hrw hb hal
  go_wp2_with fail
  generalize w3.alloc (.cells #[.int .i64 N, .slice Ae ((evB N k)).length ce] 26) = v3 at *
  clear hqe
  refine (impl_GroupedEven_ok N k v3 hn1 hn14 hkn).mono ?_
  rintro e w4 ⟨Ag, cg, rfl, hrw, hb⟩
  have hal := (Below.refl w4.heap.size w4).alloc (Nat.le_refl _) (.cells #[.int .i64 N, .slice Ag ((grpL N k)).length cg] 26)
  obtain ⟨qg, hqg⟩ : ∃ q, w4.heap.size = q := ⟨_, rfl⟩
  have HG4 := Lib.hid (show Hav (w4.alloc (.cells #[.int .i64 N, .slice Ag ((grpL N k)).length cg] 26)) N qg Ag cg (grpL N k) from hqg ▸ Hav.boxed (hrw.ints hfG) N cg)
  have HE4 := Lib.hid ((HE3.out.lift hb).lift hal)
  have HB4 := Lib.hid ((HB3.out.trans (hb.mono HB3.out.size)).trans (hal.mono (Nat.le_trans HB3.out.size hb.size)))
  clear hrw hb hal HE3 HB3
  go_wp2_with fail
  generalize w4.alloc (.cells #[.int .i64 N, .slice Ag ((grpL N k)).length cg] 26) = v4 at *
  clear hqg
  refine (spec_MakeNum_any A cap xs 4 v4 (HA.out.lift HB4.out) (by decide)).mono ?_
  rintro e w5 ⟨⟨x3, rfl, hx0, hx1⟩, hb⟩
  have HG5 := Lib.hid (HG4.out.lift hb)
  have HE5 := Lib.hid (HE4.out.lift hb)
  have HB5 := Lib.hid (HB4.out.trans (hb.mono HB4.out.size))
  clear hb HG4 HE4 HB4
  obtain ⟨x3, rfl⟩ := Int.eq_ofNat_of_zero_le hx0
  obtain ⟨y3, hy3⟩ : ∃ y : Nat, (x3 : Int) % (N : Int) = y := ⟨x3 % N, by push_cast; rfl⟩
  have hyn : y3 < N := by have := Int.emod_lt_of_pos (x3 : Int) (show (0 : Int) < (N : Int) by omega); omega
  obtain ⟨m, hm⟩ : ∃ m : Nat, (y3 : Int) * min (k : Int) 1 = m := by
    rcases Nat.eq_zero_or_pos k with h | h
    · exact ⟨0, by rw [show min (k : Int) 1 = 0 by omega]; simp⟩
    · exact ⟨y3, by rw [show min (k : Int) 1 = 1 by omega]; simp⟩
  have hmn : m < N ∧ (k = 0 → m = 0) := by
    rcases Nat.eq_zero_or_pos k with h | h
    · rw [show min (k : Int) 1 = 0 by omega, Int.mul_zero] at hm; omega
    · rw [show min (k : Int) 1 = 1 by omega, Int.mul_one] at hm; omega
  have htm : (x3 : Int).tmod (N : Int) = (y3 : Int) := (Int.tmod_eq_emod_of_nonneg (by omega)).trans hy3
  have hnz : ((N : Int) = 0) = False := by rw [eq_iff_iff, iff_false]; omega
  have hnz2 : ¬ N = 0 := by omega
  have hwy : IntKind.i64.wrap (y3 : Int) = y3 := i64w (by omega)
  have hwm : IntKind.i64.wrap ((y3 : Int) * min (k : Int) 1) = (m : Int) := by rw [hm]; exact i64w (by omega)
  have hwm2 : IntKind.i64.wrap (m : Int) = m := i64w (by omega)
  have HMN := Lib.hid hmn
  clear hm hx0 hx1 hmn hyn
  go_wp2_with fail
  clear htm hnz hnz2 hwy hwm hwm2 hy3
  have hfS : ∀ x ∈ evL k N m k, Fits x := by
    rcases Nat.eq_zero_or_pos k with h | h
    · subst h; intro x hx; exact absurd hx (by simp [evL])
    · exact rh_fitsE (evL_ok hn1 (by omega) h hkn HMN.out.1)
  refine (impl_ShiftedEven_gen N k m w5 hn1 (by omega) hkn HMN.out.1 HMN.out.2).mono ?_
  rintro e w6 ⟨As, cs, rfl, _, hrw, hb⟩
  have hal := (Below.refl w6.heap.size w6).alloc (Nat.le_refl _) (.cells #[.int .i64 N, .slice As ((evL k N m k)).length cs] 26)
  obtain ⟨qs, hqs⟩ : ∃ q, w6.heap.size = q := ⟨_, rfl⟩
  have HS6 := Lib.hid (show Hav (w6.alloc (.cells #[.int .i64 N, .slice As ((evL k N m k)).length cs] 26)) N qs As cs (evL k N m k) from hqs ▸ Hav.boxed (hrw.ints hfS) N cs)
  have HE6 := Lib.hid ((HE5.out.lift hb).lift hal)
  have HG6 := Lib.hid ((HG5.out.lift hb).lift hal)
  have HB6 := Lib.hid ((HB5.out.trans (hb.mono HB5.out.size)).trans (hal.mono (Nat.le_trans HB5.out.size hb.size)))
  clear hrw hb hal HE5 HB5 HG5
  obtain ⟨⟨p0, p1, _, _, _⟩, _⟩ := HE6.out
  obtain ⟨⟨g0, g1, _, _, _⟩, _⟩ := HG6.out
  obtain ⟨⟨s0, s1, _, _, _⟩, _⟩ := HS6.out
  go_wp2_with fail
  generalize w6.alloc (.cells #[.int .i64 N, .slice As ((evL k N m k)).length cs] 26) = v6 at *
  clear hqs
  have HBW := HB6
  have HVB := HE6
  have HVC := HG6
  have HVM := HS6
  clear HB6 HE6 HG6 HS6 hfE hfG hfS
  have hfN : Fits (N : Int) := by unfold Fits; omega
  have hlk := evB_len N k
  have HOE := Lib.hid (evB_ok hn1 (by omega) hkn)
  have HOG := Lib.hid (grp_ok (k := k) hn1 hn14)
  have HOS := Lib.hid (show RhOk N (evL k N m k) from by
    rcases Nat.eq_zero_or_pos k with h | h
    · rw [h]; have h0 := evB_ok (k := 0) hn1 (show N ≤ 24 by omega) (Nat.zero_le _); simpa [evB, evL] using h0
    · exact evL_ok hn1 (by omega) h hkn HMN.out.1)
  have HRG := Lib.hid (grp_even hn1 hn14 hkn)
  have HRS := Lib.hid (show rotP N (evB N k) (evL k N m k) from by
    rcases Nat.eq_zero_or_pos k with h | h
    · rw [h]; exact ⟨0, by omega, by rw [show evB N 0 = [] from by simp [evB, evL]]; rw [rotL_nil]; simp [evL]⟩
    · exact shift_even hn1 hn14 h hkn HMN.out.1)
  have HEV := Lib.hid (evB_even hn1 (show N ≤ 24 by omega) hkn)
  have HMS := Lib.hid (fun V => impl_MostSpread_ok N k V hn1 (by omega) hkn)
  have HCE := Lib.hid (fun V => impl_CountEven_ok N k V hn1 (by omega) hkn)
  have HCP := Lib.hid hce
  clear hce
  generalize evB N k = E at *
  generalize grpL N k = G at *
  generalize evL k N m k = T at *
  have hbk : ((E.length : Int) != (k : Int)) = false := by rw [hlk]; simp
  have hlE := HOE.out
  have HCB := Lib.hid (fun V h => impl_CountBeats_ok N Ae ce E V h HOE.out)
  have HIE := fun V h => impl_IsEven_any N Ae ce E V h HOE.out
  rw [HEV.out] at HIE
  have HIE := Lib.hid HIE
  have HAG := Lib.hid (fun V h1 h2 => impl_AreRotations_ok N Ae Ag ce cg E G V h1 h2 HOE.out HOG.out true ⟨fun _ => HRG.out, fun _ => rfl⟩)
  have HAS := Lib.hid (fun V h1 h2 => impl_AreRotations_ok N Ae As ce cs E T V h1 h2 HOE.out HOS.out true ⟨fun _ => HRS.out, fun _ => rfl⟩)
  have HSP := Lib.hid (fun V h => impl_SpreadOf_ok N Ae ce E V h HOE.out HCP.out)
  have HRO := Lib.hid (fun V h => impl_RotationsOf_len N Ae ce E V h HOE.out)
  have hss : (sprV N E != sprV N E) = false := by simp
  have hpp : ((perV N E : Int) != (perV N E : Int)) = false := by simp
  clear hlk hlE p0 p1 g0 g1 s0 s1
  obtain ⟨⟨p0, p1, _, _, _⟩, _⟩ := HVB.out
  obtain ⟨⟨g0, g1, _, _, _⟩, _⟩ := HVC.out
  obtain ⟨⟨s0, s1, _, _, _⟩, _⟩ := HVM.out
  go_wp2_with fail
  refine (HCB.out _ HVB.out.2).mono ?_
  rintro e wn ⟨rfl, hb⟩
  have HBW := Lib.hid (HBW.out.trans (hb.mono HBW.out.size))
  try have HVA := Lib.hid (HVA.out.lift hb)
  try have HVB := Lib.hid (HVB.out.lift hb)
  try have HVC := Lib.hid (HVC.out.lift hb)
  try have HVT := Lib.hid (HVT.out.lift hb)
  try have HVX := Lib.hid (HVX.out.lift hb)
  try have HVM := Lib.hid (HVM.out.lift hb)
  try have HVF := Lib.hid (HVF.out.lift hb)
  try have HVP := Lib.hid (HVP.out.lift hb)
  try have HVQ := Lib.hid (HVQ.out.lift hb)
  try have HLA := Lib.hid (HLA.out.lift hb)
  try have HLW := Lib.hid (HLW.out.lift hb)
  try have HI := Lib.hid (HI.out.lift hb)
  try have HRB := Lib.hid (HRB.out.trans (hb.mono HRB.out.size))
  try have HWW := Lib.hid (HWW.out.trans (hb.mono HWW.out.size))
  clear hb
  clear p0 p1 g0 g1 s0 s1
  obtain ⟨⟨p0, p1, _, _, _⟩, _⟩ := HVB.out
  obtain ⟨⟨g0, g1, _, _, _⟩, _⟩ := HVC.out
  obtain ⟨⟨s0, s1, _, _, _⟩, _⟩ := HVM.out
  go_wp2_with fail
  refine (HIE.out _ HVB.out.2).mono ?_
  rintro e wn ⟨rfl, hb⟩
  have HBW := Lib.hid (HBW.out.trans (hb.mono HBW.out.size))
  try have HVA := Lib.hid (HVA.out.lift hb)
  try have HVB := Lib.hid (HVB.out.lift hb)
  try have HVC := Lib.hid (HVC.out.lift hb)
  try have HVT := Lib.hid (HVT.out.lift hb)
  try have HVX := Lib.hid (HVX.out.lift hb)
  try have HVM := Lib.hid (HVM.out.lift hb)
  try have HVF := Lib.hid (HVF.out.lift hb)
  try have HVP := Lib.hid (HVP.out.lift hb)
  try have HVQ := Lib.hid (HVQ.out.lift hb)
  try have HLA := Lib.hid (HLA.out.lift hb)
  try have HLW := Lib.hid (HLW.out.lift hb)
  try have HI := Lib.hid (HI.out.lift hb)
  try have HRB := Lib.hid (HRB.out.trans (hb.mono HRB.out.size))
  try have HWW := Lib.hid (HWW.out.trans (hb.mono HWW.out.size))
  clear hb
  clear p0 p1 g0 g1 s0 s1
  obtain ⟨⟨p0, p1, _, _, _⟩, _⟩ := HVB.out
  obtain ⟨⟨g0, g1, _, _, _⟩, _⟩ := HVC.out
  obtain ⟨⟨s0, s1, _, _, _⟩, _⟩ := HVM.out
  go_wp2_with fail
  refine (HAG.out _ HVB.out.2 HVC.out.2).mono ?_
  rintro e wn ⟨rfl, hb⟩
  have HBW := Lib.hid (HBW.out.trans (hb.mono HBW.out.size))
  try have HVA := Lib.hid (HVA.out.lift hb)
  try have HVB := Lib.hid (HVB.out.lift hb)
  try have HVC := Lib.hid (HVC.out.lift hb)
  try have HVT := Lib.hid (HVT.out.lift hb)
  try have HVX := Lib.hid (HVX.out.lift hb)
  try have HVM := Lib.hid (HVM.out.lift hb)
  try have HVF := Lib.hid (HVF.out.lift hb)
  try have HVP := Lib.hid (HVP.out.lift hb)
  try have HVQ := Lib.hid (HVQ.out.lift hb)
  try have HLA := Lib.hid (HLA.out.lift hb)
  try have HLW := Lib.hid (HLW.out.lift hb)
  try have HI := Lib.hid (HI.out.lift hb)
  try have HRB := Lib.hid (HRB.out.trans (hb.mono HRB.out.size))
  try have HWW := Lib.hid (HWW.out.trans (hb.mono HWW.out.size))
  clear hb
  clear p0 p1 g0 g1 s0 s1
  obtain ⟨⟨p0, p1, _, _, _⟩, _⟩ := HVB.out
  obtain ⟨⟨g0, g1, _, _, _⟩, _⟩ := HVC.out
  obtain ⟨⟨s0, s1, _, _, _⟩, _⟩ := HVM.out
  go_wp2_with fail
  refine (HAS.out _ HVB.out.2 HVM.out.2).mono ?_
  rintro e wn ⟨rfl, hb⟩
  have HBW := Lib.hid (HBW.out.trans (hb.mono HBW.out.size))
  try have HVA := Lib.hid (HVA.out.lift hb)
  try have HVB := Lib.hid (HVB.out.lift hb)
  try have HVC := Lib.hid (HVC.out.lift hb)
  try have HVT := Lib.hid (HVT.out.lift hb)
  try have HVX := Lib.hid (HVX.out.lift hb)
  try have HVM := Lib.hid (HVM.out.lift hb)
  try have HVF := Lib.hid (HVF.out.lift hb)
  try have HVP := Lib.hid (HVP.out.lift hb)
  try have HVQ := Lib.hid (HVQ.out.lift hb)
  try have HLA := Lib.hid (HLA.out.lift hb)
  try have HLW := Lib.hid (HLW.out.lift hb)
  try have HI := Lib.hid (HI.out.lift hb)
  try have HRB := Lib.hid (HRB.out.trans (hb.mono HRB.out.size))
  try have HWW := Lib.hid (HWW.out.trans (hb.mono HWW.out.size))
  clear hb
  clear p0 p1 g0 g1 s0 s1
  obtain ⟨⟨p0, p1, _, _, _⟩, _⟩ := HVB.out
  obtain ⟨⟨g0, g1, _, _, _⟩, _⟩ := HVC.out
  obtain ⟨⟨s0, s1, _, _, _⟩, _⟩ := HVM.out
  go_wp2_with fail
  refine (HSP.out _ HVB.out.2).mono ?_
  rintro e wn ⟨rfl, hb⟩
  have HBW := Lib.hid (HBW.out.trans (hb.mono HBW.out.size))
  try have HVA := Lib.hid (HVA.out.lift hb)
  try have HVB := Lib.hid (HVB.out.lift hb)
  try have HVC := Lib.hid (HVC.out.lift hb)
  try have HVT := Lib.hid (HVT.out.lift hb)
  try have HVX := Lib.hid (HVX.out.lift hb)
  try have HVM := Lib.hid (HVM.out.lift hb)
  try have HVF := Lib.hid (HVF.out.lift hb)
  try have HVP := Lib.hid (HVP.out.lift hb)
  try have HVQ := Lib.hid (HVQ.out.lift hb)
  try have HLA := Lib.hid (HLA.out.lift hb)
  try have HLW := Lib.hid (HLW.out.lift hb)
  try have HI := Lib.hid (HI.out.lift hb)
  try have HRB := Lib.hid (HRB.out.trans (hb.mono HRB.out.size))
  try have HWW := Lib.hid (HWW.out.trans (hb.mono HWW.out.size))
  clear hb
  clear p0 p1 g0 g1 s0 s1
  obtain ⟨⟨p0, p1, _, _, _⟩, _⟩ := HVB.out
  obtain ⟨⟨g0, g1, _, _, _⟩, _⟩ := HVC.out
  obtain ⟨⟨s0, s1, _, _, _⟩, _⟩ := HVM.out
  go_wp2_with fail
  refine (HMS.out _).mono ?_
  rintro e wn ⟨rfl, hb⟩
  have HBW := Lib.hid (HBW.out.trans (hb.mono HBW.out.size))
  try have HVA := Lib.hid (HVA.out.lift hb)
  try have HVB := Lib.hid (HVB.out.lift hb)
  try have HVC := Lib.hid (HVC.out.lift hb)
  try have HVT := Lib.hid (HVT.out.lift hb)
  try have HVX := Lib.hid (HVX.out.lift hb)
  try have HVM := Lib.hid (HVM.out.lift hb)
  try have HVF := Lib.hid (HVF.out.lift hb)
  try have HVP := Lib.hid (HVP.out.lift hb)
  try have HVQ := Lib.hid (HVQ.out.lift hb)
  try have HLA := Lib.hid (HLA.out.lift hb)
  try have HLW := Lib.hid (HLW.out.lift hb)
  try have HI := Lib.hid (HI.out.lift hb)
  try have HRB := Lib.hid (HRB.out.trans (hb.mono HRB.out.size))
  try have HWW := Lib.hid (HWW.out.trans (hb.mono HWW.out.size))
  clear hb
  clear p0 p1 g0 g1 s0 s1
  obtain ⟨⟨p0, p1, _, _, _⟩, _⟩ := HVB.out
  obtain ⟨⟨g0, g1, _, _, _⟩, _⟩ := HVC.out
  obtain ⟨⟨s0, s1, _, _, _⟩, _⟩ := HVM.out
  go_wp2_with fail
  refine (HRO.out _ HVB.out.2).mono ?_
  rintro e wn ⟨⟨Ar, cr, rfl⟩, hb⟩
  have HBW := Lib.hid (HBW.out.trans (hb.mono HBW.out.size))
  try have HVA := Lib.hid (HVA.out.lift hb)
  try have HVB := Lib.hid (HVB.out.lift hb)
  try have HVC := Lib.hid (HVC.out.lift hb)
  try have HVT := Lib.hid (HVT.out.lift hb)
  try have HVX := Lib.hid (HVX.out.lift hb)
  try have HVM := Lib.hid (HVM.out.lift hb)
  try have HVF := Lib.hid (HVF.out.lift hb)
  try have HVP := Lib.hid (HVP.out.lift hb)
  try have HVQ := Lib.hid (HVQ.out.lift hb)
  try have HLA := Lib.hid (HLA.out.lift hb)
  try have HLW := Lib.hid (HLW.out.lift hb)
  try have HI := Lib.hid (HI.out.lift hb)
  try have HRB := Lib.hid (HRB.out.trans (hb.mono HRB.out.size))
  try have HWW := Lib.hid (HWW.out.trans (hb.mono HWW.out.size))
  clear hb
  clear p0 p1 g0 g1 s0 s1
  obtain ⟨⟨p0, p1, _, _, _⟩, _⟩ := HVB.out
  obtain ⟨⟨g0, g1, _, _, _⟩, _⟩ := HVC.out
  obtain ⟨⟨s0, s1, _, _, _⟩, _⟩ := HVM.out
  go_wp2_with fail
  refine (HCE.out _).mono ?_
  rintro e wn ⟨rfl, hb⟩
  have HBW := Lib.hid (HBW.out.trans (hb.mono HBW.out.size))
  try have HVA := Lib.hid (HVA.out.lift hb)
  try have HVB := Lib.hid (HVB.out.lift hb)
  try have HVC := Lib.hid (HVC.out.lift hb)
  try have HVT := Lib.hid (HVT.out.lift hb)
  try have HVX := Lib.hid (HVX.out.lift hb)
  try have HVM := Lib.hid (HVM.out.lift hb)
  try have HVF := Lib.hid (HVF.out.lift hb)
  try have HVP := Lib.hid (HVP.out.lift hb)
  try have HVQ := Lib.hid (HVQ.out.lift hb)
  try have HLA := Lib.hid (HLA.out.lift hb)
  try have HLW := Lib.hid (HLW.out.lift hb)
  try have HI := Lib.hid (HI.out.lift hb)
  try have HRB := Lib.hid (HRB.out.trans (hb.mono HRB.out.size))
  try have HWW := Lib.hid (HWW.out.trans (hb.mono HWW.out.size))
  clear hb
  clear p0 p1 g0 g1 s0 s1
  obtain ⟨⟨p0, p1, _, _, _⟩, _⟩ := HVB.out
  obtain ⟨⟨g0, g1, _, _, _⟩, _⟩ := HVC.out
  obtain ⟨⟨s0, s1, _, _, _⟩, _⟩ := HVM.out
  go_wp2_with fail
  clear HCB HIE HAG HAS HSP HMS HRO HCE HRG HRS HEV HCP HOG HOS HVC HVM g0 g1 s0 s1 hss hpp hbk
  refine (spec_MakeOf_cap A cap xs 10 N _ (HA.out.lift HBW.out) (by decide) hn1 (by omega)).mono ?_
  rintro e wz ⟨⟨R0, Aa, ca, rfl, hok, hcap, hrw⟩, hb⟩
  have hqw : w.heap.size ≤ wz.heap.size := Nat.le_trans HBW.out.size hb.size
  have hqeq : qe < wz.heap.size := Nat.lt_of_lt_of_le HVB.out.1.2.2.2.2 hb.size
  have HO0 := Lib.hid hok
  have HC0 := Lib.hid hcap
  have hI0 := hrw.ints (rh_fitsE hok)
  have hb := hb.trans (((Below.refl wz.heap.size wz).alloc (Nat.le_refl _) (.cells #[.int .i64 N, .slice Aa (R0).length ca] 26)).mono hb.size)
  have HBW := Lib.hid (HBW.out.trans (hb.mono HBW.out.size))
  try have HVA := Lib.hid (HVA.out.lift hb)
  try have HVB := Lib.hid (HVB.out.lift hb)
  try have HVC := Lib.hid (HVC.out.lift hb)
  try have HVT := Lib.hid (HVT.out.lift hb)
  try have HVX := Lib.hid (HVX.out.lift hb)
  try have HVM := Lib.hid (HVM.out.lift hb)
  try have HVF := Lib.hid (HVF.out.lift hb)
  try have HVP := Lib.hid (HVP.out.lift hb)
  try have HVQ := Lib.hid (HVQ.out.lift hb)
  try have HLA := Lib.hid (HLA.out.lift hb)
  try have HLW := Lib.hid (HLW.out.lift hb)
  try have HI := Lib.hid (HI.out.lift hb)
  try have HRB := Lib.hid (HRB.out.trans (hb.mono HRB.out.size))
  try have HWW := Lib.hid (HWW.out.trans (hb.mono HWW.out.size))
  clear hb
  have HVA := Lib.hid (Hav.boxed hI0 N ca)
  clear hI0
  clear hrw hok hcap p0 p1
  obtain ⟨⟨c0, c1, _, _, _⟩, _⟩ := HVA.out
  obtain ⟨⟨p0, p1, _, _, _⟩, _⟩ := HVB.out
  go_wp2_with fail
  generalize wz.alloc (.cells #[.int .i64 N, .slice Aa R0.length ca] 26) = w1 at *
  generalize wz.heap.size = qa at *
  refine (spec_MakeNum_any A cap xs 40 w1 (HA.out.lift HBW.out) (by decide)).mono ?_
  rintro e w2 ⟨⟨x, rfl, hx0, hx1⟩, hb⟩
  obtain ⟨x, rfl⟩ := Int.eq_ofNat_of_zero_le hx0
  have HBW := Lib.hid (HBW.out.trans (hb.mono HBW.out.size))
  try have HVA := Lib.hid (HVA.out.lift hb)
  try have HVB := Lib.hid (HVB.out.lift hb)
  try have HVC := Lib.hid (HVC.out.lift hb)
  try have HVT := Lib.hid (HVT.out.lift hb)
  try have HVX := Lib.hid (HVX.out.lift hb)
  try have HVM := Lib.hid (HVM.out.lift hb)
  try have HVF := Lib.hid (HVF.out.lift hb)
  try have HVP := Lib.hid (HVP.out.lift hb)
  try have HVQ := Lib.hid (HVQ.out.lift hb)
  try have HLA := Lib.hid (HLA.out.lift hb)
  try have HLW := Lib.hid (HLW.out.lift hb)
  try have HI := Lib.hid (HI.out.lift hb)
  try have HRB := Lib.hid (HRB.out.trans (hb.mono HRB.out.size))
  try have HWW := Lib.hid (HWW.out.trans (hb.mono HWW.out.size))
  clear hb
  clear hx0 hx1 c0 c1 p0 p1
  obtain ⟨⟨c0, c1, _, _, _⟩, _⟩ := HVA.out
  obtain ⟨⟨p0, p1, _, _, _⟩, _⟩ := HVB.out
  go_upto_if 112 with fail
  go_cut [111, 112, 121] from 113 to 121 (fun _ _ _ wx => ∃ (R : List Int) (Aa : Option Addr) (ca : Nat), RhOk N R ∧ R.length ≤ ca ∧ Hav wx N qa Aa ca R ∧ Below w.heap.size w wx)
  case first =>
    as_aux_lemma =>
    by_cases hx : (x : Int) % 4 = 0
    · go_wp2_with fail
      have hnz : (N = 0) = False := eq_false (by omega)
      have hfl : ∀ z : Int, 0 ≤ z → ∃ r : Nat, z % (N : Int) = r ∧ r < N := fun z _ => by
        have h0 := Int.emod_nonneg z (show (N : Int) ≠ 0 by omega)
        have h1 := Int.emod_lt_of_pos z (show (0 : Int) < (N : Int) by omega)
        obtain ⟨r, hr⟩ := Int.eq_ofNat_of_zero_le h0
        exact ⟨r, hr, by omega⟩
      have HFL := Lib.hid hfl
      clear hfl
      have HBW := Lib.hid (Below.drewH_ HBW.out)
      try have HRB := Lib.hid (Below.drewH_ HRB.out)
      try have HWW := Lib.hid (Below.drewH_ HWW.out)
      try have HVA := Lib.hid HVA.out.drew
      try have HVB := Lib.hid HVB.out.drew
      try have HVC := Lib.hid HVC.out.drew
      try have HVT := Lib.hid HVT.out.drew
      try have HVX := Lib.hid HVX.out.drew
      try have HVM := Lib.hid HVM.out.drew
      try have HVF := Lib.hid HVF.out.drew
      try have HVP := Lib.hid HVP.out.drew
      try have HVQ := Lib.hid HVQ.out.drew
      try have HLA := Lib.hid HLA.out.drewR_
      try have HLW := Lib.hid HLW.out.drewR_
      (refine wp_region_held_drew (S := (fun w' => w'.cell? ⟨qe, 0, none⟩ = some (.int .i64 N) ∧ w'.cell? ⟨qe, 1, none⟩ = some (.slice Ae E.length ce))) (by kernel_rfl) ?_ (fun hHeld => ?_); (focus ((try dsimp only); exact ⟨p0, p1⟩)))
      ((refine wpAnyH_take (i := 0) (v := ?_) rfl (by kernel_rfl) (by kernel_rfl) (by kernel_rfl) (fun _ _ _ h => h) (Or.inl ⟨by rfl, ?_⟩) (by assumption) ?_; rotate_left; (focus (intro wS hSw; (try dsimp only at hSw); go_simp; (try with_reducible rfl))); (try simp only [Act.put, List.getElem_toArray, List.getElem_cons_zero, List.getElem_cons_succ, List.setIfInBounds_toArray, List.set_cons_zero, List.set_cons_succ])); (refine wpAnyH_take (i := 1) (v := ?_) rfl (by kernel_rfl) (by kernel_rfl) (by kernel_rfl) (fun _ _ _ h => h) (Or.inl ⟨by rfl, ?_⟩) (by assumption) ?_; rotate_left; (focus (intro wS hSw; (try dsimp only at hSw); go_simp; (try with_reducible rfl))); (try simp only [Act.put, List.getElem_toArray, List.getElem_cons_zero, List.getElem_cons_succ, List.setIfInBounds_toArray, List.set_cons_zero, List.set_cons_succ])); (refine wpAnyH_take (i := 3) (v := ?_) rfl (by kernel_rfl) (by kernel_rfl) (by kernel_rfl) (fun _ _ _ h => h) (Or.inl ⟨by rfl, ?_⟩) (by assumption) ?_; rotate_left; (focus (intro wS hSw; (try dsimp only at hSw); go_simp; (try with_reducible rfl))); (try simp only [Act.put, List.getElem_toArray, List.getElem_cons_zero, List.getElem_cons_succ, List.setIfInBounds_toArray, List.set_cons_zero, List.set_cons_succ])))
      (refine wpAnyH_ready (rs := [2]) (by kernel_rfl) (by simp) ?_; refine AllReadyH.cons rfl (fun K hK => ?_) AllReadyH.nil; go_simp)
      go_at_call 5
      refine (spec_MakeNum_any A cap xs 42 _ (HA.out.lift HBW.out) (by decide)).mono ?_
      rintro e wn ⟨⟨z, rfl, hz0, hz1⟩, hb⟩
      have HBW := Lib.hid (HBW.out.trans (hb.mono HBW.out.size))
      try have HVA := Lib.hid (HVA.out.lift hb)
      try have HVB := Lib.hid (HVB.out.lift hb)
      try have HVC := Lib.hid (HVC.out.lift hb)
      try have HVT := Lib.hid (HVT.out.lift hb)
      try have HVX := Lib.hid (HVX.out.lift hb)
      try have HVM := Lib.hid (HVM.out.lift hb)
      try have HVF := Lib.hid (HVF.out.lift hb)
      try have HVP := Lib.hid (HVP.out.lift hb)
      try have HVQ := Lib.hid (HVQ.out.lift hb)
      try have HLA := Lib.hid (HLA.out.lift hb)
      try have HLW := Lib.hid (HLW.out.lift hb)
      try have HI := Lib.hid (HI.out.lift hb)
      try have HRB := Lib.hid (HRB.out.trans (hb.mono HRB.out.size))
      try have HWW := Lib.hid (HWW.out.trans (hb.mono HWW.out.size))
      clear hb
      clear p0 p1
      obtain ⟨⟨p0, p1, _, _, _⟩, _⟩ := HVB.out
      obtain ⟨r, hr1, hr2⟩ := HFL.out z hz0
      have hrt : z.tmod (N : Int) = r := by rw [Int.tmod_eq_emod_of_nonneg hz0]; exact hr1
      go_wp2_with fail
      (refine hK.out _ _ ?_ (fun hHeld2 => ?_); (focus ((try dsimp only); exact ⟨p0, p1⟩)); (clear hK K); (try simp only [Act.put, List.getElem_toArray, List.getElem_cons_zero, List.getElem_cons_succ, List.setIfInBounds_toArray, List.set_cons_zero, List.set_cons_succ]))
      (refine wpAnyH_take (i := 4) (v := ?_) rfl (by kernel_rfl) (by kernel_rfl) (by kernel_rfl) (fun _ _ _ h => h) (Or.inl ⟨by rfl, ?_⟩) (by assumption) ?_; rotate_left; (focus (intro wS hSw; (try dsimp only at hSw); go_simp; (try with_reducible rfl))); (try simp only [Act.put, List.getElem_toArray, List.getElem_cons_zero, List.getElem_cons_succ, List.setIfInBounds_toArray, List.set_cons_zero, List.set_cons_succ]))
      (refine wpAnyH_ready (rs := [5]) (by kernel_rfl) (by simp) ?_; refine AllReadyH.cons rfl (fun K hK => ?_) AllReadyH.nil; go_simp)
      go_at_call 17
      refine (spec_RotateRhythm_cap N Ae ce E r _ HVB.out.2 HOE.out (by omega) (by omega)).mono ?_
      rintro e wn ⟨At, ct, rfl, hct, hrw, hb⟩
      have HRW := Lib.hid hrw
      have HCT := Lib.hid hct
      have hqb := HVA.out.1.2.2.2.2
      clear hrw hct
      have HBW := Lib.hid (HBW.out.trans (hb.mono HBW.out.size))
      try have HVA := Lib.hid (HVA.out.lift hb)
      try have HVB := Lib.hid (HVB.out.lift hb)
      try have HVC := Lib.hid (HVC.out.lift hb)
      try have HVT := Lib.hid (HVT.out.lift hb)
      try have HVX := Lib.hid (HVX.out.lift hb)
      try have HVM := Lib.hid (HVM.out.lift hb)
      try have HVF := Lib.hid (HVF.out.lift hb)
      try have HVP := Lib.hid (HVP.out.lift hb)
      try have HVQ := Lib.hid (HVQ.out.lift hb)
      try have HLA := Lib.hid (HLA.out.lift hb)
      try have HLW := Lib.hid (HLW.out.lift hb)
      try have HI := Lib.hid (HI.out.lift hb)
      try have HRB := Lib.hid (HRB.out.trans (hb.mono HRB.out.size))
      try have HWW := Lib.hid (HWW.out.trans (hb.mono HWW.out.size))
      clear hb
      clear p0 p1
      obtain ⟨⟨p0, p1, _, _, _⟩, _⟩ := HVB.out
      have HOR := Lib.hid (rotL_ok HOE.out (r : Int)).1
      generalize rotL N E r = R at *
      go_wp2_with fail
      (refine hK.out _ _ ?_ (fun hHeld2 => ?_); (focus ((try dsimp only); exact ⟨p0, p1⟩)); (clear hK K); (try simp only [Act.put, List.getElem_toArray, List.getElem_cons_zero, List.getElem_cons_succ, List.setIfInBounds_toArray, List.set_cons_zero, List.set_cons_succ]))
      ((refine wpAnyH_take (i := 6) (v := ?_) rfl (by kernel_rfl) (by kernel_rfl) (by kernel_rfl) (fun _ _ _ h => h) (Or.inl ⟨by rfl, ?_⟩) (by assumption) ?_; rotate_left; (focus (intro wS hSw; (try dsimp only at hSw); go_simp; (try with_reducible rfl))); (try simp only [Act.put, List.getElem_toArray, List.getElem_cons_zero, List.getElem_cons_succ, List.setIfInBounds_toArray, List.set_cons_zero, List.set_cons_succ])); (refine wpAnyH_take (i := 7) (v := ?_) rfl (by kernel_rfl) (by kernel_rfl) (by kernel_rfl) (fun _ _ _ h => h) (Or.inl ⟨by rfl, ?_⟩) (by assumption) ?_; rotate_left; (focus (intro wS hSw; (try dsimp only at hSw); go_simp; (try with_reducible rfl))); (try simp only [Act.put, List.getElem_toArray, List.getElem_cons_zero, List.getElem_cons_succ, List.setIfInBounds_toArray, List.set_cons_zero, List.set_cons_succ])); (refine wpAnyH_take (i := 8) (v := ?_) rfl (by kernel_rfl) (by kernel_rfl) (by kernel_rfl) (fun _ _ _ h => h) (Or.inl ⟨by rfl, ?_⟩) (by assumption) ?_; rotate_left; (focus (intro wS hSw; (try dsimp only at hSw); go_simp; (try with_reducible rfl))); (try simp only [Act.put, List.getElem_toArray, List.getElem_cons_zero, List.getElem_cons_succ, List.setIfInBounds_toArray, List.set_cons_zero, List.set_cons_succ])))
      obtain ⟨g0, g1, gf0, gf1, _⟩ := HVA.out.1
      (refine wpAnyH_ready (rs := [9]) (by kernel_rfl) (by simp) ?_; refine AllReadyH.cons rfl (fun K hK => ?_) AllReadyH.nil; go_simp)
      have HG9 := Lib.hid ((HVA.out.1.set0 (.int .i64 N)).set1 (.slice At R.length ct))
      have HI9 := Lib.hid (show Ints ((wn.setCell ⟨qa, 0, none⟩ (.int .i64 N)).setCell ⟨qa, 1, none⟩ (.slice At R.length ct)) ((wn.setCell ⟨qa, 0, none⟩ (.int .i64 N)).setCell ⟨qa, 1, none⟩ (.slice At R.length ct)).heap.size At R from ((HRW.out.far (p := ⟨qa, 0, none⟩) hqb _).far (p := ⟨qa, 1, none⟩) hqb _).ints (rh_fitsE HOR.out))
      have HB9 := Lib.hid ((HBW.out.setCell (p := ⟨qa, 0, none⟩) hqw (.int .i64 N)).setCell (p := ⟨qa, 1, none⟩) hqw (.slice At R.length ct))
      have HE9 := Lib.hid ((HVB.out.1.far (p := ⟨qa, 0, none⟩) (by simp; omega) (.int .i64 N)).far (p := ⟨qa, 1, none⟩) (by simp; omega) (.slice At R.length ct))
      clear p0 p1 g0 g1 gf0 gf1
      obtain ⟨p0, p1, _, _, _⟩ := HE9.out
      (refine hK.out _ _ ?_ (fun hHeld2 => ?_); (focus ((try dsimp only); exact ⟨p0, p1⟩)); (clear hK K); (try simp only [Act.put, List.getElem_toArray, List.getElem_cons_zero, List.getElem_cons_succ, List.setIfInBounds_toArray, List.set_cons_zero, List.set_cons_succ]))
      refine wpAnyH_done (by kernel_rfl) ?_ _
      go_wp2_with fail
      go_meet
      exact ⟨R, At, ct, HOR.out, HCT.out, ⟨HG9.out, HI9.out⟩, HB9.out⟩
    · go_wp2_with fail
      go_meet
      exact ⟨R0, Aa, ca, HO0.out, HC0.out, HVA.out, HBW.out⟩
  case rest =>
    obtain ⟨R, Aa, ca, hok, hcap, hva, hbw⟩ := hcut
    have HOK := Lib.hid hok
    have HCA := Lib.hid hcap
    have hHO := hva
    clear HVA HVB HBW HO0 HC0 c0 c1 p0 p1 hcap HOE
    have HVA := Lib.hid hHO
    have HBW := Lib.hid hbw
    clear hva hbw hHO
    have hRl := rhok_len hok
    obtain ⟨⟨c0, c1, _, _, _⟩, _⟩ := HVA.out
    have hev : ∀ V, Calls Tryz.prog 6 #[.int .i64 R.length, .int .i64 N] V (RetRh2c V N (evB N R.length) true) := fun V => impl_EvenRhythm_cap N R.length V hn1 (by omega) hRl
    have HEV := Lib.hid hev
    have HOX := Lib.hid (evB_ok hn1 (show N ≤ 24 by omega) hRl)
    obtain ⟨q, hq⟩ : ∃ q, evnB (stepsL N R) = q := ⟨_, rfl⟩
    have h1 := (spr_even hok hn14).1
    have h2 := (spr_even hok hn14).2
    have h3 := even_rot hok
    have h4 := oth_even hok
    have h5 := bal_even hok
    have h6 := near_rot hok
    have h7 := near_even hok
    have h8 := oth_ok hok
    have h9 := near_ok hok
    rw [hq] at h2 h3 h4 h5 h7
    have HIE := fun V h => impl_IsEven_any N Aa ca R V h HOK.out
    rw [hq] at HIE
    have HIE := Lib.hid HIE
    have HOTH := Lib.hid (fun V h => impl_OtherRhythm_ok N Aa ca R V h HOK.out)
    have HNE := Lib.hid (fun V h => impl_NearestEven_any N Aa ca R V h HOK.out)
    have HRX := Lib.hid (fun Ax cx V h1 h2 => impl_AreRotations_ok N Aa Ax ca cx R (evB N R.length) V h1 h2 HOK.out HOX.out q h3)
    have HNX := Lib.hid (fun An cn Ax cx V h1' h2' => impl_AreRotations_ok N An Ax cn cx (nearX N R) (evB N R.length) V h1' h2' h9.1 HOX.out true ⟨fun _ => h6, fun _ => rfl⟩)
    have HSR := Lib.hid (fun V h => impl_SpreadOf_ok N Aa ca R V h HOK.out HCA.out)
    have HSX := Lib.hid (fun Ax cx V h hc => impl_SpreadOf_ok N Ax cx (evB N R.length) V h HOX.out hc)
    have HIO := fun Ao co V h => impl_IsEven_any N Ao co (othL N R N) V h h8
    rw [h4] at HIO
    have HIO := Lib.hid HIO
    have HBA := fun V h => impl_IsBalanced_ok N Aa ca R V h (rhB_iff.2 HOK.out)
    rw [h5] at HBA
    have HBA := Lib.hid HBA
    have HCO := Lib.hid (fun An cn V h1' h2' => impl_CommonBeats_ok N An Aa cn ca (nearX N R) R V h1' h2' h9.1 HOK.out)
    have HOO := Lib.hid h8
    have HON := Lib.hid h9.1
    obtain ⟨K, hK⟩ : ∃ K, comN (nearX N R) R (nearX N R).length = K := ⟨_, rfl⟩
    rw [hK] at HNE HCO h7
    have hse : (sprV N R == sprV N (evB N R.length)) = q := by
      cases q
      · exact beq_eq_false_iff_ne.2 fun e => by simpa using h2.1 e
      · exact beq_iff_eq.2 (h2.2 rfl)
    have hsg : decide (sprV N (evB N R.length) < sprV N R) = false := decide_eq_false (by omega)
    have hke : ((K : Int) == (R.length : Int)) = q := by
      cases q
      · exact beq_eq_false_iff_ne.2 fun e => by have e' : K = R.length := by omega
                                                simpa using h7.1 e'
      · have := h7.2 rfl
        exact beq_iff_eq.2 (by omega)
    have hqq : (q != q) = false := by cases q <;> rfl
    have hqe : (q == q) = true := by cases q <;> rfl
    have hkk : ((K : Int) == (K : Int)) = true := by simp
    generalize sprV N R = s1 at *
    generalize sprV N (evB N R.length) = s2 at *
    generalize evB N R.length = X at *
    generalize nearX N R = Y at *
    generalize othL N R N = O at *
    clear h1 h2 h3 h4 h5 h6 h7 h8 h9 hq hK hok hev
    go_wp2_with fail
    refine (HEV.out _).mono ?_
    rintro e wz ⟨Ax, cx, rfl, hcx, hrw, hb⟩
    have HCX := Lib.hid hcx
    have hI0 := hrw.ints (rh_fitsE HOX.out)
    have hb := hb.trans (((Below.refl wz.heap.size wz).alloc (Nat.le_refl _) (.cells #[.int .i64 N, .slice Ax (X).length cx] 26)).mono hb.size)
    have HBW := Lib.hid (HBW.out.trans (hb.mono HBW.out.size))
    try have HVA := Lib.hid (HVA.out.lift hb)
    try have HVB := Lib.hid (HVB.out.lift hb)
    try have HVC := Lib.hid (HVC.out.lift hb)
    try have HVT := Lib.hid (HVT.out.lift hb)
    try have HVX := Lib.hid (HVX.out.lift hb)
    try have HVM := Lib.hid (HVM.out.lift hb)
    try have HVF := Lib.hid (HVF.out.lift hb)
    try have HVP := Lib.hid (HVP.out.lift hb)
    try have HVQ := Lib.hid (HVQ.out.lift hb)
    try have HLA := Lib.hid (HLA.out.lift hb)
    try have HLW := Lib.hid (HLW.out.lift hb)
    try have HI := Lib.hid (HI.out.lift hb)
    try have HRB := Lib.hid (HRB.out.trans (hb.mono HRB.out.size))
    try have HWW := Lib.hid (HWW.out.trans (hb.mono HWW.out.size))
    clear hb
    have HVT := Lib.hid (Hav.boxed hI0 N cx)
    clear hI0
    clear hrw hcx c0 c1
    obtain ⟨⟨c0, c1, _, _, _⟩, _⟩ := HVA.out
    go_wp2_with fail
    generalize wz.alloc (.cells #[.int .i64 N, .slice Ax X.length cx] 26) = wx at *
    generalize wz.heap.size = qx at *
    refine (HOTH.out _ HVA.out.2).mono ?_
    rintro e wz ⟨Ao, co, rfl, hrw, hb⟩
    have hI0 := hrw.ints (rh_fitsE HOO.out)
    have hb := hb.trans (((Below.refl wz.heap.size wz).alloc (Nat.le_refl _) (.cells #[.int .i64 N, .slice Ao (O).length co] 26)).mono hb.size)
    have HBW := Lib.hid (HBW.out.trans (hb.mono HBW.out.size))
    try have HVA := Lib.hid (HVA.out.lift hb)
    try have HVB := Lib.hid (HVB.out.lift hb)
    try have HVC := Lib.hid (HVC.out.lift hb)
    try have HVT := Lib.hid (HVT.out.lift hb)
    try have HVX := Lib.hid (HVX.out.lift hb)
    try have HVM := Lib.hid (HVM.out.lift hb)
    try have HVF := Lib.hid (HVF.out.lift hb)
    try have HVP := Lib.hid (HVP.out.lift hb)
    try have HVQ := Lib.hid (HVQ.out.lift hb)
    try have HLA := Lib.hid (HLA.out.lift hb)
    try have HLW := Lib.hid (HLW.out.lift hb)
    try have HI := Lib.hid (HI.out.lift hb)
    try have HRB := Lib.hid (HRB.out.trans (hb.mono HRB.out.size))
    try have HWW := Lib.hid (HWW.out.trans (hb.mono HWW.out.size))
    clear hb
    have HVF := Lib.hid (Hav.boxed hI0 N co)
    clear hI0
    clear hrw c0 c1
    obtain ⟨⟨c0, c1, _, _, _⟩, _⟩ := HVA.out
    go_wp2_with fail
    generalize wz.alloc (.cells #[.int .i64 N, .slice Ao O.length co] 26) = wo at *
    generalize wz.heap.size = qo at *
    refine (HIE.out _ HVA.out.2).mono ?_
    rintro e wn ⟨rfl, hb⟩
    have HBW := Lib.hid (HBW.out.trans (hb.mono HBW.out.size))
    try have HVA := Lib.hid (HVA.out.lift hb)
    try have HVB := Lib.hid (HVB.out.lift hb)
    try have HVC := Lib.hid (HVC.out.lift hb)
    try have HVT := Lib.hid (HVT.out.lift hb)
    try have HVX := Lib.hid (HVX.out.lift hb)
    try have HVM := Lib.hid (HVM.out.lift hb)
    try have HVF := Lib.hid (HVF.out.lift hb)
    try have HVP := Lib.hid (HVP.out.lift hb)
    try have HVQ := Lib.hid (HVQ.out.lift hb)
    try have HLA := Lib.hid (HLA.out.lift hb)
    try have HLW := Lib.hid (HLW.out.lift hb)
    try have HI := Lib.hid (HI.out.lift hb)
    try have HRB := Lib.hid (HRB.out.trans (hb.mono HRB.out.size))
    try have HWW := Lib.hid (HWW.out.trans (hb.mono HWW.out.size))
    clear hb
    clear c0 c1
    obtain ⟨⟨c0, c1, _, _, _⟩, _⟩ := HVA.out
    go_wp2_with fail
    refine (HNE.out _ HVA.out.2).mono ?_
    rintro e wz ⟨Ay, cy, rfl, hrw, hb⟩
    have hI0 := hrw.ints (rh_fitsE HON.out)
    have hb := hb.trans (((Below.refl wz.heap.size wz).alloc (Nat.le_refl _) (.cells #[.int .i64 N, .slice Ay (Y).length cy] 26)).mono hb.size)
    have HBW := Lib.hid (HBW.out.trans (hb.mono HBW.out.size))
    try have HVA := Lib.hid (HVA.out.lift hb)
    try have HVB := Lib.hid (HVB.out.lift hb)
    try have HVC := Lib.hid (HVC.out.lift hb)
    try have HVT := Lib.hid (HVT.out.lift hb)
    try have HVX := Lib.hid (HVX.out.lift hb)
    try have HVM := Lib.hid (HVM.out.lift hb)
    try have HVF := Lib.hid (HVF.out.lift hb)
    try have HVP := Lib.hid (HVP.out.lift hb)
    try have HVQ := Lib.hid (HVQ.out.lift hb)
    try have HLA := Lib.hid (HLA.out.lift hb)
    try have HLW := Lib.hid (HLW.out.lift hb)
    try have HI := Lib.hid (HI.out.lift hb)
    try have HRB := Lib.hid (HRB.out.trans (hb.mono HRB.out.size))
    try have HWW := Lib.hid (HWW.out.trans (hb.mono HWW.out.size))
    clear hb
    have HVX := Lib.hid (Hav.boxed hI0 N cy)
    clear hI0
    clear hrw c0 c1
    obtain ⟨⟨c0, c1, _, _, _⟩, _⟩ := HVA.out
    obtain ⟨⟨d0, d1, _, _, _⟩, _⟩ := HVT.out
    obtain ⟨⟨e0, e1, _, _, _⟩, _⟩ := HVF.out
    go_wp2_with fail
    generalize wz.alloc (.cells #[.int .i64 N, .slice Ay Y.length cy] 26) = wy at *
    generalize wz.heap.size = qy at *
    have HBW := Lib.hid (Below.drewH_ HBW.out)
    try have HRB := Lib.hid (Below.drewH_ HRB.out)
    try have HWW := Lib.hid (Below.drewH_ HWW.out)
    try have HVA := Lib.hid HVA.out.drew
    try have HVB := Lib.hid HVB.out.drew
    try have HVC := Lib.hid HVC.out.drew
    try have HVT := Lib.hid HVT.out.drew
    try have HVX := Lib.hid HVX.out.drew
    try have HVM := Lib.hid HVM.out.drew
    try have HVF := Lib.hid HVF.out.drew
    try have HVP := Lib.hid HVP.out.drew
    try have HVQ := Lib.hid HVQ.out.drew
    try have HLA := Lib.hid HLA.out.drewR_
    try have HLW := Lib.hid HLW.out.drewR_
    (refine wp_region_held_drew (S := (fun w' => w'.cell? ⟨qa, 0, none⟩ = some (.int .i64 N) ∧ w'.cell? ⟨qa, 1, none⟩ = some (.slice Aa R.length ca) ∧ w'.cell? ⟨qx, 0, none⟩ = some (.int .i64 N) ∧ w'.cell? ⟨qx, 1, none⟩ = some (.slice Ax X.length cx) ∧ w'.cell? ⟨qo, 0, none⟩ = some (.int .i64 N) ∧ w'.cell? ⟨qo, 1, none⟩ = some (.slice Ao O.length co))) (by kernel_rfl) ?_ (fun hHeld => ?_); (focus ((try dsimp only); exact ⟨c0, c1, d0, d1, e0, e1⟩)))
    ((refine wpAnyH_take (i := 0) (v := ?_) rfl (by kernel_rfl) (by kernel_rfl) (by kernel_rfl) (fun _ _ _ h => h) (Or.inl ⟨by rfl, ?_⟩) (by assumption) ?_; rotate_left; (focus (intro wS hSw; (try dsimp only at hSw); go_simp; (try with_reducible rfl))); (try simp only [Act.put, List.getElem_toArray, List.getElem_cons_zero, List.getElem_cons_succ, List.setIfInBounds_toArray, List.set_cons_zero, List.set_cons_succ])); (refine wpAnyH_take (i := 1) (v := ?_) rfl (by kernel_rfl) (by kernel_rfl) (by kernel_rfl) (fun _ _ _ h => h) (Or.inl ⟨by rfl, ?_⟩) (by assumption) ?_; rotate_left; (focus (intro wS hSw; (try dsimp only at hSw); go_simp; (try with_reducible rfl))); (try simp only [Act.put, List.getElem_toArray, List.getElem_cons_zero, List.getElem_cons_succ, List.setIfInBounds_toArray, List.set_cons_zero, List.set_cons_succ])); (refine wpAnyH_take (i := 2) (v := ?_) rfl (by kernel_rfl) (by kernel_rfl) (by kernel_rfl) (fun _ _ _ h => h) (Or.inl ⟨by rfl, ?_⟩) (by assumption) ?_; rotate_left; (focus (intro wS hSw; (try dsimp only at hSw); go_simp; (try with_reducible rfl))); (try simp only [Act.put, List.getElem_toArray, List.getElem_cons_zero, List.getElem_cons_succ, List.setIfInBounds_toArray, List.set_cons_zero, List.set_cons_succ])); (refine wpAnyH_take (i := 3) (v := ?_) rfl (by kernel_rfl) (by kernel_rfl) (by kernel_rfl) (fun _ _ _ h => h) (Or.inl ⟨by rfl, ?_⟩) (by assumption) ?_; rotate_left; (focus (intro wS hSw; (try dsimp only at hSw); go_simp; (try with_reducible rfl))); (try simp only [Act.put, List.getElem_toArray, List.getElem_cons_zero, List.getElem_cons_succ, List.setIfInBounds_toArray, List.set_cons_zero, List.set_cons_succ])); (refine wpAnyH_take (i := 4) (v := ?_) rfl (by kernel_rfl) (by kernel_rfl) (by kernel_rfl) (fun _ _ _ h => h) (Or.inl ⟨by rfl, ?_⟩) (by assumption) ?_; rotate_left; (focus (intro wS hSw; (try dsimp only at hSw); go_simp; (try with_reducible rfl))); (try simp only [Act.put, List.getElem_toArray, List.getElem_cons_zero, List.getElem_cons_succ, List.setIfInBounds_toArray, List.set_cons_zero, List.set_cons_succ])); (refine wpAnyH_take (i := 5) (v := ?_) rfl (by kernel_rfl) (by kernel_rfl) (by kernel_rfl) (fun _ _ _ h => h) (Or.inl ⟨by rfl, ?_⟩) (by assumption) ?_; rotate_left; (focus (intro wS hSw; (try dsimp only at hSw); go_simp; (try with_reducible rfl))); (try simp only [Act.put, List.getElem_toArray, List.getElem_cons_zero, List.getElem_cons_succ, List.setIfInBounds_toArray, List.set_cons_zero, List.set_cons_succ])))
    (refine wpAnyH_ready (rs := [6]) (by kernel_rfl) (by simp) ?_; refine AllReadyH.cons rfl (fun K hK => ?_) AllReadyH.nil; go_simp)
    go_at_call 11
    refine (HRX.out _ _ _ HVA.out.2 HVT.out.2).mono ?_
    rintro e wn ⟨rfl, hb⟩
    have HBW := Lib.hid (HBW.out.trans (hb.mono HBW.out.size))
    try have HVA := Lib.hid (HVA.out.lift hb)
    try have HVB := Lib.hid (HVB.out.lift hb)
    try have HVC := Lib.hid (HVC.out.lift hb)
    try have HVT := Lib.hid (HVT.out.lift hb)
    try have HVX := Lib.hid (HVX.out.lift hb)
    try have HVM := Lib.hid (HVM.out.lift hb)
    try have HVF := Lib.hid (HVF.out.lift hb)
    try have HVP := Lib.hid (HVP.out.lift hb)
    try have HVQ := Lib.hid (HVQ.out.lift hb)
    try have HLA := Lib.hid (HLA.out.lift hb)
    try have HLW := Lib.hid (HLW.out.lift hb)
    try have HI := Lib.hid (HI.out.lift hb)
    try have HRB := Lib.hid (HRB.out.trans (hb.mono HRB.out.size))
    try have HWW := Lib.hid (HWW.out.trans (hb.mono HWW.out.size))
    clear hb
    clear c0 c1 d0 d1 e0 e1
    obtain ⟨⟨c0, c1, _, _, _⟩, _⟩ := HVA.out
    obtain ⟨⟨d0, d1, _, _, _⟩, _⟩ := HVT.out
    obtain ⟨⟨e0, e1, _, _, _⟩, _⟩ := HVF.out
    go_wp2_with fail
    (refine hK.out _ _ ?_ (fun hHeld2 => ?_); (focus ((try dsimp only); exact ⟨c0, c1, d0, d1, e0, e1⟩)); (clear hK K); (try simp only [Act.put, List.getElem_toArray, List.getElem_cons_zero, List.getElem_cons_succ, List.setIfInBounds_toArray, List.set_cons_zero, List.set_cons_succ]))
    ((refine wpAnyH_take (i := 7) (v := ?_) rfl (by kernel_rfl) (by kernel_rfl) (by kernel_rfl) (fun _ _ _ h => h) (Or.inl ⟨by rfl, ?_⟩) (by assumption) ?_; rotate_left; (focus (intro wS hSw; (try dsimp only at hSw); go_simp; (try with_reducible rfl))); (try simp only [Act.put, List.getElem_toArray, List.getElem_cons_zero, List.getElem_cons_succ, List.setIfInBounds_toArray, List.set_cons_zero, List.set_cons_succ])); (refine wpAnyH_take (i := 8) (v := ?_) rfl (by kernel_rfl) (by kernel_rfl) (by kernel_rfl) (fun _ _ _ h => h) (Or.inl ⟨by rfl, ?_⟩) (by assumption) ?_; rotate_left; (focus (intro wS hSw; (try dsimp only at hSw); go_simp; (try with_reducible rfl))); (try simp only [Act.put, List.getElem_toArray, List.getElem_cons_zero, List.getElem_cons_succ, List.setIfInBounds_toArray, List.set_cons_zero, List.set_cons_succ])); (refine wpAnyH_take (i := 9) (v := ?_) rfl (by kernel_rfl) (by kernel_rfl) (by kernel_rfl) (fun _ _ _ h => h) (Or.inl ⟨by rfl, ?_⟩) (by assumption) ?_; rotate_left; (focus (intro wS hSw; (try dsimp only at hSw); go_simp; (try with_reducible rfl))); (try simp only [Act.put, List.getElem_toArray, List.getElem_cons_zero, List.getElem_cons_succ, List.setIfInBounds_toArray, List.set_cons_zero, List.set_cons_succ])); (refine wpAnyH_take (i := 10) (v := ?_) rfl (by kernel_rfl) (by kernel_rfl) (by kernel_rfl) (fun _ _ _ h => h) (Or.inl ⟨by rfl, ?_⟩) (by assumption) ?_; rotate_left; (focus (intro wS hSw; (try dsimp only at hSw); go_simp; (try with_reducible rfl))); (try simp only [Act.put, List.getElem_toArray, List.getElem_cons_zero, List.getElem_cons_succ, List.setIfInBounds_toArray, List.set_cons_zero, List.set_cons_succ])); (refine wpAnyH_take (i := 11) (v := ?_) rfl (by kernel_rfl) (by kernel_rfl) (by kernel_rfl) (fun _ _ _ h => h) (Or.inl ⟨by rfl, ?_⟩) (by assumption) ?_; rotate_left; (focus (intro wS hSw; (try dsimp only at hSw); go_simp; (try with_reducible rfl))); (try simp only [Act.put, List.getElem_toArray, List.getElem_cons_zero, List.getElem_cons_succ, List.setIfInBounds_toArray, List.set_cons_zero, List.set_cons_succ])); (refine wpAnyH_take (i := 13) (v := ?_) rfl (by kernel_rfl) (by kernel_rfl) (by kernel_rfl) (fun _ _ _ h => h) (Or.inl ⟨by rfl, ?_⟩) (by assumption) ?_; rotate_left; (focus (intro wS hSw; (try dsimp only at hSw); go_simp; (try with_reducible rfl))); (try simp only [Act.put, List.getElem_toArray, List.getElem_cons_zero, List.getElem_cons_succ, List.setIfInBounds_toArray, List.set_cons_zero, List.set_cons_succ])))
    (refine wpAnyH_ready (rs := [12]) (by kernel_rfl) (by simp) ?_; refine AllReadyH.cons rfl (fun K hK => ?_) AllReadyH.nil; go_simp)
    go_at_call 12
    refine (HSR.out _ HVA.out.2).mono ?_
    rintro e wn ⟨rfl, hb⟩
    have HBW := Lib.hid (HBW.out.trans (hb.mono HBW.out.size))
    try have HVA := Lib.hid (HVA.out.lift hb)
    try have HVB := Lib.hid (HVB.out.lift hb)
    try have HVC := Lib.hid (HVC.out.lift hb)
    try have HVT := Lib.hid (HVT.out.lift hb)
    try have HVX := Lib.hid (HVX.out.lift hb)
    try have HVM := Lib.hid (HVM.out.lift hb)
    try have HVF := Lib.hid (HVF.out.lift hb)
    try have HVP := Lib.hid (HVP.out.lift hb)
    try have HVQ := Lib.hid (HVQ.out.lift hb)
    try have HLA := Lib.hid (HLA.out.lift hb)
    try have HLW := Lib.hid (HLW.out.lift hb)
    try have HI := Lib.hid (HI.out.lift hb)
    try have HRB := Lib.hid (HRB.out.trans (hb.mono HRB.out.size))
    try have HWW := Lib.hid (HWW.out.trans (hb.mono HWW.out.size))
    clear hb
    clear c0 c1 d0 d1 e0 e1
    obtain ⟨⟨c0, c1, _, _, _⟩, _⟩ := HVA.out
    obtain ⟨⟨d0, d1, _, _, _⟩, _⟩ := HVT.out
    obtain ⟨⟨e0, e1, _, _, _⟩, _⟩ := HVF.out
    go_wp2_with fail
    (refine hK.out _ _ ?_ (fun hHeld2 => ?_); (focus ((try dsimp only); exact ⟨c0, c1, d0, d1, e0, e1⟩)); (clear hK K); (try simp only [Act.put, List.getElem_toArray, List.getElem_cons_zero, List.getElem_cons_succ, List.setIfInBounds_toArray, List.set_cons_zero, List.set_cons_succ]))
    (refine wpAnyH_ready (rs := [14]) (by kernel_rfl) (by simp) ?_; refine AllReadyH.cons rfl (fun K hK => ?_) AllReadyH.nil; go_simp)
    go_at_call 12
    refine (HSX.out _ _ _ HVT.out.2 HCX.out).mono ?_
    rintro e wn ⟨rfl, hb⟩
    have HBW := Lib.hid (HBW.out.trans (hb.mono HBW.out.size))
    try have HVA := Lib.hid (HVA.out.lift hb)
    try have HVB := Lib.hid (HVB.out.lift hb)
    try have HVC := Lib.hid (HVC.out.lift hb)
    try have HVT := Lib.hid (HVT.out.lift hb)
    try have HVX := Lib.hid (HVX.out.lift hb)
    try have HVM := Lib.hid (HVM.out.lift hb)
    try have HVF := Lib.hid (HVF.out.lift hb)
    try have HVP := Lib.hid (HVP.out.lift hb)
    try have HVQ := Lib.hid (HVQ.out.lift hb)
    try have HLA := Lib.hid (HLA.out.lift hb)
    try have HLW := Lib.hid (HLW.out.lift hb)
    try have HI := Lib.hid (HI.out.lift hb)
    try have HRB := Lib.hid (HRB.out.trans (hb.mono HRB.out.size))
    try have HWW := Lib.hid (HWW.out.trans (hb.mono HWW.out.size))
    clear hb
    clear c0 c1 d0 d1 e0 e1
    obtain ⟨⟨c0, c1, _, _, _⟩, _⟩ := HVA.out
    obtain ⟨⟨d0, d1, _, _, _⟩, _⟩ := HVT.out
    obtain ⟨⟨e0, e1, _, _, _⟩, _⟩ := HVF.out
    go_wp2_with fail
    (refine hK.out _ _ ?_ (fun hHeld2 => ?_); (focus ((try dsimp only); exact ⟨c0, c1, d0, d1, e0, e1⟩)); (clear hK K); (try simp only [Act.put, List.getElem_toArray, List.getElem_cons_zero, List.getElem_cons_succ, List.setIfInBounds_toArray, List.set_cons_zero, List.set_cons_succ]))
    ((refine wpAnyH_take (i := 15) (v := ?_) rfl (by kernel_rfl) (by kernel_rfl) (by kernel_rfl) (fun _ _ _ h => h) (Or.inl ⟨by rfl, ?_⟩) (by assumption) ?_; rotate_left; (focus (intro wS hSw; (try dsimp only at hSw); go_simp; (try with_reducible rfl))); (try simp only [Act.put, List.getElem_toArray, List.getElem_cons_zero, List.getElem_cons_succ, List.setIfInBounds_toArray, List.set_cons_zero, List.set_cons_succ])); (refine wpAnyH_take (i := 16) (v := ?_) rfl (by kernel_rfl) (by kernel_rfl) (by kernel_rfl) (fun _ _ _ h => h) (Or.inl ⟨by rfl, ?_⟩) (by assumption) ?_; rotate_left; (focus (intro wS hSw; (try dsimp only at hSw); go_simp; (try with_reducible rfl))); (try simp only [Act.put, List.getElem_toArray, List.getElem_cons_zero, List.getElem_cons_succ, List.setIfInBounds_toArray, List.set_cons_zero, List.set_cons_succ])); (refine wpAnyH_take (i := 17) (v := ?_) rfl (by kernel_rfl) (by kernel_rfl) (by kernel_rfl) (fun _ _ _ h => h) (Or.inl ⟨by rfl, ?_⟩) (by assumption) ?_; rotate_left; (focus (intro wS hSw; (try dsimp only at hSw); go_simp; (try with_reducible rfl))); (try simp only [Act.put, List.getElem_toArray, List.getElem_cons_zero, List.getElem_cons_succ, List.setIfInBounds_toArray, List.set_cons_zero, List.set_cons_succ])); (refine wpAnyH_take (i := 18) (v := ?_) rfl (by kernel_rfl) (by kernel_rfl) (by kernel_rfl) (fun _ _ _ h => h) (Or.inl ⟨by rfl, ?_⟩) (by assumption) ?_; rotate_left; (focus (intro wS hSw; (try dsimp only at hSw); go_simp; (try with_reducible rfl))); (try simp only [Act.put, List.getElem_toArray, List.getElem_cons_zero, List.getElem_cons_succ, List.setIfInBounds_toArray, List.set_cons_zero, List.set_cons_succ])); (refine wpAnyH_take (i := 19) (v := ?_) rfl (by kernel_rfl) (by kernel_rfl) (by kernel_rfl) (fun _ _ _ h => h) (Or.inl ⟨by rfl, ?_⟩) (by assumption) ?_; rotate_left; (focus (intro wS hSw; (try dsimp only at hSw); go_simp; (try with_reducible rfl))); (try simp only [Act.put, List.getElem_toArray, List.getElem_cons_zero, List.getElem_cons_succ, List.setIfInBounds_toArray, List.set_cons_zero, List.set_cons_succ])); (refine wpAnyH_take (i := 21) (v := ?_) rfl (by kernel_rfl) (by kernel_rfl) (by kernel_rfl) (fun _ _ _ h => h) (Or.inl ⟨by rfl, ?_⟩) (by assumption) ?_; rotate_left; (focus (intro wS hSw; (try dsimp only at hSw); go_simp; (try with_reducible rfl))); (try simp only [Act.put, List.getElem_toArray, List.getElem_cons_zero, List.getElem_cons_succ, List.setIfInBounds_toArray, List.set_cons_zero, List.set_cons_succ])))
    (refine wpAnyH_ready (rs := [20]) (by kernel_rfl) (by simp) ?_; refine AllReadyH.cons rfl (fun K hK => ?_) AllReadyH.nil; go_simp)
    go_at_call 12
    refine (HSR.out _ HVA.out.2).mono ?_
    rintro e wn ⟨rfl, hb⟩
    have HBW := Lib.hid (HBW.out.trans (hb.mono HBW.out.size))
    try have HVA := Lib.hid (HVA.out.lift hb)
    try have HVB := Lib.hid (HVB.out.lift hb)
    try have HVC := Lib.hid (HVC.out.lift hb)
    try have HVT := Lib.hid (HVT.out.lift hb)
    try have HVX := Lib.hid (HVX.out.lift hb)
    try have HVM := Lib.hid (HVM.out.lift hb)
    try have HVF := Lib.hid (HVF.out.lift hb)
    try have HVP := Lib.hid (HVP.out.lift hb)
    try have HVQ := Lib.hid (HVQ.out.lift hb)
    try have HLA := Lib.hid (HLA.out.lift hb)
    try have HLW := Lib.hid (HLW.out.lift hb)
    try have HI := Lib.hid (HI.out.lift hb)
    try have HRB := Lib.hid (HRB.out.trans (hb.mono HRB.out.size))
    try have HWW := Lib.hid (HWW.out.trans (hb.mono HWW.out.size))
    clear hb
    clear c0 c1 d0 d1 e0 e1
    obtain ⟨⟨c0, c1, _, _, _⟩, _⟩ := HVA.out
    obtain ⟨⟨d0, d1, _, _, _⟩, _⟩ := HVT.out
    obtain ⟨⟨e0, e1, _, _, _⟩, _⟩ := HVF.out
    go_wp2_with fail
    (refine hK.out _ _ ?_ (fun hHeld2 => ?_); (focus ((try dsimp only); exact ⟨c0, c1, d0, d1, e0, e1⟩)); (clear hK K); (try simp only [Act.put, List.getElem_toArray, List.getElem_cons_zero, List.getElem_cons_succ, List.setIfInBounds_toArray, List.set_cons_zero, List.set_cons_succ]))
    (refine wpAnyH_ready (rs := [22]) (by kernel_rfl) (by simp) ?_; refine AllReadyH.cons rfl (fun K hK => ?_) AllReadyH.nil; go_simp)
    go_at_call 12
    refine (HSX.out _ _ _ HVT.out.2 HCX.out).mono ?_
    rintro e wn ⟨rfl, hb⟩
    have HBW := Lib.hid (HBW.out.trans (hb.mono HBW.out.size))
    try have HVA := Lib.hid (HVA.out.lift hb)
    try have HVB := Lib.hid (HVB.out.lift hb)
    try have HVC := Lib.hid (HVC.out.lift hb)
    try have HVT := Lib.hid (HVT.out.lift hb)
    try have HVX := Lib.hid (HVX.out.lift hb)
    try have HVM := Lib.hid (HVM.out.lift hb)
    try have HVF := Lib.hid (HVF.out.lift hb)
    try have HVP := Lib.hid (HVP.out.lift hb)
    try have HVQ := Lib.hid (HVQ.out.lift hb)
    try have HLA := Lib.hid (HLA.out.lift hb)
    try have HLW := Lib.hid (HLW.out.lift hb)
    try have HI := Lib.hid (HI.out.lift hb)
    try have HRB := Lib.hid (HRB.out.trans (hb.mono HRB.out.size))
    try have HWW := Lib.hid (HWW.out.trans (hb.mono HWW.out.size))
    clear hb
    clear c0 c1 d0 d1 e0 e1
    obtain ⟨⟨c0, c1, _, _, _⟩, _⟩ := HVA.out
    obtain ⟨⟨d0, d1, _, _, _⟩, _⟩ := HVT.out
    obtain ⟨⟨e0, e1, _, _, _⟩, _⟩ := HVF.out
    go_wp2_with fail
    (refine hK.out _ _ ?_ (fun hHeld2 => ?_); (focus ((try dsimp only); exact ⟨c0, c1, d0, d1, e0, e1⟩)); (clear hK K); (try simp only [Act.put, List.getElem_toArray, List.getElem_cons_zero, List.getElem_cons_succ, List.setIfInBounds_toArray, List.set_cons_zero, List.set_cons_succ]))
    ((refine wpAnyH_take (i := 23) (v := ?_) rfl (by kernel_rfl) (by kernel_rfl) (by kernel_rfl) (fun _ _ _ h => h) (Or.inl ⟨by rfl, ?_⟩) (by assumption) ?_; rotate_left; (focus (intro wS hSw; (try dsimp only at hSw); go_simp; (try with_reducible rfl))); (try simp only [Act.put, List.getElem_toArray, List.getElem_cons_zero, List.getElem_cons_succ, List.setIfInBounds_toArray, List.set_cons_zero, List.set_cons_succ])); (refine wpAnyH_take (i := 24) (v := ?_) rfl (by kernel_rfl) (by kernel_rfl) (by kernel_rfl) (fun _ _ _ h => h) (Or.inl ⟨by rfl, ?_⟩) (by assumption) ?_; rotate_left; (focus (intro wS hSw; (try dsimp only at hSw); go_simp; (try with_reducible rfl))); (try simp only [Act.put, List.getElem_toArray, List.getElem_cons_zero, List.getElem_cons_succ, List.setIfInBounds_toArray, List.set_cons_zero, List.set_cons_succ])); (refine wpAnyH_take (i := 25) (v := ?_) rfl (by kernel_rfl) (by kernel_rfl) (by kernel_rfl) (fun _ _ _ h => h) (Or.inl ⟨by rfl, ?_⟩) (by assumption) ?_; rotate_left; (focus (intro wS hSw; (try dsimp only at hSw); go_simp; (try with_reducible rfl))); (try simp only [Act.put, List.getElem_toArray, List.getElem_cons_zero, List.getElem_cons_succ, List.setIfInBounds_toArray, List.set_cons_zero, List.set_cons_succ])); (refine wpAnyH_take (i := 26) (v := ?_) rfl (by kernel_rfl) (by kernel_rfl) (by kernel_rfl) (fun _ _ _ h => h) (Or.inl ⟨by rfl, ?_⟩) (by assumption) ?_; rotate_left; (focus (intro wS hSw; (try dsimp only at hSw); go_simp; (try with_reducible rfl))); (try simp only [Act.put, List.getElem_toArray, List.getElem_cons_zero, List.getElem_cons_succ, List.setIfInBounds_toArray, List.set_cons_zero, List.set_cons_succ])); (refine wpAnyH_take (i := 27) (v := ?_) rfl (by kernel_rfl) (by kernel_rfl) (by kernel_rfl) (fun _ _ _ h => h) (Or.inl ⟨by rfl, ?_⟩) (by assumption) ?_; rotate_left; (focus (intro wS hSw; (try dsimp only at hSw); go_simp; (try with_reducible rfl))); (try simp only [Act.put, List.getElem_toArray, List.getElem_cons_zero, List.getElem_cons_succ, List.setIfInBounds_toArray, List.set_cons_zero, List.set_cons_succ])))
    (refine wpAnyH_ready (rs := [28]) (by kernel_rfl) (by simp) ?_; refine AllReadyH.cons rfl (fun K hK => ?_) AllReadyH.nil; go_simp)
    go_at_call 10
    refine (HIO.out _ _ _ HVF.out.2).mono ?_
    rintro e wn ⟨rfl, hb⟩
    have HBW := Lib.hid (HBW.out.trans (hb.mono HBW.out.size))
    try have HVA := Lib.hid (HVA.out.lift hb)
    try have HVB := Lib.hid (HVB.out.lift hb)
    try have HVC := Lib.hid (HVC.out.lift hb)
    try have HVT := Lib.hid (HVT.out.lift hb)
    try have HVX := Lib.hid (HVX.out.lift hb)
    try have HVM := Lib.hid (HVM.out.lift hb)
    try have HVF := Lib.hid (HVF.out.lift hb)
    try have HVP := Lib.hid (HVP.out.lift hb)
    try have HVQ := Lib.hid (HVQ.out.lift hb)
    try have HLA := Lib.hid (HLA.out.lift hb)
    try have HLW := Lib.hid (HLW.out.lift hb)
    try have HI := Lib.hid (HI.out.lift hb)
    try have HRB := Lib.hid (HRB.out.trans (hb.mono HRB.out.size))
    try have HWW := Lib.hid (HWW.out.trans (hb.mono HWW.out.size))
    clear hb
    clear c0 c1 d0 d1 e0 e1
    obtain ⟨⟨c0, c1, _, _, _⟩, _⟩ := HVA.out
    obtain ⟨⟨d0, d1, _, _, _⟩, _⟩ := HVT.out
    obtain ⟨⟨e0, e1, _, _, _⟩, _⟩ := HVF.out
    go_wp2_with fail
    (refine hK.out _ _ ?_ (fun hHeld2 => ?_); (focus ((try dsimp only); exact ⟨c0, c1, d0, d1, e0, e1⟩)); (clear hK K); (try simp only [Act.put, List.getElem_toArray, List.getElem_cons_zero, List.getElem_cons_succ, List.setIfInBounds_toArray, List.set_cons_zero, List.set_cons_succ]))
    ((refine wpAnyH_take (i := 29) (v := ?_) rfl (by kernel_rfl) (by kernel_rfl) (by kernel_rfl) (fun _ _ _ h => h) (Or.inl ⟨by rfl, ?_⟩) (by assumption) ?_; rotate_left; (focus (intro wS hSw; (try dsimp only at hSw); go_simp; (try with_reducible rfl))); (try simp only [Act.put, List.getElem_toArray, List.getElem_cons_zero, List.getElem_cons_succ, List.setIfInBounds_toArray, List.set_cons_zero, List.set_cons_succ])); (refine wpAnyH_take (i := 30) (v := ?_) rfl (by kernel_rfl) (by kernel_rfl) (by kernel_rfl) (fun _ _ _ h => h) (Or.inl ⟨by rfl, ?_⟩) (by assumption) ?_; rotate_left; (focus (intro wS hSw; (try dsimp only at hSw); go_simp; (try with_reducible rfl))); (try simp only [Act.put, List.getElem_toArray, List.getElem_cons_zero, List.getElem_cons_succ, List.setIfInBounds_toArray, List.set_cons_zero, List.set_cons_succ])); (refine wpAnyH_take (i := 31) (v := ?_) rfl (by kernel_rfl) (by kernel_rfl) (by kernel_rfl) (fun _ _ _ h => h) (Or.inl ⟨by rfl, ?_⟩) (by assumption) ?_; rotate_left; (focus (intro wS hSw; (try dsimp only at hSw); go_simp; (try with_reducible rfl))); (try simp only [Act.put, List.getElem_toArray, List.getElem_cons_zero, List.getElem_cons_succ, List.setIfInBounds_toArray, List.set_cons_zero, List.set_cons_succ])); (refine wpAnyH_take (i := 32) (v := ?_) rfl (by kernel_rfl) (by kernel_rfl) (by kernel_rfl) (fun _ _ _ h => h) (Or.inl ⟨by rfl, ?_⟩) (by assumption) ?_; rotate_left; (focus (intro wS hSw; (try dsimp only at hSw); go_simp; (try with_reducible rfl))); (try simp only [Act.put, List.getElem_toArray, List.getElem_cons_zero, List.getElem_cons_succ, List.setIfInBounds_toArray, List.set_cons_zero, List.set_cons_succ])); (refine wpAnyH_take (i := 33) (v := ?_) rfl (by kernel_rfl) (by kernel_rfl) (by kernel_rfl) (fun _ _ _ h => h) (Or.inl ⟨by rfl, ?_⟩) (by assumption) ?_; rotate_left; (focus (intro wS hSw; (try dsimp only at hSw); go_simp; (try with_reducible rfl))); (try simp only [Act.put, List.getElem_toArray, List.getElem_cons_zero, List.getElem_cons_succ, List.setIfInBounds_toArray, List.set_cons_zero, List.set_cons_succ])))
    (refine wpAnyH_ready (rs := [34]) (by kernel_rfl) (by simp) ?_; refine AllReadyH.cons rfl (fun K hK => ?_) AllReadyH.nil; go_simp)
    go_at_call 20
    refine (HBA.out _ HVA.out.2).mono ?_
    rintro e wn ⟨rfl, hb⟩
    have HBW := Lib.hid (HBW.out.trans (hb.mono HBW.out.size))
    try have HVA := Lib.hid (HVA.out.lift hb)
    try have HVB := Lib.hid (HVB.out.lift hb)
    try have HVC := Lib.hid (HVC.out.lift hb)
    try have HVT := Lib.hid (HVT.out.lift hb)
    try have HVX := Lib.hid (HVX.out.lift hb)
    try have HVM := Lib.hid (HVM.out.lift hb)
    try have HVF := Lib.hid (HVF.out.lift hb)
    try have HVP := Lib.hid (HVP.out.lift hb)
    try have HVQ := Lib.hid (HVQ.out.lift hb)
    try have HLA := Lib.hid (HLA.out.lift hb)
    try have HLW := Lib.hid (HLW.out.lift hb)
    try have HI := Lib.hid (HI.out.lift hb)
    try have HRB := Lib.hid (HRB.out.trans (hb.mono HRB.out.size))
    try have HWW := Lib.hid (HWW.out.trans (hb.mono HWW.out.size))
    clear hb
    clear c0 c1 d0 d1 e0 e1
    obtain ⟨⟨c0, c1, _, _, _⟩, _⟩ := HVA.out
    obtain ⟨⟨d0, d1, _, _, _⟩, _⟩ := HVT.out
    obtain ⟨⟨e0, e1, _, _, _⟩, _⟩ := HVF.out
    go_wp2_with fail
    (refine hK.out _ _ ?_ (fun hHeld2 => ?_); (focus ((try dsimp only); exact ⟨c0, c1, d0, d1, e0, e1⟩)); (clear hK K); (try simp only [Act.put, List.getElem_toArray, List.getElem_cons_zero, List.getElem_cons_succ, List.setIfInBounds_toArray, List.set_cons_zero, List.set_cons_succ]))
    ((refine wpAnyH_take (i := 35) (v := ?_) rfl (by kernel_rfl) (by kernel_rfl) (by kernel_rfl) (fun _ _ _ h => h) (Or.inl ⟨by rfl, ?_⟩) (by assumption) ?_; rotate_left; (focus (intro wS hSw; (try dsimp only at hSw); go_simp; (try with_reducible rfl))); (try simp only [Act.put, List.getElem_toArray, List.getElem_cons_zero, List.getElem_cons_succ, List.setIfInBounds_toArray, List.set_cons_zero, List.set_cons_succ])); (refine wpAnyH_take (i := 36) (v := ?_) rfl (by kernel_rfl) (by kernel_rfl) (by kernel_rfl) (fun _ _ _ h => h) (Or.inl ⟨by rfl, ?_⟩) (by assumption) ?_; rotate_left; (focus (intro wS hSw; (try dsimp only at hSw); go_simp; (try with_reducible rfl))); (try simp only [Act.put, List.getElem_toArray, List.getElem_cons_zero, List.getElem_cons_succ, List.setIfInBounds_toArray, List.set_cons_zero, List.set_cons_succ])))
    refine wpAnyH_done (by kernel_rfl) ?_ _
    clear c0 c1 d0 d1 e0 e1
    obtain ⟨⟨c0, c1, _, _, _⟩, _⟩ := HVA.out
    obtain ⟨⟨d0, d1, _, _, _⟩, _⟩ := HVT.out
    obtain ⟨⟨e0, e1, _, _, _⟩, _⟩ := HVX.out
    go_wp2_with fail
    refine (HNX.out _ _ _ _ _ HVX.out.2 HVT.out.2).mono ?_
    rintro e wn ⟨rfl, hb⟩
    have HBW := Lib.hid (HBW.out.trans (hb.mono HBW.out.size))
    try have HVA := Lib.hid (HVA.out.lift hb)
    try have HVB := Lib.hid (HVB.out.lift hb)
    try have HVC := Lib.hid (HVC.out.lift hb)
    try have HVT := Lib.hid (HVT.out.lift hb)
    try have HVX := Lib.hid (HVX.out.lift hb)
    try have HVM := Lib.hid (HVM.out.lift hb)
    try have HVF := Lib.hid (HVF.out.lift hb)
    try have HVP := Lib.hid (HVP.out.lift hb)
    try have HVQ := Lib.hid (HVQ.out.lift hb)
    try have HLA := Lib.hid (HLA.out.lift hb)
    try have HLW := Lib.hid (HLW.out.lift hb)
    try have HI := Lib.hid (HI.out.lift hb)
    try have HRB := Lib.hid (HRB.out.trans (hb.mono HRB.out.size))
    try have HWW := Lib.hid (HWW.out.trans (hb.mono HWW.out.size))
    clear hb
    clear c0 c1 d0 d1 e0 e1
    obtain ⟨⟨c0, c1, _, _, _⟩, _⟩ := HVA.out
    obtain ⟨⟨d0, d1, _, _, _⟩, _⟩ := HVT.out
    obtain ⟨⟨e0, e1, _, _, _⟩, _⟩ := HVX.out
    go_wp2_with fail
    refine (HCO.out _ _ _ HVX.out.2 HVA.out.2).mono ?_
    rintro e wn ⟨rfl, hb⟩
    have HBW := Lib.hid (HBW.out.trans (hb.mono HBW.out.size))
    try have HVA := Lib.hid (HVA.out.lift hb)
    try have HVB := Lib.hid (HVB.out.lift hb)
    try have HVC := Lib.hid (HVC.out.lift hb)
    try have HVT := Lib.hid (HVT.out.lift hb)
    try have HVX := Lib.hid (HVX.out.lift hb)
    try have HVM := Lib.hid (HVM.out.lift hb)
    try have HVF := Lib.hid (HVF.out.lift hb)
    try have HVP := Lib.hid (HVP.out.lift hb)
    try have HVQ := Lib.hid (HVQ.out.lift hb)
    try have HLA := Lib.hid (HLA.out.lift hb)
    try have HLW := Lib.hid (HLW.out.lift hb)
    try have HI := Lib.hid (HI.out.lift hb)
    try have HRB := Lib.hid (HRB.out.trans (hb.mono HRB.out.size))
    try have HWW := Lib.hid (HWW.out.trans (hb.mono HWW.out.size))
    clear hb
    clear c0 c1 d0 d1 e0 e1
    obtain ⟨⟨c0, c1, _, _, _⟩, _⟩ := HVA.out
    obtain ⟨⟨d0, d1, _, _, _⟩, _⟩ := HVT.out
    obtain ⟨⟨e0, e1, _, _, _⟩, _⟩ := HVX.out
    go_wp2_with fail
    go_ret
    exact ⟨rfl, HBW.out⟩

end Go.Proofs.YthookknmeajojaaGreatDoor
