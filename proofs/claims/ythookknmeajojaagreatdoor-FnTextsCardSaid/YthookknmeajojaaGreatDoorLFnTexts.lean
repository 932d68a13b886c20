/-
  The law FnTexts: the walk.
-/
import Derived.Test.YthookknmeajojaaGreatDoorTxF
import Derived.Test.YthookknmeajojaaGreatDoorOpB
import Derived.BigQuiet
namespace Go.Proofs.YthookknmeajojaaGreatDoor
open Go.RowKit
set_option linter.unusedVariables false
set_option linter.unusedSimpArgs false

/-- What stays through calls. -/
def Stb (P : World → Prop) : Prop := ∀ V V', P V → Below V.heap.size V V' → P V'
theorem Stb.and {P Q : World → Prop} (h : Stb P) (k : Stb Q) : Stb fun V => P V ∧ Q V := fun V V' p b => ⟨h V V' p.1 b, k V V' p.2 b⟩
theorem stb_ints (A : Option Addr) (xs : List Int) : Stb fun V => Ints V V.heap.size A xs := fun _ _ h hb => h.lift hb
theorem stb_below (w : World) : Stb fun V => Below w.heap.size w V := fun _ _ h hb => h.trans (hb.mono h.size)
theorem stb_cells2 (g : Nat) (u v : Value) : Stb fun V => Cells2 V g u v := fun _ _ h hb => h.below hb h.2.2.2.2
theorem stb_drew {P : World → Prop} (h : Stb P) {V : World} (p : P V) : P V.drew := h V _ p ⟨rfl, rfl, rfl, Nat.le_refl _, fun _ _ => rfl⟩

set_option maxRecDepth 100000 in
set_option maxHeartbeats 1000000 in
theorem impl_SameRhythm_self (N : Nat) (A B : Option Addr) (ca cb : Nat) (bs : List Int) (w : World) (hA : Ints w w.heap.size A bs) (hB : Ints w w.heap.size B bs) (hok : RhOk N bs) :
    Calls Tryz.prog 34 #[.agg #[.int .i64 N, .slice A bs.length ca], .agg #[.int .i64 N, .slice B bs.length cb]] w fun e w' => e = .returned (.bool true) ∧ Below w.heap.size w w' := by
  have hfN : Fits (N : Int) := by have := hok.1; have := hok.2.1; unfold Fits; omega
  have HSS : ∀ V, Ints V V.heap.size A bs → Ints V V.heap.size B bs → Calls Tryz.prog 56 #[.agg #[.int .i64 N, .slice A bs.length ca], .agg #[.int .i64 N, .slice B bs.length cb]] V fun e w' => e = .returned (.bool true) ∧ Below V.heap.size V w' := by
    intro w hA hB
    have hst := (stb_ints A bs).and ((stb_ints B bs).and ((stb_below w).and ((stb_cells2 w.heap.size (.int .i64 N) (.slice A bs.length ca)).and (stb_cells2 (w.heap.size + 1) (.int .i64 N) (.slice B bs.length cb)))))
    have hw0 : Below w.heap.size w ((w.alloc (.cells #[.int .i64 N, .slice A bs.length ca] 26)).alloc (.cells #[.int .i64 N, .slice B bs.length cb] 26)) := ((Below.refl _ _).alloc (Nat.le_refl _) _).alloc (by simp) _
    have hk := Cells2.new (w.alloc (.cells #[.int .i64 N, .slice A bs.length ca] 26)) (.int .i64 N) (.slice B bs.length cb) 26
    rw [World.size_alloc] at hk
    have HS0 := Lib.hid (show _ from (⟨hA.lift hw0, hB.lift hw0, hw0, (Cells2.new w (.int .i64 N) (.slice A bs.length ca) 26).alloc (.cells #[.int .i64 N, .slice B bs.length cb] 26), hk⟩ : _ ∧ _ ∧ _ ∧ _ ∧ _))
    have HST := Lib.hid hst
    have HRA := Lib.hid (fun V h => impl_RhythmOk_any N A ca bs V hfN h)
    have HRB := Lib.hid (fun V h => impl_RhythmOk_any N B cb bs V hfN h)
    rw [rhB_iff.2 hok] at HRA HRB
    have hnn : ((N : Int) == (N : Int)) = true := by simp
    obtain ⟨_, _, _, ⟨p0, p1, _, _, _⟩, ⟨q0, q1, _, _, _⟩⟩ := HS0.out
    clear hst hw0 hk hA hB
    go_enter Tryz.func56, Tryz.ntmps56
    go_wp2_with fail
    refine (HRA.out _ HS0.out.1).mono ?_
    rintro e w1 ⟨rfl, hb1⟩
    have HS1 := Lib.hid (HST.out _ _ HS0.out hb1)
    clear p0 p1 q0 q1 hb1 HS0
    obtain ⟨_, _, _, ⟨p0, p1, _, _, _⟩, ⟨q0, q1, _, _, _⟩⟩ := HS1.out
    go_wp2_with fail
    refine (HRB.out _ HS1.out.2.1).mono ?_
    rintro e w2 ⟨rfl, hb2⟩
    have HS2 := Lib.hid (HST.out _ _ HS1.out hb2)
    clear p0 p1 q0 q1 hb2 HS1
    obtain ⟨_, _, _, ⟨p0, p1, _, _, _⟩, ⟨q0, q1, _, _, _⟩⟩ := HS2.out
    go_wp2_with fail
    go_ret
    exact ⟨rfl, HS2.out.2.2.1⟩
  have HSS := Lib.hid HSS
  have HEQ := Lib.hid (fun V h1 h2 => impl_equals_any N A B ca cb bs bs V h1 h2)
  rw [show eqB bs bs = true from eqB_self bs] at HEQ
  have hst := (stb_ints A bs).and ((stb_ints B bs).and ((stb_below w).and ((stb_cells2 w.heap.size (.int .i64 N) (.slice A bs.length ca)).and (stb_cells2 (w.heap.size + 1) (.int .i64 N) (.slice B bs.length cb)))))
  have hw0 : Below w.heap.size w ((w.alloc (.cells #[.int .i64 N, .slice A bs.length ca] 26)).alloc (.cells #[.int .i64 N, .slice B bs.length cb] 26)) := ((Below.refl _ _).alloc (Nat.le_refl _) _).alloc (by simp) _
  have hk := Cells2.new (w.alloc (.cells #[.int .i64 N, .slice A bs.length ca] 26)) (.int .i64 N) (.slice B bs.length cb) 26
  rw [World.size_alloc] at hk
  have HS0 := Lib.hid (show _ from (⟨hA.lift hw0, hB.lift hw0, hw0, (Cells2.new w (.int .i64 N) (.slice A bs.length ca) 26).alloc (.cells #[.int .i64 N, .slice B bs.length cb] 26), hk⟩ : _ ∧ _ ∧ _ ∧ _ ∧ _))
  have HST := Lib.hid hst
  obtain ⟨_, _, _, ⟨p0, p1, _, _, _⟩, ⟨q0, q1, _, _, _⟩⟩ := HS0.out
  clear hst hw0 hk hA hB
  go_enter Tryz.func34, Tryz.ntmps34
  go_wp2_with fail
  refine (HSS.out _ HS0.out.1 HS0.out.2.1).mono ?_
  rintro e w1 ⟨rfl, hb1⟩
  have HS1 := Lib.hid (HST.out _ _ HS0.out hb1)
  clear p0 p1 q0 q1 hb1 HS0
  obtain ⟨_, _, _, ⟨p0, p1, _, _, _⟩, ⟨q0, q1, _, _, _⟩⟩ := HS1.out
  go_wp2_with fail
  refine (HEQ.out _ HS1.out.1 HS1.out.2.1).mono ?_
  rintro e w2 ⟨rfl, hb2⟩
  have HS2 := Lib.hid (HST.out _ _ HS1.out hb2)
  clear p0 p1 q0 q1 hb2 HS1
  go_wp2_with fail
  go_ret
  exact ⟨rfl, HS2.out.2.2.1⟩

theorem same_self (A B : Option Addr) (ca cb : Nat) (xs : List Int) (w : World) (hA : Ints w w.heap.size A xs) (hB : Ints w w.heap.size B xs) :
    Calls Tryz.prog 36 #[.slice A xs.length ca, .slice B xs.length cb] w fun e w' => e = .returned (.bool true) ∧ Below w.heap.size w w' :=
  (laws_sameE_any A B ca cb xs xs w hA hB rfl).mono fun e w' h => ⟨by rw [h.1, eqB_self], h.2 ▸ Below.refl _ _⟩

set_option maxRecDepth 100000 in
set_option maxHeartbeats 4000000 in
theorem law_FnTexts {w : World} (A : Option Addr) (cap : Nat) (xs : List Int) (hA : Byt w w.heap.size A xs) (hE : Errs w) (hP : Pow w) (hM : MaxL w) :
    Calls Tryz.prog 4 #[.slice A xs.length cap] w fun e w' => e = .returned (.bool true) ∧ Below w.heap.size w w' := by
  have HA := Lib.hid hA
  have HE := Lib.hid hE
  have HP := Lib.hid hP
  have HM := Lib.hid hM
  have hml := hA.1
  unfold maxLen at hml
  clear hA hE hP hM
  by_cases hbig : 1048576 < xs.length
  · go_enter Tryz.func4, Tryz.ntmps4
    go_wp2_with fail
    go_ret
    exact ⟨rfl, Below.refl _ _⟩
  go_enter Tryz.func4, Tryz.ntmps4
  go_wp2_with fail
  refine (spec_MakeRhythm_any A cap xs 0 16 w HA.out (by decide) (by decide) (by decide)).mono ?_
  rintro e w1 ⟨⟨v, rfl, N, bs, A2, c2, rfl, hok, hN12, hrw, hcp⟩, hb1⟩
  have hn1 : 1 ≤ N := by have := hok.1; omega
  have hfN : Fits (N : Int) := by unfold Fits; omega
  have HOK := Lib.hid hok
  have hal := (Below.refl w1.heap.size w1).alloc (Nat.le_refl _) (.cells #[.int .i64 N, .slice A2 bs.length c2] 26)
  have HST := Lib.hid ((stb_below w).and ((stb_cells2 w1.heap.size (.int .i64 N) (.slice A2 bs.length c2)).and (stb_ints A2 bs)))
  have HS2 := Lib.hid (show _ from (⟨hb1.trans (hal.mono hb1.size), Cells2.new w1 (.int .i64 N) (.slice A2 bs.length c2) 26, (hrw.ints (rh_fits hok)).lift hal⟩ : _ ∧ _ ∧ _))
  obtain ⟨q0, q1, _, _, _⟩ := HS2.out.2.1
  clear hrw hb1 hok hcp hal
  go_wp2_with fail
  generalize w1.alloc (.cells #[.int .i64 N, .slice A2 bs.length c2] 26) = w2 at *
  generalize w1.heap.size = q at *
  refine (spec_MakeMeter_any A cap xs 30 w2 (HA.out.lift HS2.out.1) (by decide)).mono ?_
  rintro e w3 ⟨⟨ms, A4, c4, rfl, hm4, hi4⟩, hb⟩
  have HMO := Lib.hid hm4
  have HST3 := Lib.hid (HST.out.and (stb_ints A4 ms))
  have HS3 := Lib.hid (And.intro (HST.out _ _ HS2.out hb) hi4)
  clear hb hi4 hm4 q0 q1 HS2
  obtain ⟨q0, q1, _, _, _⟩ := HS3.out.1.2.1
  go_wp2_with fail
  refine (spec_MakeBar_any A cap xs 34 w3 (HA.out.lift HS3.out.1.1) (by decide)).mono ?_
  rintro e w4 ⟨⟨bb, A5, c5, rfl, hm5, hi5⟩, hb⟩
  have HBO := Lib.hid hm5
  have HST4 := Lib.hid (HST3.out.and (stb_ints A5 bb))
  have HS4 := Lib.hid (And.intro (HST3.out _ _ HS3.out hb) hi5)
  clear hb hi5 hm5 q0 q1 HS3
  obtain ⟨q0, q1, _, _, _⟩ := HS4.out.1.1.2.1
  go_wp2_with fail
  refine (spec_MakeTimes_any A cap xs 50 w4 (HA.out.lift HS4.out.1.1.1) (by decide)).mono ?_
  rintro e w5 ⟨⟨ts, A6, c6, rfl, hm6, hi6⟩, hb⟩
  have HTO := Lib.hid hm6
  have hx : Stb fun V => Below w.heap.size w V ∧ Cells2 V q (.int .i64 N) (.slice A2 bs.length c2) ∧ Ints V V.heap.size A2 bs ∧ Ints V V.heap.size A4 ms ∧ Ints V V.heap.size A5 bb ∧ Ints V V.heap.size A6 ts :=
    (stb_below w).and ((stb_cells2 q _ _).and ((stb_ints A2 bs).and ((stb_ints A4 ms).and ((stb_ints A5 bb).and (stb_ints A6 ts)))))
  have HS5 := Lib.hid (show _ from (⟨(HST4.out _ _ HS4.out hb).1.1.1, (HST4.out _ _ HS4.out hb).1.1.2.1, (HST4.out _ _ HS4.out hb).1.1.2.2, (HST4.out _ _ HS4.out hb).1.2, (HST4.out _ _ HS4.out hb).2, hi6⟩ : _ ∧ _ ∧ _ ∧ _ ∧ _ ∧ _))
  have HX := Lib.hid hx
  clear hb hi6 hm6 q0 q1 HS4 HST HST3 HST4 hx
  have HFR := Lib.hid (fun V (h : Ints V V.heap.size A2 bs) => impl_FormatRhythm_ok N A2 c2 bs V h HOK.out)
  have HT := Lib.hid (text_prh HOK.out)
  have htl : (textF N bs (fun _ => 120)).length = N := textF_len _ _ _
  have hsz : (mkS (textF N bs (fun _ => 120))).size = N := by rw [mkS_size, htl]
  have HPR := Lib.hid (fun V => impl_ParseRhythm_any (mkS (textF N bs (fun _ => 120))) V (by unfold maxLen; omega))
  rw [HT.out.1, HT.out.2.1, HT.out.2.2] at HPR
  have HFM := Lib.hid (fun V h (hb : Below w.heap.size w V) => impl_FormatMeter_any A4 c4 ms V h HMO.out (HP.out.below hb) (HM.out.below hb))
  have HPM := Lib.hid (fun V (hb : Below w.heap.size w V) => impl_ParseMeter_ok ms V HMO.out (HE.out.below hb) (HP.out.below hb) (HM.out.below hb))
  have hba := bar_again HBO.out.1 HBO.out.2.1 HBO.out.2.2
  have HFB := Lib.hid (fun V h (hb : Below w.heap.size w V) => impl_FormatBar_any A5 c5 bb V h (HP.out.below hb) (HM.out.below hb))
  have hbf : ∀ x ∈ bb, Fits x := fun x hx => by have := HBO.out.2.2 x hx; unfold Fits; omega
  have hbl : (mkS (fbarV bb)).size ≤ 1048576 := by
    rw [mkS_size]
    have h1 := joinT_len [43] 20 (bb.map itoL) (nums_mem hbf)
    rw [List.length_map] at h1
    have h2 : bb.length * (20 + 1) ≤ 6 * 21 := Nat.mul_le_mul HBO.out.2.1 (Nat.le_refl _)
    have h3 : fbarV bb = joinT (bb.map itoL) [43] := by unfold fbarV; rw [if_pos hba.1]; rfl
    rw [h3]
    exact Nat.le_trans h1 (Nat.le_trans h2 (by decide))
  have HPB := Lib.hid (fun V (hb : Below w.heap.size w V) => impl_ParseBar_any (mkS (fbarV bb)) V hbl (HE.out.below hb) (HP.out.below hb) (HM.out.below hb))
  rw [hba.2] at HPB
  have htf : ∀ x ∈ ts, Fits x := fun x hx => by have := HTO.out.2 x hx; unfold Fits; omega
  have htl2 := HTO.out.1
  have HFN := Lib.hid (fun V h (hb : Below w.heap.size w V) => impl_FormatNumbers_any A6 c6 ts V h (by omega) (HP.out.below hb))
  have hnl : (numsT ts).length ≤ 504 := by
    have h1 := joinT_len [44] 20 (ts.map itoL) (nums_mem htf)
    rw [List.length_map] at h1
    have h2 : ts.length * (20 + 1) ≤ 6 * 21 := Nat.mul_le_mul htl2 (Nat.le_refl _)
    unfold numsT
    split
    · exact (by decide : 1 ≤ 504)
    · exact Nat.le_trans h1 (Nat.le_trans h2 (by decide))
  have HPN := Lib.hid (fun V (hb : Below w.heap.size w V) => impl_ParseNumbers_any (mkS (numsT ts)) V (by rw [mkS_size]; omega) (HE.out.below hb) (HP.out.below hb))
  rw [nums_again (by omega) htf] at HPN
  generalize textF N bs (fun _ => 120) = TX at *
  generalize mkS (fmtM ms) = SM at *
  generalize mkS (fbarV bb) = SB at *
  generalize mkS (numsT ts) = SN at *
  clear hba hbf hbl htf htl2 hnl HT htl
  generalize mkS TX = SX at *
  unfold RetRh2 at HPR
  unfold RetNumO at HPM HPB
  unfold RetNums at HPN
  obtain ⟨q0, q1, _, _, _⟩ := HS5.out.2.1
  go_wp2_with fail
  refine (HFR.out _ HS5.out.2.2.1).mono ?_
  rintro e w6 ⟨rfl, hb⟩
  have HS6 := Lib.hid (HX.out _ _ HS5.out hb)
  clear hb q0 q1 HS5
  obtain ⟨q0, q1, _, _, _⟩ := HS6.out.2.1
  go_wp2_with fail
  refine (HPR.out _).mono ?_
  rintro e w7 ⟨A7, c7, rfl, hrw7, hb⟩
  have hal := (Below.refl w7.heap.size w7).alloc (Nat.le_refl _) (.cells #[.int .i64 N, .slice A7 bs.length c7] 26)
  have HX7 := Lib.hid (HX.out.and ((stb_cells2 w7.heap.size (.int .i64 N) (.slice A7 bs.length c7)).and (stb_ints A7 bs)))
  have HS7 := Lib.hid (And.intro (HX.out _ _ (HX.out _ _ HS6.out hb) hal) (And.intro (Cells2.new w7 (.int .i64 N) (.slice A7 bs.length c7) 26) ((hrw7.ints (rh_fits HOK.out)).lift hal)))
  clear hb q0 q1 HS6 hrw7 hal
  obtain ⟨q0, q1, _, _, _⟩ := HS7.out.1.2.1
  obtain ⟨x0, x1, _, _, _⟩ := HS7.out.2.1
  go_wp2_with fail
  generalize w7.alloc (.cells #[.int .i64 N, .slice A7 bs.length c7] 26) = w8 at *
  generalize w7.heap.size = qx at *
  refine (HFM.out _ HS7.out.1.2.2.2.1 HS7.out.1.1).mono ?_
  rintro e w9 ⟨rfl, hb⟩
  have HS9 := Lib.hid (HX7.out _ _ HS7.out hb)
  clear hb q0 q1 x0 x1 HS7
  obtain ⟨q0, q1, _, _, _⟩ := HS9.out.1.2.1
  obtain ⟨x0, x1, _, _, _⟩ := HS9.out.2.1
  go_wp2_with fail
  refine (HPM.out _ HS9.out.1.1).mono ?_
  rintro e w10 ⟨A10, c10, rfl, ho10, hf10, hb⟩
  have HX10 := Lib.hid (HX7.out.and (stb_ints A10 ms))
  have HS10 := Lib.hid (And.intro (HX7.out _ _ HS9.out hb) (ho10.ints hf10))
  clear hb q0 q1 x0 x1 HS9 ho10 hf10 HX7
  obtain ⟨q0, q1, _, _, _⟩ := HS10.out.1.1.2.1
  obtain ⟨x0, x1, _, _, _⟩ := HS10.out.1.2.1
  go_wp2_with fail
  refine (HFB.out _ HS10.out.1.1.2.2.2.2.1 HS10.out.1.1.1).mono ?_
  rintro e w11 ⟨rfl, hb⟩
  have HS11 := Lib.hid (HX10.out _ _ HS10.out hb)
  clear hb q0 q1 x0 x1 HS10
  obtain ⟨q0, q1, _, _, _⟩ := HS11.out.1.1.2.1
  obtain ⟨x0, x1, _, _, _⟩ := HS11.out.1.2.1
  go_wp2_with fail
  refine (HPB.out _ HS11.out.1.1.1).mono ?_
  rintro e w12 ⟨A12, c12, rfl, ho12, hf12, hb⟩
  have HX12 := Lib.hid (HX10.out.and (stb_ints A12 bb))
  have HS12 := Lib.hid (And.intro (HX10.out _ _ HS11.out hb) (ho12.ints hf12))
  clear hb q0 q1 x0 x1 HS11 ho12 hf12 HX10
  obtain ⟨q0, q1, _, _, _⟩ := HS12.out.1.1.1.2.1
  obtain ⟨x0, x1, _, _, _⟩ := HS12.out.1.1.2.1
  go_wp2_with fail
  refine (HFN.out _ HS12.out.1.1.1.2.2.2.2.2 HS12.out.1.1.1.1).mono ?_
  rintro e w13 ⟨rfl, hb⟩
  have HS13 := Lib.hid (HX12.out _ _ HS12.out hb)
  clear hb q0 q1 x0 x1 HS12
  obtain ⟨q0, q1, _, _, _⟩ := HS13.out.1.1.1.2.1
  obtain ⟨x0, x1, _, _, _⟩ := HS13.out.1.1.2.1
  go_wp2_with fail
  refine (HPN.out _ HS13.out.1.1.1.1).mono ?_
  rintro e w14 ⟨A14, c14, rfl, hi14, hb⟩
  have HX14 := Lib.hid (HX12.out.and (stb_ints A14 ts))
  have HS14 := Lib.hid (And.intro (HX12.out _ _ HS13.out hb) hi14)
  clear hb q0 q1 x0 x1 HS13 hi14 HX12
  obtain ⟨q0, q1, _, _, _⟩ := HS14.out.1.1.1.1.2.1
  obtain ⟨x0, x1, _, _, _⟩ := HS14.out.1.1.1.2.1
  go_wp2_with fail
  have HSD := Lib.hid (stb_drew HX14.out HS14.out)
  clear HS14
  (refine wp_region_held_drew (S := (fun w' => (w'.cell? ⟨q, 0, none⟩ = some (.int .i64 N) ∧ w'.cell? ⟨q, 1, none⟩ = some (.slice A2 bs.length c2)) ∧ w'.cell? ⟨qx, 0, none⟩ = some (.int .i64 N) ∧ w'.cell? ⟨qx, 1, none⟩ = some (.slice A7 bs.length c7))) (by kernel_rfl) ?_ (fun hHeld => ?_); (focus ((try dsimp only); exact ⟨⟨q0, q1⟩, x0, x1⟩)))
  ((refine wpAnyH_take (i := 0) (v := ?_) rfl (by kernel_rfl) (by kernel_rfl) (by kernel_rfl) (fun _ _ _ h => h) (Or.inl ⟨by rfl, ?_⟩) (by assumption) ?_; rotate_left; (focus (intro wS hSw; (try dsimp only at hSw); go_simp; (try with_reducible rfl))); (try simp only [Act.put, List.getElem_toArray, List.getElem_cons_zero, List.getElem_cons_succ, List.setIfInBounds_toArray, List.set_cons_zero, List.set_cons_succ])); (refine wpAnyH_take (i := 1) (v := ?_) rfl (by kernel_rfl) (by kernel_rfl) (by kernel_rfl) (fun _ _ _ h => h) (Or.inl ⟨by rfl, ?_⟩) (by assumption) ?_; rotate_left; (focus (intro wS hSw; (try dsimp only at hSw); go_simp; (try with_reducible rfl))); (try simp only [Act.put, List.getElem_toArray, List.getElem_cons_zero, List.getElem_cons_succ, List.setIfInBounds_toArray, List.set_cons_zero, List.set_cons_succ])); (refine wpAnyH_take (i := 2) (v := ?_) rfl (by kernel_rfl) (by kernel_rfl) (by kernel_rfl) (fun _ _ _ h => h) (Or.inl ⟨by rfl, ?_⟩) (by assumption) ?_; rotate_left; (focus (intro wS hSw; (try dsimp only at hSw); go_simp; (try with_reducible rfl))); (try simp only [Act.put, List.getElem_toArray, List.getElem_cons_zero, List.getElem_cons_succ, List.setIfInBounds_toArray, List.set_cons_zero, List.set_cons_succ])); (refine wpAnyH_take (i := 3) (v := ?_) rfl (by kernel_rfl) (by kernel_rfl) (by kernel_rfl) (fun _ _ _ h => h) (Or.inl ⟨by rfl, ?_⟩) (by assumption) ?_; rotate_left; (focus (intro wS hSw; (try dsimp only at hSw); go_simp; (try with_reducible rfl))); (try simp only [Act.put, List.getElem_toArray, List.getElem_cons_zero, List.getElem_cons_succ, List.setIfInBounds_toArray, List.set_cons_zero, List.set_cons_succ])))
  (refine wpAnyH_ready (rs := [4]) (by kernel_rfl) (by simp) ?_; refine AllReadyH.cons rfl (fun K hK => ?_) AllReadyH.nil; go_simp)
  have HEB := Lib.hid (eqB_self bs)
  go_at_call 34
  refine (impl_SameRhythm_self N A7 A2 c7 c2 bs _ HSD.out.1.1.1.2.2 HSD.out.1.1.1.1.2.2.1 HOK.out).mono ?_
  rintro e w15 ⟨rfl, hb⟩
  have HSN := Lib.hid (HX14.out _ _ HSD.out hb)
  clear hb q0 q1 x0 x1 HSD
  have HSD := HSN
  clear HSN
  obtain ⟨q0, q1, _, _, _⟩ := HSD.out.1.1.1.1.2.1
  obtain ⟨x0, x1, _, _, _⟩ := HSD.out.1.1.1.2.1
  try rw [HEB.out]
  go_wp2_with fail
  (refine hK.out _ _ ?_ (fun hHeld2 => ?_); (focus ((try dsimp only); exact ⟨⟨q0, q1⟩, x0, x1⟩)); (clear hK K); (try simp only [Act.put, List.getElem_toArray, List.getElem_cons_zero, List.getElem_cons_succ, List.setIfInBounds_toArray, List.set_cons_zero, List.set_cons_succ]))
  ((refine wpAnyH_take (i := 5) (v := ?_) rfl (by kernel_rfl) (by kernel_rfl) (by kernel_rfl) (fun _ _ _ h => h) (Or.inl ⟨by rfl, ?_⟩) (by assumption) ?_; rotate_left; (focus (intro wS hSw; (try dsimp only at hSw); go_simp; (try with_reducible rfl))); (try simp only [Act.put, List.getElem_toArray, List.getElem_cons_zero, List.getElem_cons_succ, List.setIfInBounds_toArray, List.set_cons_zero, List.set_cons_succ])); (refine wpAnyH_take (i := 6) (v := ?_) rfl (by kernel_rfl) (by kernel_rfl) (by kernel_rfl) (fun _ _ _ h => h) (Or.inl ⟨by rfl, ?_⟩) (by assumption) ?_; rotate_left; (focus (intro wS hSw; (try dsimp only at hSw); go_simp; (try with_reducible rfl))); (try simp only [Act.put, List.getElem_toArray, List.getElem_cons_zero, List.getElem_cons_succ, List.setIfInBounds_toArray, List.set_cons_zero, List.set_cons_succ])); (refine wpAnyH_take (i := 7) (v := ?_) rfl (by kernel_rfl) (by kernel_rfl) (by kernel_rfl) (fun _ _ _ h => h) (Or.inl ⟨by rfl, ?_⟩) (by assumption) ?_; rotate_left; (focus (intro wS hSw; (try dsimp only at hSw); go_simp; (try with_reducible rfl))); (try simp only [Act.put, List.getElem_toArray, List.getElem_cons_zero, List.getElem_cons_succ, List.setIfInBounds_toArray, List.set_cons_zero, List.set_cons_succ])); (refine wpAnyH_take (i := 8) (v := ?_) rfl (by kernel_rfl) (by kernel_rfl) (by kernel_rfl) (fun _ _ _ h => h) (Or.inl ⟨by rfl, ?_⟩) (by assumption) ?_; rotate_left; (focus (intro wS hSw; (try dsimp only at hSw); go_simp; (try with_reducible rfl))); (try simp only [Act.put, List.getElem_toArray, List.getElem_cons_zero, List.getElem_cons_succ, List.setIfInBounds_toArray, List.set_cons_zero, List.set_cons_succ])))
  (refine wpAnyH_ready (rs := [9]) (by kernel_rfl) (by simp) ?_; refine AllReadyH.cons rfl (fun K hK => ?_) AllReadyH.nil; go_simp)
  go_at_call 35
  refine (laws_rhythmsE_any N A7 A2 c7 c2 bs bs _ HSD.out.1.1.1.2.2 HSD.out.1.1.1.1.2.2.1 rfl).mono ?_
  rintro e w16 ⟨rfl, hb⟩
  have HSN := Lib.hid (HX14.out _ _ HSD.out hb)
  clear hb q0 q1 x0 x1 HSD
  have HSD := HSN
  clear HSN
  obtain ⟨q0, q1, _, _, _⟩ := HSD.out.1.1.1.1.2.1
  obtain ⟨x0, x1, _, _, _⟩ := HSD.out.1.1.1.2.1
  try rw [HEB.out]
  go_wp2_with fail
  (refine hK.out _ _ ?_ (fun hHeld2 => ?_); (focus ((try dsimp only); exact ⟨⟨q0, q1⟩, x0, x1⟩)); (clear hK K); (try simp only [Act.put, List.getElem_toArray, List.getElem_cons_zero, List.getElem_cons_succ, List.setIfInBounds_toArray, List.set_cons_zero, List.set_cons_succ]))
  ((refine wpAnyH_take (i := 10) (v := ?_) rfl (by kernel_rfl) (by kernel_rfl) (by kernel_rfl) (fun _ _ _ h => h) (Or.inl ⟨by rfl, ?_⟩) (by assumption) ?_; rotate_left; (focus (intro wS hSw; (try dsimp only at hSw); go_simp; (try with_reducible rfl))); (try simp only [Act.put, List.getElem_toArray, List.getElem_cons_zero, List.getElem_cons_succ, List.setIfInBounds_toArray, List.set_cons_zero, List.set_cons_succ])); (refine wpAnyH_take (i := 11) (v := ?_) rfl (by kernel_rfl) (by kernel_rfl) (by kernel_rfl) (fun _ _ _ h => h) (Or.inl ⟨by rfl, ?_⟩) (by assumption) ?_; rotate_left; (focus (intro wS hSw; (try dsimp only at hSw); go_simp; (try with_reducible rfl))); (try simp only [Act.put, List.getElem_toArray, List.getElem_cons_zero, List.getElem_cons_succ, List.setIfInBounds_toArray, List.set_cons_zero, List.set_cons_succ])); (refine wpAnyH_take (i := 12) (v := ?_) rfl (by kernel_rfl) (by kernel_rfl) (by kernel_rfl) (fun _ _ _ h => h) (Or.inl ⟨by rfl, ?_⟩) (by assumption) ?_; rotate_left; (focus (intro wS hSw; (try dsimp only at hSw); go_simp; (try with_reducible rfl))); (try simp only [Act.put, List.getElem_toArray, List.getElem_cons_zero, List.getElem_cons_succ, List.setIfInBounds_toArray, List.set_cons_zero, List.set_cons_succ])); (refine wpAnyH_take (i := 13) (v := ?_) rfl (by kernel_rfl) (by kernel_rfl) (by kernel_rfl) (fun _ _ _ h => h) (Or.inl ⟨by rfl, ?_⟩) (by assumption) ?_; rotate_left; (focus (intro wS hSw; (try dsimp only at hSw); go_simp; (try with_reducible rfl))); (try simp only [Act.put, List.getElem_toArray, List.getElem_cons_zero, List.getElem_cons_succ, List.setIfInBounds_toArray, List.set_cons_zero, List.set_cons_succ])); (refine wpAnyH_take (i := 14) (v := ?_) rfl (by kernel_rfl) (by kernel_rfl) (by kernel_rfl) (fun _ _ _ h => h) (Or.inl ⟨by rfl, ?_⟩) (by assumption) ?_; rotate_left; (focus (intro wS hSw; (try dsimp only at hSw); go_simp; (try with_reducible rfl))); (try simp only [Act.put, List.getElem_toArray, List.getElem_cons_zero, List.getElem_cons_succ, List.setIfInBounds_toArray, List.set_cons_zero, List.set_cons_succ])); (refine wpAnyH_take (i := 15) (v := ?_) rfl (by kernel_rfl) (by kernel_rfl) (by kernel_rfl) (fun _ _ _ h => h) (Or.inl ⟨by rfl, ?_⟩) (by assumption) ?_; rotate_left; (focus (intro wS hSw; (try dsimp only at hSw); go_simp; (try with_reducible rfl))); (try simp only [Act.put, List.getElem_toArray, List.getElem_cons_zero, List.getElem_cons_succ, List.setIfInBounds_toArray, List.set_cons_zero, List.set_cons_succ])); (refine wpAnyH_take (i := 16) (v := ?_) rfl (by kernel_rfl) (by kernel_rfl) (by kernel_rfl) (fun _ _ _ h => h) (Or.inl ⟨by rfl, ?_⟩) (by assumption) ?_; rotate_left; (focus (intro wS hSw; (try dsimp only at hSw); go_simp; (try with_reducible rfl))); (try simp only [Act.put, List.getElem_toArray, List.getElem_cons_zero, List.getElem_cons_succ, List.setIfInBounds_toArray, List.set_cons_zero, List.set_cons_succ])))
  (refine wpAnyH_ready (rs := [17]) (by kernel_rfl) (by simp) ?_; refine AllReadyH.cons rfl (fun K hK => ?_) AllReadyH.nil; go_simp)
  go_at_call 36
  refine (same_self A10 A4 c10 c4 ms _ HSD.out.1.1.2 HSD.out.1.1.1.1.2.2.2.1).mono ?_
  rintro e w17 ⟨rfl, hb⟩
  have HSN := Lib.hid (HX14.out _ _ HSD.out hb)
  clear hb q0 q1 x0 x1 HSD
  have HSD := HSN
  clear HSN
  obtain ⟨q0, q1, _, _, _⟩ := HSD.out.1.1.1.1.2.1
  obtain ⟨x0, x1, _, _, _⟩ := HSD.out.1.1.1.2.1
  try rw [HEB.out]
  go_wp2_with fail
  (refine hK.out _ _ ?_ (fun hHeld2 => ?_); (focus ((try dsimp only); exact ⟨⟨q0, q1⟩, x0, x1⟩)); (clear hK K); (try simp only [Act.put, List.getElem_toArray, List.getElem_cons_zero, List.getElem_cons_succ, List.setIfInBounds_toArray, List.set_cons_zero, List.set_cons_succ]))
  ((refine wpAnyH_take (i := 18) (v := ?_) rfl (by kernel_rfl) (by kernel_rfl) (by kernel_rfl) (fun _ _ _ h => h) (Or.inl ⟨by rfl, ?_⟩) (by assumption) ?_; rotate_left; (focus (intro wS hSw; (try dsimp only at hSw); go_simp; (try with_reducible rfl))); (try simp only [Act.put, List.getElem_toArray, List.getElem_cons_zero, List.getElem_cons_succ, List.setIfInBounds_toArray, List.set_cons_zero, List.set_cons_succ])); (refine wpAnyH_take (i := 19) (v := ?_) rfl (by kernel_rfl) (by kernel_rfl) (by kernel_rfl) (fun _ _ _ h => h) (Or.inl ⟨by rfl, ?_⟩) (by assumption) ?_; rotate_left; (focus (intro wS hSw; (try dsimp only at hSw); go_simp; (try with_reducible rfl))); (try simp only [Act.put, List.getElem_toArray, List.getElem_cons_zero, List.getElem_cons_succ, List.setIfInBounds_toArray, List.set_cons_zero, List.set_cons_succ])); (refine wpAnyH_take (i := 20) (v := ?_) rfl (by kernel_rfl) (by kernel_rfl) (by kernel_rfl) (fun _ _ _ h => h) (Or.inl ⟨by rfl, ?_⟩) (by assumption) ?_; rotate_left; (focus (intro wS hSw; (try dsimp only at hSw); go_simp; (try with_reducible rfl))); (try simp only [Act.put, List.getElem_toArray, List.getElem_cons_zero, List.getElem_cons_succ, List.setIfInBounds_toArray, List.set_cons_zero, List.set_cons_succ])); (refine wpAnyH_take (i := 21) (v := ?_) rfl (by kernel_rfl) (by kernel_rfl) (by kernel_rfl) (fun _ _ _ h => h) (Or.inl ⟨by rfl, ?_⟩) (by assumption) ?_; rotate_left; (focus (intro wS hSw; (try dsimp only at hSw); go_simp; (try with_reducible rfl))); (try simp only [Act.put, List.getElem_toArray, List.getElem_cons_zero, List.getElem_cons_succ, List.setIfInBounds_toArray, List.set_cons_zero, List.set_cons_succ])); (refine wpAnyH_take (i := 22) (v := ?_) rfl (by kernel_rfl) (by kernel_rfl) (by kernel_rfl) (fun _ _ _ h => h) (Or.inl ⟨by rfl, ?_⟩) (by assumption) ?_; rotate_left; (focus (intro wS hSw; (try dsimp only at hSw); go_simp; (try with_reducible rfl))); (try simp only [Act.put, List.getElem_toArray, List.getElem_cons_zero, List.getElem_cons_succ, List.setIfInBounds_toArray, List.set_cons_zero, List.set_cons_succ])); (refine wpAnyH_take (i := 23) (v := ?_) rfl (by kernel_rfl) (by kernel_rfl) (by kernel_rfl) (fun _ _ _ h => h) (Or.inl ⟨by rfl, ?_⟩) (by assumption) ?_; rotate_left; (focus (intro wS hSw; (try dsimp only at hSw); go_simp; (try with_reducible rfl))); (try simp only [Act.put, List.getElem_toArray, List.getElem_cons_zero, List.getElem_cons_succ, List.setIfInBounds_toArray, List.set_cons_zero, List.set_cons_succ])); (refine wpAnyH_take (i := 24) (v := ?_) rfl (by kernel_rfl) (by kernel_rfl) (by kernel_rfl) (fun _ _ _ h => h) (Or.inl ⟨by rfl, ?_⟩) (by assumption) ?_; rotate_left; (focus (intro wS hSw; (try dsimp only at hSw); go_simp; (try with_reducible rfl))); (try simp only [Act.put, List.getElem_toArray, List.getElem_cons_zero, List.getElem_cons_succ, List.setIfInBounds_toArray, List.set_cons_zero, List.set_cons_succ])))
  (refine wpAnyH_ready (rs := [25]) (by kernel_rfl) (by simp) ?_; refine AllReadyH.cons rfl (fun K hK => ?_) AllReadyH.nil; go_simp)
  go_at_call 36
  refine (same_self A12 A5 c12 c5 bb _ HSD.out.1.2 HSD.out.1.1.1.1.2.2.2.2.1).mono ?_
  rintro e w18 ⟨rfl, hb⟩
  have HSN := Lib.hid (HX14.out _ _ HSD.out hb)
  clear hb q0 q1 x0 x1 HSD
  have HSD := HSN
  clear HSN
  obtain ⟨q0, q1, _, _, _⟩ := HSD.out.1.1.1.1.2.1
  obtain ⟨x0, x1, _, _, _⟩ := HSD.out.1.1.1.2.1
  try rw [HEB.out]
  go_wp2_with fail
  (refine hK.out _ _ ?_ (fun hHeld2 => ?_); (focus ((try dsimp only); exact ⟨⟨q0, q1⟩, x0, x1⟩)); (clear hK K); (try simp only [Act.put, List.getElem_toArray, List.getElem_cons_zero, List.getElem_cons_succ, List.setIfInBounds_toArray, List.set_cons_zero, List.set_cons_succ]))
  ((refine wpAnyH_take (i := 26) (v := ?_) rfl (by kernel_rfl) (by kernel_rfl) (by kernel_rfl) (fun _ _ _ h => h) (Or.inl ⟨by rfl, ?_⟩) (by assumption) ?_; rotate_left; (focus (intro wS hSw; (try dsimp only at hSw); go_simp; (try with_reducible rfl))); (try simp only [Act.put, List.getElem_toArray, List.getElem_cons_zero, List.getElem_cons_succ, List.setIfInBounds_toArray, List.set_cons_zero, List.set_cons_succ])); (refine wpAnyH_take (i := 27) (v := ?_) rfl (by kernel_rfl) (by kernel_rfl) (by kernel_rfl) (fun _ _ _ h => h) (Or.inl ⟨by rfl, ?_⟩) (by assumption) ?_; rotate_left; (focus (intro wS hSw; (try dsimp only at hSw); go_simp; (try with_reducible rfl))); (try simp only [Act.put, List.getElem_toArray, List.getElem_cons_zero, List.getElem_cons_succ, List.setIfInBounds_toArray, List.set_cons_zero, List.set_cons_succ])); (refine wpAnyH_take (i := 28) (v := ?_) rfl (by kernel_rfl) (by kernel_rfl) (by kernel_rfl) (fun _ _ _ h => h) (Or.inl ⟨by rfl, ?_⟩) (by assumption) ?_; rotate_left; (focus (intro wS hSw; (try dsimp only at hSw); go_simp; (try with_reducible rfl))); (try simp only [Act.put, List.getElem_toArray, List.getElem_cons_zero, List.getElem_cons_succ, List.setIfInBounds_toArray, List.set_cons_zero, List.set_cons_succ])); (refine wpAnyH_take (i := 29) (v := ?_) rfl (by kernel_rfl) (by kernel_rfl) (by kernel_rfl) (fun _ _ _ h => h) (Or.inl ⟨by rfl, ?_⟩) (by assumption) ?_; rotate_left; (focus (intro wS hSw; (try dsimp only at hSw); go_simp; (try with_reducible rfl))); (try simp only [Act.put, List.getElem_toArray, List.getElem_cons_zero, List.getElem_cons_succ, List.setIfInBounds_toArray, List.set_cons_zero, List.set_cons_succ])); (refine wpAnyH_take (i := 30) (v := ?_) rfl (by kernel_rfl) (by kernel_rfl) (by kernel_rfl) (fun _ _ _ h => h) (Or.inl ⟨by rfl, ?_⟩) (by assumption) ?_; rotate_left; (focus (intro wS hSw; (try dsimp only at hSw); go_simp; (try with_reducible rfl))); (try simp only [Act.put, List.getElem_toArray, List.getElem_cons_zero, List.getElem_cons_succ, List.setIfInBounds_toArray, List.set_cons_zero, List.set_cons_succ])); (refine wpAnyH_take (i := 31) (v := ?_) rfl (by kernel_rfl) (by kernel_rfl) (by kernel_rfl) (fun _ _ _ h => h) (Or.inl ⟨by rfl, ?_⟩) (by assumption) ?_; rotate_left; (focus (intro wS hSw; (try dsimp only at hSw); go_simp; (try with_reducible rfl))); (try simp only [Act.put, List.getElem_toArray, List.getElem_cons_zero, List.getElem_cons_succ, List.setIfInBounds_toArray, List.set_cons_zero, List.set_cons_succ])); (refine wpAnyH_take (i := 32) (v := ?_) rfl (by kernel_rfl) (by kernel_rfl) (by kernel_rfl) (fun _ _ _ h => h) (Or.inl ⟨by rfl, ?_⟩) (by assumption) ?_; rotate_left; (focus (intro wS hSw; (try dsimp only at hSw); go_simp; (try with_reducible rfl))); (try simp only [Act.put, List.getElem_toArray, List.getElem_cons_zero, List.getElem_cons_succ, List.setIfInBounds_toArray, List.set_cons_zero, List.set_cons_succ])))
  (refine wpAnyH_ready (rs := [33]) (by kernel_rfl) (by simp) ?_; refine AllReadyH.cons rfl (fun K hK => ?_) AllReadyH.nil; go_simp)
  go_at_call 36
  refine (same_self A14 A6 c14 c6 ts _ HSD.out.2 HSD.out.1.1.1.1.2.2.2.2.2).mono ?_
  rintro e w19 ⟨rfl, hb⟩
  have HSN := Lib.hid (HX14.out _ _ HSD.out hb)
  clear hb q0 q1 x0 x1 HSD
  have HSD := HSN
  clear HSN
  obtain ⟨q0, q1, _, _, _⟩ := HSD.out.1.1.1.1.2.1
  obtain ⟨x0, x1, _, _, _⟩ := HSD.out.1.1.1.2.1
  try rw [HEB.out]
  go_wp2_with fail
  (refine hK.out _ _ ?_ (fun hHeld2 => ?_); (focus ((try dsimp only); exact ⟨⟨q0, q1⟩, x0, x1⟩)); (clear hK K); (try simp only [Act.put, List.getElem_toArray, List.getElem_cons_zero, List.getElem_cons_succ, List.setIfInBounds_toArray, List.set_cons_zero, List.set_cons_succ]))
  ((refine wpAnyH_take (i := 34) (v := ?_) rfl (by kernel_rfl) (by kernel_rfl) (by kernel_rfl) (fun _ _ _ h => h) (Or.inl ⟨by rfl, ?_⟩) (by assumption) ?_; rotate_left; (focus (intro wS hSw; (try dsimp only at hSw); go_simp; (try with_reducible rfl))); (try simp only [Act.put, List.getElem_toArray, List.getElem_cons_zero, List.getElem_cons_succ, List.setIfInBounds_toArray, List.set_cons_zero, List.set_cons_succ])); (refine wpAnyH_take (i := 35) (v := ?_) rfl (by kernel_rfl) (by kernel_rfl) (by kernel_rfl) (fun _ _ _ h => h) (Or.inl ⟨by rfl, ?_⟩) (by assumption) ?_; rotate_left; (focus (intro wS hSw; (try dsimp only at hSw); go_simp; (try with_reducible rfl))); (try simp only [Act.put, List.getElem_toArray, List.getElem_cons_zero, List.getElem_cons_succ, List.setIfInBounds_toArray, List.set_cons_zero, List.set_cons_succ])); (refine wpAnyH_take (i := 36) (v := ?_) rfl (by kernel_rfl) (by kernel_rfl) (by kernel_rfl) (fun _ _ _ h => h) (Or.inl ⟨by rfl, ?_⟩) (by assumption) ?_; rotate_left; (focus (intro wS hSw; (try dsimp only at hSw); go_simp; (try with_reducible rfl))); (try simp only [Act.put, List.getElem_toArray, List.getElem_cons_zero, List.getElem_cons_succ, List.setIfInBounds_toArray, List.set_cons_zero, List.set_cons_succ])); (refine wpAnyH_take (i := 39) (v := ?_) rfl (by kernel_rfl) (by kernel_rfl) (by kernel_rfl) (fun _ _ _ h => h) (Or.inl ⟨by rfl, ?_⟩) (by assumption) ?_; rotate_left; (focus (intro wS hSw; (try dsimp only at hSw); go_simp; (try with_reducible rfl))); (try simp only [Act.put, List.getElem_toArray, List.getElem_cons_zero, List.getElem_cons_succ, List.setIfInBounds_toArray, List.set_cons_zero, List.set_cons_succ])); (refine wpAnyH_take (i := 40) (v := ?_) rfl (by kernel_rfl) (by kernel_rfl) (by kernel_rfl) (fun _ _ _ h => h) (Or.inl ⟨by rfl, ?_⟩) (by assumption) ?_; rotate_left; (focus (intro wS hSw; (try dsimp only at hSw); go_simp; (try with_reducible rfl))); (try simp only [Act.put, List.getElem_toArray, List.getElem_cons_zero, List.getElem_cons_succ, List.setIfInBounds_toArray, List.set_cons_zero, List.set_cons_succ])))
  (refine wpAnyH_ready (rs := [37]) (by kernel_rfl) (by simp) ?_; refine AllReadyH.cons rfl (fun K hK => ?_) AllReadyH.nil; go_simp)
  go_at_call 27
  refine (HFR.out _ HSD.out.1.1.1.1.2.2.1).mono ?_
  rintro e w20 ⟨rfl, hb⟩
  have HSN := Lib.hid (HX14.out _ _ HSD.out hb)
  clear hb q0 q1 x0 x1 HSD
  have HSD := HSN
  clear HSN
  obtain ⟨q0, q1, _, _, _⟩ := HSD.out.1.1.1.1.2.1
  obtain ⟨x0, x1, _, _, _⟩ := HSD.out.1.1.1.2.1
  try rw [HEB.out]
  go_wp2_with fail
  (refine hK.out _ _ ?_ (fun hHeld2 => ?_); (focus ((try dsimp only); exact ⟨⟨q0, q1⟩, x0, x1⟩)); (clear hK K); (try simp only [Act.put, List.getElem_toArray, List.getElem_cons_zero, List.getElem_cons_succ, List.setIfInBounds_toArray, List.set_cons_zero, List.set_cons_succ]))
  have hszi : ((SX.size : Int) == (N : Int)) = true := by rw [hsz]; simp
  ((refine wpAnyH_take (i := 38) (v := ?_) rfl (by kernel_rfl) (by kernel_rfl) (by kernel_rfl) (fun _ _ _ h => h) (Or.inl ⟨by rfl, ?_⟩) (by assumption) ?_; rotate_left; (focus (intro wS hSw; (try dsimp only at hSw); go_simp; (try with_reducible rfl))); (try simp only [Act.put, List.getElem_toArray, List.getElem_cons_zero, List.getElem_cons_succ, List.setIfInBounds_toArray, List.set_cons_zero, List.set_cons_succ])); (refine wpAnyH_take (i := 41) (v := ?_) rfl (by kernel_rfl) (by kernel_rfl) (by kernel_rfl) (fun _ _ _ h => h) (Or.inl ⟨by rfl, ?_⟩) (by assumption) ?_; rotate_left; (focus (intro wS hSw; (try dsimp only at hSw); go_simp; (try with_reducible rfl))); (try simp only [Act.put, List.getElem_toArray, List.getElem_cons_zero, List.getElem_cons_succ, List.setIfInBounds_toArray, List.set_cons_zero, List.set_cons_succ])); (refine wpAnyH_take (i := 42) (v := ?_) rfl (by kernel_rfl) (by kernel_rfl) (by kernel_rfl) (fun _ _ _ h => h) (Or.inl ⟨by rfl, ?_⟩) (by assumption) ?_; rotate_left; (focus (intro wS hSw; (try dsimp only at hSw); go_simp; (try with_reducible rfl))); (try simp only [Act.put, List.getElem_toArray, List.getElem_cons_zero, List.getElem_cons_succ, List.setIfInBounds_toArray, List.set_cons_zero, List.set_cons_succ])); (refine wpAnyH_take (i := 43) (v := ?_) rfl (by kernel_rfl) (by kernel_rfl) (by kernel_rfl) (fun _ _ _ h => h) (Or.inl ⟨by rfl, ?_⟩) (by assumption) ?_; rotate_left; (focus (intro wS hSw; (try dsimp only at hSw); go_simp; (try with_reducible rfl))); (try simp only [Act.put, List.getElem_toArray, List.getElem_cons_zero, List.getElem_cons_succ, List.setIfInBounds_toArray, List.set_cons_zero, List.set_cons_succ])))
  refine wpAnyH_done (by kernel_rfl) ?_ _
  clear q0 q1 x0 x1
  go_wp2_with fail
  go_ret
  exact ⟨rfl, HSD.out.1.1.1.1.1⟩

end Go.Proofs.YthookknmeajojaaGreatDoor
