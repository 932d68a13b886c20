/-
  TempoLine of both.
-/
import Derived.Test.YtinmhjeljkiefaaDoorTemX
namespace Go.Proofs.YtinmhjeljkiefaaDoor
open Go.RowKit
set_option linter.unusedVariables false
set_option linter.unusedSimpArgs false

theorem itoS (n : Int) (h : Fits n) : (mkS (itoL n)).size ≤ 20 ∧ Str (mkS (itoL n)) (itoL n) := ⟨by rw [mkS_size]; exact itoL_len n h, str_mk _⟩

set_option maxRecDepth 100000 in
set_option maxHeartbeats 4000000 in
theorem impl_TempoLine_any (A : Option Addr) (cap : Nat) (xs : List (Int × Int)) (w : World) (hA : Pas w w.heap.size A xs) (hP : Pow w) :
    Calls Tryd.prog 24 #[.slice A xs.length cap] w fun e w' => e = .returned (.string (mkS (temV xs))) ∧ Below w.heap.size w w' := by
  have HA := Lib.hid hA
  have HCT := Lib.hid (fun V h => impl_CountTempo_any A cap xs V h)
  cases hok : temOk xs
  · have HTN := Lib.hid (fun V c h => impl_TimeOf_no A cap xs c V h hok)
    have HV := Lib.hid (show temV xs = [110, 111, 110, 101] by unfold temV; rw [hok]; rfl)
    rw [hok] at HCT
    generalize temV xs = v at HV ⊢
    clear hA hok
    go_enter Tryd.func24, Tryd.ntmps24
    go_wp2_with fail
    refine (HCT.out _ HA.out).mono ?_
    rintro e w1 ⟨rfl, hb1⟩
    go_wp2_with fail
    refine (HTN.out _ _ (HA.out.lift hb1)).mono ?_
    rintro e w2 ⟨rfl, hb2⟩
    have HB2 := Lib.hid (hb1.trans (hb2.mono hb1.size))
    clear hb1 hb2
    go_wp2_with fail
    go_ret
    exact ⟨ret_str (by rw [HV.out]; rfl), by first | exact HB2.out | exact HB2.out.alloc HB2.out.size _⟩
  · obtain ⟨h1, h8, hall⟩ := temOk_parts hok
    have HTN := Lib.hid (fun V h => impl_TimeOf_ok A cap xs V h hok)
    have HV := Lib.hid (show temV xs = temL xs by unfold temV; rw [hok]; rfl)
    have HCT2 := Lib.hid (show ∀ V, Pas V V.heap.size A xs → Calls Tryd.prog 45 #[.slice A xs.length cap] V fun e w' => e = .returned (.int .i64 (cntT xs)) ∧ Below V.heap.size V w' by
      intro V h
      have := HCT.out V h
      rw [hok, if_pos rfl] at this
      exact this)
    have hcb := cnt_bound xs hall
    have hub := uni_bound xs hall
    have htb := top_bound (uniT xs).toNat
    have hbb := bot_bound (uniT xs).toNat
    have HFI := Lib.hid (fun n (hn : Fits n) V (hb : Below w.heap.size w V) => impl_FormatInt_any n hn V (hP.below hb))
    have HL := Lib.hid (show temL xs = itoL (cntT xs) ++ [32] ++ itoL (topN (uniT xs).toNat) ++ (if botN (uniT xs).toNat = 1 then [] else [47] ++ itoL (botN (uniT xs).toNat)) from rfl)
    obtain ⟨t, ht⟩ : ∃ t, topN (uniT xs).toNat = t := ⟨_, rfl⟩
    obtain ⟨b, hb⟩ : ∃ b, botN (uniT xs).toNat = b := ⟨_, rfl⟩
    obtain ⟨c, hc⟩ : ∃ c, cntT xs = c := ⟨_, rfl⟩
    have htb2 : t ≤ 72000000 := by omega
    rw [ht, hb] at HTN HL
    rw [hc] at HTN HCT2 HL hcb
    rw [hb] at hbb
    have hfc : Fits c := by unfold Fits; omega
    have hft : Fits (t : Int) := by unfold Fits; omega
    have hfb : Fits (b : Int) := by unfold Fits; omega
    obtain ⟨hcs, hcS⟩ := itoS c hfc
    obtain ⟨hts, htS⟩ := itoS (t : Int) hft
    obtain ⟨hbs, hbS⟩ := itoS (b : Int) hfb
    have HFC := Lib.hid (HFI.out c hfc)
    have HFT := Lib.hid (HFI.out (t : Int) hft)
    have HFB := Lib.hid (HFI.out (b : Int) hfb)
    obtain ⟨SC, hSC⟩ : ∃ s, mkS (itoL c) = s := ⟨_, rfl⟩
    obtain ⟨ST, hST⟩ : ∃ s, mkS (itoL (t : Int)) = s := ⟨_, rfl⟩
    obtain ⟨SB, hSB⟩ : ∃ s, mkS (itoL (b : Int)) = s := ⟨_, rfl⟩
    rw [hSC] at HFC hcs hcS
    rw [hST] at HFT hts htS
    rw [hSB] at HFB hbs hbS
    have HS := Lib.hid (And.intro hcS (And.intro htS hbS))
    generalize temV xs = v at HV ⊢
    generalize temL xs = l at HV HL
    clear hA hok hall hub htb ht hb hc hSC hST hSB hcS htS hbS HCT HFI hfc hft hfb
    go_enter Tryd.func24, Tryd.ntmps24
    go_wp2_with fail
    refine (HCT2.out _ HA.out).mono ?_
    rintro e w1 ⟨rfl, hb1⟩
    go_wp2_with fail
    refine (HTN.out _ (HA.out.lift hb1)).mono ?_
    rintro e w2 ⟨rfl, hb2⟩
    have HB2 := Lib.hid ((hb1.trans (hb2.mono hb1.size)).alloc (hb1.trans (hb2.mono hb1.size)).size (.cells #[.int .i64 t, .int .i64 b] 54))
    have HC2 := Lib.hid (Cells2.new w2 (.int .i64 t) (.int .i64 b) 54)
    obtain ⟨g, hg⟩ : ∃ g, w2.heap.size = g := ⟨_, rfl⟩
    rw [hg] at HC2
    obtain ⟨f0, f1, _, _, hglt⟩ := HC2.out
    clear hb1 hb2
    go_wp2_with fail
    try rw [hg]
    obtain ⟨W2, hW2⟩ : ∃ W2, w2.alloc (.cells #[.int .i64 t, .int .i64 b] 54) = W2 := ⟨_, rfl⟩
    rw [hW2] at f0 f1 hglt HB2 HC2 ⊢
    clear hW2 hg
    (refine wp_region_held_drew (S := (fun w' => w'.cell? ⟨g, 0, none⟩ = some (.int .i64 t) ∧ w'.cell? ⟨g, 1, none⟩ = some (.int .i64 b))) (by kernel_rfl) ?_ (fun hHeld => ?_); (focus ((try dsimp only); exact ⟨f0, f1⟩)))
    ((refine wpAnyH_take (i := 0) (v := ?_) rfl (by kernel_rfl) (by kernel_rfl) (by kernel_rfl) (fun _ _ _ h => h) (Or.inl ⟨by rfl, ?_⟩) (by assumption) ?_; rotate_left; (focus (intro wS hSw; (try dsimp only at hSw); go_simp; (try with_reducible rfl))); (try simp only [Act.put, List.getElem_toArray, List.getElem_cons_zero, List.getElem_cons_succ, List.setIfInBounds_toArray, List.set_cons_zero, List.set_cons_succ])); (refine wpAnyH_take (i := 4) (v := ?_) rfl (by kernel_rfl) (by kernel_rfl) (by kernel_rfl) (fun _ _ _ h => h) (Or.inl ⟨by rfl, ?_⟩) (by assumption) ?_; rotate_left; (focus (intro wS hSw; (try dsimp only at hSw); go_simp; (try with_reducible rfl))); (try simp only [Act.put, List.getElem_toArray, List.getElem_cons_zero, List.getElem_cons_succ, List.setIfInBounds_toArray, List.set_cons_zero, List.set_cons_succ])); (refine wpAnyH_take (i := 5) (v := ?_) rfl (by kernel_rfl) (by kernel_rfl) (by kernel_rfl) (fun _ _ _ h => h) (Or.inl ⟨by rfl, ?_⟩) (by assumption) ?_; rotate_left; (focus (intro wS hSw; (try dsimp only at hSw); go_simp; (try with_reducible rfl))); (try simp only [Act.put, List.getElem_toArray, List.getElem_cons_zero, List.getElem_cons_succ, List.setIfInBounds_toArray, List.set_cons_zero, List.set_cons_succ])))
    (refine wpAnyH_ready (rs := [1]) (by kernel_rfl) (by simp) ?_; refine AllReadyH.cons rfl (fun K hK => ?_) AllReadyH.nil; go_simp)
    go_at_call 45
    refine (HCT2.out _ (HA.out.lift (Below.drew1_ HB2.out))).mono ?_
    rintro e w3 ⟨rfl, hb3⟩
    have HB3 := Lib.hid ((Below.drew1_ HB2.out).trans (hb3.mono (show w.heap.size ≤ W2.drew.heap.size from HB2.out.size)))
    have HC3 := Lib.hid (Cells2.below (show Cells2 W2.drew g _ _ from HC2.out) hb3 hglt)
    clear hb3 f0 f1
    obtain ⟨f0, f1, _, _, hglt3⟩ := HC3.out
    go_wp2_with fail
    (refine hK.out _ _ ?_ (fun hHeld2 => ?_); (focus ((try dsimp only); exact ⟨f0, f1⟩)); (clear hK K); (try simp only [Act.put, List.getElem_toArray, List.getElem_cons_zero, List.getElem_cons_succ, List.setIfInBounds_toArray, List.set_cons_zero, List.set_cons_succ]))
    (refine wpAnyH_ready (rs := [2]) (by kernel_rfl) (by simp) ?_; refine AllReadyH.cons rfl (fun K hK => ?_) AllReadyH.nil; go_simp)
    go_at_call 33
    refine (HFC.out _ HB3.out).mono ?_
    rintro e w4 ⟨rfl, hb4⟩
    have HB4 := Lib.hid (HB3.out.trans (hb4.mono HB3.out.size))
    have HC4 := Lib.hid (Cells2.below HC3.out hb4 hglt3)
    clear hb4 f0 f1
    obtain ⟨f0, f1, _, _, hglt4⟩ := HC4.out
    go_wp2_with fail
    (refine hK.out _ _ ?_ (fun hHeld2 => ?_); (focus ((try dsimp only); exact ⟨f0, f1⟩)); (clear hK K); (try simp only [Act.put, List.getElem_toArray, List.getElem_cons_zero, List.getElem_cons_succ, List.setIfInBounds_toArray, List.set_cons_zero, List.set_cons_succ]))
    (refine wpAnyH_take (i := 3) (v := ?_) rfl (by kernel_rfl) (by kernel_rfl) (by kernel_rfl) (fun _ _ _ h => h) (Or.inl ⟨by rfl, ?_⟩) (by assumption) ?_; rotate_left; (focus (intro wS hSw; (try dsimp only at hSw); go_simp; (try rw [if_neg (by omega)]); (try with_reducible rfl))); (try simp only [Act.put, List.getElem_toArray, List.getElem_cons_zero, List.getElem_cons_succ, List.setIfInBounds_toArray, List.set_cons_zero, List.set_cons_succ]))
    (refine wpAnyH_ready (rs := [6]) (by kernel_rfl) (by simp) ?_; refine AllReadyH.cons rfl (fun K hK => ?_) AllReadyH.nil; go_simp)
    go_at_call 33
    refine (HFT.out _ HB4.out).mono ?_
    rintro e w5 ⟨rfl, hb5⟩
    have HB5 := Lib.hid (HB4.out.trans (hb5.mono HB4.out.size))
    have HC5 := Lib.hid (Cells2.below HC4.out hb5 hglt4)
    clear hb5 f0 f1
    obtain ⟨f0, f1, _, _, hglt5⟩ := HC5.out
    go_wp2_with fail
    (refine hK.out _ _ ?_ (fun hHeld2 => ?_); (focus ((try dsimp only); exact ⟨f0, f1⟩)); (clear hK K); (try simp only [Act.put, List.getElem_toArray, List.getElem_cons_zero, List.getElem_cons_succ, List.setIfInBounds_toArray, List.set_cons_zero, List.set_cons_succ]))
    (refine wpAnyH_take (i := 7) (v := ?_) rfl (by kernel_rfl) (by kernel_rfl) (by kernel_rfl) (fun _ _ _ h => h) (Or.inl ⟨by rfl, ?_⟩) (by assumption) ?_; rotate_left; (focus (intro wS hSw; (try dsimp only at hSw); go_simp; (try rw [if_neg (by omega)]); (try with_reducible rfl))); (try simp only [Act.put, List.getElem_toArray, List.getElem_cons_zero, List.getElem_cons_succ, List.setIfInBounds_toArray, List.set_cons_zero, List.set_cons_succ]))
    (refine wpAnyH_take (i := 8) (v := ?_) rfl (by kernel_rfl) (by kernel_rfl) (by kernel_rfl) (fun _ _ _ h => h) (Or.inl ⟨by rfl, ?_⟩) (by assumption) ?_; rotate_left; (focus (intro wS hSw; (try dsimp only at hSw); go_simp; (try with_reducible rfl))); (try simp only [Act.put, List.getElem_toArray, List.getElem_cons_zero, List.getElem_cons_succ, List.setIfInBounds_toArray, List.set_cons_zero, List.set_cons_succ]))
    refine wpAnyH_done (by kernel_rfl) ?_ _
    by_cases hb1 : b = 1
    · have hbne : ((b : Int) != 1) = false := by rw [hb1]; rfl
      have HRES := Lib.hid (show SC ++ ⟨#[32]⟩ ++ ST = mkS v by
        rw [HV.out, HL.out, if_pos hb1, List.append_nil]
        exact Str.eq ((HS.out.1.app (str_one 32)).app HS.out.2.1))
      clear hb1
      go_wp2_with fail
      go_ret
      exact ⟨ret_str HRES.out, HB5.out⟩
    · have hbne : ((b : Int) != 1) = true := by rw [bne_iff_ne]; omega
      have HRES := Lib.hid (show SC ++ ⟨#[32]⟩ ++ ST ++ (⟨#[47]⟩ ++ SB) = mkS v by
        rw [HV.out, HL.out, if_neg hb1]
        exact Str.eq (((HS.out.1.app (str_one 32)).app HS.out.2.1).app ((str_one 47).app HS.out.2.2)))
      have HRES2 := Lib.hid (show SC ++ ⟨#[32]⟩ ++ ST ++ ⟨#[47]⟩ ++ SB = mkS v by
        rw [HV.out, HL.out, if_neg hb1, ← List.append_assoc]
        exact Str.eq ((((HS.out.1.app (str_one 32)).app HS.out.2.1).app (str_one 47)).app HS.out.2.2))
      have hz1 : (SC ++ ⟨#[32]⟩ ++ ST).size ≤ 41 := by simp only [ByteArray.size_append]; show SC.size + 1 + ST.size ≤ 41; omega
      generalize SC ++ ⟨#[32]⟩ ++ ST = Z at hz1 HRES HRES2 ⊢
      clear hb1
      go_wp2_with fail
      refine (HFB.out _ HB5.out).mono ?_
      rintro e w6 ⟨rfl, hb6⟩
      have HB6 := Lib.hid (HB5.out.trans (hb6.mono HB5.out.size))
      clear hb6 f0 f1
      go_wp2_with fail
      go_ret
      exact ⟨ret_str (by first | exact HRES.out | exact HRES2.out), HB6.out⟩

set_option maxRecDepth 100000 in
set_option maxHeartbeats 4000000 in
theorem spec_TempoLine_any (A : Option Addr) (cap : Nat) (xs : List (Int × Int)) (w : World) (hA : Pas w w.heap.size A xs)  :
    Calls Tryd.prog 22 #[.slice A xs.length cap] w fun e w' => e = .returned (.string (mkS (temV xs))) ∧ Below w.heap.size w w' := by
  have HA := Lib.hid hA
  have HCT := Lib.hid (fun V h => spec_CountTempo_any A cap xs V h)
  cases hok : temOk xs
  · have HTN := Lib.hid (fun V c h => spec_TimeOf_no A cap xs c V h hok)
    have HV := Lib.hid (show temV xs = [110, 111, 110, 101] by unfold temV; rw [hok]; rfl)
    rw [hok] at HCT
    generalize temV xs = v at HV ⊢
    clear hA hok
    go_enter Tryd.func22, Tryd.ntmps22
    go_wp2_with fail
    refine (HCT.out _ HA.out).mono ?_
    rintro e w1 ⟨rfl, hb1⟩
    go_wp2_with fail
    refine (HTN.out _ _ (HA.out.lift hb1)).mono ?_
    rintro e w2 ⟨rfl, hb2⟩
    have HB2 := Lib.hid (hb1.trans (hb2.mono hb1.size))
    clear hb1 hb2
    go_wp2_with fail
    go_ret
    exact ⟨ret_str (by rw [HV.out]; rfl), by first | exact HB2.out | exact HB2.out.alloc HB2.out.size _⟩
  · obtain ⟨h1, h8, hall⟩ := temOk_parts hok
    have HTN := Lib.hid (fun V h => spec_TimeOf_ok A cap xs V h hok)
    have HV := Lib.hid (show temV xs = temL xs by unfold temV; rw [hok]; rfl)
    have HCT2 := Lib.hid (show ∀ V, Pas V V.heap.size A xs → Calls Tryd.prog 42 #[.slice A xs.length cap] V fun e w' => e = .returned (.int .i64 (cntT xs)) ∧ Below V.heap.size V w' by
      intro V h
      have := HCT.out V h
      rw [hok, if_pos rfl] at this
      exact this)
    have hcb := cnt_bound xs hall
    have hub := uni_bound xs hall
    have htb := top_bound (uniT xs).toNat
    have hbb := bot_bound (uniT xs).toNat
    have HFI := Lib.hid (fun n (hn : Fits n) V (hb : Below w.heap.size w V) => spec_FormatInt_any n hn V)
    have HL := Lib.hid (show temL xs = itoL (cntT xs) ++ [32] ++ itoL (topN (uniT xs).toNat) ++ (if botN (uniT xs).toNat = 1 then [] else [47] ++ itoL (botN (uniT xs).toNat)) from rfl)
    obtain ⟨t, ht⟩ : ∃ t, topN (uniT xs).toNat = t := ⟨_, rfl⟩
    obtain ⟨b, hb⟩ : ∃ b, botN (uniT xs).toNat = b := ⟨_, rfl⟩
    obtain ⟨c, hc⟩ : ∃ c, cntT xs = c := ⟨_, rfl⟩
    have htb2 : t ≤ 72000000 := by omega
    rw [ht, hb] at HTN HL
    rw [hc] at HTN HCT2 HL hcb
    rw [hb] at hbb
    have hfc : Fits c := by unfold Fits; omega
    have hft : Fits (t : Int) := by unfold Fits; omega
    have hfb : Fits (b : Int) := by unfold Fits; omega
    obtain ⟨hcs, hcS⟩ := itoS c hfc
    obtain ⟨hts, htS⟩ := itoS (t : Int) hft
    obtain ⟨hbs, hbS⟩ := itoS (b : Int) hfb
    have HFC := Lib.hid (HFI.out c hfc)
    have HFT := Lib.hid (HFI.out (t : Int) hft)
    have HFB := Lib.hid (HFI.out (b : Int) hfb)
    obtain ⟨SC, hSC⟩ : ∃ s, mkS (itoL c) = s := ⟨_, rfl⟩
    obtain ⟨ST, hST⟩ : ∃ s, mkS (itoL (t : Int)) = s := ⟨_, rfl⟩
    obtain ⟨SB, hSB⟩ : ∃ s, mkS (itoL (b : Int)) = s := ⟨_, rfl⟩
    rw [hSC] at HFC hcs hcS
    rw [hST] at HFT hts htS
    rw [hSB] at HFB hbs hbS
    have HS := Lib.hid (And.intro hcS (And.intro htS hbS))
    generalize temV xs = v at HV ⊢
    generalize temL xs = l at HV HL
    clear hA hok hall hub htb ht hb hc hSC hST hSB hcS htS hbS HCT HFI hfc hft hfb
    go_enter Tryd.func22, Tryd.ntmps22
    go_wp2_with fail
    refine (HCT2.out _ HA.out).mono ?_
    rintro e w1 ⟨rfl, hb1⟩
    go_wp2_with fail
    refine (HTN.out _ (HA.out.lift hb1)).mono ?_
    rintro e w2 ⟨rfl, hb2⟩
    have HB2 := Lib.hid ((hb1.trans (hb2.mono hb1.size)).alloc (hb1.trans (hb2.mono hb1.size)).size (.cells #[.int .i64 t, .int .i64 b] 54))
    have HC2 := Lib.hid (Cells2.new w2 (.int .i64 t) (.int .i64 b) 54)
    obtain ⟨g, hg⟩ : ∃ g, w2.heap.size = g := ⟨_, rfl⟩
    rw [hg] at HC2
    obtain ⟨f0, f1, _, _, hglt⟩ := HC2.out
    clear hb1 hb2
    go_wp2_with fail
    try rw [hg]
    obtain ⟨W2, hW2⟩ : ∃ W2, w2.alloc (.cells #[.int .i64 t, .int .i64 b] 54) = W2 := ⟨_, rfl⟩
    rw [hW2] at f0 f1 hglt HB2 HC2 ⊢
    clear hW2 hg
    (refine wp_region_held_drew (S := (fun w' => w'.cell? ⟨g, 0, none⟩ = some (.int .i64 t) ∧ w'.cell? ⟨g, 1, none⟩ = some (.int .i64 b))) (by kernel_rfl) ?_ (fun hHeld => ?_); (focus ((try dsimp only); exact ⟨f0, f1⟩)))
    ((refine wpAnyH_take (i := 0) (v := ?_) rfl (by kernel_rfl) (by kernel_rfl) (by kernel_rfl) (fun _ _ _ h => h) (Or.inl ⟨by rfl, ?_⟩) (by assumption) ?_; rotate_left; (focus (intro wS hSw; (try dsimp only at hSw); go_simp; (try with_reducible rfl))); (try simp only [Act.put, List.getElem_toArray, List.getElem_cons_zero, List.getElem_cons_succ, List.setIfInBounds_toArray, List.set_cons_zero, List.set_cons_succ])); (refine wpAnyH_take (i := 4) (v := ?_) rfl (by kernel_rfl) (by kernel_rfl) (by kernel_rfl) (fun _ _ _ h => h) (Or.inl ⟨by rfl, ?_⟩) (by assumption) ?_; rotate_left; (focus (intro wS hSw; (try dsimp only at hSw); go_simp; (try with_reducible rfl))); (try simp only [Act.put, List.getElem_toArray, List.getElem_cons_zero, List.getElem_cons_succ, List.setIfInBounds_toArray, List.set_cons_zero, List.set_cons_succ])); (refine wpAnyH_take (i := 5) (v := ?_) rfl (by kernel_rfl) (by kernel_rfl) (by kernel_rfl) (fun _ _ _ h => h) (Or.inl ⟨by rfl, ?_⟩) (by assumption) ?_; rotate_left; (focus (intro wS hSw; (try dsimp only at hSw); go_simp; (try with_reducible rfl))); (try simp only [Act.put, List.getElem_toArray, List.getElem_cons_zero, List.getElem_cons_succ, List.setIfInBounds_toArray, List.set_cons_zero, List.set_cons_succ])))
    (refine wpAnyH_ready (rs := [1]) (by kernel_rfl) (by simp) ?_; refine AllReadyH.cons rfl (fun K hK => ?_) AllReadyH.nil; go_simp)
    go_at_call 42
    refine (HCT2.out _ (HA.out.lift (Below.drew1_ HB2.out))).mono ?_
    rintro e w3 ⟨rfl, hb3⟩
    have HB3 := Lib.hid ((Below.drew1_ HB2.out).trans (hb3.mono (show w.heap.size ≤ W2.drew.heap.size from HB2.out.size)))
    have HC3 := Lib.hid (Cells2.below (show Cells2 W2.drew g _ _ from HC2.out) hb3 hglt)
    clear hb3 f0 f1
    obtain ⟨f0, f1, _, _, hglt3⟩ := HC3.out
    go_wp2_with fail
    (refine hK.out _ _ ?_ (fun hHeld2 => ?_); (focus ((try dsimp only); exact ⟨f0, f1⟩)); (clear hK K); (try simp only [Act.put, List.getElem_toArray, List.getElem_cons_zero, List.getElem_cons_succ, List.setIfInBounds_toArray, List.set_cons_zero, List.set_cons_succ]))
    (refine wpAnyH_ready (rs := [2]) (by kernel_rfl) (by simp) ?_; refine AllReadyH.cons rfl (fun K hK => ?_) AllReadyH.nil; go_simp)
    go_at_call 31
    refine (HFC.out _ HB3.out).mono ?_
    rintro e w4 ⟨rfl, hb4⟩
    have HB4 := Lib.hid (HB3.out.trans (hb4.mono HB3.out.size))
    have HC4 := Lib.hid (Cells2.below HC3.out hb4 hglt3)
    clear hb4 f0 f1
    obtain ⟨f0, f1, _, _, hglt4⟩ := HC4.out
    go_wp2_with fail
    (refine hK.out _ _ ?_ (fun hHeld2 => ?_); (focus ((try dsimp only); exact ⟨f0, f1⟩)); (clear hK K); (try simp only [Act.put, List.getElem_toArray, List.getElem_cons_zero, List.getElem_cons_succ, List.setIfInBounds_toArray, List.set_cons_zero, List.set_cons_succ]))
    (refine wpAnyH_take (i := 3) (v := ?_) rfl (by kernel_rfl) (by kernel_rfl) (by kernel_rfl) (fun _ _ _ h => h) (Or.inl ⟨by rfl, ?_⟩) (by assumption) ?_; rotate_left; (focus (intro wS hSw; (try dsimp only at hSw); go_simp; (try rw [if_neg (by omega)]); (try with_reducible rfl))); (try simp only [Act.put, List.getElem_toArray, List.getElem_cons_zero, List.getElem_cons_succ, List.setIfInBounds_toArray, List.set_cons_zero, List.set_cons_succ]))
    (refine wpAnyH_ready (rs := [6]) (by kernel_rfl) (by simp) ?_; refine AllReadyH.cons rfl (fun K hK => ?_) AllReadyH.nil; go_simp)
    go_at_call 31
    refine (HFT.out _ HB4.out).mono ?_
    rintro e w5 ⟨rfl, hb5⟩
    have HB5 := Lib.hid (HB4.out.trans (hb5.mono HB4.out.size))
    have HC5 := Lib.hid (Cells2.below HC4.out hb5 hglt4)
    clear hb5 f0 f1
    obtain ⟨f0, f1, _, _, hglt5⟩ := HC5.out
    go_wp2_with fail
    (refine hK.out _ _ ?_ (fun hHeld2 => ?_); (focus ((try dsimp only); exact ⟨f0, f1⟩)); (clear hK K); (try simp only [Act.put, List.getElem_toArray, List.getElem_cons_zero, List.getElem_cons_succ, List.setIfInBounds_toArray, List.set_cons_zero, List.set_cons_succ]))
    (refine wpAnyH_take (i := 7) (v := ?_) rfl (by kernel_rfl) (by kernel_rfl) (by kernel_rfl) (fun _ _ _ h => h) (Or.inl ⟨by rfl, ?_⟩) (by assumption) ?_; rotate_left; (focus (intro wS hSw; (try dsimp only at hSw); go_simp; (try rw [if_neg (by omega)]); (try with_reducible rfl))); (try simp only [Act.put, List.getElem_toArray, List.getElem_cons_zero, List.getElem_cons_succ, List.setIfInBounds_toArray, List.set_cons_zero, List.set_cons_succ]))
    (refine wpAnyH_take (i := 8) (v := ?_) rfl (by kernel_rfl) (by kernel_rfl) (by kernel_rfl) (fun _ _ _ h => h) (Or.inl ⟨by rfl, ?_⟩) (by assumption) ?_; rotate_left; (focus (intro wS hSw; (try dsimp only at hSw); go_simp; (try with_reducible rfl))); (try simp only [Act.put, List.getElem_toArray, List.getElem_cons_zero, List.getElem_cons_succ, List.setIfInBounds_toArray, List.set_cons_zero, List.set_cons_succ]))
    refine wpAnyH_done (by kernel_rfl) ?_ _
    by_cases hb1 : b = 1
    · have hbne : ((b : Int) != 1) = false := by rw [hb1]; rfl
      have HRES := Lib.hid (show SC ++ ⟨#[32]⟩ ++ ST = mkS v by
        rw [HV.out, HL.out, if_pos hb1, List.append_nil]
        exact Str.eq ((HS.out.1.app (str_one 32)).app HS.out.2.1))
      clear hb1
      go_wp2_with fail
      go_ret
      exact ⟨ret_str HRES.out, HB5.out⟩
    · have hbne : ((b : Int) != 1) = true := by rw [bne_iff_ne]; omega
      have HRES := Lib.hid (show SC ++ ⟨#[32]⟩ ++ ST ++ (⟨#[47]⟩ ++ SB) = mkS v by
        rw [HV.out, HL.out, if_neg hb1]
        exact Str.eq (((HS.out.1.app (str_one 32)).app HS.out.2.1).app ((str_one 47).app HS.out.2.2)))
      have HRES2 := Lib.hid (show SC ++ ⟨#[32]⟩ ++ ST ++ ⟨#[47]⟩ ++ SB = mkS v by
        rw [HV.out, HL.out, if_neg hb1, ← List.append_assoc]
        exact Str.eq ((((HS.out.1.app (str_one 32)).app HS.out.2.1).app (str_one 47)).app HS.out.2.2))
      have hz1 : (SC ++ ⟨#[32]⟩ ++ ST).size ≤ 41 := by simp only [ByteArray.size_append]; show SC.size + 1 + ST.size ≤ 41; omega
      generalize SC ++ ⟨#[32]⟩ ++ ST = Z at hz1 HRES HRES2 ⊢
      clear hb1
      go_wp2_with fail
      refine (HFB.out _ HB5.out).mono ?_
      rintro e w6 ⟨rfl, hb6⟩
      have HB6 := Lib.hid (HB5.out.trans (hb6.mono HB5.out.size))
      clear hb6 f0 f1
      go_wp2_with fail
      go_ret
      exact ⟨ret_str (by first | exact HRES.out | exact HRES2.out), HB6.out⟩

end Go.Proofs.YtinmhjeljkiefaaDoor
