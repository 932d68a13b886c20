/-
  FirstPartner of the program.
-/
import Derived.Test.YtjoeglekcnaebaaGreatDoorParF
import Derived.Test.YtjoeglekcnaebaaGreatDoorParI
import Derived.Lib.LazyBuf
namespace Go.Proofs.YtjoeglekcnaebaaGreatDoor
open Go.RowKit
set_option linter.unusedVariables false
set_option linter.unusedSimpArgs false

def codP (N : Nat) (bs : List Int) (j : Nat) : List Int := (List.range j).map fun k => ((cdN N bs k : Nat) : Int)
theorem codP_succ (N : Nat) (bs : List Int) (j : Nat) : codP N bs (j + 1) = codP N bs j ++ [((cdN N bs j : Nat) : Int)] := by
  unfold codP; rw [List.range_succ, List.map_append]; rfl
theorem codP_len (N : Nat) (bs : List Int) (j : Nat) : (codP N bs j).length = j := by simp [codP]
theorem codP_all (N : Nat) (bs : List Int) : codP N bs N = codL N bs := rfl
theorem codP_fit (N : Nat) (bs : List Int) (hok : RhOk N bs) (j : Nat) : ∀ x ∈ codP N bs j, Fits x := by
  intro x hx
  unfold codP at hx
  rw [List.mem_map] at hx
  obtain ⟨k, _, rfl⟩ := hx
  have h1 := cdN_lt hok k
  have h2 := (two24 N (by have := hok.2.1; omega)).2
  unfold Fits; omega
theorem code_codI (N : Nat) (bs : List Int) (hok : RhOk N bs) (k : Nat) : codeN N (rotL N bs (k : Nat)) (rotL N bs (k : Nat)).length = cdN N bs k := rfl

set_option maxRecDepth 100000 in
set_option maxHeartbeats 2000000 in
theorem impl_FirstPartner_any (N : Nat) (A : Option Addr) (cap : Nat) (bs : List Int) (w : World) (hA : Ints w w.heap.size A bs) (hok : RhOk N bs) :
    Calls Tryz.prog 31 #[.agg #[.int .i64 N, .slice A bs.length cap]] w (RetP2 w N (parV N bs)) := by
  have hn1 : 1 ≤ N := by have := hok.1; omega
  have hn2 : N ≤ 24 := by have := hok.2.1; omega
  have hla : bs.length ≤ N := rhok_len hok
  have hfit : Fits (N : Int) := by unfold Fits; omega
  have HRO := Lib.hid (fun V h => rhB_iff.2 hok ▸ impl_RhythmOk_any N A cap bs V hfit h)
  have HRT := Lib.hid (fun k V h => impl_rotated_any N A cap bs k V h hok)
  have HCD := Lib.hid (fun k A2 c2 V h => code_codI N bs hok k ▸ impl_code_any N A2 c2 (rotL N bs (k : Nat)) V h (rotL_ok hok _).1)
  have HRF := Lib.hid (fun k x (hx : x ∈ rotL N bs (k : Nat)) => show Fits x by have := rhok_range (rotL_ok hok _).1 x hx; unfold Fits; omega)
  have HPT := Lib.hid (fun AC cC AB cB V h1 h2 => show Calls Tryz.prog 58 #[.slice AC N cC, .slice AB 1 cB, .int .i64 (mskF N bs [0] : Nat)] V (RetB V AB (gS N bs (N - 1) [0] 1)) from impl_partner_any N bs hok AC cC (N - 1) 0 [] AB cB V (by omega) (Nat.le_refl _) (by simp) h1 h2)
  have HCF := Lib.hid (codP_fit N bs hok)
  have HM0 := Lib.hid (show mskF N bs [0] = cdN N bs 0 by unfold mskF; simp)
  have HC0 := Lib.hid (show (codL N bs).getD 0 0 = ((cdN N bs 0 : Nat) : Int) from codL_at N bs (by omega))
  have HPV := Lib.hid (show parV N bs = if bs.length = 0 ∨ N % bs.length ≠ 0 then none else (gS N bs (N - 1) [0] 1).map (·.map Int.ofNat) from rfl)
  obtain ⟨W, hW⟩ : ∃ W, (w.alloc (.cells #[.int .i64 N, .slice A (bs).length cap] 27)).alloc (.cells #[.int .i64 0, .slice none 0 0] 27) = W := ⟨_, rfl⟩
  have hb0 := (Below.refl w.heap.size w).alloc (Nat.le_refl _) (.cells #[.int .i64 N, .slice A (bs).length cap] 27)
  have HBW := Lib.hid (hb0.alloc hb0.size (.cells #[.int .i64 0, .slice none 0 0] 27))
  have HVA := Lib.hid ((Hav.boxed hA N cap).alloc (.cells #[.int .i64 0, .slice none 0 0] 27))
  have HZ := Lib.hid (Cells2.new_at (w.alloc (.cells #[.int .i64 N, .slice A (bs).length cap] 27)) (.int .i64 0) (.slice none 0 0) 27 (w.heap.size + 1) (by simp))
  rw [hW] at HBW HVA HZ
  clear hA hok hb0
  obtain ⟨⟨p0, p1, _, _, _⟩, _⟩ := HVA.out
  obtain ⟨z0, z1, zf0, zf1, _⟩ := HZ.out
  have HRW := Lib.hid (HRO.out W HVA.out.2)
  have HZ1 := Lib.hid (fun V (h : Below W.heap.size W V) => show Cells2 V (w.heap.size + 1) (.int .i64 0) (.slice none 0 0) from HZ.out.below h HZ.out.2.2.2.2)
  have HFL := Lib.hid (fun V (h : Cells2 V (w.heap.size + 1) (.int .i64 0) (.slice none 0 0)) => (h.set0 (.int .i64 0)).set1 (.slice none 0 0))
  have HBZ := Lib.hid (fun V (h : Below w.heap.size w V) u v => (h.setCell (p := ⟨w.heap.size + 1, 0, none⟩) (Nat.le_succ _) u).setCell (p := ⟨w.heap.size + 1, 1, none⟩) (Nat.le_succ _) v)
  by_cases h0 : bs.length = 0
  · have hbe : bs = [] := List.eq_nil_of_length_eq_zero h0
    have HV := Lib.hid (show parV N bs = none by rw [HPV.out, if_pos (.inl h0)])
    rw [HV.out]
    have hlz : ((bs.length : Int) == 0) = true := by rw [h0]; rfl
    have hnz2 : (bs.length = 0) = True := eq_true h0
    have hnz3 : (bs = []) = True := eq_true hbe
    clear h0 hbe
    go_enter Tryz.func31, Tryz.ntmps31
    go_wp2_with fail
    refine HRW.out.mono ?_
    rintro e w1 ⟨rfl, hb⟩
    have HVA := Lib.hid (HVA.out.lift hb)
    have HZ := Lib.hid (HZ1.out w1 hb)
    have HBW := Lib.hid (HBW.out.trans (hb.mono HBW.out.size))
    clear p0 p1 z0 z1 zf0 zf1 hb
    obtain ⟨⟨p0, p1, _, _, _⟩, _⟩ := HVA.out
    obtain ⟨z0, z1, zf0, zf1, _⟩ := HZ.out
    go_wp2_with fail
    obtain ⟨f0, f1, _⟩ := HFL.out w1 HZ.out
    refine bodyPost_ret (v := .tuple #[.agg #[.int .i64 0, .slice none 0 0], .bool false]) (by simp [results, Tryz.results31, go_sem, f0, f1]) rfl ?_
    exact ⟨rfl, HBZ.out _ HBW.out _ _⟩
  have hlz : ((bs.length : Int) == 0) = false := beq_eq_false_iff_ne.2 (by omega)
  have hnz : ((bs.length : Int) = 0) = False := eq_false (by omega)
  have hnz2 : (bs.length = 0) = False := eq_false (by omega)
  have hnz3 : (bs = []) = False := eq_false (by intro h; rw [h] at h0; exact h0 rfl)
  obtain ⟨r, hr⟩ : ∃ r, N % bs.length = r := ⟨_, rfl⟩
  have hrl : r < bs.length := by rw [← hr]; exact Nat.mod_lt _ (by omega)
  have hrm : (N : Int).tmod (bs.length : Int) = (r : Int) := by rw [Int.tmod_eq_emod_of_nonneg (by omega), ← Int.natCast_emod, hr]
  have hwr : IntKind.i64.wrap (r : Int) = (r : Int) := i64w (by omega)
  by_cases hrz : r = 0
  rotate_left
  · have hq : ((r : Int) == 0) = false := beq_eq_false_iff_ne.2 (by omega)
    have hq2 : ((r : Int) != 0) = true := bne_iff_ne.2 (by omega)
    have HV := Lib.hid (show parV N bs = none by rw [HPV.out, if_pos (.inr (by rw [hr]; exact hrz))])
    rw [HV.out]
    clear hr hrz
    go_enter Tryz.func31, Tryz.ntmps31
    go_wp2_with fail
    refine HRW.out.mono ?_
    rintro e w1 ⟨rfl, hb⟩
    have HVA := Lib.hid (HVA.out.lift hb)
    have HZ := Lib.hid (HZ1.out w1 hb)
    have HBW := Lib.hid (HBW.out.trans (hb.mono HBW.out.size))
    clear p0 p1 z0 z1 zf0 zf1 hb
    obtain ⟨⟨p0, p1, _, _, _⟩, _⟩ := HVA.out
    obtain ⟨z0, z1, zf0, zf1, _⟩ := HZ.out
    go_wp2_with fail
    obtain ⟨f0, f1, _⟩ := HFL.out w1 HZ.out
    refine bodyPost_ret (v := .tuple #[.agg #[.int .i64 0, .slice none 0 0], .bool false]) (by simp [results, Tryz.results31, go_sem, f0, f1]) rfl ?_
    exact ⟨rfl, HBZ.out _ HBW.out _ _⟩
  · subst hrz
    have HV := Lib.hid (show parV N bs = (gS N bs (N - 1) [0] 1).map (·.map Int.ofNat) by rw [HPV.out, if_neg (by rw [hr]; simp; exact fun h => h0 (by rw [h]; rfl))])
    clear hr hrl h0
    go_enter Tryz.func31, Tryz.ntmps31
    go_wp2_with fail
    refine HRW.out.mono ?_
    rintro e w1 ⟨rfl, hb⟩
    have HVA := Lib.hid (HVA.out.lift hb)
    have HZ := Lib.hid (HZ1.out w1 hb)
    have HBW := Lib.hid (HBW.out.trans (hb.mono HBW.out.size))
    clear p0 p1 z0 z1 zf0 zf1 hb
    obtain ⟨⟨p0, p1, _, _, hpl⟩, _⟩ := HVA.out
    obtain ⟨z0, z1, zf0, zf1, hzl⟩ := HZ.out
    go_wp2_with fail
    have HB1 := Lib.hid (Below.refl w1.heap.size w1)
    go_loopw [4, 28] (fun s i wr => ∃ j : Nat, j ≤ N ∧ i = .int .i64 j ∧ OwnI wr w1.heap.size s (codP N bs j) ∧ Below w1.heap.size w1 wr) (fun _ i _ => N - (intOf i).toNat)
    case atStart => exact ⟨0, Nat.zero_le _, rfl, OwnI.nil _ _, HB1.out⟩
    case round =>
      obtain ⟨j, hj, rfl, hown, hbel⟩ := hrel
      obtain ⟨wo, rfl⟩ : ∃ wo : World, wo = wr := ⟨_, rfl⟩
      have HO := Lib.hid hown
      have HBE := Lib.hid hbel
      have HVO := Lib.hid (HVA.out.lift hbel)
      have HZO := Lib.hid (HZ.out.below hbel hzl)
      obtain ⟨A1, c1, rfl⟩ := hown.form
      clear p0 p1 z0 z1 zf0 zf1
      obtain ⟨⟨p0, p1, _, _, _⟩, _⟩ := HVO.out
      obtain ⟨z0, z1, zf0, zf1, _⟩ := HZO.out
      have hsz := hbel.size
      by_cases hlt : j < N
      · have hji : (j : Int) < (N : Int) := by omega
        have HSU := Lib.hid (codP_succ N bs j)
        have hcl := codP_len N bs j
        have HCL := Lib.hid hcl
        have HCDJ := Lib.hid (HCD.out j)
        have HRFJ := Lib.hid (HRF.out j)
        have HRTJ := Lib.hid (HRT.out j wo HVO.out.2 (by omega))
        obtain ⟨L, hL⟩ : ∃ L, rotL N bs (j : Nat) = L := ⟨_, rfl⟩
        rw [hL] at HCDJ HRFJ HRTJ
        obtain ⟨c, hc⟩ : ∃ c, cdN N bs j = c := ⟨_, rfl⟩
        rw [hc] at HCDJ HSU
        obtain ⟨C, hC⟩ : ∃ C, codP N bs j = C := ⟨_, rfl⟩
        rw [hC] at HO HSU HCL ⊢
        clear hown hbel hL hc hC hcl
        go_wp2_with fail
        refine HRTJ.out.mono ?_
        rintro e w3 ⟨A3, c3, rfl, hrw, hb⟩
        have HO := Lib.hid (HO.out.grown hb)
        have HBE := Lib.hid (HBE.out.trans (hb.mono HBE.out.size))
        have HI3 := Lib.hid (hrw.ints HRFJ.out)
        clear hrw hb p0 p1 z0 z1 zf0 zf1
        go_wp2_with fail
        refine (HCDJ.out A3 c3 w3 HI3.out).mono ?_
        rintro e w4 ⟨rfl, hb⟩
        have HO := Lib.hid (HO.out.grown hb)
        have HBE := Lib.hid (HBE.out.trans (hb.mono HBE.out.size))
        clear hb
        go_wp2_with (at_builtin; refine wpList_append_int rfl (.tmp 31) (.tmp 36) rfl w1.heap.size _ C rfl (HO.out.alloc _) w4.heap.size (c : Int) (by rfl) (cell_new1 _ _ _) (by rw [HCL.out]; omega) (by have := HBE.out.size; simp only [World.size_alloc]; omega) ?_; intro v2 w5 hown2 hb2; rw [← HSU.out] at hown2)
        have HO5 := Lib.hid hown2
        have HB5 := Lib.hid ((HBE.out.alloc HBE.out.size (.cells #[.int .i64 c] 3)).trans hb2)
        clear hown2 hb2
        go_roundw
        case rel => exact ⟨j + 1, by omega, by go_num, HO5.out, HB5.out⟩
        case measure => simp [intOf]; omega
      · have hje : j = N := by omega
        subst hje
        have hji : ¬ (j : Int) < (j : Int) := by omega
        have HI := Lib.hid (show Ints wo wo.heap.size A1 (codL j bs) from HO.out.ints (HCF.out j))
        have hcl := codP_len j bs j
        obtain ⟨b2, off2, hA1, hb2l, hc2⟩ := HI.out.2.2 (by rw [codL_len]; omega)
        subst hA1
        have hc20 := hc2 0 (by rw [codL_len]; omega)
        rw [HC0.out, ← HM0.out, Nat.add_zero] at hc20
        have HIT := HI
        obtain ⟨M, hM⟩ : ∃ M, mskF j bs [0] = M := ⟨_, rfl⟩
        rw [hM] at HPT hc20
        clear hM hown hbel hc2 HC0 HM0
        have hb := (Below.refl wo.heap.size wo).alloc (Nat.le_refl _) (.cells #[.int .i64 0] 3)
        have hc21 := (hb.cell (p := ⟨b2, off2, none⟩) hb2l).trans hc20
        have HI2 := Lib.hid ((Cell1.new wo (.int .i64 0) 3).ints (show Fits 0 by unfold Fits; omega))
        have HI := Lib.hid (HI.out.lift hb)
        have HZO := Lib.hid (HZO.out.below hb HZO.out.2.2.2.2)
        have HVO := Lib.hid (HVO.out.lift hb)
        have HBE := Lib.hid (HBE.out.trans (hb.mono HBE.out.size))
        have HBV := Lib.hid (HBW.out.trans (HBE.out.mono HBW.out.size))
        have hgo : w.heap.size + 1 < wo.heap.size := by omega
        clear hb
        go_wp2_with fail
        refine (HPT.out (some ⟨b2, off2, none⟩) c1 (some ⟨wo.heap.size, 0, none⟩) 1 _ HI.out HI2.out).mono ?_
        rintro e w2 ⟨h1, hb⟩
        have HZO := Lib.hid (HZO.out.below hb HZO.out.2.2.2.2)
        have HVO := Lib.hid (HVO.out.lift hb)
        have HBV := Lib.hid (HBV.out.trans (hb.mono HBV.out.size))
        have hz2 : wo.heap.size + 1 ≤ w2.heap.size := by have := hb.size; simp at this; omega
        clear hb p0 p1 z0 z1 zf0 zf1 hc20 hc21
        obtain ⟨⟨p0, p1, _, _, _⟩, _⟩ := HVO.out
        obtain ⟨z0, z1, zf0, zf1, _⟩ := HZO.out
        have heq0 : ∀ V : World, (binOp .eql 22 (.slice none 0 0) (.slice none 0 0)).run Tryz.prog V = .ok (.bool true) V := fun V => Lib.run_eql_slice_nil V _ _ none 0 0 0 0 Tryz.underlying22
        have heq1 : ∀ (V : World) a l c, (binOp .eql 22 (.slice (some a) l c) (.slice none 0 0)).run Tryz.prog V = .ok (.bool false) V := fun V a l c => Lib.run_eql_slice_nil V _ _ (some a) l c 0 0 Tryz.underlying22
        cases he : gS j bs (j - 1) [0] 1 with
        | none =>
          rw [he] at h1
          obtain rfl : e = .returned (.slice none 0 0) := h1
          have HV2 := Lib.hid (show parV j bs = none by rw [HV.out, he]; rfl)
          clear he
          go_wp2_with fail
          obtain ⟨f0, f1, _⟩ := HFL.out w2 HZO.out
          refine bodyPost_ret (v := .tuple #[.agg #[.int .i64 0, .slice none 0 0], .bool false]) (by simp [results, Tryz.results31, go_sem, f0, f1]) rfl ?_
          rw [HV2.out]
          exact ⟨rfl, HBZ.out _ HBV.out _ _⟩
        | some y =>
          rw [he] at h1
          have h1' : ∃ g off c, e = .returned (.slice (some ⟨g, off, none⟩) y.length c) ∧ Ints w2 w2.heap.size (some ⟨g, off, none⟩) (y.map Int.ofNat) ∧ ((some ⟨g, off, none⟩ : Option Addr) = some ⟨wo.heap.size, 0, none⟩ ∨ (wo.alloc (.cells #[.int .i64 0] 3)).heap.size ≤ g) := h1
          obtain ⟨g5, o5, c5, rfl, hr, hat⟩ := h1'
          have HR := Lib.hid hr
          have HAT := Lib.hid (show ∀ k o, (some ⟨g5, o5, none⟩ : Option Addr) = some ⟨k, o, none⟩ → k ≠ w.heap.size + 1 from fun k o h => by
            injection h with h
            injection h with h
            subst h
            rcases hat with h2 | h2
            · injection h2 with h2; injection h2 with h2; omega
            · simp at h2; omega)
          have HV2 := Lib.hid (show parV j bs = some (y.map Int.ofNat) by rw [HV.out, he]; rfl)
          obtain ⟨Y, hY⟩ : ∃ Y, y.map Int.ofNat = Y := ⟨_, rfl⟩
          have hyl : y.length = Y.length := by rw [← hY, List.length_map]
          rw [hY] at HR HV2
          rw [hyl]
          clear hY he hr h1 hat hyl
          go_wp2_with fail
          obtain ⟨f0, f1, _⟩ := ((HZO.out.set0 (.int .i64 j)).set1 (.slice (some ⟨g5, o5, none⟩) Y.length c5))
          refine bodyPost_ret (v := .tuple #[.agg #[.int .i64 j, .slice (some ⟨g5, o5, none⟩) Y.length c5], .bool true]) (by simp [results, Tryz.results31, go_sem, f0, f1]) rfl ?_
          rw [HV2.out]
          refine ⟨⟨_, c5, rfl, ?_⟩, HBZ.out _ HBV.out _ _⟩
          exact (HR.out.setFarP (p := ⟨w.heap.size + 1, 0, none⟩) HAT.out _).setFarP (p := ⟨w.heap.size + 1, 1, none⟩) HAT.out _ |>.mono (by simp [World.setCell])

end Go.Proofs.YtjoeglekcnaebaaGreatDoor
