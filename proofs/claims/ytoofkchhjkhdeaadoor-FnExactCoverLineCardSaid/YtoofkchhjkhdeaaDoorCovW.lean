/-
  l14Taken of the reference at a cover.
-/
import Derived.Test.YtoofkchhjkhdeaaDoorCovV
namespace Go.Proofs.YtoofkchhjkhdeaaDoor
open Go.RowKit Go.Shelf
set_option linter.unusedVariables false
set_option linter.unusedSimpArgs false

def negL (q : Nat) : List Int := List.replicate q (-1)
theorem negL_succ (q : Nat) : negL (q + 1) = negL q ++ [-1] := List.replicate_succ'
theorem negL_len (q : Nat) : (negL q).length = q := List.length_replicate
theorem negL_at (q t : Nat) (h : t < q) : (negL q).getD t 0 = -1 := by
  unfold negL
  rw [List.getD_eq_getElem?_getD, List.getElem?_eq_getElem (by rw [List.length_replicate]; exact h), List.getElem_replicate]
  rfl

set_option maxRecDepth 100000 in
set_option maxHeartbeats 4000000 in
theorem spec_l14Taken_ok (A A2 : Option Addr) (cap c2 : Nat) (xs : List Int) (n : Nat) (cs : List Nat) (w : World) (hA : Ints w w.heap.size A xs) (hL : Ints w w.heap.size A2 (castN cs)) (hp : patB xs = true) (hn1 : 1 ≤ n) (hn : n ≤ 24) (hmem : cs ∈ covN xs n) :
    Calls Tryd.prog 22 #[.slice A xs.length cap, .int .i64 n, .slice A2 cs.length c2] w fun e w' => ∃ g ct, e = .returned (.tuple #[.slice (some ⟨g, 0, none⟩) n ct, .bool true]) ∧ Tab w' g n (takI xs cs cs.length) ∧ n ≤ ct ∧ w.heap.size ≤ g ∧ Below w.heap.size w w' := by
  have HA := Lib.hid hA
  have HL := Lib.hid hL
  have hcl := covN_len hmem
  have HAT := Lib.hid (fun i hi => cov_at hp hmem (i := i) hi)
  have HFU := Lib.hid (cov_full hp hmem)
  have hpl := pat_len hp
  have HP0 := Lib.hid (pat_all hp).1
  have HCC := Lib.hid (castN_len cs)
  have HMI := Lib.hid (fun V h => spec_MirrorPattern_ok A cap xs V h hp)
  have HML := Lib.hid (mirL_len xs)
  have HMF := Lib.hid (show ∀ x ∈ mirL xs, Fits x from fun x hx => by
      obtain ⟨j, hj, e⟩ := List.mem_iff_getElem.1 hx
      have := pat_in ((pat_all (mir_ok hp)).2 j hj)
      rw [List.getD_eq_getElem?_getD, List.getElem?_eq_getElem hj, Option.getD_some, e] at this
      unfold Fits; omega)
  clear hA hL hmem
  go_enter Tryd.func22, Tryd.ntmps22
  go_wp2_with fail
  go_loopw [8, 9] (fun v i wr => ∃ q : Nat, q ≤ n ∧ i = .int .i64 q ∧ OwnI wr w.heap.size v (negL q) ∧ Below w.heap.size w wr) (fun _ i _ => n - (intOf i).toNat)
  case atStart => exact ⟨0, Nat.zero_le _, rfl, OwnI.empty_at _ _ _ (by simp) (by simp), (Below.refl _ _).alloc (Nat.le_refl _) _⟩
  case round =>
    obtain ⟨q, hq, rfl, hown, hbel⟩ := hrel
    obtain ⟨wo, rfl⟩ : ∃ wo : World, wo = wr := ⟨_, rfl⟩
    by_cases hlt : q < n
    · have HS := Lib.hid (negL_succ q)
      obtain ⟨A1, c1, rfl⟩ := hown.form
      have hqi : (q : Int) < (n : Int) := by omega
      have hwq : IntKind.i64.wrap ((q : Int) + 1) = (q : Int) + 1 := i64w (by omega)
      have hml : (negL q).length ≤ 1048576 := by rw [negL_len]; omega
      have HO := Lib.hid hown
      have HB := Lib.hid hbel
      clear hown hbel
      go_wp2_with (at_builtin; refine wpList_append_int rfl _ _ rfl w.heap.size _ (negL q) rfl (HO.out.alloc _) _ _ rfl (cell_new1 _ _ _) hml (by have := HB.out.size; simp; omega) ?_; intro v' w2 hown2 hg2; obtain ⟨A3, c3, rfl⟩ := hown2.form)
      go_roundw
      case rel => exact ⟨q + 1, hlt, by go_num, by rw [HS.out]; rw [List.length_append] at hown2; exact hown2, (HB.out.alloc HB.out.size _).trans hg2⟩
      case measure => simp [intOf]; omega
    · have hqe : q = n := by omega
      subst hqe
      have hqi : ¬ (q : Int) < (q : Int) := by omega
      obtain ⟨g, ct, rfl⟩ := hown.posC (by rw [negL_len]; exact hn1)
      obtain ⟨hgb, hct, htab⟩ := hown.tabC
      rw [negL_len] at htab hct ⊢
      have HT0 := Lib.hid (show Tab wo g q (takI xs cs 0) from htab.congr (fun t ht => by rw [negL_at q t ht]; rfl))
      have HB0 := Lib.hid hbel
      have HGB := Lib.hid hgb
      have HCT := Lib.hid hct
      clear hown hbel htab hgb hct
      go_wp2_with fail
      refine (HMI.out wo ((HA.out.below HB0.out).mono HB0.out.size)).mono ?_
      rintro e w2 ⟨v2, rfl, hown2, hb2⟩
      obtain ⟨A1, c1, rfl⟩ := hown2.form
      have HT2 := Lib.hid (HT0.out.below hb2 HT0.out.1)
      have HB2 := Lib.hid (HB0.out.trans (hb2.mono HB0.out.size))
      have HI1 := Lib.hid (hown2.ints HMF.out)
      have HNB := Lib.hid (show ∀ b off t, A1 = some ⟨b, off, t⟩ → b ≠ g from fun b off t e h => by
        have h1 := hown2.lt b (by rw [e]; rfl)
        have h2 := HT0.out.1
        omega)
      rw [HML.out]
      clear hown2 hb2
      go_wp2_with fail
      go_loopw [32] (fun i wr => ∃ k : Nat, k ≤ cs.length ∧ i = .int .i64 k ∧ Tab wr g q (takI xs cs k) ∧ Frm (fun c => c = g) w2 wr) (fun i _ => cs.length - (intOf i).toNat)
      case atStart => exact ⟨0, Nat.zero_le _, rfl, HT2.out, Frm.refl _ _⟩
      case round =>
        obtain ⟨k, hk, rfl, htab, hfr⟩ := hrel
        obtain ⟨wk, rfl⟩ : ∃ wk : World, wk = wr := ⟨_, rfl⟩
        have HT := Lib.hid htab
        have HF := Lib.hid hfr
        have HB := Lib.hid (show Below w.heap.size w wk from HB2.out.trans (hfr.below (fun c h => by rw [h]; exact HGB.out) HB2.out.size))
        clear htab hfr
        by_cases hlk : k < cs.length
        · obtain ⟨b2, off2, rfl, hBb, hce⟩ := HL.out.2.2 (by rw [HCC.out]; omega)
          have hcd : ∀ i, i < cs.length → (castN cs).getD i 0 = ((cs.getD i 0 : Nat) : Int) := fun i hi => by
            unfold castN
            rw [List.getD_eq_getElem?_getD, List.getElem?_map, List.getElem?_eq_getElem hi, List.getD_eq_getElem?_getD, List.getElem?_eq_getElem hi]
            rfl
          have hcx := hce k (by rw [HCC.out]; omega)
          rw [← HB.out.cell (p := ⟨b2, off2 + k, none⟩) hBb, hcd k hlk] at hcx
          obtain ⟨h1, h2, h3, h4⟩ := HAT.out k hlk
          have HTS := Lib.hid (show takI xs cs (k + 1) = putJ (takI xs cs k) (laidL xs (cs.getD k 0)) k xs.length from rfl)
          have HLA := Lib.hid (fun j hj => laidL_at xs (cs.getD k 0) (j := j) hj)
          have hki : (k : Int) < (cs.length : Int) := by omega
          have hk0 : (0 : Int) ≤ (k : Int) := Int.natCast_nonneg _
          have hwk : IntKind.i64.wrap ((k : Int) + 1) = (k : Int) + 1 := i64w (by omega)
          have hw2n : IntKind.i64.wrap (2 * (q : Int)) = 2 * (q : Int) := i64w (by omega)
          have hw2m : IntKind.i64.wrap (2 * (q : Int) - 1) = 2 * (q : Int) - 1 := i64w (by omega)
          have HLP := Lib.hid (show 0 < k → wk.cell? ⟨b2, off2 + (k - 1), none⟩ = some (.int .i64 ((cs.getD (k - 1) 0 : Nat) : Int)) from fun h => by
            have hcp := hce (k - 1) (by rw [HCC.out]; omega)
            rw [← HB.out.cell (p := ⟨b2, off2 + (k - 1), none⟩) hBb, hcd (k - 1) (by omega)] at hcp
            exact hcp)
          have HPR := Lib.hid h3
          obtain ⟨c, hc⟩ : ∃ c, cs.getD k 0 = c := ⟨_, rfl⟩
          rw [hc] at hcx h1 h2 h4 HTS HPR HLA
          have hin : inB (c : Int) 0 (2 * (q : Int) - 1) = true := inB_iff.2 (by omega)
          have HODD := Lib.hid h1
          have H4 := Lib.hid h4
          have hq2 : (c : Int).tdiv 2 = ((c / 2 : Nat) : Int) := by rw [Int.tdiv_eq_ediv_of_nonneg (by omega)]; omega
          have hr2 : (c : Int).tmod 2 = ((c % 2 : Nat) : Int) := by rw [Int.tmod_eq_emod_of_nonneg (by omega)]; omega
          have hwc2 : IntKind.i64.wrap ((c / 2 : Nat) : Int) = ((c / 2 : Nat) : Int) := i64w (by omega)
          have hrb : c % 2 < 2 := Nat.mod_lt _ (by decide)
          have hwr2 : IntKind.i64.wrap ((c % 2 : Nat) : Int) = ((c % 2 : Nat) : Int) := i64w (by omega)
          have HPT := Lib.hid (rfl : shp xs c = shp xs c)
          obtain ⟨p, hpp⟩ : ∃ p, c / 2 = p := ⟨_, rfl⟩
          rw [hpp] at hq2 hwc2 HLA h2
          have hpn : p < q := h2
          generalize laidL xs c = L at *
          generalize takI xs cs k = f at *
          clear hce hcd h1 h2 h3 h4 hc hpp HPT
          have HSM := fun V h1 h2 => spec_l02Same_any A A1 cap c1 xs (mirL xs) V w.heap.size w2.heap.size h1 h2
          rw [HML.out] at HSM
          have HSM := Lib.hid HSM
          have HAK := Lib.hid (show Ints wk w.heap.size A xs from HA.out.below HB.out)
          have HMK := Lib.hid (show Ints wk w2.heap.size A1 (mirL xs) from ⟨HI1.out.1, HI1.out.2.1, fun hnn => by
            obtain ⟨b, off, e, hb, hc⟩ := HI1.out.2.2 hnn
            exact ⟨b, off, e, hb, fun i hi => (HF.out.cell hb (HNB.out b off none e)).trans (hc i hi)⟩⟩)
          have HNA := Lib.hid (show ∀ b off t, A = some ⟨b, off, t⟩ → b ≠ g from fun b off t e h => by
            obtain ⟨b', off', e', hb', _⟩ := HA.out.2.2 HP0.out
            rw [e] at e'
            injection e' with e'
            injection e' with e'
            have := HGB.out
            omega)
          by_cases hkz : k = 0
          · have hg0 : ¬ ((0 : Int) < (k : Int)) := by omega
            have hgd : decide ((0 : Int) < (k : Int)) = false := decide_eq_false hg0
            clear hkz
            by_cases ho : c % 2 = 1
            · rw [ho] at hr2 hwr2
              have hsf : decide (xs = mirL xs) = false := decide_eq_false (fun h => HODD.out ho h.symm)
              rw [hsf] at HSM
              have HSH := Lib.hid (show ∀ j, j < xs.length → L.getD j 0 = (p : Int) + (mirL xs).getD j 0 from fun j hj => by rw [HLA.out j hj]; unfold shp; rw [if_pos ho])
              clear ho hrb hsf
              go_wp2_with (go_at_call 11; refine (l01In_any _ _ _ _).mono ?_; rintro e w' ⟨rfl, rfl⟩)
              refine (HSM.out wk HAK.out HMK.out).mono ?_
              rintro e w' ⟨rfl, hw'⟩
              obtain rfl := hw'
              go_wp2_with fail
              go_loopw [66] (fun i wr => ∃ j : Nat, j ≤ xs.length ∧ i = .int .i64 j ∧ Tab wr g q (putJ f L k j) ∧ Frm (fun c => c = g) wk wr) (fun i _ => xs.length - (intOf i).toNat)
              case atStart => exact ⟨0, Nat.zero_le _, rfl, HT.out, Frm.refl _ _⟩
              case round =>
                obtain ⟨j, hj, rfl, htab, hfr⟩ := hrel
                obtain ⟨wq, rfl⟩ : ∃ wq : World, wq = wr := ⟨_, rfl⟩
                have HT4 := Lib.hid htab
                have HF4 := Lib.hid hfr
                clear htab hfr
                by_cases hjl : j < xs.length
                · obtain ⟨b3, off3, hA3, hB3, hc3⟩ := (HMK).out.2.2 (by rw [HML.out]; omega)
                  have hB3w : b3 < wk.heap.size := Nat.lt_of_lt_of_le hB3 (by first | exact HB.out.size | exact HF.out.size)
                  have hcx3 := hc3 j (by rw [HML.out]; omega)
                  rw [← HF4.out.cell (c := b3) hB3w ((HNB).out _ _ _ hA3)] at hcx3
                  have hsh := HSH.out j hjl
                  obtain ⟨hx0, hx1, hx2⟩ := H4.out j hjl
                  obtain ⟨x, hx⟩ : ∃ x, ((mirL xs)).getD j 0 = x := ⟨_, rfl⟩
                  rw [hx] at hcx3 hsh
                  have HPU := Lib.hid (fun t => show putJ f L (k : Int) (j + 1) t = if (t : Int) = L.getD j 0 then (k : Int) else putJ f L (k : Int) j t from rfl)
                  obtain ⟨y, hy⟩ : ∃ y, L.getD j 0 = y := ⟨_, rfl⟩
                  rw [hy] at hsh hx0 hx1 hx2 HPU
                  obtain ⟨y, rfl⟩ := Int.eq_ofNat_of_zero_le hx0
                  rw [Int.toNat_natCast] at hx2
                  have hyq : y < q := by omega
                  have htc := (HT4.out.2 y hyq).1
                  have htf := (HT4.out.2 y hyq).2
                  rw [hx2] at htc
                  have hwy : IntKind.i64.wrap ((p : Int) + x) = (y : Int) := by rw [← hsh]; exact i64w (by omega)
                  have hji : (j : Int) < (xs.length : Int) := by omega
                  have hj0 : (0 : Int) ≤ (j : Int) := Int.natCast_nonneg _
                  have hy0 : (0 : Int) ≤ (y : Int) := Int.natCast_nonneg _
                  have hyi : (y : Int) < (q : Int) := by omega
                  have hqy : ¬ ((q : Int) ≤ (y : Int)) := by omega
                  have hqd : decide ((q : Int) ≤ (y : Int)) = false := decide_eq_false hqy
                  have hwj : IntKind.i64.wrap ((j : Int) + 1) = (j : Int) + 1 := i64w (by omega)
                  have HST := Lib.hid (HT4.out.set_ y k hyq (g := putJ f L (k : Int) (j + 1)) (by rw [HPU.out y]; exact if_pos rfl) (fun t ht hne => by rw [HPU.out t]; exact if_neg (by omega)))
                  have HSF := Lib.hid (HF4.out.setCell (p := ⟨g, y, none⟩) rfl (.int .i64 (k : Int)))
                  subst hA3
                  clear hc3 hx hy hsh
                  go_wp2_with fail
                  go_roundw
                  case rel => exact ⟨j + 1, hjl, by go_num, HST.out, HSF.out⟩
                  case measure => simp [intOf]; omega
                · have hje : j = xs.length := by omega
                  have hji : ¬ (j : Int) < (xs.length : Int) := by omega
                  have HT5 := Lib.hid (show Tab wq g q (takI xs cs (k + 1)) from by rw [HTS.out, ← hje]; exact HT4.out)
                  have HF5 := Lib.hid (HF.out.trans HF4.out)
                  clear hje
                  go_wp2_with fail
                  go_roundw
                  case rel => exact ⟨k + 1, hlk, by go_num, HT5.out, HF5.out⟩
                  case measure => simp [intOf]; omega
            · have ho0 : c % 2 = 0 := by omega
              rw [ho0] at hr2 hwr2
              have HSH := Lib.hid (show ∀ j, j < xs.length → L.getD j 0 = (p : Int) + xs.getD j 0 from fun j hj => by rw [HLA.out j hj]; unfold shp; rw [if_neg ho])
              clear ho ho0 hrb
              go_wp2_with (go_at_call 11; refine (l01In_any _ _ _ _).mono ?_; rintro e w' ⟨rfl, rfl⟩)
              go_wp2_with fail
              go_loopw [66] (fun i wr => ∃ j : Nat, j ≤ xs.length ∧ i = .int .i64 j ∧ Tab wr g q (putJ f L k j) ∧ Frm (fun c => c = g) wk wr) (fun i _ => xs.length - (intOf i).toNat)
              case atStart => exact ⟨0, Nat.zero_le _, rfl, HT.out, Frm.refl _ _⟩
              case round =>
                obtain ⟨j, hj, rfl, htab, hfr⟩ := hrel
                obtain ⟨wq, rfl⟩ : ∃ wq : World, wq = wr := ⟨_, rfl⟩
                have HT4 := Lib.hid htab
                have HF4 := Lib.hid hfr
                clear htab hfr
                by_cases hjl : j < xs.length
                · obtain ⟨b3, off3, hA3, hB3, hc3⟩ := (HAK).out.2.2 (by omega)
                  have hB3w : b3 < wk.heap.size := Nat.lt_of_lt_of_le hB3 (by first | exact HB.out.size | exact HF.out.size)
                  have hcx3 := hc3 j (by omega)
                  rw [← HF4.out.cell (c := b3) hB3w ((HNA).out _ _ _ hA3)] at hcx3
                  have hsh := HSH.out j hjl
                  obtain ⟨hx0, hx1, hx2⟩ := H4.out j hjl
                  obtain ⟨x, hx⟩ : ∃ x, (xs).getD j 0 = x := ⟨_, rfl⟩
                  rw [hx] at hcx3 hsh
                  have HPU := Lib.hid (fun t => show putJ f L (k : Int) (j + 1) t = if (t : Int) = L.getD j 0 then (k : Int) else putJ f L (k : Int) j t from rfl)
                  obtain ⟨y, hy⟩ : ∃ y, L.getD j 0 = y := ⟨_, rfl⟩
                  rw [hy] at hsh hx0 hx1 hx2 HPU
                  obtain ⟨y, rfl⟩ := Int.eq_ofNat_of_zero_le hx0
                  rw [Int.toNat_natCast] at hx2
                  have hyq : y < q := by omega
                  have htc := (HT4.out.2 y hyq).1
                  have htf := (HT4.out.2 y hyq).2
                  rw [hx2] at htc
                  have hwy : IntKind.i64.wrap ((p : Int) + x) = (y : Int) := by rw [← hsh]; exact i64w (by omega)
                  have hji : (j : Int) < (xs.length : Int) := by omega
                  have hj0 : (0 : Int) ≤ (j : Int) := Int.natCast_nonneg _
                  have hy0 : (0 : Int) ≤ (y : Int) := Int.natCast_nonneg _
                  have hyi : (y : Int) < (q : Int) := by omega
                  have hqy : ¬ ((q : Int) ≤ (y : Int)) := by omega
                  have hqd : decide ((q : Int) ≤ (y : Int)) = false := decide_eq_false hqy
                  have hwj : IntKind.i64.wrap ((j : Int) + 1) = (j : Int) + 1 := i64w (by omega)
                  have HST := Lib.hid (HT4.out.set_ y k hyq (g := putJ f L (k : Int) (j + 1)) (by rw [HPU.out y]; exact if_pos rfl) (fun t ht hne => by rw [HPU.out t]; exact if_neg (by omega)))
                  have HSF := Lib.hid (HF4.out.setCell (p := ⟨g, y, none⟩) rfl (.int .i64 (k : Int)))
                  subst hA3
                  clear hc3 hx hy hsh
                  go_wp2_with fail
                  go_roundw
                  case rel => exact ⟨j + 1, hjl, by go_num, HST.out, HSF.out⟩
                  case measure => simp [intOf]; omega
                · have hje : j = xs.length := by omega
                  have hji : ¬ (j : Int) < (xs.length : Int) := by omega
                  have HT5 := Lib.hid (show Tab wq g q (takI xs cs (k + 1)) from by rw [HTS.out, ← hje]; exact HT4.out)
                  have HF5 := Lib.hid (HF.out.trans HF4.out)
                  clear hje
                  go_wp2_with fail
                  go_roundw
                  case rel => exact ⟨k + 1, hlk, by go_num, HT5.out, HF5.out⟩
                  case measure => simp [intOf]; omega
          · have hg0 : (0 : Int) < (k : Int) := by omega
            have hgd : decide ((0 : Int) < (k : Int)) = true := decide_eq_true hg0
            obtain ⟨k1, hk1⟩ : ∃ k1, k - 1 = k1 := ⟨_, rfl⟩
            have hwk1 : IntKind.i64.wrap ((k : Int) - 1) = (k1 : Int) := by rw [show (k : Int) - 1 = (k1 : Int) by omega]; exact i64w (by omega)
            have hk10 : (0 : Int) ≤ (k1 : Int) := Int.natCast_nonneg _
            have hk1l : (k1 : Int) < (cs.length : Int) := by omega
            have hcp := HLP.out (by omega)
            have hpr := HPR.out (by omega)
            rw [hk1] at hcp hpr
            obtain ⟨cp, hcpe⟩ : ∃ cp, cs.getD k1 0 = cp := ⟨_, rfl⟩
            rw [hcpe] at hcp hpr
            have hcl2 : ¬ ((c : Int) ≤ (cp : Int)) := by omega
            have hcd2 : decide ((c : Int) ≤ (cp : Int)) = false := decide_eq_false hcl2
            clear hkz hk1 hcpe
            by_cases ho : c % 2 = 1
            · rw [ho] at hr2 hwr2
              have hsf : decide (xs = mirL xs) = false := decide_eq_false (fun h => HODD.out ho h.symm)
              rw [hsf] at HSM
              have HSH := Lib.hid (show ∀ j, j < xs.length → L.getD j 0 = (p : Int) + (mirL xs).getD j 0 from fun j hj => by rw [HLA.out j hj]; unfold shp; rw [if_pos ho])
              clear ho hrb hsf
              go_wp2_with (go_at_call 11; refine (l01In_any _ _ _ _).mono ?_; rintro e w' ⟨rfl, rfl⟩)
              refine (HSM.out wk HAK.out HMK.out).mono ?_
              rintro e w' ⟨rfl, hw'⟩
              obtain rfl := hw'
              go_wp2_with fail
              go_loopw [66] (fun i wr => ∃ j : Nat, j ≤ xs.length ∧ i = .int .i64 j ∧ Tab wr g q (putJ f L k j) ∧ Frm (fun c => c = g) wk wr) (fun i _ => xs.length - (intOf i).toNat)
              case atStart => exact ⟨0, Nat.zero_le _, rfl, HT.out, Frm.refl _ _⟩
              case round =>
                obtain ⟨j, hj, rfl, htab, hfr⟩ := hrel
                obtain ⟨wq, rfl⟩ : ∃ wq : World, wq = wr := ⟨_, rfl⟩
                have HT4 := Lib.hid htab
                have HF4 := Lib.hid hfr
                clear htab hfr
                by_cases hjl : j < xs.length
                · obtain ⟨b3, off3, hA3, hB3, hc3⟩ := (HMK).out.2.2 (by rw [HML.out]; omega)
                  have hB3w : b3 < wk.heap.size := Nat.lt_of_lt_of_le hB3 (by first | exact HB.out.size | exact HF.out.size)
                  have hcx3 := hc3 j (by rw [HML.out]; omega)
                  rw [← HF4.out.cell (c := b3) hB3w ((HNB).out _ _ _ hA3)] at hcx3
                  have hsh := HSH.out j hjl
                  obtain ⟨hx0, hx1, hx2⟩ := H4.out j hjl
                  obtain ⟨x, hx⟩ : ∃ x, ((mirL xs)).getD j 0 = x := ⟨_, rfl⟩
                  rw [hx] at hcx3 hsh
                  have HPU := Lib.hid (fun t => show putJ f L (k : Int) (j + 1) t = if (t : Int) = L.getD j 0 then (k : Int) else putJ f L (k : Int) j t from rfl)
                  obtain ⟨y, hy⟩ : ∃ y, L.getD j 0 = y := ⟨_, rfl⟩
                  rw [hy] at hsh hx0 hx1 hx2 HPU
                  obtain ⟨y, rfl⟩ := Int.eq_ofNat_of_zero_le hx0
                  rw [Int.toNat_natCast] at hx2
                  have hyq : y < q := by omega
                  have htc := (HT4.out.2 y hyq).1
                  have htf := (HT4.out.2 y hyq).2
                  rw [hx2] at htc
                  have hwy : IntKind.i64.wrap ((p : Int) + x) = (y : Int) := by rw [← hsh]; exact i64w (by omega)
                  have hji : (j : Int) < (xs.length : Int) := by omega
                  have hj0 : (0 : Int) ≤ (j : Int) := Int.natCast_nonneg _
                  have hy0 : (0 : Int) ≤ (y : Int) := Int.natCast_nonneg _
                  have hyi : (y : Int) < (q : Int) := by omega
                  have hqy : ¬ ((q : Int) ≤ (y : Int)) := by omega
                  have hqd : decide ((q : Int) ≤ (y : Int)) = false := decide_eq_false hqy
                  have hwj : IntKind.i64.wrap ((j : Int) + 1) = (j : Int) + 1 := i64w (by omega)
                  have HST := Lib.hid (HT4.out.set_ y k hyq (g := putJ f L (k : Int) (j + 1)) (by rw [HPU.out y]; exact if_pos rfl) (fun t ht hne => by rw [HPU.out t]; exact if_neg (by omega)))
                  have HSF := Lib.hid (HF4.out.setCell (p := ⟨g, y, none⟩) rfl (.int .i64 (k : Int)))
                  subst hA3
                  clear hc3 hx hy hsh
                  go_wp2_with fail
                  go_roundw
                  case rel => exact ⟨j + 1, hjl, by go_num, HST.out, HSF.out⟩
                  case measure => simp [intOf]; omega
                · have hje : j = xs.length := by omega
                  have hji : ¬ (j : Int) < (xs.length : Int) := by omega
                  have HT5 := Lib.hid (show Tab wq g q (takI xs cs (k + 1)) from by rw [HTS.out, ← hje]; exact HT4.out)
                  have HF5 := Lib.hid (HF.out.trans HF4.out)
                  clear hje
                  go_wp2_with fail
                  go_roundw
                  case rel => exact ⟨k + 1, hlk, by go_num, HT5.out, HF5.out⟩
                  case measure => simp [intOf]; omega
            · have ho0 : c % 2 = 0 := by omega
              rw [ho0] at hr2 hwr2
              have HSH := Lib.hid (show ∀ j, j < xs.length → L.getD j 0 = (p : Int) + xs.getD j 0 from fun j hj => by rw [HLA.out j hj]; unfold shp; rw [if_neg ho])
              clear ho ho0 hrb
              go_wp2_with (go_at_call 11; refine (l01In_any _ _ _ _).mono ?_; rintro e w' ⟨rfl, rfl⟩)
              go_wp2_with fail
              go_loopw [66] (fun i wr => ∃ j : Nat, j ≤ xs.length ∧ i = .int .i64 j ∧ Tab wr g q (putJ f L k j) ∧ Frm (fun c => c = g) wk wr) (fun i _ => xs.length - (intOf i).toNat)
              case atStart => exact ⟨0, Nat.zero_le _, rfl, HT.out, Frm.refl _ _⟩
              case round =>
                obtain ⟨j, hj, rfl, htab, hfr⟩ := hrel
                obtain ⟨wq, rfl⟩ : ∃ wq : World, wq = wr := ⟨_, rfl⟩
                have HT4 := Lib.hid htab
                have HF4 := Lib.hid hfr
                clear htab hfr
                by_cases hjl : j < xs.length
                · obtain ⟨b3, off3, hA3, hB3, hc3⟩ := (HAK).out.2.2 (by omega)
                  have hB3w : b3 < wk.heap.size := Nat.lt_of_lt_of_le hB3 (by first | exact HB.out.size | exact HF.out.size)
                  have hcx3 := hc3 j (by omega)
                  rw [← HF4.out.cell (c := b3) hB3w ((HNA).out _ _ _ hA3)] at hcx3
                  have hsh := HSH.out j hjl
                  obtain ⟨hx0, hx1, hx2⟩ := H4.out j hjl
                  obtain ⟨x, hx⟩ : ∃ x, (xs).getD j 0 = x := ⟨_, rfl⟩
                  rw [hx] at hcx3 hsh
                  have HPU := Lib.hid (fun t => show putJ f L (k : Int) (j + 1) t = if (t : Int) = L.getD j 0 then (k : Int) else putJ f L (k : Int) j t from rfl)
                  obtain ⟨y, hy⟩ : ∃ y, L.getD j 0 = y := ⟨_, rfl⟩
                  rw [hy] at hsh hx0 hx1 hx2 HPU
                  obtain ⟨y, rfl⟩ := Int.eq_ofNat_of_zero_le hx0
                  rw [Int.toNat_natCast] at hx2
                  have hyq : y < q := by omega
                  have htc := (HT4.out.2 y hyq).1
                  have htf := (HT4.out.2 y hyq).2
                  rw [hx2] at htc
                  have hwy : IntKind.i64.wrap ((p : Int) + x) = (y : Int) := by rw [← hsh]; exact i64w (by omega)
                  have hji : (j : Int) < (xs.length : Int) := by omega
                  have hj0 : (0 : Int) ≤ (j : Int) := Int.natCast_nonneg _
                  have hy0 : (0 : Int) ≤ (y : Int) := Int.natCast_nonneg _
                  have hyi : (y : Int) < (q : Int) := by omega
                  have hqy : ¬ ((q : Int) ≤ (y : Int)) := by omega
                  have hqd : decide ((q : Int) ≤ (y : Int)) = false := decide_eq_false hqy
                  have hwj : IntKind.i64.wrap ((j : Int) + 1) = (j : Int) + 1 := i64w (by omega)
                  have HST := Lib.hid (HT4.out.set_ y k hyq (g := putJ f L (k : Int) (j + 1)) (by rw [HPU.out y]; exact if_pos rfl) (fun t ht hne => by rw [HPU.out t]; exact if_neg (by omega)))
                  have HSF := Lib.hid (HF4.out.setCell (p := ⟨g, y, none⟩) rfl (.int .i64 (k : Int)))
                  subst hA3
                  clear hc3 hx hy hsh
                  go_wp2_with fail
                  go_roundw
                  case rel => exact ⟨j + 1, hjl, by go_num, HST.out, HSF.out⟩
                  case measure => simp [intOf]; omega
                · have hje : j = xs.length := by omega
                  have hji : ¬ (j : Int) < (xs.length : Int) := by omega
                  have HT5 := Lib.hid (show Tab wq g q (takI xs cs (k + 1)) from by rw [HTS.out, ← hje]; exact HT4.out)
                  have HF5 := Lib.hid (HF.out.trans HF4.out)
                  clear hje
                  go_wp2_with fail
                  go_roundw
                  case rel => exact ⟨k + 1, hlk, by go_num, HT5.out, HF5.out⟩
                  case measure => simp [intOf]; omega
        · have hke : k = cs.length := by omega
          have hki : ¬ (k : Int) < (cs.length : Int) := by omega
          have HT9 := Lib.hid (show Tab wk g q (takI xs cs cs.length) from by rw [← hke]; exact HT.out)
          have HRES := HT9
          clear hke
          obtain ⟨F, hF⟩ : ∃ F, takI xs cs cs.length = F := ⟨_, rfl⟩
          rw [hF] at HT9 HFU
          clear hF
          go_wp2_with fail
          go_loop [92] (fun i => ∃ j : Nat, j ≤ q ∧ i = .int .i64 j) (fun i => q - (intOf i).toNat)
          case atStart => exact ⟨0, Nat.zero_le _, rfl⟩
          case round =>
            obtain ⟨j, hj, rfl⟩ := hrel
            by_cases hjl : j < q
            · have hcj := (HT9.out.2 j hjl).1
              obtain ⟨hf0, _⟩ := HFU.out j hjl
              obtain ⟨x, hx⟩ : ∃ x, F j = x := ⟨_, rfl⟩
              rw [hx] at hcj hf0
              have hji : (j : Int) < (q : Int) := by omega
              have hj0 : (0 : Int) ≤ (j : Int) := Int.natCast_nonneg _
              have hwj : IntKind.i64.wrap ((j : Int) + 1) = (j : Int) + 1 := i64w (by omega)
              have hxd : decide (x < 0) = false := decide_eq_false (by omega)
              have hxn : ¬ x < 0 := by omega
              clear hx
              go_wp2_with fail
              go_round
              case rel => exact ⟨j + 1, hjl, by go_num⟩
              case measure => simp [intOf]; omega
            · have hji : ¬ (j : Int) < (q : Int) := by omega
              go_wp2_with fail
              refine bodyPost_ret (v := .tuple #[.slice (some ⟨g, 0, none⟩) q ct, .bool true]) (by simp [results, Tryd.results22, go_sem]) rfl ⟨g, ct, rfl, HRES.out, HCT.out, HGB.out, HB.out⟩

end Go.Proofs.YtoofkchhjkhdeaaDoor
