/-
  IsBalanced of the program; the walk.
-/
import Derived.Test.YthookknmeajojaaGreatDoorWdws
import Derived.Test.YthookknmeajojaaGreatDoorEaG
import Derived.Test.YthookknmeajojaaGreatDoorShC
import Derived.Test.YthookknmeajojaaGreatDoorEaC
namespace Go.Proofs.YthookknmeajojaaGreatDoor
open Go.RowKit Go.Shelf
set_option linter.unusedVariables false
set_option linter.unusedSimpArgs false

theorem OwnI.pos {w : World} {base : Nat} {v : Value} {xs : List Int} (h : OwnI w base v xs) (hp : 0 < xs.length) : ∃ g c, v = .slice (some ⟨g, 0, none⟩) xs.length c := by
  rcases h.2 with ⟨rfl, h0⟩ | ⟨g, cap, cur, rfl, hg, hh, hnc, hm, _⟩
  · omega
  · exact ⟨g, cap, rfl⟩
theorem ints_cells {w : World} {B g : Nat} {xs : List Int} (h : Ints w B (some ⟨g, 0, none⟩) xs) : ∀ j, j < xs.length → w.cell? ⟨g, 0 + j, none⟩ = some (.int .i64 (xs.getD j 0)) := by
  intro j hj
  obtain ⟨b, off, e, _, hc⟩ := h.2.2 (by omega)
  injection e with e
  injection e with e1 e2
  subst e1 e2
  exact hc j hj

theorem max_ints (g c : Nat) (xs : List Int) (w : World) (B : Nat) (h : Ints w B (some ⟨g, 0, none⟩) xs) (hp : 0 < xs.length) :
    Calls Tryz.prog 54 #[.slice (some ⟨g, 0, none⟩) xs.length c] w fun e w' => e = .returned (.int .i64 (Lib.maxOf xs)) ∧ w' = w := by
  have hl := h.1
  unfold maxLen at hl
  have := Any.slices_Max_int Tryz.lays113 g 0 xs.length c xs w hp (Nat.le_refl _) (by omega) (ints_cells h)
  rwa [List.take_length] at this
theorem min_ints (g c : Nat) (xs : List Int) (w : World) (B : Nat) (h : Ints w B (some ⟨g, 0, none⟩) xs) (hp : 0 < xs.length) :
    Calls Tryz.prog 55 #[.slice (some ⟨g, 0, none⟩) xs.length c] w fun e w' => e = .returned (.int .i64 (Lib.minOf xs)) ∧ w' = w := by
  have hl := h.1
  unfold maxLen at hl
  have := Any.slices_Min_int Tryz.lays114 g 0 xs.length c xs w hp (Nat.le_refl _) (by omega) (ints_cells h)
  rwa [List.take_length] at this
theorem count_x (l : List UInt8) (w : World) :
    Calls Tryz.prog 53 #[.string (mkS l), .string ⟨#[120]⟩] w fun e w' => e = .returned (.int .i64 (xcnt l)) ∧ w' = w := by
  have := Any.strings_Count_one Tryz.lays138 (mkS l) 120 w
  rwa [str_mk l] at this

set_option maxRecDepth 100000 in
set_option maxHeartbeats 2000000 in
theorem impl_IsBalanced_ok (N : Nat) (A : Option Addr) (cap : Nat) (bs : List Int) (w : World) (hA : Ints w w.heap.size A bs) (hr : rhB N bs = true) :
    Calls Tryz.prog 20 #[.agg #[.int .i64 N, .slice A bs.length cap]] w fun e w' => e = .returned (.bool (balV N bs)) ∧ Below w.heap.size w w' := by
  have hok := rhB_iff.1 hr
  have hn1 : 1 ≤ N := by have := hok.1; omega
  have hn2 : N ≤ 24 := by have := hok.2.1; omega
  have hro := fun (V : World) (hV : Ints V V.heap.size A bs) => impl_RhythmOk_any N A cap bs V (by unfold Fits; omega) hV
  rw [hr] at hro
  have HRO := Lib.hid hro
  have HOK := Lib.hid hok
  have HH := Lib.hid hr
  have HA := Lib.hid hA
  obtain ⟨r, hrv⟩ : ∃ r, balV N bs = r := ⟨_, rfl⟩
  rw [hrv]
  have HE := Lib.hid hrv
  have HW := Lib.hid ((Below.refl w.heap.size w).alloc (Nat.le_refl _) (.cells #[.int .i64 N, .slice A bs.length cap] 26))
  obtain ⟨c0, c1⟩ := box2 (Below.refl (w.heap.size + 1) (w.alloc (.cells #[.int .i64 N, .slice A bs.length cap] 26)))
  clear hA hr hok hro hrv
  go_enter Tryz.func20, Tryz.ntmps20
  go_wp2_with fail
  refine (HRO.out _ (HA.out.lift HW.out)).mono ?_
  rintro e w1 ⟨rfl, hb⟩
  have hcc := (bcellB hb).1
  have HD := Lib.hid (And.intro ((hcc w.heap.size 0 (by first | exact Nat.le_refl _ | (simp; done) | (simp; omega) | omega)).trans c0) ((hcc w.heap.size 1 (by first | exact Nat.le_refl _ | (simp; done) | (simp; omega) | omega)).trans c1))
  have hwz : w.heap.size < w1.heap.size := by have := hb.size; simp at this; omega
  have HW1 := Lib.hid (HW.out.trans (hb.mono (by first | exact Nat.le_refl _ | (simp; done) | (simp; omega) | omega)))
  clear hcc c0 c1 hb
  go_wp2_with fail
  go_loopw [3] (fun sk wr => ∃ k : Nat, 1 ≤ k ∧ k ≤ N ∧ sk = .int .i64 k ∧ (∀ j, j < k → 1 ≤ j → unbB N bs j N = false) ∧ Below w1.heap.size w1 wr) (fun sk _ => N - (intOf sk).toNat)
  case atStart => exact ⟨1, by omega, hn1, rfl, fun j h1 h2 => by omega, Below.refl _ _⟩
  case round =>
    obtain ⟨k, hk1, hk, rfl, hno, hbel⟩ := hrel
    obtain ⟨wo, rfl⟩ : ∃ wo : World, wo = wr := ⟨_, rfl⟩
    have hcc := (bcellB hbel).1
    have d0 := (hcc w.heap.size 0 hwz).trans HD.out.1
    have d1 := (hcc w.heap.size 1 hwz).trans HD.out.2
    have HNO := Lib.hid hno
    have HBE := Lib.hid hbel
    have HWW := Lib.hid (HW1.out.trans (hbel.mono (by omega)))
    have hwo := hbel.size
    clear hno hcc hbel
    by_cases hlt : k < N
    · have HWS := Lib.hid (fun (V : World) (hV : Ints V V.heap.size A bs) => impl_windows_any N A cap bs k V hV HOK.out (by omega))
      have hll := allD_len (N : Int) bs k N
      have HCM := Lib.hid (counts_max (N : Int) bs k N (by omega))
      have hhb := highN_k (N : Int) bs k N
      have hlb := lowN_k (N : Int) bs k N
      have HPOS := Lib.hid (show 0 < (allD N bs k N).length from List.length_pos_of_mem ((allD_mem N bs k N _).2 ⟨0, by omega, rfl⟩))
      have HUB := Lib.hid (show unbB N bs k N = decide (1 < (highN N bs k N : Int) - lowN N bs k N) from rfl)
      generalize allD N bs k N = L at HWS hll HCM HPOS
      generalize highN N bs k N = hi at HCM hhb HUB
      generalize lowN N bs k N = lo at HCM hlb HUB
      go_wp2_with fail
      refine (HWS.out _ (HA.out.lift HWW.out)).mono ?_
      rintro e w2 ⟨v, rfl, hown, hb2⟩
      obtain ⟨A2, c2, rfl, _⟩ := hown.form
      have HST := Lib.hid (hown.strs (by omega))
      have HB2 := Lib.hid (HBE.out.trans (hb2.mono hwo))
      have hw2 := hb2.size
      have hcc := (bcellB hb2).1
      have HD2 := Lib.hid (And.intro ((hcc w.heap.size 0 (by omega)).trans d0) ((hcc w.heap.size 1 (by omega)).trans d1))
      clear hown hb2 hcc d0 d1
      go_wp2_with fail
      go_loopw [4, 20] (fun sc si wr => ∃ j : Nat, j ≤ L.length ∧ si = .int .i64 j ∧ OwnI wr w2.heap.size sc ((L.take j).map xcnt) ∧ Below w2.heap.size w2 wr) (fun _ si _ => L.length - (intOf si).toNat)
      case atStart => exact ⟨0, Nat.zero_le _, rfl, OwnI.nil _ _, Below.refl _ _⟩
      case round =>
        obtain ⟨j, hj, rfl, hown, hbel⟩ := hrel
        obtain ⟨wi, rfl⟩ : ∃ wi : World, wi = wr := ⟨_, rfl⟩
        have HLL := Lib.hid (show ((L.take j).map xcnt).length = j by rw [List.length_map, List.length_take]; omega)
        have hwi := hbel.size
        by_cases hjl : j < L.length
        · obtain ⟨b, off, rfl, hB, hc⟩ := HST.out.2 (by omega)
          have hcell := (hbel.cell (p := ⟨b, off + j, none⟩) hB).trans (hc j hjl)
          unfold emS at hcell
          have HSN := Lib.hid (show (L.take (j + 1)).map xcnt = (L.take j).map xcnt ++ [xcnt (L.getD j [])] by
            rw [List.take_succ_eq_append_getElem hjl, List.map_append, List.getD_eq_getElem?_getD, List.getElem?_eq_getElem hjl]; rfl)
          obtain ⟨t, ht⟩ : ∃ t, L.getD j [] = t := ⟨_, rfl⟩
          rw [ht] at hcell HSN
          have HCX := Lib.hid (fun V => count_x t V)
          obtain ⟨X, hX⟩ : ∃ X, mkS t = X := ⟨_, rfl⟩
          rw [hX] at hcell HCX
          obtain ⟨y, hy⟩ : ∃ y, xcnt t = y := ⟨_, rfl⟩
          rw [hy] at HSN HCX
          obtain ⟨C, hC⟩ : ∃ C, (L.take j).map xcnt = C := ⟨_, rfl⟩
          rw [hC] at hown HSN HLL
          have HO := Lib.hid hown
          have HBI := Lib.hid hbel
          obtain ⟨A4, c4, rfl⟩ := hown.form
          clear hc ht hX hy hown hbel hC
          go_wp2_with (first
            | (go_at_call 53; refine (HCX.out _).mono ?_; rintro e w' ⟨rfl, hw⟩; rw [hw]; clear hw)
            | (at_builtin; refine wpList_append_int rfl (.tmp 24) (.tmp 27) rfl w2.heap.size _ C rfl (HO.out.alloc _) _ _ rfl (cell_new1 _ _ _) (by rw [HLL.out]; omega) (by simp; omega) ?_; intro v' w3 hown1 hg1))
          have HO1 := Lib.hid hown1
          have HB3 := Lib.hid ((HBI.out.alloc hwi (.cells #[.int .i64 y] 3)).trans hg1)
          clear hown1 hg1
          go_wp2_with fail
          go_roundw
          case rel => exact ⟨j + 1, by omega, by go_num, by rw [HSN.out]; exact HO1.out, HB3.out⟩
          case measure => simp [intOf]; omega
        · have hje : j = L.length := by omega
          subst hje
          rw [List.take_length] at hown HLL
          have hfit : ∀ x ∈ L.map xcnt, Fits x := fun x hx => by
            obtain ⟨l, _, rfl⟩ := List.mem_map.1 hx
            obtain ⟨hx1, hx2⟩ := maxOf_spec (L.map xcnt) (by rw [HLL.out]; exact HPOS.out)
            have h3 := hx1 _ hx
            rw [HCM.out.1] at h3
            have h4 : 0 ≤ xcnt l := by unfold xcnt; omega
            unfold Fits
            omega
          have HCM2 := Lib.hid HCM.out
          clear HCM
          generalize L.map xcnt = C at hown HLL hfit HCM2
          obtain ⟨g, c, rfl⟩ := hown.pos (by rw [HLL.out]; exact HPOS.out)
          have hints := hown.ints hfit
          have hmx := fun V (hV : Ints V V.heap.size (some ⟨g, 0, none⟩) C) => max_ints g c C V V.heap.size hV (by rw [HLL.out]; exact HPOS.out)
          have hmn := fun V (hV : Ints V V.heap.size (some ⟨g, 0, none⟩) C) => min_ints g c C V V.heap.size hV (by rw [HLL.out]; exact HPOS.out)
          rw [HCM2.out.1] at hmx
          rw [HCM2.out.2] at hmn
          have HMX := Lib.hid hmx
          have HMN := Lib.hid hmn
          have HIN := Lib.hid hints
          have HBF := Lib.hid (HB2.out.trans (hbel.mono (by omega)))
          clear hmx hmn hints hown hbel hfit
          by_cases hub : (1 : Int) < (hi : Int) - lo
          · have HF := Lib.hid (show r = false from HE.out.symm.trans (balV_no hk1 hlt (by rw [HUB.out]; exact decide_eq_true hub)))
            go_wp2_with (first
              | (go_at_call 54; refine (HMX.out _ HIN.out).mono ?_; rintro e w' ⟨rfl, hw⟩; rw [hw]; clear hw)
              | (go_at_call 55; refine (HMN.out _ HIN.out).mono ?_; rintro e w' ⟨rfl, hw⟩; rw [hw]; clear hw))
            go_ret
            exact ⟨ret_bool HF.out.symm, HW1.out.trans (HBF.out.mono (by omega))⟩
          · have HU := Lib.hid (show unbB N bs k N = false by rw [HUB.out]; exact decide_eq_false hub)
            go_wp2_with (first
              | (go_at_call 54; refine (HMX.out _ HIN.out).mono ?_; rintro e w' ⟨rfl, hw⟩; rw [hw]; clear hw)
              | (go_at_call 55; refine (HMN.out _ HIN.out).mono ?_; rintro e w' ⟨rfl, hw⟩; rw [hw]; clear hw))
            go_roundw
            case rel =>
              refine ⟨k + 1, by omega, by omega, by go_num, fun a ha1 ha2 => ?_, HBF.out⟩
              by_cases e : a = k
              · subst e; exact HU.out
              · exact HNO.out a (by omega) ha2
            case measure => simp [intOf]; omega
    · have hke : k = N := by omega
      have HF := Lib.hid (show r = true from HE.out.symm.trans (balV_yes HH.out (fun a ha h1 => HNO.out a (by omega) h1)))
      subst hke
      go_wp2_with fail
      go_ret
      exact ⟨ret_bool HF.out.symm, HWW.out⟩

end Go.Proofs.YthookknmeajojaaGreatDoor
