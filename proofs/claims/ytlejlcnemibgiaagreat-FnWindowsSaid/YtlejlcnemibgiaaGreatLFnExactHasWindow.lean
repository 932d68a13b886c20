/-
  The law FnExactHasWindow: HasWindow of both; slices.Index, Contains on strings; the walk.
-/
import Derived.Test.YtlejlcnemibgiaaGreatWdws
import Derived.Test.YtlejlcnemibgiaaGreatRlaw
namespace Go.Proofs.YtlejlcnemibgiaaGreat
open Go.RowKit
set_option linter.unusedVariables false
set_option linter.unusedSimpArgs false

def hasS (xs : List Txt) (t : Txt) : Bool := decide (t ∈ xs)
theorem hasS_yes {xs : List Txt} {t : Txt} {i : Nat} (hi : i < xs.length) (h : xs.getD i [] = t) : hasS xs t = true := by
  unfold hasS
  rw [decide_eq_true_eq, ← h, List.getD_eq_getElem?_getD, List.getElem?_eq_getElem hi]
  exact List.getElem_mem hi
theorem hasS_no {xs : List Txt} {t : Txt} (h : ∀ i, i < xs.length → xs.getD i [] ≠ t) : hasS xs t = false := by
  unfold hasS
  rw [decide_eq_false_iff_not]
  intro hm
  obtain ⟨i, hi, he⟩ := List.getElem_of_mem hm
  refine h i hi ?_
  rw [List.getD_eq_getElem?_getD, List.getElem?_eq_getElem hi]
  exact he
/-- Two texts, one or not, in the walk's words. -/
theorem eq_no {X W : ByteArray} {x t : List UInt8} (hX : mkS x = X) (hW : mkS t = W) (hne : x ≠ t) : (W.toList == X.toList) = false ∧ (X.toList == W.toList) = false := by
  subst hX hW
  rw [toList_mkS, toList_mkS]
  exact ⟨beq_eq_false_iff_ne.2 (fun e => hne e.symm), beq_eq_false_iff_ne.2 hne⟩

set_option maxHeartbeats 400000 in
theorem slices_IndexS_any (A : Option Addr) (cap : Nat) (xs : List Txt) (t : Txt) (w : World) (B : Nat) (hA : Strs w B A xs) :
    Calls Tryz.prog 50 #[.slice A xs.length cap, .string (mkS t)] w fun e w' => (∃ r : Int, e = .returned (.int .i64 r) ∧ hasS xs t = decide (0 ≤ r)) ∧ w = w' := by
  obtain ⟨hlen, hcells⟩ := hA
  have HC := Lib.hid hcells
  obtain ⟨W, hW⟩ : ∃ W, mkS t = W := ⟨_, rfl⟩
  rw [hW]
  have HW := Lib.hid hW
  clear hcells hW
  go_enter Tryz.func50, Tryz.ntmps50
  go_wp2
  go_loop [5, 8] (fun _ i => ∃ k : Nat, k ≤ xs.length ∧ i = .int .i64 k ∧ ∀ j, j < k → xs.getD j [] ≠ t) (fun _ i => xs.length - (intOf i).toNat)
  case atStart => exact ⟨0, Nat.zero_le _, rfl, fun j h => by omega⟩
  case round =>
    obtain ⟨k, hk, rfl, hno⟩ := hrel
    have HNO := Lib.hid hno
    clear hno
    by_cases hlt : k < xs.length
    · obtain ⟨b, off, rfl, hB, hc⟩ := HC.out (by omega)
      have hcell := hc k hlt
      unfold emS at hcell
      obtain ⟨X, hX⟩ : ∃ X, mkS (xs.getD k []) = X := ⟨_, rfl⟩
      rw [hX] at hcell
      have HX := Lib.hid hX
      clear hX hc
      by_cases hxy : xs.getD k [] = t
      · have hb := (gtr_same HX.out HW.out hxy).2.2
        have HF := Lib.hid (hasS_yes hlt hxy)
        clear hxy
        subst hb
        go_wp2
        go_ret
        exact ⟨⟨_, rfl, by rw [HF.out]; simp⟩, rfl⟩
      · obtain ⟨hb1, hb2⟩ := eq_no HX.out HW.out hxy
        have HXY := Lib.hid hxy
        clear hxy
        go_wp2
        go_round
        case rel =>
          refine ⟨k + 1, by omega, by go_num, fun j hj => ?_⟩
          by_cases e : j = k
          · subst e; exact HXY.out
          · exact HNO.out j (by omega)
        case measure => simp [intOf]; omega
    · have HF := Lib.hid (hasS_no (fun i hi => HNO.out i (by omega)))
      go_wp2
      go_ret
      exact ⟨⟨_, rfl, by rw [HF.out]; rfl⟩, rfl⟩

set_option maxHeartbeats 400000 in
theorem slices_ContainsS_any (A : Option Addr) (cap : Nat) (xs : List Txt) (t : Txt) (w : World) (B : Nat) (hA : Strs w B A xs) :
    Calls Tryz.prog 31 #[.slice A xs.length cap, .string (mkS t)] w fun e w' => e = .returned (.bool (hasS xs t)) ∧ w = w' := by
  have HI := Lib.hid (slices_IndexS_any A cap xs t w B hA)
  clear hA
  generalize hasS xs t = b at HI ⊢
  go_enter Tryz.func31, Tryz.ntmps31
  go_wp2_with fail
  refine HI.out.mono ?_
  rintro e w' ⟨⟨r, rfl, hr⟩, rfl⟩
  go_wp2
  go_ret
  exact ⟨ret_bool (by rw [hr]), rfl⟩

noncomputable def hasWV (n : Int) (bs : List Int) (s : ByteArray) : Bool := rhB n bs && (decide (s.size ≤ 48) && hasS (allD n bs s.size n.toNat) s.data.toList)

set_option maxRecDepth 100000 in
set_option maxHeartbeats 1000000 in
theorem impl_HasWindow_any (n : Int) (A : Option Addr) (cap : Nat) (bs : List Int) (s : ByteArray) (w : World) (hn : Fits n) (hs : s.size ≤ maxLen) (hA : Ints w w.heap.size A bs) :
    Calls Tryz.prog 11 #[.agg #[.int .i64 n, .slice A bs.length cap], .string s] w fun e w' => e = .returned (.bool (hasWV n bs s)) ∧ Below w.heap.size w w' := by
  unfold maxLen at hs
  have HA := Lib.hid hA
  obtain ⟨r, hr⟩ : ∃ r, hasWV n bs s = r := ⟨_, rfl⟩
  rw [hr]
  have HE := Lib.hid hr
  have hro := fun (V : World) (hV : Ints V V.heap.size A bs) => impl_RhythmOk_any n A cap bs V hn hV
  have HW := Lib.hid ((Below.refl w.heap.size w).alloc (Nat.le_refl _) (.cells #[.int .i64 n, .slice A bs.length cap] 25))
  obtain ⟨c0, c1⟩ := box2 (Below.refl (w.heap.size + 1) (w.alloc (.cells #[.int .i64 n, .slice A bs.length cap] 25)))
  clear hA hr
  cases h1 : rhB n bs
  · have HR := Lib.hid (show r = false by rw [← HE.out]; unfold hasWV; rw [h1]; rfl)
    rw [h1] at hro
    have HRO := Lib.hid hro
    clear hro HE
    go_enter Tryz.func11, Tryz.ntmps11
    go_wp2_with fail
    refine (HRO.out _ (HA.out.lift HW.out)).mono ?_
    rintro e w1 ⟨rfl, hb⟩
    go_wp2_with fail
    go_ret
    exact ⟨ret_bool HR.out.symm, HW.out.trans (hb.mono (by first | exact Nat.le_refl _ | (simp; done) | (simp; omega) | omega))⟩
  have hok := rhB_iff.1 h1
  have hn1 := hok.1
  have hn2 := hok.2.1
  have HOK := Lib.hid hok
  rw [h1] at hro
  have HRO := Lib.hid hro
  have H1 := Lib.hid h1
  clear hro hok h1
  by_cases h3 : s.size ≤ 48
  rotate_left
  · have HR := Lib.hid (show r = false by rw [← HE.out]; unfold hasWV; rw [decide_eq_false h3]; simp)
    have h3' : 48 < s.size := by omega
    clear HE h3
    go_enter Tryz.func11, Tryz.ntmps11
    go_wp2_with fail
    refine (HRO.out _ (HA.out.lift HW.out)).mono ?_
    rintro e w1 ⟨rfl, hb⟩
    go_wp2_with fail
    go_ret
    exact ⟨ret_bool HR.out.symm, HW.out.trans (hb.mono (by first | exact Nat.le_refl _ | (simp; done) | (simp; omega) | omega))⟩
  have HR := Lib.hid (show r = hasS (allD n bs s.size n.toNat) s.data.toList by rw [← HE.out]; unfold hasWV; rw [H1.out, decide_eq_true h3]; simp)
  obtain ⟨N, rfl⟩ := Int.eq_ofNat_of_zero_le (show 0 ≤ n by omega)
  rw [Int.toNat_natCast] at HR
  have HWS := Lib.hid (fun (V : World) (hV : Ints V V.heap.size A bs) => impl_windows_any N A cap bs s.size V hV HOK.out (by omega))
  have hll := allD_len (N : Int) bs s.size N
  have hct := fun (A2 : Option Addr) (c2 : Nat) (V : World) (hV : Strs V V.heap.size A2 (allD N bs s.size N)) => slices_ContainsS_any A2 c2 (allD N bs s.size N) s.data.toList V V.heap.size hV
  rw [show mkS s.data.toList = s from (str_self s).eq.symm] at hct
  have HCT := Lib.hid hct
  generalize allD N bs s.size N = L at HR HWS hll HCT
  clear HE hct
  generalize hasS L s.data.toList = b at HR HCT
  go_enter Tryz.func11, Tryz.ntmps11
  go_wp2_with fail
  refine (HRO.out _ (HA.out.lift HW.out)).mono ?_
  rintro e w1 ⟨rfl, hb⟩
  have hcc := (bcellB hb).1
  have d0 := (hcc w.heap.size 0 (by first | exact Nat.le_refl _ | (simp; done) | (simp; omega) | omega)).trans c0
  have d1 := (hcc w.heap.size 1 (by first | exact Nat.le_refl _ | (simp; done) | (simp; omega) | omega)).trans c1
  have HW1 := Lib.hid (HW.out.trans (hb.mono (by first | exact Nat.le_refl _ | (simp; done) | (simp; omega) | omega)))
  clear hcc c0 c1 hb
  go_wp2_with fail
  refine (HWS.out _ (HA.out.lift HW1.out)).mono ?_
  rintro e w2 ⟨v, rfl, hown, hb2⟩
  obtain ⟨A2, c2, rfl, _⟩ := hown.form
  have HST := Lib.hid (hown.strs (by omega))
  have HW2 := Lib.hid (HW1.out.trans (hb2.mono HW1.out.size))
  clear hown hb2
  go_wp2_with (go_at_call 31; refine (HCT.out A2 c2 _ HST.out).mono ?_; rintro e w' ⟨rfl, rfl⟩)
  go_ret
  exact ⟨ret_bool HR.out.symm, HW2.out⟩

end Go.Proofs.YtlejlcnemibgiaaGreat
