/-
  The law FnExactHasWindow: HasWindow of both; slices.Index, Contains on strings; the walk.
-/
import Derived.Test.YtjgbnmljbgadjaaWdws
import Derived.Test.YtjgbnmljbgadjaaRlaw
namespace Go.Proofs.Ytjgbnmljbgadjaa
open Go.RowKit
set_option linter.unusedVariables false
set_option linter.unusedSimpArgs false

def hasS (xs : List Txt) (t : Txt) : Bool := decide (t ∈ xs)
theorem hasS_yes {xs : List Txt} {t : Txt} {i : Nat} (hi : i < xs.length) (h : xs.getD i [] = t) : hasS xs t = true := by
  unfold hasS
  rw [decide_eq_true_eq, ← h, List.getD_eq_getElem?_getD, List.getElem?_eq_getElem hi]
  exact List.getElem_mem hi
theorem hasS_no {xs : List Txt} {t : Txt} (h : ∀ i, i < xs.length → xs.getD i [] ≠ t) : hasS xs t = false := by
  unfold hasS
  rw [decide_eq_false_iff_not]
  intro hm
  obtain ⟨i, hi, he⟩ := List.getElem_of_mem hm
  refine h i hi ?_
  rw [List.getD_eq_getElem?_getD, List.getElem?_eq_getElem hi]
  exact he
/-- Two texts, one or not, in the walk's words. -/
theorem eq_no {X W : ByteArray} {x t : List UInt8} (hX : mkS x = X) (hW : mkS t = W) (hne : x ≠ t) : (W.toList == X.toList) = false ∧ (X.toList == W.toList) = false := by
  subst hX hW
  rw [toList_mkS, toList_mkS]
  exact ⟨beq_eq_false_iff_ne.2 (fun e => hne e.symm), beq_eq_false_iff_ne.2 hne⟩

set_option maxHeartbeats 400000 in
theorem slices_IndexS_any (A : Option Addr) (cap : Nat) (xs : List Txt) (t : Txt) (w : World) (B : Nat) (hA : Strs w B A xs) :
    Calls Try.prog 44 #[.slice A xs.length cap, .string (mkS t)] w fun e w' => (∃ r : Int, e = .returned (.int .i64 r) ∧ hasS xs t = decide (0 ≤ r)) ∧ w = w' := by
  obtain ⟨hlen, hcells⟩ := hA
  have HC := Lib.hid hcells
  obtain ⟨W, hW⟩ : ∃ W, mkS t = W := ⟨_, rfl⟩
  rw [hW]
  have HW := Lib.hid hW
  clear hcells hW
  go_enter Try.func44, Try.ntmps44
  go_wp2
  go_loop [5, 8] (fun _ i => ∃ k : Nat, k ≤ xs.length ∧ i = .int .i64 k ∧ ∀ j, j < k → xs.getD j [] ≠ t) (fun _ i => xs.length - (intOf i).toNat)
  case atStart => exact ⟨0, Nat.zero_le _, rfl, fun j h => by omega⟩
  case round =>
    obtain ⟨k, hk, rfl, hno⟩ := hrel
    have HNO := Lib.hid hno
    clear hno
    by_cases hlt : k < xs.length
    · obtain ⟨b, off, rfl, hB, hc⟩ := HC.out (by omega)
      have hcell := hc k hlt
      unfold emS at hcell
      obtain ⟨X, hX⟩ : ∃ X, mkS (xs.getD k []) = X := ⟨_, rfl⟩
      rw [hX] at hcell
      have HX := Lib.hid hX
      clear hX hc
      by_cases hxy : xs.getD k [] = t
      · have hb := (gtr_same HX.out HW.out hxy).2.2
        have HF := Lib.hid (hasS_yes hlt hxy)
        clear hxy
        subst hb
        go_wp2
        go_ret
        exact ⟨⟨_, rfl, by rw [HF.out]; simp⟩, rfl⟩
      · obtain ⟨hb1, hb2⟩ := eq_no HX.out HW.out hxy
        have HXY := Lib.hid hxy
        clear hxy
        go_wp2
        go_round
        case rel =>
          refine ⟨k + 1, by omega, by go_num, fun j hj => ?_⟩
          by_cases e : j = k
          · subst e; exact HXY.out
          · exact HNO.out j (by omega)
        case measure => simp [intOf]; omega
    · have HF := Lib.hid (hasS_no (fun i hi => HNO.out i (by omega)))
      go_wp2
      go_ret
      exact ⟨⟨_, rfl, by rw [HF.out]; rfl⟩, rfl⟩

set_option maxHeartbeats 400000 in
theorem slices_ContainsS_any (A : Option Addr) (cap : Nat) (xs : List Txt) (t : Txt) (w : World) (B : Nat) (hA : Strs w B A xs) :
    Calls Try.prog 30 #[.slice A xs.length cap, .string (mkS t)] w fun e w' => e = .returned (.bool (hasS xs t)) ∧ w = w' := by
  have HI := Lib.hid (slices_IndexS_any A cap xs t w B hA)
  clear hA
  generalize hasS xs t = b at HI ⊢
  go_enter Try.func30, Try.ntmps30
  go_wp2_with fail
  refine HI.out.mono ?_
  rintro e w' ⟨⟨r, rfl, hr⟩, rfl⟩
  go_wp2
  go_ret
  exact ⟨ret_bool (by rw [hr]), rfl⟩

noncomputable def hasWV (n : Int) (bs : List Int) (s : ByteArray) : Bool := rhB n bs && (decide (s.size ≤ 48) && hasS (allD n bs s.size n.toNat) s.data.toList)

set_option maxRecDepth 100000 in
set_option maxHeartbeats 1000000 in
theorem impl_HasWindow_any (n : Int) (A : Option Addr) (cap : Nat) (bs : List Int) (s : ByteArray) (w : World) (hn : Fits n) (hs : s.size ≤ maxLen) (hA : Ints w w.heap.size A bs) :
    Calls Try.prog 11 #[.agg #[.int .i64 n, .slice A bs.length cap], .string s] w fun e w' => e = .returned (.bool (hasWV n bs s)) ∧ Below w.heap.size w w' := by
  unfold maxLen at hs
  have HA := Lib.hid hA
  obtain ⟨r, hr⟩ : ∃ r, hasWV n bs s = r := ⟨_, rfl⟩
  rw [hr]
  have HE := Lib.hid hr
  have hro := fun (V : World) (hV : Ints V V.heap.size A bs) => impl_RhythmOk_any n A cap bs V hn hV
  have HW := Lib.hid ((Below.refl w.heap.size w).alloc (Nat.le_refl _) (.cells #[.int .i64 n, .slice A bs.length cap] 27))
  obtain ⟨c0, c1⟩ := box2 (Below.refl (w.heap.size + 1) (w.alloc (.cells #[.int .i64 n, .slice A bs.length cap] 27)))
  clear hA hr
  cases h1 : rhB n bs
  · have HR := Lib.hid (show r = false by rw [← HE.out]; unfold hasWV; rw [h1]; rfl)
    rw [h1] at hro
    have HRO := Lib.hid hro
    clear hro HE
    go_enter Try.func11, Try.ntmps11
    go_wp2_with fail
    refine (HRO.out _ (HA.out.lift HW.out)).mono ?_
    rintro e w1 ⟨rfl, hb⟩
    go_wp2_with fail
    go_ret
    exact ⟨ret_bool HR.out.symm, HW.out.trans (hb.mono (by first | exact Nat.le_refl _ | (simp; done) | (simp; omega) | omega))⟩
  have hok := rhB_iff.1 h1
  have hn1 := hok.1
  have hn2 := hok.2.1
  have HOK := Lib.hid hok
  rw [h1] at hro
  have HRO := Lib.hid hro
  have H1 := Lib.hid h1
  clear hro hok h1
  by_cases h3 : s.size ≤ 48
  rotate_left
  · have HR := Lib.hid (show r = false by rw [← HE.out]; unfold hasWV; rw [decide_eq_false h3]; simp)
    have h3' : 48 < s.size := by omega
    clear HE h3
    go_enter Try.func11, Try.ntmps11
    go_wp2_with fail
    refine (HRO.out _ (HA.out.lift HW.out)).mono ?_
    rintro e w1 ⟨rfl, hb⟩
    go_wp2_with fail
    go_ret
    exact ⟨ret_bool HR.out.symm, HW.out.trans (hb.mono (by first | exact Nat.le_refl _ | (simp; done) | (simp; omega) | omega))⟩
  have HR := Lib.hid (show r = hasS (allD n bs s.size n.toNat) s.data.toList by rw [← HE.out]; unfold hasWV; rw [H1.out, decide_eq_true h3]; simp)
  obtain ⟨N, rfl⟩ := Int.eq_ofNat_of_zero_le (show 0 ≤ n by omega)
  rw [Int.toNat_natCast] at HR
  have HWS := Lib.hid (fun (V : World) (hV : Ints V V.heap.size A bs) => impl_windows_any N A cap bs s.size V hV HOK.out (by omega))
  have hll := allD_len (N : Int) bs s.size N
  have hct := fun (A2 : Option Addr) (c2 : Nat) (V : World) (hV : Strs V V.heap.size A2 (allD N bs s.size N)) => slices_ContainsS_any A2 c2 (allD N bs s.size N) s.data.toList V V.heap.size hV
  rw [show mkS s.data.toList = s from (str_self s).eq.symm] at hct
  have HCT := Lib.hid hct
  generalize allD N bs s.size N = L at HR HWS hll HCT
  clear HE hct
  generalize hasS L s.data.toList = b at HR HCT
  go_enter Try.func11, Try.ntmps11
  go_wp2_with fail
  refine (HRO.out _ (HA.out.lift HW.out)).mono ?_
  rintro e w1 ⟨rfl, hb⟩
  have hcc := (bcellB hb).1
  have d0 := (hcc w.heap.size 0 (by first | exact Nat.le_refl _ | (simp; done) | (simp; omega) | omega)).trans c0
  have d1 := (hcc w.heap.size 1 (by first | exact Nat.le_refl _ | (simp; done) | (simp; omega) | omega)).trans c1
  have HW1 := Lib.hid (HW.out.trans (hb.mono (by first | exact Nat.le_refl _ | (simp; done) | (simp; omega) | omega)))
  clear hcc c0 c1 hb
  go_wp2_with fail
  refine (HWS.out _ (HA.out.lift HW1.out)).mono ?_
  rintro e w2 ⟨v, rfl, hown, hb2⟩
  obtain ⟨A2, c2, rfl, _⟩ := hown.form
  have HST := Lib.hid (hown.strs (by omega))
  have HW2 := Lib.hid (HW1.out.trans (hb2.mono HW1.out.size))
  clear hown hb2
  go_wp2_with (go_at_call 30; refine (HCT.out A2 c2 _ HST.out).mono ?_; rintro e w' ⟨rfl, rfl⟩)
  go_ret
  exact ⟨ret_bool HR.out.symm, HW2.out⟩

set_option maxRecDepth 100000 in
set_option maxHeartbeats 1000000 in
theorem spec_HasWindow_any (n : Int) (A : Option Addr) (cap : Nat) (bs : List Int) (s : ByteArray) (w : World) (hs : s.size ≤ maxLen) (hA : Ints w w.heap.size A bs) :
    Calls Try.prog 9 #[.agg #[.int .i64 n, .slice A bs.length cap], .string s] w fun e w' => e = .returned (.bool (hasWV n bs s)) ∧ Below w.heap.size w w' := by
  unfold maxLen at hs
  have HA := Lib.hid hA
  obtain ⟨r, hr⟩ : ∃ r, hasWV n bs s = r := ⟨_, rfl⟩
  rw [hr]
  have HE := Lib.hid hr
  have hro := fun (V : World) (hV : Ints V V.heap.size A bs) => spec_RhythmOk_any n A cap bs V hV
  have HW := Lib.hid ((Below.refl w.heap.size w).alloc (Nat.le_refl _) (.cells #[.int .i64 n, .slice A bs.length cap] 27))
  obtain ⟨c0, c1⟩ := box2 (Below.refl (w.heap.size + 1) (w.alloc (.cells #[.int .i64 n, .slice A bs.length cap] 27)))
  clear hA hr
  cases h1 : rhB n bs
  · have HR := Lib.hid (show r = false by rw [← HE.out]; unfold hasWV; rw [h1]; rfl)
    rw [h1] at hro
    have HRO := Lib.hid hro
    clear hro HE
    go_enter Try.func9, Try.ntmps9
    go_wp2_with fail
    refine (HRO.out _ (HA.out.lift HW.out)).mono ?_
    rintro e w1 ⟨rfl, hb⟩
    go_wp2_with fail
    go_ret
    exact ⟨ret_bool HR.out.symm, HW.out.trans (hb.mono (by first | exact Nat.le_refl _ | (simp; done) | (simp; omega) | omega))⟩
  have hok := rhB_iff.1 h1
  have hn1 := hok.1
  have hn2 := hok.2.1
  have HOK := Lib.hid hok
  rw [h1] at hro
  have HRO := Lib.hid hro
  have H1 := Lib.hid h1
  clear hro hok h1
  by_cases h3 : s.size ≤ 48
  rotate_left
  · have HR := Lib.hid (show r = false by rw [← HE.out]; unfold hasWV; rw [decide_eq_false h3]; simp)
    have h3' : 48 < s.size := by omega
    clear HE h3
    go_enter Try.func9, Try.ntmps9
    go_wp2_with fail
    refine (HRO.out _ (HA.out.lift HW.out)).mono ?_
    rintro e w1 ⟨rfl, hb⟩
    go_wp2_with fail
    go_ret
    exact ⟨ret_bool HR.out.symm, HW.out.trans (hb.mono (by first | exact Nat.le_refl _ | (simp; done) | (simp; omega) | omega))⟩
  have HR := Lib.hid (show r = hasS (allD n bs s.size n.toNat) s.data.toList by rw [← HE.out]; unfold hasWV; rw [H1.out, decide_eq_true h3]; simp)
  obtain ⟨N, rfl⟩ := Int.eq_ofNat_of_zero_le (show 0 ≤ n by omega)
  rw [Int.toNat_natCast] at HR
  clear HE
  go_enter Try.func9, Try.ntmps9
  go_wp2_with fail
  refine (HRO.out _ (HA.out.lift HW.out)).mono ?_
  rintro e w1 ⟨rfl, hb⟩
  have hcc := (bcellB hb).1
  have d0 := (hcc w.heap.size 0 (by first | exact Nat.le_refl _ | (simp; done) | (simp; omega) | omega)).trans c0
  have d1 := (hcc w.heap.size 1 (by first | exact Nat.le_refl _ | (simp; done) | (simp; omega) | omega)).trans c1
  have HD := Lib.hid (And.intro d0 d1)
  have hwz : w.heap.size < w1.heap.size := by have := hb.size; simp at this; omega
  have HW1 := Lib.hid (HW.out.trans (hb.mono (by first | exact Nat.le_refl _ | (simp; done) | (simp; omega) | omega)))
  clear hcc c0 c1 hb
  go_wp2_with fail
  clear d0 d1
  go_loopw [5] (fun sp wr => ∃ q : Nat, q ≤ N ∧ sp = .int .i64 q ∧ (∀ p, p < q → winL N bs p s.size ≠ s.data.toList) ∧ Below w1.heap.size w1 wr) (fun sp _ => N - (intOf sp).toNat)
  case atStart => exact ⟨0, Nat.zero_le _, rfl, fun p h => by omega, Below.refl _ _⟩
  case round =>
    obtain ⟨q, hq, rfl, hno, hbel⟩ := hrel
    have hcc := (bcellB hbel).1
    have d0 := (hcc w.heap.size 0 hwz).trans HD.out.1
    have d1 := (hcc w.heap.size 1 hwz).trans HD.out.2
    have HNO := Lib.hid hno
    have HWW := Lib.hid (HW1.out.trans (hbel.mono (by omega)))
    clear hno hcc
    by_cases hlt : q < N
    · have HL8 := Lib.hid (fun (V : World) (hV : Ints V V.heap.size A bs) => spec_l28At_any N A cap bs q s.size V hV (by omega) (by omega) (by omega) (by omega))
      by_cases hsame : winL N bs q s.size = s.data.toList
      · have HF := Lib.hid (show r = true by
          rw [HR.out]; unfold hasS; rw [decide_eq_true_eq, allD_mem]; exact ⟨q, hlt, hsame⟩)
        rw [hsame, show mkS s.data.toList = s from (str_self s).eq.symm] at HL8
        clear hsame
        go_wp2_with fail
        refine (HL8.out _ (HA.out.lift HWW.out)).mono ?_
        rintro e w2 ⟨rfl, hb2⟩
        go_wp2_with fail
        go_ret
        exact ⟨ret_bool HF.out.symm, HWW.out.trans (hb2.mono HWW.out.size)⟩
      · obtain ⟨X, hX⟩ : ∃ X, mkS (winL N bs q s.size) = X := ⟨_, rfl⟩
        obtain ⟨e1, e2⟩ := eq_no hX ((str_self s).eq.symm) hsame
        rw [hX] at HL8
        have HS := Lib.hid hsame
        clear hsame hX
        go_wp2_with fail
        refine (HL8.out _ (HA.out.lift HWW.out)).mono ?_
        rintro e w2 ⟨rfl, hb2⟩
        go_wp2_with fail
        go_roundw
        case rel =>
          refine ⟨q + 1, by omega, by go_num, fun p hp => ?_, hbel.trans (hb2.mono hbel.size)⟩
          by_cases e : p = q
          · subst e; exact HS.out
          · exact HNO.out p (by omega)
        case measure => simp [intOf]; omega
    · have hqe : q = N := by omega
      have HF := Lib.hid (show r = false by
        rw [HR.out]; unfold hasS; rw [decide_eq_false_iff_not, allD_mem]
        rintro ⟨p, hp, e⟩
        exact HNO.out p (by omega) e)
      subst hqe
      go_wp2_with fail
      go_ret
      exact ⟨ret_bool HF.out.symm, HWW.out⟩

set_option maxRecDepth 100000 in
set_option maxHeartbeats 1000000 in
theorem law_FnExactHasWindow_of (n : Int) (A : Option Addr) (cap : Nat) (bs : List Int) (s : ByteArray) (hs' : s.size ≤ 1048576) (r : Value) (hr : ∃ x : Bool, r = .bool x) (w : World) (hA : Ints w w.heap.size A bs)
    (hs : ∀ (A : Option Addr) (cap : Nat) (w : World), Ints w w.heap.size A bs → Calls Try.prog 9 #[.agg #[.int .i64 n, .slice A bs.length cap], .string s] w fun e w' => e = .returned r ∧ Below w.heap.size w w')
    (hi : ∀ (A : Option Addr) (cap : Nat) (w : World), Ints w w.heap.size A bs → Calls Try.prog 11 #[.agg #[.int .i64 n, .slice A bs.length cap], .string s] w fun e w' => e = .returned r ∧ Below w.heap.size w w') :
    Calls Try.prog 3 #[.agg #[.int .i64 n, .slice A bs.length cap], .string s] w fun e w' => e = .returned (.bool true) ∧ Below w.heap.size w w' := by
  have hlen := hA.1
  have HA := Lib.hid hA
  have HS := Lib.hid hs
  have HI := Lib.hid hi
  clear hs hi hA
  obtain ⟨r, rfl⟩ := hr
  by_cases hbig : 1048576 < bs.length
  · have HL := Lib.hid hlen
    clear hlen
    go_enter Try.func3, Try.ntmps3
    go_wp2_with fail
    refine (szRhythm_big n A cap bs _ _ HL.out (by omega) (by omega) (by omega)).mono ?_
    rintro e w1 ⟨rfl, hb1⟩
    go_wp2_with fail
    go_ret
    exact ⟨rfl, ((Below.refl w.heap.size w).alloc (by first | exact Nat.le_refl _ | (simp; done) | (simp; omega) | omega) _).trans (hb1.mono (by first | exact Nat.le_refl _ | (simp; done) | (simp; omega) | omega))⟩
  · have hsm : bs.length ≤ 1048576 := by omega
    clear hbig hlen
    go_enter Try.func3, Try.ntmps3
    go_wp2_with fail
    refine (szRhythm_small n A cap bs _ _ (by omega) (by omega)).mono ?_
    rintro e w1 ⟨rfl, hb1⟩
    have hB1 := hb1.mono (B' := w.heap.size + 1) (by first | exact Nat.le_refl _ | (simp; done) | (simp; omega) | omega)
    have hW1 := ((Below.refl w.heap.size w).alloc (Nat.le_refl _) _).trans (hB1.mono (by omega))
    obtain ⟨hc0, hc1⟩ := box2 hB1
    have hz1 := hB1.size
    simp only [World.size_alloc] at hz1
    clear hb1
    go_wp2_with fail
    refine (toRhythm_any n A cap bs _ (HA.out.lift hW1) hsm).mono ?_
    rintro e w2 ⟨rfl, ht2, hb2⟩
    have hB2 := hB1.trans (hb2.mono (by omega))
    have hW2 := hW1.trans (hb2.mono (by omega))
    have hi2 := ht2.ints (B := w2.heap.size) ht2.1 HA.out.1 HA.out.2.1
    have HI2 := Lib.hid hi2
    clear hc0 hc1 ht2 hb2 hi2
    obtain ⟨hc0, hc1⟩ := box2 hB2
    have hz2 := hB2.size
    simp only [World.size_alloc] at hz2
    go_wp2_with fail
    refine (HS.out _ _ _ HI2.out).mono ?_
    rintro e w3 ⟨rfl, hb3⟩
    have hB3 := hB2.trans (hb3.mono (by omega))
    have hW3 := hW2.trans (hb3.mono (by omega))
    clear hc0 hc1 hb3 HI2
    obtain ⟨hc0, hc1⟩ := box2 hB3
    have hz3 := hB3.size
    simp only [World.size_alloc] at hz3
    go_wp2_with fail
    refine (toRhythm_any n A cap bs _ (HA.out.lift hW3) hsm).mono ?_
    rintro e w4 ⟨rfl, ht4, hb4⟩
    have hB4 := hB3.trans (hb4.mono (by omega))
    have hW4 := hW3.trans (hb4.mono (by omega))
    have hi4 := ht4.ints (B := w4.heap.size) ht4.1 HA.out.1 HA.out.2.1
    have HI4 := Lib.hid hi4
    clear hc0 hc1 ht4 hb4 hi4
    obtain ⟨hc0, hc1⟩ := box2 hB4
    have hz4 := hB4.size
    simp only [World.size_alloc] at hz4
    obtain ⟨g4, hg4⟩ : ∃ g, w3.heap.size + 3 = g := ⟨_, rfl⟩
    rw [hg4] at HI4 ⊢
    have HG := Lib.hid hg4
    clear hg4
    go_wp2_with fail
    refine (HI.out _ _ _ (HI4.out.lift (by repeat (first | exact Below.refl _ _ | assumption | (refine Below.alloc ?_ (by first | exact Nat.le_refl _ | (simp; done) | (simp; omega) | omega) _) | (refine Below.drew ?_) | (refine Below.setCell ?_ (by first | exact Nat.le_refl _ | (simp; done) | (simp; omega) | omega) _))))).mono ?_
    rintro e w6 ⟨rfl, hb6⟩
    have hb6' := hb6.mono (B' := w4.heap.size + 1) (by first | exact Nat.le_refl _ | (simp; done) | (simp; omega) | omega)
    have hB6 := (hB4.alloc hz4 _).trans (hb6'.mono (by omega))
    have hW6 := (hW4.alloc (by omega) _).trans (hb6'.mono (by omega))
    have hI6 := ((HI4.out.alloc (Nat.le_refl _) _).below (hb6'.mono (by omega))).mono (Nat.le_trans (Nat.le_succ _) (by have := hb6'.size; simpa using this))
    have HI6 := Lib.hid hI6
    obtain ⟨hd0, hd1⟩ := box2 hb6'
    clear hc0 hc1 hb6 hI6
    obtain ⟨hc0, hc1⟩ := box2 hB6
    have hz6 := hb6'.size
    simp only [World.size_alloc] at hz6
    have he := eqB_self bs
    go_wp2_with fail
    go_region_held3 (fun w' => w'.cell? ⟨w.heap.size, 0, none⟩ = some (.int .i64 n) ∧ w'.cell? ⟨w.heap.size, 1, none⟩ = some (.slice A bs.length cap) ∧ w'.cell? ⟨w4.heap.size, 0, none⟩ = some (.int .i64 n) ∧ w'.cell? ⟨w4.heap.size, 1, none⟩ = some (.slice (some ⟨g4, 0, none⟩) bs.length bs.length))
      (first
        | go_keep
        | (obtain ⟨hcc, _⟩ := bcellB hb7
           refine ⟨?_, ?_, ?_, ?_⟩ <;> (rw [hcc _ _ (by simp; omega)]; assumption))
        | (obtain ⟨hcc, _⟩ := bcellB (hb7.trans (hb8.mono (by have := hb7.size; omega)))
           refine ⟨?_, ?_, ?_, ?_⟩ <;> (rw [hcc _ _ (by simp; omega)]; assumption)))
      (first
        | (go_at_call 10; refine (toRhythm_any n A cap bs _ ((HA.out.lift hW6).drewN_ _) hsm).mono ?_; rintro e w7 ⟨rfl, ht7, hb7⟩)
        | (go_at_call 12; refine (eqRhythm_any n n _ _ _ _ bs bs _ ((HI6.out.drewN_ _).lift hb7) (ht7.ints ht7.1 HA.out.1 HA.out.2.1)).mono ?_; rintro e w8 ⟨rfl, hb8⟩))
    go_wp2_with fail
    go_ret
    have hW7 := (Below.drewN_ hW6 1).trans (hb7.mono (show w.heap.size ≤ (w6.drewN 1).heap.size from hW6.size))
    exact ⟨rfl, hW7.trans (hb8.mono hW7.size)⟩

theorem law_FnExactHasWindow {w : World} (n : Int) (A : Option Addr) (cap : Nat) (bs : List Int) (hn : Fits n) (hA : Ints w w.heap.size A bs) (s : ByteArray) (hs : s.size ≤ maxLen) :
    Calls Try.prog 3 #[.agg #[.int .i64 n, .slice A bs.length cap], .string s] w fun e w' => e = .returned (.bool true) ∧ Below w.heap.size w w' := by
  by_cases hbig : 1048576 < s.size
  · unfold maxLen at hs
    clear hA
    go_enter Try.func3, Try.ntmps3
    go_wp2
    go_ret
    exact ⟨rfl, (by repeat (first | exact Below.refl _ _ | assumption | (refine Below.alloc ?_ (by first | exact Nat.le_refl _ | (simp; done) | (simp; omega) | omega) _) | (refine Below.drew ?_) | (refine Below.setCell ?_ (by first | exact Nat.le_refl _ | (simp; done) | (simp; omega) | omega) _)))⟩
  · exact law_FnExactHasWindow_of n A cap bs s (by omega) _ ⟨_, rfl⟩ w hA (fun A cap w hA => spec_HasWindow_any n A cap bs s w hs hA) (fun A cap w hA => impl_HasWindow_any n A cap bs s w hn hs hA)

end Go.Proofs.Ytjgbnmljbgadjaa
