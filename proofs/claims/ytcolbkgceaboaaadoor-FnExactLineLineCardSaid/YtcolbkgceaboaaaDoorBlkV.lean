/-
  What the reference says of a pattern on a line; LineLine of both.
-/
import Derived.Test.YtcolbkgceaboaaaDoorBlkL
import Derived.Test.YtcolbkgceaboaaaDoorNums
import Derived.Test.YtcolbkgceaboaaaDoorPowL
namespace Go.Proofs.YtcolbkgceaboaaaDoor
open Go.RowKit
set_option linter.unusedVariables false
set_option linter.unusedSimpArgs false

def lentN (xs : List Int) : List Nat := if lcanV xs then (blk (patM xs)).2.2 else []
theorem lentV_N (xs : List Int) : lentV xs = castL (lentN xs) := by
  unfold lentV lentN
  cases lcanV xs <;> rfl
theorem lperV_le (xs : List Int) : lperV xs ≤ 24 := by
  rw [lperV_blk]
  have := blkT_le xs
  split
  · exact this
  · exact Nat.zero_le _
theorem lfailV_fit (xs : List Int) : -1 ≤ lfailV xs ∧ lfailV xs ≤ 24 := by
  rw [lfailV_blk]
  have := blkT_le xs
  split
  · omega
  · split <;> omega
theorem least_facts (xs : List Int) : (lentN xs).length ≤ 13 ∧ (∀ t ∈ lentN xs, t < lperV xs) ∧ (∀ q, 0 < q → q < lperV xs → lperV xs % q = 0 → shB (lperV xs) (lentN xs) q = false) ∧ decide ((0 : Int) < (lperV xs : Int)) = lcanV xs := by
  cases hc : lcanV xs
  · have h1 : lperV xs = 0 := by unfold lperV; rw [hc]; rfl
    have h2 : lentN xs = [] := by unfold lentN; rw [hc]; rfl
    rw [h1, h2]
    exact ⟨Nat.zero_le _, fun t ht => (by simp at ht), fun q _ hq => by omega, rfl⟩
  · have h1 : lperV xs = (blk (patM xs)).2.1 := by unfold lperV; rw [hc]; rfl
    have h2 : lentN xs = (blk (patM xs)).2.2 := by unfold lentN; rw [hc]; rfl
    unfold lcanV at hc
    rw [Bool.and_eq_true, beq_iff_eq] at hc
    obtain ⟨hpos, hpat⟩ := pat_all hc.1
    rw [h1, h2]
    rcases blk_cases (M := patM xs) (mk_small hpat xs.length (Nat.le_refl _)) (mk_odd hpat xs.length hpos (Nat.le_refl _)) with ⟨h, _⟩ | ⟨_, a1, a2, a3, a4, a5⟩
    · have := hc.2; omega
    · exact ⟨a3, a4, a5, decide_eq_true (by omega)⟩

set_option maxHeartbeats 400000 in
theorem spec_CanGoOn_any (A : Option Addr) (cap : Nat) (xs : List Int) (w : World) (hA : Ints w w.heap.size A xs) :
    Calls Tryd.prog 9 #[.slice A xs.length cap] w fun e w' => e = .returned (.bool (lcanV xs)) ∧ Below w.heap.size w w' := by
  have HPO := Lib.hid (spec_PatternOk_any A cap xs w hA)
  cases hp : patB xs
  · have HV := Lib.hid (show lcanV xs = false by unfold lcanV; rw [hp]; rfl)
    rw [hp] at HPO
    clear hA hp
    go_enter Tryd.func9, Tryd.ntmps9
    go_wp2_with fail
    refine HPO.out.mono ?_
    rintro e w1 ⟨rfl, rfl⟩
    go_wp2_with fail
    go_ret
    exact ⟨by rw [HV.out]; rfl, Below.refl _ _⟩
  · have HPR := Lib.hid (spec_l13Period_ok A cap xs w hA hp)
    have hcd := (least_facts xs).2.2.2
    rw [hp] at HPO
    generalize lperV xs = p at HPR hcd
    generalize lcanV xs = b at hcd ⊢
    clear hA hp
    go_enter Tryd.func9, Tryd.ntmps9
    go_wp2_with fail
    refine HPO.out.mono ?_
    rintro e w1 ⟨rfl, rfl⟩
    go_wp2_with fail
    refine HPR.out.mono ?_
    rintro e w1 ⟨A1, c1, rfl, hi1, hb1⟩
    have HC := Lib.hid hcd
    clear hcd hi1
    go_wp2_with fail
    go_ret
    exact ⟨by rw [← HC.out]; first | rfl | simp, hb1⟩

set_option maxHeartbeats 400000 in
theorem spec_LinePeriod_any (A : Option Addr) (cap : Nat) (xs : List Int) (w : World) (hA : Ints w w.heap.size A xs) :
    Calls Tryd.prog 12 #[.slice A xs.length cap] w fun e w' => e = .returned (.int .i64 (lperV xs)) ∧ Below w.heap.size w w' := by
  have HPO := Lib.hid (spec_PatternOk_any A cap xs w hA)
  cases hp : patB xs
  · have HV := Lib.hid (show lperV xs = 0 by unfold lperV lcanV; rw [hp]; rfl)
    rw [hp] at HPO
    clear hA hp
    go_enter Tryd.func12, Tryd.ntmps12
    go_wp2_with fail
    refine HPO.out.mono ?_
    rintro e w1 ⟨rfl, rfl⟩
    go_wp2_with fail
    go_ret
    exact ⟨by rw [HV.out]; rfl, Below.refl _ _⟩
  · have HPR := Lib.hid (spec_l13Period_ok A cap xs w hA hp)
    obtain ⟨g1, g2, g3, _⟩ := least_facts xs
    have HLE := Lib.hid (fun A c V h => spec_l13Least_any (lperV xs) A c (lentN xs) V h (lperV_le xs) g1 g2 g3)
    rw [lentV_N] at HPR
    rw [hp] at HPO
    generalize lperV xs = p at HPR HLE ⊢
    generalize castL (lentN xs) = L at HPR HLE
    clear hA hp g1 g2 g3
    go_enter Tryd.func12, Tryd.ntmps12
    go_wp2_with fail
    refine HPO.out.mono ?_
    rintro e w1 ⟨rfl, rfl⟩
    go_wp2_with fail
    refine HPR.out.mono ?_
    rintro e w1 ⟨A1, c1, rfl, hi1, hb1⟩
    have HI := Lib.hid hi1
    have HB1 := Lib.hid hb1
    clear hi1 hb1
    go_wp2_with fail
    refine (HLE.out _ _ _ HI.out).mono ?_
    rintro e w2 ⟨rfl, hb2⟩
    go_wp2_with fail
    go_ret
    exact ⟨rfl, HB1.out.trans (hb2.mono HB1.out.size)⟩

set_option maxHeartbeats 400000 in
theorem spec_PeriodEntries_any (A : Option Addr) (cap : Nat) (xs : List Int) (w : World) (hA : Ints w w.heap.size A xs) :
    Calls Tryd.prog 14 #[.slice A xs.length cap] w (RetInts w (lentV xs)) := by
  have HPO := Lib.hid (spec_PatternOk_any A cap xs w hA)
  cases hp : patB xs
  · have hv : lentV xs = [] := by unfold lentV lcanV; rw [hp]; rfl
    rw [hp] at HPO
    rw [hv]
    clear hA hp hv
    go_enter Tryd.func14, Tryd.ntmps14
    go_wp2_with fail
    refine HPO.out.mono ?_
    rintro e w1 ⟨rfl, rfl⟩
    go_wp2_with fail
    go_ret
    exact ⟨none, 0, rfl, ints_none _ _, Below.refl _ _⟩
  · have HPR := Lib.hid (spec_l13Period_ok A cap xs w hA hp)
    obtain ⟨g1, g2, g3, g4⟩ := least_facts xs
    have HLE := Lib.hid (fun A c V h => spec_l13Least_any (lperV xs) A c (lentN xs) V h (lperV_le xs) g1 g2 g3)
    rw [lentV_N] at HPR ⊢
    rw [hp] at HPO
    cases hc : lcanV xs
    · have h0 : lperV xs = 0 := by rw [lperV_blk, hc]; rfl
      have hv : lentN xs = [] := by unfold lentN; rw [hc]; rfl
      rw [h0] at HPR
      rw [hv] at HPR ⊢
      clear hA hp g1 g2 g3 g4 hc h0 hv HLE
      go_enter Tryd.func14, Tryd.ntmps14
      go_wp2_with fail
      refine HPO.out.mono ?_
      rintro e w1 ⟨rfl, rfl⟩
      go_wp2_with fail
      refine HPR.out.mono ?_
      rintro e w1 ⟨A1, c1, rfl, hi1, hb1⟩
      go_wp2_with fail
      go_ret
      exact ⟨none, 0, rfl, ints_none _ _, hb1⟩
    · rw [hc, decide_eq_true_eq] at g4
      generalize lperV xs = p at HPR HLE g4
      generalize castL (lentN xs) = L at HPR HLE ⊢
      have hz : ((p : Int) == 0) = false := beq_eq_false_iff_ne.2 (by omega)
      have hz2 : ¬ p = 0 := by omega
      clear hA hp g1 g2 g3 hc
      go_enter Tryd.func14, Tryd.ntmps14
      go_wp2_with fail
      refine HPO.out.mono ?_
      rintro e w1 ⟨rfl, rfl⟩
      go_wp2_with fail
      refine HPR.out.mono ?_
      rintro e w1 ⟨A1, c1, rfl, hi1, hb1⟩
      have HI := Lib.hid hi1
      have HB1 := Lib.hid hb1
      clear hi1 hb1
      go_wp2_with fail
      refine (HLE.out _ _ _ HI.out).mono ?_
      rintro e w2 ⟨rfl, hb2⟩
      have HI2 := Lib.hid (HI.out.lift hb2)
      go_wp2_with fail
      go_ret
      exact ⟨A1, c1, rfl, HI2.out, HB1.out.trans (hb2.mono HB1.out.size)⟩

set_option maxHeartbeats 400000 in
theorem spec_FailTime_any (A : Option Addr) (cap : Nat) (xs : List Int) (w : World) (hA : Ints w w.heap.size A xs) :
    Calls Tryd.prog 11 #[.slice A xs.length cap] w fun e w' => e = .returned (.int .i64 (lfailV xs)) ∧ Below w.heap.size w w' := by
  have HPO := Lib.hid (spec_PatternOk_any A cap xs w hA)
  cases hp : patB xs
  · have HV := Lib.hid (show lfailV xs = -1 by unfold lfailV; rw [hp]; rfl)
    rw [hp] at HPO
    clear hA hp
    go_enter Tryd.func11, Tryd.ntmps11
    go_wp2_with fail
    refine HPO.out.mono ?_
    rintro e w1 ⟨rfl, rfl⟩
    go_wp2_with fail
    go_ret
    exact ⟨by rw [HV.out]; rfl, Below.refl _ _⟩
  · have HPR := Lib.hid (spec_l13Period_ok A cap xs w hA hp)
    have g4 := (least_facts xs).2.2.2
    rw [hp] at HPO
    cases hc : lcanV xs
    · have h0 : lperV xs = 0 := by rw [lperV_blk, hc]; rfl
      rw [h0] at HPR
      generalize lfailV xs = t at HPR ⊢
      clear hA hp g4 hc h0
      go_enter Tryd.func11, Tryd.ntmps11
      go_wp2_with fail
      refine HPO.out.mono ?_
      rintro e w1 ⟨rfl, rfl⟩
      go_wp2_with fail
      refine HPR.out.mono ?_
      rintro e w1 ⟨A1, c1, rfl, hi1, hb1⟩
      go_wp2_with fail
      go_ret
      exact ⟨rfl, hb1⟩
    · rw [hc, decide_eq_true_eq] at g4
      have HV := Lib.hid (show lfailV xs = -1 by rw [lfailV_blk, hc]; rfl)
      generalize lperV xs = p at HPR g4
      have g5 : 0 < p := by omega
      clear hA hp hc
      go_enter Tryd.func11, Tryd.ntmps11
      go_wp2_with fail
      refine HPO.out.mono ?_
      rintro e w1 ⟨rfl, rfl⟩
      go_wp2_with fail
      refine HPR.out.mono ?_
      rintro e w1 ⟨A1, c1, rfl, hi1, hb1⟩
      go_wp2_with fail
      go_ret
      exact ⟨by rw [HV.out]; rfl, hb1⟩

def lliV (xs : List Int) : Txt :=
  if patB xs then (if lcanV xs then [112, 101, 114, 105, 111, 100, 32] ++ itoL (lperV xs) ++ [32, 101, 110, 116, 114, 105, 101, 115, 32] ++ numsT (lentV xs) else [102, 97, 105, 108, 115, 32] ++ itoL (lfailV xs))
  else [110, 111, 110, 101]
theorem numsT_len3 {xs : List Int} (h : ∀ x ∈ xs, Fits x) (hl : xs.length ≤ 24) : (numsT xs).length ≤ 504 := by
  unfold numsT
  split
  · simp
  · have hjl := joinT_len [44] 20 (xs.map itoL) (nums_mem h)
    rw [List.length_map] at hjl
    have : xs.length * (20 + 1) ≤ 24 * 21 := Nat.mul_le_mul hl (Nat.le_refl _)
    exact Nat.le_trans hjl this

set_option maxRecDepth 100000 in
set_option maxHeartbeats 2000000 in
theorem impl_LineLine_any (A : Option Addr) (cap : Nat) (xs : List Int) (w : World) (hA : Ints w w.heap.size A xs) (hP : Pow w) :
    Calls Tryd.prog 6 #[.slice A xs.length cap] w fun e w' => e = .returned (.string (mkS (lliV xs))) ∧ Below w.heap.size w w' := by
  have HA := Lib.hid hA
  have HPO := Lib.hid (fun V h => impl_PatternOk_any A cap xs V h)
  have HCG := Lib.hid (fun V h => impl_CanGoOn_any A cap xs V h)
  cases hp : patB xs
  · have HV := Lib.hid (show lliV xs = [110, 111, 110, 101] by unfold lliV; rw [hp]; rfl)
    rw [hp] at HPO
    generalize lliV xs = v at HV ⊢
    clear hA hp
    go_enter Tryd.func6, Tryd.ntmps6
    go_wp2_with fail
    refine (HPO.out _ HA.out).mono ?_
    rintro e w1 ⟨rfl, rfl⟩
    go_wp2_with fail
    go_ret
    exact ⟨ret_str (by rw [HV.out]; rfl), Below.refl _ _⟩
  rw [hp] at HPO
  cases hc : lcanV xs
  · rw [hc] at HCG
    have HFT := Lib.hid (fun V h => impl_FailTime_any A cap xs V h)
    have hff : Fits (lfailV xs) := by have := lfailV_fit xs; unfold Fits; omega
    have HV := Lib.hid (show lliV xs = [102, 97, 105, 108, 115, 32] ++ itoL (lfailV xs) by unfold lliV; rw [hp, hc]; rfl)
    obtain ⟨t, ht⟩ : ∃ t, lfailV xs = t := ⟨_, rfl⟩
    rw [ht] at HFT HV hff
    have HFI := Lib.hid (fun V (hb : Below w.heap.size w V) => impl_FormatInt_any t hff V (hP.below hb))
    have hsz : (mkS (itoL t)).size ≤ 20 := by rw [mkS_size]; exact itoL_len t hff
    have HS := Lib.hid (str_mk (itoL t))
    generalize mkS (itoL t) = S at HFI hsz HS
    have HRES := Lib.hid (show (⟨#[102, 97, 105, 108, 115, 32]⟩ : ByteArray) ++ S = mkS (lliV xs) by
      rw [HV.out]
      exact Str.eq (Str.app (show Str ⟨#[102, 97, 105, 108, 115, 32]⟩ [102, 97, 105, 108, 115, 32] from rfl) HS.out))
    generalize mkS (lliV xs) = R at HRES ⊢
    clear hA hp hc ht hff HV
    go_enter Tryd.func6, Tryd.ntmps6
    go_wp2_with fail
    refine (HPO.out _ HA.out).mono ?_
    rintro e w1 ⟨rfl, rfl⟩
    go_wp2_with fail
    refine (HCG.out _ HA.out).mono ?_
    rintro e w1 ⟨rfl, hb⟩
    have HB1 := Lib.hid hb
    clear hb
    go_wp2_with fail
    refine (HFT.out _ (HA.out.lift HB1.out)).mono ?_
    rintro e w2 ⟨rfl, hb⟩
    have HB2 := Lib.hid (HB1.out.trans (hb.mono HB1.out.size))
    clear hb
    go_wp2_with fail
    refine (HFI.out _ HB2.out).mono ?_
    rintro e w3 ⟨rfl, hb⟩
    have HB3 := Lib.hid (HB2.out.trans (hb.mono HB2.out.size))
    clear hb
    go_wp2_with fail
    go_ret
    exact ⟨ret_str HRES.out, HB3.out⟩
  · rw [hc] at HCG
    have HLP := Lib.hid (fun V h => impl_LinePeriod_any A cap xs V h)
    have HPE := Lib.hid (fun V h => impl_PeriodEntries_any A cap xs V h)
    have hff : Fits (lperV xs : Int) := by have := lperV_le xs; unfold Fits; omega
    have hen := lentV_fits xs
    have HV := Lib.hid (show lliV xs = [112, 101, 114, 105, 111, 100, 32] ++ itoL (lperV xs) ++ [32, 101, 110, 116, 114, 105, 101, 115, 32] ++ numsT (lentV xs) by unfold lliV; rw [hp, hc]; rfl)
    obtain ⟨t, ht⟩ : ∃ t : Int, (lperV xs : Int) = t := ⟨_, rfl⟩
    obtain ⟨L, hL⟩ : ∃ L, lentV xs = L := ⟨_, rfl⟩
    rw [ht] at HLP HV hff
    rw [hL] at HPE HV hen
    have HFI := Lib.hid (fun V (hb : Below w.heap.size w V) => impl_FormatInt_any t hff V (hP.below hb))
    have HFN := Lib.hid (fun A c V (hi : Ints V V.heap.size A L) (hb : Below w.heap.size w V) => impl_FormatNumbers_any A c L V hi (by omega) (hP.below hb))
    have hsz : (mkS (itoL t)).size ≤ 20 := by rw [mkS_size]; exact itoL_len t hff
    have hsn : (mkS (numsT L)).size ≤ 504 := by rw [mkS_size]; exact numsT_len3 (fun x hx => by have := hen.1 x hx; unfold Fits; omega) (by omega)
    have HS := Lib.hid (str_mk (itoL t))
    have HN := Lib.hid (str_mk (numsT L))
    generalize mkS (itoL t) = S at HFI hsz HS
    generalize mkS (numsT L) = U at HFN hsn HN
    have HRES := Lib.hid (show (⟨#[112, 101, 114, 105, 111, 100, 32]⟩ : ByteArray) ++ S ++ ⟨#[32, 101, 110, 116, 114, 105, 101, 115, 32]⟩ ++ U = mkS (lliV xs) by
      rw [HV.out]
      exact Str.eq (Str.app (Str.app (Str.app (show Str ⟨#[112, 101, 114, 105, 111, 100, 32]⟩ [112, 101, 114, 105, 111, 100, 32] from rfl) HS.out) (show Str ⟨#[32, 101, 110, 116, 114, 105, 101, 115, 32]⟩ [32, 101, 110, 116, 114, 105, 101, 115, 32] from rfl)) HN.out))
    have hz1 : ((⟨#[112, 101, 114, 105, 111, 100, 32]⟩ : ByteArray) ++ S).size ≤ 27 := by rw [ByteArray.size_append]; show 7 + S.size ≤ 27; omega
    have hz2 : ((⟨#[112, 101, 114, 105, 111, 100, 32]⟩ : ByteArray) ++ S ++ ⟨#[32, 101, 110, 116, 114, 105, 101, 115, 32]⟩).size ≤ 36 := by rw [ByteArray.size_append]; show _ + 9 ≤ 36; omega
    generalize mkS (lliV xs) = R at HRES ⊢
    clear hA hp hc ht hL hff hen HV
    go_enter Tryd.func6, Tryd.ntmps6
    go_wp2_with fail
    refine (HPO.out _ HA.out).mono ?_
    rintro e w1 ⟨rfl, rfl⟩
    go_wp2_with fail
    refine (HCG.out _ HA.out).mono ?_
    rintro e w1 ⟨rfl, hb⟩
    have HB1 := Lib.hid hb
    clear hb
    go_wp2_with fail
    refine (HLP.out _ (HA.out.lift HB1.out)).mono ?_
    rintro e w2 ⟨rfl, hb⟩
    have HB2 := Lib.hid (HB1.out.trans (hb.mono HB1.out.size))
    clear hb
    go_wp2_with fail
    refine (HFI.out _ HB2.out).mono ?_
    rintro e w3 ⟨rfl, hb⟩
    have HB3 := Lib.hid (HB2.out.trans (hb.mono HB2.out.size))
    clear hb
    go_wp2_with fail
    refine (HPE.out _ (HA.out.lift HB3.out)).mono ?_
    rintro e w4 ⟨A4, c4, rfl, hi4, hb⟩
    have HB4 := Lib.hid (HB3.out.trans (hb.mono HB3.out.size))
    have HI4 := Lib.hid hi4
    clear hb hi4
    go_wp2_with fail
    refine (HFN.out _ _ _ HI4.out HB4.out).mono ?_
    rintro e w5 ⟨rfl, hb⟩
    have HB5 := Lib.hid (HB4.out.trans (hb.mono HB4.out.size))
    clear hb
    go_wp2_with fail
    go_ret
    exact ⟨ret_str HRES.out, HB5.out⟩

set_option maxRecDepth 100000 in
set_option maxHeartbeats 2000000 in
theorem spec_LineLine_any (A : Option Addr) (cap : Nat) (xs : List Int) (w : World) (hA : Ints w w.heap.size A xs)  :
    Calls Tryd.prog 4 #[.slice A xs.length cap] w fun e w' => e = .returned (.string (mkS (lliV xs))) ∧ Below w.heap.size w w' := by
  have HA := Lib.hid hA
  have HPO := Lib.hid (fun V h => spec_PatternOk_any A cap xs V h)
  have HCG := Lib.hid (fun V h => spec_CanGoOn_any A cap xs V h)
  cases hp : patB xs
  · have HV := Lib.hid (show lliV xs = [110, 111, 110, 101] by unfold lliV; rw [hp]; rfl)
    rw [hp] at HPO
    generalize lliV xs = v at HV ⊢
    clear hA hp
    go_enter Tryd.func4, Tryd.ntmps4
    go_wp2_with fail
    refine (HPO.out _ HA.out).mono ?_
    rintro e w1 ⟨rfl, rfl⟩
    go_wp2_with fail
    go_ret
    exact ⟨ret_str (by rw [HV.out]; rfl), Below.refl _ _⟩
  rw [hp] at HPO
  cases hc : lcanV xs
  · rw [hc] at HCG
    have HFT := Lib.hid (fun V h => spec_FailTime_any A cap xs V h)
    have hff : Fits (lfailV xs) := by have := lfailV_fit xs; unfold Fits; omega
    have HV := Lib.hid (show lliV xs = [102, 97, 105, 108, 115, 32] ++ itoL (lfailV xs) by unfold lliV; rw [hp, hc]; rfl)
    obtain ⟨t, ht⟩ : ∃ t, lfailV xs = t := ⟨_, rfl⟩
    rw [ht] at HFT HV hff
    have HFI := Lib.hid (fun V (hb : Below w.heap.size w V) => spec_FormatInt_any t hff V)
    have hsz : (mkS (itoL t)).size ≤ 20 := by rw [mkS_size]; exact itoL_len t hff
    have HS := Lib.hid (str_mk (itoL t))
    generalize mkS (itoL t) = S at HFI hsz HS
    have HRES := Lib.hid (show (⟨#[102, 97, 105, 108, 115, 32]⟩ : ByteArray) ++ S = mkS (lliV xs) by
      rw [HV.out]
      exact Str.eq (Str.app (show Str ⟨#[102, 97, 105, 108, 115, 32]⟩ [102, 97, 105, 108, 115, 32] from rfl) HS.out))
    generalize mkS (lliV xs) = R at HRES ⊢
    clear hA hp hc ht hff HV
    go_enter Tryd.func4, Tryd.ntmps4
    go_wp2_with fail
    refine (HPO.out _ HA.out).mono ?_
    rintro e w1 ⟨rfl, rfl⟩
    go_wp2_with fail
    refine (HCG.out _ HA.out).mono ?_
    rintro e w1 ⟨rfl, hb⟩
    have HB1 := Lib.hid hb
    clear hb
    go_wp2_with fail
    refine (HFT.out _ (HA.out.lift HB1.out)).mono ?_
    rintro e w2 ⟨rfl, hb⟩
    have HB2 := Lib.hid (HB1.out.trans (hb.mono HB1.out.size))
    clear hb
    go_wp2_with fail
    refine (HFI.out _ HB2.out).mono ?_
    rintro e w3 ⟨rfl, hb⟩
    have HB3 := Lib.hid (HB2.out.trans (hb.mono HB2.out.size))
    clear hb
    go_wp2_with fail
    go_ret
    exact ⟨ret_str HRES.out, HB3.out⟩
  · rw [hc] at HCG
    have HLP := Lib.hid (fun V h => spec_LinePeriod_any A cap xs V h)
    have HPE := Lib.hid (fun V h => spec_PeriodEntries_any A cap xs V h)
    have hff : Fits (lperV xs : Int) := by have := lperV_le xs; unfold Fits; omega
    have hen := lentV_fits xs
    have HV := Lib.hid (show lliV xs = [112, 101, 114, 105, 111, 100, 32] ++ itoL (lperV xs) ++ [32, 101, 110, 116, 114, 105, 101, 115, 32] ++ numsT (lentV xs) by unfold lliV; rw [hp, hc]; rfl)
    obtain ⟨t, ht⟩ : ∃ t : Int, (lperV xs : Int) = t := ⟨_, rfl⟩
    obtain ⟨L, hL⟩ : ∃ L, lentV xs = L := ⟨_, rfl⟩
    rw [ht] at HLP HV hff
    rw [hL] at HPE HV hen
    have HFI := Lib.hid (fun V (hb : Below w.heap.size w V) => spec_FormatInt_any t hff V)
    have HFN := Lib.hid (fun A c V (hi : Ints V V.heap.size A L) (hb : Below w.heap.size w V) => spec_FormatNumbers_any A c L V hi (by omega))
    have hsz : (mkS (itoL t)).size ≤ 20 := by rw [mkS_size]; exact itoL_len t hff
    have hsn : (mkS (numsT L)).size ≤ 504 := by rw [mkS_size]; exact numsT_len3 (fun x hx => by have := hen.1 x hx; unfold Fits; omega) (by omega)
    have HS := Lib.hid (str_mk (itoL t))
    have HN := Lib.hid (str_mk (numsT L))
    generalize mkS (itoL t) = S at HFI hsz HS
    generalize mkS (numsT L) = U at HFN hsn HN
    have HRES := Lib.hid (show (⟨#[112, 101, 114, 105, 111, 100, 32]⟩ : ByteArray) ++ S ++ ⟨#[32, 101, 110, 116, 114, 105, 101, 115, 32]⟩ ++ U = mkS (lliV xs) by
      rw [HV.out]
      exact Str.eq (Str.app (Str.app (Str.app (show Str ⟨#[112, 101, 114, 105, 111, 100, 32]⟩ [112, 101, 114, 105, 111, 100, 32] from rfl) HS.out) (show Str ⟨#[32, 101, 110, 116, 114, 105, 101, 115, 32]⟩ [32, 101, 110, 116, 114, 105, 101, 115, 32] from rfl)) HN.out))
    have hz1 : ((⟨#[112, 101, 114, 105, 111, 100, 32]⟩ : ByteArray) ++ S).size ≤ 27 := by rw [ByteArray.size_append]; show 7 + S.size ≤ 27; omega
    have hz2 : ((⟨#[112, 101, 114, 105, 111, 100, 32]⟩ : ByteArray) ++ S ++ ⟨#[32, 101, 110, 116, 114, 105, 101, 115, 32]⟩).size ≤ 36 := by rw [ByteArray.size_append]; show _ + 9 ≤ 36; omega
    generalize mkS (lliV xs) = R at HRES ⊢
    clear hA hp hc ht hL hff hen HV
    go_enter Tryd.func4, Tryd.ntmps4
    go_wp2_with fail
    refine (HPO.out _ HA.out).mono ?_
    rintro e w1 ⟨rfl, rfl⟩
    go_wp2_with fail
    refine (HCG.out _ HA.out).mono ?_
    rintro e w1 ⟨rfl, hb⟩
    have HB1 := Lib.hid hb
    clear hb
    go_wp2_with fail
    refine (HLP.out _ (HA.out.lift HB1.out)).mono ?_
    rintro e w2 ⟨rfl, hb⟩
    have HB2 := Lib.hid (HB1.out.trans (hb.mono HB1.out.size))
    clear hb
    go_wp2_with fail
    refine (HFI.out _ HB2.out).mono ?_
    rintro e w3 ⟨rfl, hb⟩
    have HB3 := Lib.hid (HB2.out.trans (hb.mono HB2.out.size))
    clear hb
    go_wp2_with fail
    refine (HPE.out _ (HA.out.lift HB3.out)).mono ?_
    rintro e w4 ⟨A4, c4, rfl, hi4, hb⟩
    have HB4 := Lib.hid (HB3.out.trans (hb.mono HB3.out.size))
    have HI4 := Lib.hid hi4
    clear hb hi4
    go_wp2_with fail
    refine (HFN.out _ _ _ HI4.out HB4.out).mono ?_
    rintro e w5 ⟨rfl, hb⟩
    have HB5 := Lib.hid (HB4.out.trans (hb.mono HB4.out.size))
    clear hb
    go_wp2_with fail
    go_ret
    exact ⟨ret_str HRES.out, HB5.out⟩

end Go.Proofs.YtcolbkgceaboaaaDoor
