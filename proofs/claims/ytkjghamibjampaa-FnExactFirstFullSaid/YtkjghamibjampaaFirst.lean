/-
  FirstFull of both.
-/
import Derived.Test.YtkjghamibjampaaBitsR
import Derived.Test.YtkjghamibjampaaIsFS
namespace Go.Proofs.Ytkjghamibjampaa
open Go.RowKit
set_option linter.unusedVariables false
set_option linter.unusedSimpArgs false

theorem isFullV_bits (k S c : Nat) (hk : (k = 1 ∧ S = 2) ∨ (k = 2 ∧ S = 4) ∨ (k = 3 ∧ S = 8) ∨ (k = 4 ∧ S = 16)) (hc : c < 2 ^ S) : isFullV S (bitsB S c S) k S = fullB S c := by
  have hS1 : 1 ≤ S := by omega
  have hS2 : S ≤ 24 := by omega
  have hok := bitsB_ok S c hS1 hS2
  unfold isFullV
  rw [rhB_iff.2 hok, Bool.true_and, decide_eq_true rfl, Bool.true_and, ← full_iff k S _ hk hok.2.2.1, bitsB_code S c hc (by omega)]

set_option maxRecDepth 100000 in
set_option maxHeartbeats 1000000 in
theorem impl_FirstFull_1 (w : World) :
    Calls Try.prog 15 #[.int .i64 1] w (RetRh2 w 2 (bitsB 2 2 2) true) := by
  have hin : inB 1 1 4 = true := by decide
  have htop := top_spec top_1
  have HT1 := Lib.hid htop.1
  have HT2 := Lib.hid htop.2
  clear htop
  have HRA := Lib.hid (fun V : World => impl_rhythmAt_any 2 2 V (by omega) (by omega) (by omega))
  have HFI := Lib.hid (fun (c : Nat) (hc : c < 4) (V : World) => impl_isFullCode_1 c hc V)
  obtain ⟨L, hL⟩ : ∃ L, bitsB 2 2 2 = L := ⟨_, rfl⟩
  rw [hL] at HRA ⊢
  clear hL
  have HC := Lib.hid (Cells2.new w (.int .i64 0) (.slice none 0 0) 27)
  have HB := Lib.hid ((Below.refl w.heap.size w).alloc (Nat.le_refl _) (.cells #[.int .i64 0, .slice none 0 0] 27))
  go_enter Try.func15, Try.ntmps15
  go_wp2_with (go_at_call 34; refine (within_any _ _ _ _).mono ?_; rintro e w' ⟨rfl, rfl⟩)
  go_loop [4] (fun sc => ∃ c : Nat, sc = .int .i64 c ∧ 2 ≤ c ∧ c < 4) (fun sc => (intOf sc).toNat)
  case atStart => exact ⟨4 - 1, by rfl, by omega, by omega⟩
  case round =>
    obtain ⟨c, rfl, hc1, hc2⟩ := hrel
    by_cases hc : c = 2
    · subst hc
      have hif := HFI.out _ hc2
      rw [HT1.out] at hif
      have HIF := Lib.hid hif
      clear hif
      go_wp2_with (go_at_call 36; refine (HIF.out _).mono ?_; rintro e w' ⟨rfl, rfl⟩)
      refine (HRA.out _).mono ?_
      rintro e w2 ⟨A2, c2, rfl, hrw, hb2⟩
      obtain ⟨f0, f1, f2, f3, f4⟩ := HC.out.below hb2 (by simp)
      go_wp2_with fail
      refine bodyPost_ret (v := .tuple #[.agg #[.int .i64 2, .slice A2 L.length c2], .bool true]) (by simp [results, Try.results15, go_sem, f0, f1]) rfl ⟨A2, c2, rfl, ?_, ?_⟩
      · exact ((hrw.far (p := ⟨w.heap.size, 0, none⟩) (by simp) _).far (p := ⟨w.heap.size, 1, none⟩) (by simp) _).mono (by simp)
      · exact ((HB.out.trans (hb2.mono (by simp))).setCell (Nat.le_refl _) _).setCell (Nat.le_refl _) _
    · have hif := HFI.out c hc2
      rw [HT2.out c (by omega) (by omega)] at hif
      have HIF := Lib.hid hif
      clear hif
      go_wp2_with (go_at_call 36; refine (HIF.out _).mono ?_; rintro e w' ⟨rfl, rfl⟩)
      go_round
      case rel => exact ⟨c - 1, by go_num, by omega, by omega⟩
      case measure => simp [intOf]; omega

set_option maxRecDepth 100000 in
set_option maxHeartbeats 1000000 in
theorem impl_FirstFull_2 (w : World) :
    Calls Try.prog 15 #[.int .i64 2] w (RetRh2 w 4 (bitsB 4 12 4) true) := by
  have hin : inB 2 1 4 = true := by decide
  have htop := top_spec top_2
  have HT1 := Lib.hid htop.1
  have HT2 := Lib.hid htop.2
  clear htop
  have HRA := Lib.hid (fun V : World => impl_rhythmAt_any 4 12 V (by omega) (by omega) (by omega))
  have HFI := Lib.hid (fun (c : Nat) (hc : c < 16) (V : World) => impl_isFullCode_2 c hc V)
  obtain ⟨L, hL⟩ : ∃ L, bitsB 4 12 4 = L := ⟨_, rfl⟩
  rw [hL] at HRA ⊢
  clear hL
  have HC := Lib.hid (Cells2.new w (.int .i64 0) (.slice none 0 0) 27)
  have HB := Lib.hid ((Below.refl w.heap.size w).alloc (Nat.le_refl _) (.cells #[.int .i64 0, .slice none 0 0] 27))
  go_enter Try.func15, Try.ntmps15
  go_wp2_with (go_at_call 34; refine (within_any _ _ _ _).mono ?_; rintro e w' ⟨rfl, rfl⟩)
  go_loop [4] (fun sc => ∃ c : Nat, sc = .int .i64 c ∧ 12 ≤ c ∧ c < 16) (fun sc => (intOf sc).toNat)
  case atStart => exact ⟨16 - 1, by rfl, by omega, by omega⟩
  case round =>
    obtain ⟨c, rfl, hc1, hc2⟩ := hrel
    by_cases hc : c = 12
    · subst hc
      have hif := HFI.out _ hc2
      rw [HT1.out] at hif
      have HIF := Lib.hid hif
      clear hif
      go_wp2_with (go_at_call 36; refine (HIF.out _).mono ?_; rintro e w' ⟨rfl, rfl⟩)
      refine (HRA.out _).mono ?_
      rintro e w2 ⟨A2, c2, rfl, hrw, hb2⟩
      obtain ⟨f0, f1, f2, f3, f4⟩ := HC.out.below hb2 (by simp)
      go_wp2_with fail
      refine bodyPost_ret (v := .tuple #[.agg #[.int .i64 4, .slice A2 L.length c2], .bool true]) (by simp [results, Try.results15, go_sem, f0, f1]) rfl ⟨A2, c2, rfl, ?_, ?_⟩
      · exact ((hrw.far (p := ⟨w.heap.size, 0, none⟩) (by simp) _).far (p := ⟨w.heap.size, 1, none⟩) (by simp) _).mono (by simp)
      · exact ((HB.out.trans (hb2.mono (by simp))).setCell (Nat.le_refl _) _).setCell (Nat.le_refl _) _
    · have hif := HFI.out c hc2
      rw [HT2.out c (by omega) (by omega)] at hif
      have HIF := Lib.hid hif
      clear hif
      go_wp2_with (go_at_call 36; refine (HIF.out _).mono ?_; rintro e w' ⟨rfl, rfl⟩)
      go_round
      case rel => exact ⟨c - 1, by go_num, by omega, by omega⟩
      case measure => simp [intOf]; omega

set_option maxRecDepth 100000 in
set_option maxHeartbeats 1000000 in
theorem impl_FirstFull_3 (w : World) :
    Calls Try.prog 15 #[.int .i64 3] w (RetRh2 w 8 (bitsB 8 232 8) true) := by
  have hin : inB 3 1 4 = true := by decide
  have htop := top_spec top_3
  have HT1 := Lib.hid htop.1
  have HT2 := Lib.hid htop.2
  clear htop
  have HRA := Lib.hid (fun V : World => impl_rhythmAt_any 8 232 V (by omega) (by omega) (by omega))
  have HFI := Lib.hid (fun (c : Nat) (hc : c < 256) (V : World) => impl_isFullCode_3 c hc V)
  obtain ⟨L, hL⟩ : ∃ L, bitsB 8 232 8 = L := ⟨_, rfl⟩
  rw [hL] at HRA ⊢
  clear hL
  have HC := Lib.hid (Cells2.new w (.int .i64 0) (.slice none 0 0) 27)
  have HB := Lib.hid ((Below.refl w.heap.size w).alloc (Nat.le_refl _) (.cells #[.int .i64 0, .slice none 0 0] 27))
  go_enter Try.func15, Try.ntmps15
  go_wp2_with (go_at_call 34; refine (within_any _ _ _ _).mono ?_; rintro e w' ⟨rfl, rfl⟩)
  go_loop [4] (fun sc => ∃ c : Nat, sc = .int .i64 c ∧ 232 ≤ c ∧ c < 256) (fun sc => (intOf sc).toNat)
  case atStart => exact ⟨256 - 1, by rfl, by omega, by omega⟩
  case round =>
    obtain ⟨c, rfl, hc1, hc2⟩ := hrel
    by_cases hc : c = 232
    · subst hc
      have hif := HFI.out _ hc2
      rw [HT1.out] at hif
      have HIF := Lib.hid hif
      clear hif
      go_wp2_with (go_at_call 36; refine (HIF.out _).mono ?_; rintro e w' ⟨rfl, rfl⟩)
      refine (HRA.out _).mono ?_
      rintro e w2 ⟨A2, c2, rfl, hrw, hb2⟩
      obtain ⟨f0, f1, f2, f3, f4⟩ := HC.out.below hb2 (by simp)
      go_wp2_with fail
      refine bodyPost_ret (v := .tuple #[.agg #[.int .i64 8, .slice A2 L.length c2], .bool true]) (by simp [results, Try.results15, go_sem, f0, f1]) rfl ⟨A2, c2, rfl, ?_, ?_⟩
      · exact ((hrw.far (p := ⟨w.heap.size, 0, none⟩) (by simp) _).far (p := ⟨w.heap.size, 1, none⟩) (by simp) _).mono (by simp)
      · exact ((HB.out.trans (hb2.mono (by simp))).setCell (Nat.le_refl _) _).setCell (Nat.le_refl _) _
    · have hif := HFI.out c hc2
      rw [HT2.out c (by omega) (by omega)] at hif
      have HIF := Lib.hid hif
      clear hif
      go_wp2_with (go_at_call 36; refine (HIF.out _).mono ?_; rintro e w' ⟨rfl, rfl⟩)
      go_round
      case rel => exact ⟨c - 1, by go_num, by omega, by omega⟩
      case measure => simp [intOf]; omega

set_option maxRecDepth 100000 in
set_option maxHeartbeats 1000000 in
theorem impl_FirstFull_4 (w : World) :
    Calls Try.prog 15 #[.int .i64 4] w (RetRh2 w 16 (bitsB 16 63056 16) true) := by
  have hin : inB 4 1 4 = true := by decide
  have htop := top_spec top_4
  have HT1 := Lib.hid htop.1
  have HT2 := Lib.hid htop.2
  clear htop
  have HRA := Lib.hid (fun V : World => impl_rhythmAt_any 16 63056 V (by omega) (by omega) (by omega))
  have HFI := Lib.hid (fun (c : Nat) (hc : c < 65536) (V : World) => impl_isFullCode_4 c hc V)
  obtain ⟨L, hL⟩ : ∃ L, bitsB 16 63056 16 = L := ⟨_, rfl⟩
  rw [hL] at HRA ⊢
  clear hL
  have HC := Lib.hid (Cells2.new w (.int .i64 0) (.slice none 0 0) 27)
  have HB := Lib.hid ((Below.refl w.heap.size w).alloc (Nat.le_refl _) (.cells #[.int .i64 0, .slice none 0 0] 27))
  go_enter Try.func15, Try.ntmps15
  go_wp2_with (go_at_call 34; refine (within_any _ _ _ _).mono ?_; rintro e w' ⟨rfl, rfl⟩)
  go_loop [4] (fun sc => ∃ c : Nat, sc = .int .i64 c ∧ 63056 ≤ c ∧ c < 65536) (fun sc => (intOf sc).toNat)
  case atStart => exact ⟨65536 - 1, by rfl, by omega, by omega⟩
  case round =>
    obtain ⟨c, rfl, hc1, hc2⟩ := hrel
    by_cases hc : c = 63056
    · subst hc
      have hif := HFI.out _ hc2
      rw [HT1.out] at hif
      have HIF := Lib.hid hif
      clear hif
      go_wp2_with (go_at_call 36; refine (HIF.out _).mono ?_; rintro e w' ⟨rfl, rfl⟩)
      refine (HRA.out _).mono ?_
      rintro e w2 ⟨A2, c2, rfl, hrw, hb2⟩
      obtain ⟨f0, f1, f2, f3, f4⟩ := HC.out.below hb2 (by simp)
      go_wp2_with fail
      refine bodyPost_ret (v := .tuple #[.agg #[.int .i64 16, .slice A2 L.length c2], .bool true]) (by simp [results, Try.results15, go_sem, f0, f1]) rfl ⟨A2, c2, rfl, ?_, ?_⟩
      · exact ((hrw.far (p := ⟨w.heap.size, 0, none⟩) (by simp) _).far (p := ⟨w.heap.size, 1, none⟩) (by simp) _).mono (by simp)
      · exact ((HB.out.trans (hb2.mono (by simp))).setCell (Nat.le_refl _) _).setCell (Nat.le_refl _) _
    · have hif := HFI.out c hc2
      rw [HT2.out c (by omega) (by omega)] at hif
      have HIF := Lib.hid hif
      clear hif
      go_wp2_with (go_at_call 36; refine (HIF.out _).mono ?_; rintro e w' ⟨rfl, rfl⟩)
      go_round
      case rel => exact ⟨c - 1, by go_num, by omega, by omega⟩
      case measure => simp [intOf]; omega

set_option maxRecDepth 100000 in
set_option maxHeartbeats 1000000 in
theorem spec_FirstFull_1 (w : World) :
    Calls Try.prog 14 #[.int .i64 1] w (RetRh2 w 2 (bitsB 2 2 2) true) := by
  have hin : inB 1 1 4 = true := by decide
  have htop := top_spec top_1
  have HT1 := Lib.hid htop.1
  have HT2 := Lib.hid htop.2
  clear htop
  have HL5 := Lib.hid (fun (c : Nat) (hc : c < 4) (V : World) => spec_l05Of_any 2 c V (by omega) (by omega) (by omega))
  have HIF := Lib.hid (fun (c : Nat) (hc : c < 4) (A : Option Addr) (cap : Nat) (V : World) (hV : Ints V V.heap.size A (bitsB 2 c 2)) => (isFullV_bits 1 2 c (by omega) (by omega)) ▸ spec_IsFull_1 2 A cap (bitsB 2 c 2) V hV)
  have HFT := Lib.hid (fun c : Nat => show ∀ x ∈ bitsB 2 c 2, Fits x from fun x hx => by
    obtain ⟨p, hp, _, rfl⟩ := bitsB_mem.1 hx
    unfold Fits
    omega)
  have HLEN := Lib.hid (show (bitsB 2 2 2).length * 2 = 2 by decide)
  have HC := Lib.hid (Cells2.new w (.int .i64 0) (.slice none 0 0) 27)
  have HB := Lib.hid ((Below.refl w.heap.size w).alloc (Nat.le_refl _) (.cells #[.int .i64 0, .slice none 0 0] 27))
  go_enter Try.func14, Try.ntmps14
  go_wp2_with (go_at_call 30; refine (l01In_any _ _ _ _).mono ?_; rintro e w' ⟨rfl, rfl⟩)
  go_loopw [5] (fun sc wr => ∃ c : Nat, sc = .int .i64 c ∧ 2 ≤ c ∧ c < 4 ∧ (∃ u1 u2, Cells2 wr w.heap.size u1 u2) ∧ Below w.heap.size w wr ∧ w.heap.size + 1 ≤ wr.heap.size) (fun sc _ => (intOf sc).toNat)
  case atStart => exact ⟨4 - 1, by rfl, by omega, by omega, ⟨_, _, HC.out⟩, HB.out, by simp⟩
  case round =>
    obtain ⟨c, rfl, hc1, hc2, ⟨u1, u2, hcc⟩, hbel, hsz⟩ := hrel
    obtain ⟨wo, rfl⟩ : ∃ wo : World, wo = wr := ⟨_, rfl⟩
    have HCC := Lib.hid hcc
    clear hcc
    by_cases hc : c = 2
    · subst hc
      have hif := HIF.out _ hc2
      rw [HT1.out] at hif
      have HIF2 := Lib.hid hif
      have HL := Lib.hid (HL5.out _ hc2)
      have HFT2 := Lib.hid (HFT.out 2)
      have hl2 := HLEN.out
      generalize bitsB 2 2 2 = L at HIF2 HL HFT2 hl2 ⊢
      have hlb : ((2 : Int) * (L.length : Int) == 2) = true := beq_iff_eq.2 (by omega)
      have hlw : IntKind.i64.wrap ((2 : Int) * (L.length : Int)) = 2 * (L.length : Int) := i64w (by omega)
      clear hif
      go_wp2_with fail
      refine (HL.out _).mono ?_
      rintro e w1 ⟨A1, c1, rfl, hrw, hb1⟩
      have HI := Lib.hid (((hrw.below ((Below.refl _ _).alloc (Nat.le_refl _) (.cells #[.int .i64 2, .slice A1 L.length c1] 27))).ints HFT2.out))
      have HB1 := Lib.hid ((hbel.trans (hb1.mono (by omega))).alloc (by have := hb1.size; omega) (.cells #[.int .i64 2, .slice A1 L.length c1] 27))
      have HR1 := Lib.hid (hrw.below ((Below.refl _ _).alloc (Nat.le_refl _) (.cells #[.int .i64 2, .slice A1 L.length c1] 27)))
      have HC1 := Lib.hid ((HCC.out.below hb1 HCC.out.2.2.2.2).alloc (.cells #[.int .i64 2, .slice A1 L.length c1] 27))
      have HG1 := Lib.hid (Cells2.new w1 (.int .i64 2) (.slice A1 L.length c1) 27)
      have hz1 := hb1.size
      clear hrw hb1 hbel
      go_wp2_with (go_at_call 10; refine (HIF2.out A1 c1 _ HI.out).mono ?_; rintro e w2 ⟨rfl, hb2⟩; obtain ⟨f0, f1, f2, f3, f4⟩ := HC1.out.below hb2 HC1.out.2.2.2.2; obtain ⟨g0, g1, g2, g3, g4⟩ := HG1.out.below hb2 HG1.out.2.2.2.2)
      have hz2 := hb2.size
      simp only [World.size_alloc] at hz2
      refine bodyPost_ret (v := .tuple #[.agg #[.int .i64 2, .slice A1 L.length c1], .bool true]) (by simp [results, Try.results14, go_sem, f0, f1]) rfl ⟨A1, c1, rfl, ?_, ?_⟩
      · exact (((HR1.out.below hb2).far (p := ⟨w.heap.size, 0, none⟩) (by simp; omega) _).far (p := ⟨w.heap.size, 1, none⟩) (by simp; omega) _).mono (by omega)
      · exact ((HB1.out.trans (hb2.mono (by simp; omega))).setCell (Nat.le_refl _) _).setCell (Nat.le_refl _) _
    · have hif := HIF.out c hc2
      rw [HT2.out c (by omega) (by omega)] at hif
      have HIF2 := Lib.hid hif
      have HL := Lib.hid (HL5.out c hc2)
      have HFT2 := Lib.hid (HFT.out c)
      have hl2 := bitsB_len 2 c 2
      generalize bitsB 2 c 2 = L at HIF2 HL HFT2 hl2
      have hlw : IntKind.i64.wrap ((2 : Int) * (L.length : Int)) = 2 * (L.length : Int) := i64w (by omega)
      clear hif
      by_cases hll : L.length * 2 = 2
      · have hlb : ((2 : Int) * (L.length : Int) == 2) = true := beq_iff_eq.2 (by omega)
        go_wp2_with fail
        refine (HL.out _).mono ?_
        rintro e w1 ⟨A1, c1, rfl, hrw, hb1⟩
        have HI := Lib.hid (((hrw.below ((Below.refl _ _).alloc (Nat.le_refl _) (.cells #[.int .i64 2, .slice A1 L.length c1] 27))).ints HFT2.out))
        have HB1 := Lib.hid ((hbel.trans (hb1.mono (by omega))).alloc (by have := hb1.size; omega) (.cells #[.int .i64 2, .slice A1 L.length c1] 27))
        have HC1 := Lib.hid ((HCC.out.below hb1 HCC.out.2.2.2.2).alloc (.cells #[.int .i64 2, .slice A1 L.length c1] 27))
        have hz1 := hb1.size
        clear hrw hb1 hbel
        go_wp2_with (go_at_call 10; refine (HIF2.out A1 c1 _ HI.out).mono ?_; rintro e w2 ⟨rfl, hb2⟩)
        have hz2 := hb2.size
        simp only [World.size_alloc] at hz2
        go_roundw
        case rel => exact ⟨c - 1, by go_num, by omega, by omega, ⟨_, _, HC1.out.below hb2 HC1.out.2.2.2.2⟩, HB1.out.trans (hb2.mono (by simp; omega)), by omega⟩
        case measure => simp [intOf]; omega
      · have hlb : ((2 : Int) * (L.length : Int) == 2) = false := beq_eq_false_iff_ne.2 (by omega)
        go_wp2_with fail
        refine (HL.out _).mono ?_
        rintro e w1 ⟨A1, c1, rfl, hrw, hb1⟩
        have HB1 := Lib.hid ((hbel.trans (hb1.mono (by omega))).alloc (by have := hb1.size; omega) (.cells #[.int .i64 2, .slice A1 L.length c1] 27))
        have HC1 := Lib.hid ((HCC.out.below hb1 HCC.out.2.2.2.2).alloc (.cells #[.int .i64 2, .slice A1 L.length c1] 27))
        have hz1 := hb1.size
        clear hrw hb1 hbel
        go_wp2_with fail
        go_roundw
        case rel => exact ⟨c - 1, by go_num, by omega, by omega, ⟨_, _, HC1.out⟩, HB1.out, by simp; omega⟩
        case measure => simp [intOf]; omega

set_option maxRecDepth 100000 in
set_option maxHeartbeats 1000000 in
theorem spec_FirstFull_2 (w : World) :
    Calls Try.prog 14 #[.int .i64 2] w (RetRh2 w 4 (bitsB 4 12 4) true) := by
  have hin : inB 2 1 4 = true := by decide
  have htop := top_spec top_2
  have HT1 := Lib.hid htop.1
  have HT2 := Lib.hid htop.2
  clear htop
  have HL5 := Lib.hid (fun (c : Nat) (hc : c < 16) (V : World) => spec_l05Of_any 4 c V (by omega) (by omega) (by omega))
  have HIF := Lib.hid (fun (c : Nat) (hc : c < 16) (A : Option Addr) (cap : Nat) (V : World) (hV : Ints V V.heap.size A (bitsB 4 c 4)) => (isFullV_bits 2 4 c (by omega) (by omega)) ▸ spec_IsFull_2 4 A cap (bitsB 4 c 4) V hV)
  have HFT := Lib.hid (fun c : Nat => show ∀ x ∈ bitsB 4 c 4, Fits x from fun x hx => by
    obtain ⟨p, hp, _, rfl⟩ := bitsB_mem.1 hx
    unfold Fits
    omega)
  have HLEN := Lib.hid (show (bitsB 4 12 4).length * 2 = 4 by decide)
  have HC := Lib.hid (Cells2.new w (.int .i64 0) (.slice none 0 0) 27)
  have HB := Lib.hid ((Below.refl w.heap.size w).alloc (Nat.le_refl _) (.cells #[.int .i64 0, .slice none 0 0] 27))
  go_enter Try.func14, Try.ntmps14
  go_wp2_with (go_at_call 30; refine (l01In_any _ _ _ _).mono ?_; rintro e w' ⟨rfl, rfl⟩)
  go_loopw [5] (fun sc wr => ∃ c : Nat, sc = .int .i64 c ∧ 12 ≤ c ∧ c < 16 ∧ (∃ u1 u2, Cells2 wr w.heap.size u1 u2) ∧ Below w.heap.size w wr ∧ w.heap.size + 1 ≤ wr.heap.size) (fun sc _ => (intOf sc).toNat)
  case atStart => exact ⟨16 - 1, by rfl, by omega, by omega, ⟨_, _, HC.out⟩, HB.out, by simp⟩
  case round =>
    obtain ⟨c, rfl, hc1, hc2, ⟨u1, u2, hcc⟩, hbel, hsz⟩ := hrel
    obtain ⟨wo, rfl⟩ : ∃ wo : World, wo = wr := ⟨_, rfl⟩
    have HCC := Lib.hid hcc
    clear hcc
    by_cases hc : c = 12
    · subst hc
      have hif := HIF.out _ hc2
      rw [HT1.out] at hif
      have HIF2 := Lib.hid hif
      have HL := Lib.hid (HL5.out _ hc2)
      have HFT2 := Lib.hid (HFT.out 12)
      have hl2 := HLEN.out
      generalize bitsB 4 12 4 = L at HIF2 HL HFT2 hl2 ⊢
      have hlb : ((2 : Int) * (L.length : Int) == 4) = true := beq_iff_eq.2 (by omega)
      have hlw : IntKind.i64.wrap ((2 : Int) * (L.length : Int)) = 2 * (L.length : Int) := i64w (by omega)
      clear hif
      go_wp2_with fail
      refine (HL.out _).mono ?_
      rintro e w1 ⟨A1, c1, rfl, hrw, hb1⟩
      have HI := Lib.hid (((hrw.below ((Below.refl _ _).alloc (Nat.le_refl _) (.cells #[.int .i64 4, .slice A1 L.length c1] 27))).ints HFT2.out))
      have HB1 := Lib.hid ((hbel.trans (hb1.mono (by omega))).alloc (by have := hb1.size; omega) (.cells #[.int .i64 4, .slice A1 L.length c1] 27))
      have HR1 := Lib.hid (hrw.below ((Below.refl _ _).alloc (Nat.le_refl _) (.cells #[.int .i64 4, .slice A1 L.length c1] 27)))
      have HC1 := Lib.hid ((HCC.out.below hb1 HCC.out.2.2.2.2).alloc (.cells #[.int .i64 4, .slice A1 L.length c1] 27))
      have HG1 := Lib.hid (Cells2.new w1 (.int .i64 4) (.slice A1 L.length c1) 27)
      have hz1 := hb1.size
      clear hrw hb1 hbel
      go_wp2_with (go_at_call 10; refine (HIF2.out A1 c1 _ HI.out).mono ?_; rintro e w2 ⟨rfl, hb2⟩; obtain ⟨f0, f1, f2, f3, f4⟩ := HC1.out.below hb2 HC1.out.2.2.2.2; obtain ⟨g0, g1, g2, g3, g4⟩ := HG1.out.below hb2 HG1.out.2.2.2.2)
      have hz2 := hb2.size
      simp only [World.size_alloc] at hz2
      refine bodyPost_ret (v := .tuple #[.agg #[.int .i64 4, .slice A1 L.length c1], .bool true]) (by simp [results, Try.results14, go_sem, f0, f1]) rfl ⟨A1, c1, rfl, ?_, ?_⟩
      · exact (((HR1.out.below hb2).far (p := ⟨w.heap.size, 0, none⟩) (by simp; omega) _).far (p := ⟨w.heap.size, 1, none⟩) (by simp; omega) _).mono (by omega)
      · exact ((HB1.out.trans (hb2.mono (by simp; omega))).setCell (Nat.le_refl _) _).setCell (Nat.le_refl _) _
    · have hif := HIF.out c hc2
      rw [HT2.out c (by omega) (by omega)] at hif
      have HIF2 := Lib.hid hif
      have HL := Lib.hid (HL5.out c hc2)
      have HFT2 := Lib.hid (HFT.out c)
      have hl2 := bitsB_len 4 c 4
      generalize bitsB 4 c 4 = L at HIF2 HL HFT2 hl2
      have hlw : IntKind.i64.wrap ((2 : Int) * (L.length : Int)) = 2 * (L.length : Int) := i64w (by omega)
      clear hif
      by_cases hll : L.length * 2 = 4
      · have hlb : ((2 : Int) * (L.length : Int) == 4) = true := beq_iff_eq.2 (by omega)
        go_wp2_with fail
        refine (HL.out _).mono ?_
        rintro e w1 ⟨A1, c1, rfl, hrw, hb1⟩
        have HI := Lib.hid (((hrw.below ((Below.refl _ _).alloc (Nat.le_refl _) (.cells #[.int .i64 4, .slice A1 L.length c1] 27))).ints HFT2.out))
        have HB1 := Lib.hid ((hbel.trans (hb1.mono (by omega))).alloc (by have := hb1.size; omega) (.cells #[.int .i64 4, .slice A1 L.length c1] 27))
        have HC1 := Lib.hid ((HCC.out.below hb1 HCC.out.2.2.2.2).alloc (.cells #[.int .i64 4, .slice A1 L.length c1] 27))
        have hz1 := hb1.size
        clear hrw hb1 hbel
        go_wp2_with (go_at_call 10; refine (HIF2.out A1 c1 _ HI.out).mono ?_; rintro e w2 ⟨rfl, hb2⟩)
        have hz2 := hb2.size
        simp only [World.size_alloc] at hz2
        go_roundw
        case rel => exact ⟨c - 1, by go_num, by omega, by omega, ⟨_, _, HC1.out.below hb2 HC1.out.2.2.2.2⟩, HB1.out.trans (hb2.mono (by simp; omega)), by omega⟩
        case measure => simp [intOf]; omega
      · have hlb : ((2 : Int) * (L.length : Int) == 4) = false := beq_eq_false_iff_ne.2 (by omega)
        go_wp2_with fail
        refine (HL.out _).mono ?_
        rintro e w1 ⟨A1, c1, rfl, hrw, hb1⟩
        have HB1 := Lib.hid ((hbel.trans (hb1.mono (by omega))).alloc (by have := hb1.size; omega) (.cells #[.int .i64 4, .slice A1 L.length c1] 27))
        have HC1 := Lib.hid ((HCC.out.below hb1 HCC.out.2.2.2.2).alloc (.cells #[.int .i64 4, .slice A1 L.length c1] 27))
        have hz1 := hb1.size
        clear hrw hb1 hbel
        go_wp2_with fail
        go_roundw
        case rel => exact ⟨c - 1, by go_num, by omega, by omega, ⟨_, _, HC1.out⟩, HB1.out, by simp; omega⟩
        case measure => simp [intOf]; omega

set_option maxRecDepth 100000 in
set_option maxHeartbeats 1000000 in
theorem spec_FirstFull_3 (w : World) :
    Calls Try.prog 14 #[.int .i64 3] w (RetRh2 w 8 (bitsB 8 232 8) true) := by
  have hin : inB 3 1 4 = true := by decide
  have htop := top_spec top_3
  have HT1 := Lib.hid htop.1
  have HT2 := Lib.hid htop.2
  clear htop
  have HL5 := Lib.hid (fun (c : Nat) (hc : c < 256) (V : World) => spec_l05Of_any 8 c V (by omega) (by omega) (by omega))
  have HIF := Lib.hid (fun (c : Nat) (hc : c < 256) (A : Option Addr) (cap : Nat) (V : World) (hV : Ints V V.heap.size A (bitsB 8 c 8)) => (isFullV_bits 3 8 c (by omega) (by omega)) ▸ spec_IsFull_3 8 A cap (bitsB 8 c 8) V hV)
  have HFT := Lib.hid (fun c : Nat => show ∀ x ∈ bitsB 8 c 8, Fits x from fun x hx => by
    obtain ⟨p, hp, _, rfl⟩ := bitsB_mem.1 hx
    unfold Fits
    omega)
  have HLEN := Lib.hid (show (bitsB 8 232 8).length * 2 = 8 by decide)
  have HC := Lib.hid (Cells2.new w (.int .i64 0) (.slice none 0 0) 27)
  have HB := Lib.hid ((Below.refl w.heap.size w).alloc (Nat.le_refl _) (.cells #[.int .i64 0, .slice none 0 0] 27))
  go_enter Try.func14, Try.ntmps14
  go_wp2_with (go_at_call 30; refine (l01In_any _ _ _ _).mono ?_; rintro e w' ⟨rfl, rfl⟩)
  go_loopw [5] (fun sc wr => ∃ c : Nat, sc = .int .i64 c ∧ 232 ≤ c ∧ c < 256 ∧ (∃ u1 u2, Cells2 wr w.heap.size u1 u2) ∧ Below w.heap.size w wr ∧ w.heap.size + 1 ≤ wr.heap.size) (fun sc _ => (intOf sc).toNat)
  case atStart => exact ⟨256 - 1, by rfl, by omega, by omega, ⟨_, _, HC.out⟩, HB.out, by simp⟩
  case round =>
    obtain ⟨c, rfl, hc1, hc2, ⟨u1, u2, hcc⟩, hbel, hsz⟩ := hrel
    obtain ⟨wo, rfl⟩ : ∃ wo : World, wo = wr := ⟨_, rfl⟩
    have HCC := Lib.hid hcc
    clear hcc
    by_cases hc : c = 232
    · subst hc
      have hif := HIF.out _ hc2
      rw [HT1.out] at hif
      have HIF2 := Lib.hid hif
      have HL := Lib.hid (HL5.out _ hc2)
      have HFT2 := Lib.hid (HFT.out 232)
      have hl2 := HLEN.out
      generalize bitsB 8 232 8 = L at HIF2 HL HFT2 hl2 ⊢
      have hlb : ((2 : Int) * (L.length : Int) == 8) = true := beq_iff_eq.2 (by omega)
      have hlw : IntKind.i64.wrap ((2 : Int) * (L.length : Int)) = 2 * (L.length : Int) := i64w (by omega)
      clear hif
      go_wp2_with fail
      refine (HL.out _).mono ?_
      rintro e w1 ⟨A1, c1, rfl, hrw, hb1⟩
      have HI := Lib.hid (((hrw.below ((Below.refl _ _).alloc (Nat.le_refl _) (.cells #[.int .i64 8, .slice A1 L.length c1] 27))).ints HFT2.out))
      have HB1 := Lib.hid ((hbel.trans (hb1.mono (by omega))).alloc (by have := hb1.size; omega) (.cells #[.int .i64 8, .slice A1 L.length c1] 27))
      have HR1 := Lib.hid (hrw.below ((Below.refl _ _).alloc (Nat.le_refl _) (.cells #[.int .i64 8, .slice A1 L.length c1] 27)))
      have HC1 := Lib.hid ((HCC.out.below hb1 HCC.out.2.2.2.2).alloc (.cells #[.int .i64 8, .slice A1 L.length c1] 27))
      have HG1 := Lib.hid (Cells2.new w1 (.int .i64 8) (.slice A1 L.length c1) 27)
      have hz1 := hb1.size
      clear hrw hb1 hbel
      go_wp2_with (go_at_call 10; refine (HIF2.out A1 c1 _ HI.out).mono ?_; rintro e w2 ⟨rfl, hb2⟩; obtain ⟨f0, f1, f2, f3, f4⟩ := HC1.out.below hb2 HC1.out.2.2.2.2; obtain ⟨g0, g1, g2, g3, g4⟩ := HG1.out.below hb2 HG1.out.2.2.2.2)
      have hz2 := hb2.size
      simp only [World.size_alloc] at hz2
      refine bodyPost_ret (v := .tuple #[.agg #[.int .i64 8, .slice A1 L.length c1], .bool true]) (by simp [results, Try.results14, go_sem, f0, f1]) rfl ⟨A1, c1, rfl, ?_, ?_⟩
      · exact (((HR1.out.below hb2).far (p := ⟨w.heap.size, 0, none⟩) (by simp; omega) _).far (p := ⟨w.heap.size, 1, none⟩) (by simp; omega) _).mono (by omega)
      · exact ((HB1.out.trans (hb2.mono (by simp; omega))).setCell (Nat.le_refl _) _).setCell (Nat.le_refl _) _
    · have hif := HIF.out c hc2
      rw [HT2.out c (by omega) (by omega)] at hif
      have HIF2 := Lib.hid hif
      have HL := Lib.hid (HL5.out c hc2)
      have HFT2 := Lib.hid (HFT.out c)
      have hl2 := bitsB_len 8 c 8
      generalize bitsB 8 c 8 = L at HIF2 HL HFT2 hl2
      have hlw : IntKind.i64.wrap ((2 : Int) * (L.length : Int)) = 2 * (L.length : Int) := i64w (by omega)
      clear hif
      by_cases hll : L.length * 2 = 8
      · have hlb : ((2 : Int) * (L.length : Int) == 8) = true := beq_iff_eq.2 (by omega)
        go_wp2_with fail
        refine (HL.out _).mono ?_
        rintro e w1 ⟨A1, c1, rfl, hrw, hb1⟩
        have HI := Lib.hid (((hrw.below ((Below.refl _ _).alloc (Nat.le_refl _) (.cells #[.int .i64 8, .slice A1 L.length c1] 27))).ints HFT2.out))
        have HB1 := Lib.hid ((hbel.trans (hb1.mono (by omega))).alloc (by have := hb1.size; omega) (.cells #[.int .i64 8, .slice A1 L.length c1] 27))
        have HC1 := Lib.hid ((HCC.out.below hb1 HCC.out.2.2.2.2).alloc (.cells #[.int .i64 8, .slice A1 L.length c1] 27))
        have hz1 := hb1.size
        clear hrw hb1 hbel
        go_wp2_with (go_at_call 10; refine (HIF2.out A1 c1 _ HI.out).mono ?_; rintro e w2 ⟨rfl, hb2⟩)
        have hz2 := hb2.size
        simp only [World.size_alloc] at hz2
        go_roundw
        case rel => exact ⟨c - 1, by go_num, by omega, by omega, ⟨_, _, HC1.out.below hb2 HC1.out.2.2.2.2⟩, HB1.out.trans (hb2.mono (by simp; omega)), by omega⟩
        case measure => simp [intOf]; omega
      · have hlb : ((2 : Int) * (L.length : Int) == 8) = false := beq_eq_false_iff_ne.2 (by omega)
        go_wp2_with fail
        refine (HL.out _).mono ?_
        rintro e w1 ⟨A1, c1, rfl, hrw, hb1⟩
        have HB1 := Lib.hid ((hbel.trans (hb1.mono (by omega))).alloc (by have := hb1.size; omega) (.cells #[.int .i64 8, .slice A1 L.length c1] 27))
        have HC1 := Lib.hid ((HCC.out.below hb1 HCC.out.2.2.2.2).alloc (.cells #[.int .i64 8, .slice A1 L.length c1] 27))
        have hz1 := hb1.size
        clear hrw hb1 hbel
        go_wp2_with fail
        go_roundw
        case rel => exact ⟨c - 1, by go_num, by omega, by omega, ⟨_, _, HC1.out⟩, HB1.out, by simp; omega⟩
        case measure => simp [intOf]; omega

set_option maxRecDepth 100000 in
set_option maxHeartbeats 1000000 in
theorem spec_FirstFull_4 (w : World) :
    Calls Try.prog 14 #[.int .i64 4] w (RetRh2 w 16 (bitsB 16 63056 16) true) := by
  have hin : inB 4 1 4 = true := by decide
  have htop := top_spec top_4
  have HT1 := Lib.hid htop.1
  have HT2 := Lib.hid htop.2
  clear htop
  have HL5 := Lib.hid (fun (c : Nat) (hc : c < 65536) (V : World) => spec_l05Of_any 16 c V (by omega) (by omega) (by omega))
  have HIF := Lib.hid (fun (c : Nat) (hc : c < 65536) (A : Option Addr) (cap : Nat) (V : World) (hV : Ints V V.heap.size A (bitsB 16 c 16)) => (isFullV_bits 4 16 c (by omega) (by omega)) ▸ spec_IsFull_4 16 A cap (bitsB 16 c 16) V hV)
  have HFT := Lib.hid (fun c : Nat => show ∀ x ∈ bitsB 16 c 16, Fits x from fun x hx => by
    obtain ⟨p, hp, _, rfl⟩ := bitsB_mem.1 hx
    unfold Fits
    omega)
  have HLEN := Lib.hid (show (bitsB 16 63056 16).length * 2 = 16 by decide)
  have HC := Lib.hid (Cells2.new w (.int .i64 0) (.slice none 0 0) 27)
  have HB := Lib.hid ((Below.refl w.heap.size w).alloc (Nat.le_refl _) (.cells #[.int .i64 0, .slice none 0 0] 27))
  go_enter Try.func14, Try.ntmps14
  go_wp2_with (go_at_call 30; refine (l01In_any _ _ _ _).mono ?_; rintro e w' ⟨rfl, rfl⟩)
  go_loopw [5] (fun sc wr => ∃ c : Nat, sc = .int .i64 c ∧ 63056 ≤ c ∧ c < 65536 ∧ (∃ u1 u2, Cells2 wr w.heap.size u1 u2) ∧ Below w.heap.size w wr ∧ w.heap.size + 1 ≤ wr.heap.size) (fun sc _ => (intOf sc).toNat)
  case atStart => exact ⟨65536 - 1, by rfl, by omega, by omega, ⟨_, _, HC.out⟩, HB.out, by simp⟩
  case round =>
    obtain ⟨c, rfl, hc1, hc2, ⟨u1, u2, hcc⟩, hbel, hsz⟩ := hrel
    obtain ⟨wo, rfl⟩ : ∃ wo : World, wo = wr := ⟨_, rfl⟩
    have HCC := Lib.hid hcc
    clear hcc
    by_cases hc : c = 63056
    · subst hc
      have hif := HIF.out _ hc2
      rw [HT1.out] at hif
      have HIF2 := Lib.hid hif
      have HL := Lib.hid (HL5.out _ hc2)
      have HFT2 := Lib.hid (HFT.out 63056)
      have hl2 := HLEN.out
      generalize bitsB 16 63056 16 = L at HIF2 HL HFT2 hl2 ⊢
      have hlb : ((2 : Int) * (L.length : Int) == 16) = true := beq_iff_eq.2 (by omega)
      have hlw : IntKind.i64.wrap ((2 : Int) * (L.length : Int)) = 2 * (L.length : Int) := i64w (by omega)
      clear hif
      go_wp2_with fail
      refine (HL.out _).mono ?_
      rintro e w1 ⟨A1, c1, rfl, hrw, hb1⟩
      have HI := Lib.hid (((hrw.below ((Below.refl _ _).alloc (Nat.le_refl _) (.cells #[.int .i64 16, .slice A1 L.length c1] 27))).ints HFT2.out))
      have HB1 := Lib.hid ((hbel.trans (hb1.mono (by omega))).alloc (by have := hb1.size; omega) (.cells #[.int .i64 16, .slice A1 L.length c1] 27))
      have HR1 := Lib.hid (hrw.below ((Below.refl _ _).alloc (Nat.le_refl _) (.cells #[.int .i64 16, .slice A1 L.length c1] 27)))
      have HC1 := Lib.hid ((HCC.out.below hb1 HCC.out.2.2.2.2).alloc (.cells #[.int .i64 16, .slice A1 L.length c1] 27))
      have HG1 := Lib.hid (Cells2.new w1 (.int .i64 16) (.slice A1 L.length c1) 27)
      have hz1 := hb1.size
      clear hrw hb1 hbel
      go_wp2_with (go_at_call 10; refine (HIF2.out A1 c1 _ HI.out).mono ?_; rintro e w2 ⟨rfl, hb2⟩; obtain ⟨f0, f1, f2, f3, f4⟩ := HC1.out.below hb2 HC1.out.2.2.2.2; obtain ⟨g0, g1, g2, g3, g4⟩ := HG1.out.below hb2 HG1.out.2.2.2.2)
      have hz2 := hb2.size
      simp only [World.size_alloc] at hz2
      refine bodyPost_ret (v := .tuple #[.agg #[.int .i64 16, .slice A1 L.length c1], .bool true]) (by simp [results, Try.results14, go_sem, f0, f1]) rfl ⟨A1, c1, rfl, ?_, ?_⟩
      · exact (((HR1.out.below hb2).far (p := ⟨w.heap.size, 0, none⟩) (by simp; omega) _).far (p := ⟨w.heap.size, 1, none⟩) (by simp; omega) _).mono (by omega)
      · exact ((HB1.out.trans (hb2.mono (by simp; omega))).setCell (Nat.le_refl _) _).setCell (Nat.le_refl _) _
    · have hif := HIF.out c hc2
      rw [HT2.out c (by omega) (by omega)] at hif
      have HIF2 := Lib.hid hif
      have HL := Lib.hid (HL5.out c hc2)
      have HFT2 := Lib.hid (HFT.out c)
      have hl2 := bitsB_len 16 c 16
      generalize bitsB 16 c 16 = L at HIF2 HL HFT2 hl2
      have hlw : IntKind.i64.wrap ((2 : Int) * (L.length : Int)) = 2 * (L.length : Int) := i64w (by omega)
      clear hif
      by_cases hll : L.length * 2 = 16
      · have hlb : ((2 : Int) * (L.length : Int) == 16) = true := beq_iff_eq.2 (by omega)
        go_wp2_with fail
        refine (HL.out _).mono ?_
        rintro e w1 ⟨A1, c1, rfl, hrw, hb1⟩
        have HI := Lib.hid (((hrw.below ((Below.refl _ _).alloc (Nat.le_refl _) (.cells #[.int .i64 16, .slice A1 L.length c1] 27))).ints HFT2.out))
        have HB1 := Lib.hid ((hbel.trans (hb1.mono (by omega))).alloc (by have := hb1.size; omega) (.cells #[.int .i64 16, .slice A1 L.length c1] 27))
        have HC1 := Lib.hid ((HCC.out.below hb1 HCC.out.2.2.2.2).alloc (.cells #[.int .i64 16, .slice A1 L.length c1] 27))
        have hz1 := hb1.size
        clear hrw hb1 hbel
        go_wp2_with (go_at_call 10; refine (HIF2.out A1 c1 _ HI.out).mono ?_; rintro e w2 ⟨rfl, hb2⟩)
        have hz2 := hb2.size
        simp only [World.size_alloc] at hz2
        go_roundw
        case rel => exact ⟨c - 1, by go_num, by omega, by omega, ⟨_, _, HC1.out.below hb2 HC1.out.2.2.2.2⟩, HB1.out.trans (hb2.mono (by simp; omega)), by omega⟩
        case measure => simp [intOf]; omega
      · have hlb : ((2 : Int) * (L.length : Int) == 16) = false := beq_eq_false_iff_ne.2 (by omega)
        go_wp2_with fail
        refine (HL.out _).mono ?_
        rintro e w1 ⟨A1, c1, rfl, hrw, hb1⟩
        have HB1 := Lib.hid ((hbel.trans (hb1.mono (by omega))).alloc (by have := hb1.size; omega) (.cells #[.int .i64 16, .slice A1 L.length c1] 27))
        have HC1 := Lib.hid ((HCC.out.below hb1 HCC.out.2.2.2.2).alloc (.cells #[.int .i64 16, .slice A1 L.length c1] 27))
        have hz1 := hb1.size
        clear hrw hb1 hbel
        go_wp2_with fail
        go_roundw
        case rel => exact ⟨c - 1, by go_num, by omega, by omega, ⟨_, _, HC1.out⟩, HB1.out, by simp; omega⟩
        case measure => simp [intOf]; omega

end Go.Proofs.Ytkjghamibjampaa
