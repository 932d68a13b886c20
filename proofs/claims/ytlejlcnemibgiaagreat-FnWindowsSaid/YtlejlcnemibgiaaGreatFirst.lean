/-
  FirstFull of both.
-/
import Derived.Test.YtlejlcnemibgiaaGreatBitsR
import Derived.Test.YtlejlcnemibgiaaGreatWzD
namespace Go.Proofs.YtlejlcnemibgiaaGreat
open Go.RowKit
set_option linter.unusedVariables false
set_option linter.unusedSimpArgs false

theorem isFullV_bits (k S c : Nat) (hk : (k = 1 ∧ S = 2) ∨ (k = 2 ∧ S = 4) ∨ (k = 3 ∧ S = 8) ∨ (k = 4 ∧ S = 16)) (hc : c < 2 ^ S) : isFullV S (bitsB S c S) k S = fullB S c := by
  have hS1 : 1 ≤ S := by omega
  have hS2 : S ≤ 24 := by omega
  have hok := bitsB_ok S c hS1 hS2
  unfold isFullV
  rw [rhB_iff.2 hok, Bool.true_and, decide_eq_true rfl, Bool.true_and, ← full_iff k S _ hk hok.2.2.1, bitsB_code S c hc (by omega)]

set_option maxRecDepth 100000 in
set_option maxHeartbeats 1000000 in
theorem impl_FirstFull_1 (w : World) :
    Calls Tryz.prog 13 #[.int .i64 1] w (RetRh2 w 2 (bitsB 2 2 2) true) := by
  have hin : inB 1 1 4 = true := by decide
  have htop := top_spec top_1
  have HT1 := Lib.hid htop.1
  have HT2 := Lib.hid htop.2
  clear htop
  have HRA := Lib.hid (fun V : World => impl_rhythmAt_any 2 2 V (by omega) (by omega) (by omega))
  have HFI := Lib.hid (fun (c : Nat) (hc : c < 4) (V : World) => impl_isFullCode_1 c hc V)
  obtain ⟨L, hL⟩ : ∃ L, bitsB 2 2 2 = L := ⟨_, rfl⟩
  rw [hL] at HRA ⊢
  clear hL
  have HC := Lib.hid (Cells2.new w (.int .i64 0) (.slice none 0 0) 25)
  have HB := Lib.hid ((Below.refl w.heap.size w).alloc (Nat.le_refl _) (.cells #[.int .i64 0, .slice none 0 0] 25))
  go_enter Tryz.func13, Tryz.ntmps13
  go_wp2_with (go_at_call 26; refine (within_any _ _ _ _).mono ?_; rintro e w' ⟨rfl, rfl⟩)
  go_loop [4] (fun sc => ∃ c : Nat, sc = .int .i64 c ∧ 2 ≤ c ∧ c < 4) (fun sc => (intOf sc).toNat)
  case atStart => exact ⟨4 - 1, by rfl, by omega, by omega⟩
  case round =>
    obtain ⟨c, rfl, hc1, hc2⟩ := hrel
    by_cases hc : c = 2
    · subst hc
      have hif := HFI.out _ hc2
      rw [HT1.out] at hif
      have HIF := Lib.hid hif
      clear hif
      go_wp2_with (go_at_call 32; refine (HIF.out _).mono ?_; rintro e w' ⟨rfl, rfl⟩)
      refine (HRA.out _).mono ?_
      rintro e w2 ⟨A2, c2, rfl, hrw, hb2⟩
      obtain ⟨f0, f1, f2, f3, f4⟩ := HC.out.below hb2 (by simp)
      go_wp2_with fail
      refine bodyPost_ret (v := .tuple #[.agg #[.int .i64 2, .slice A2 L.length c2], .bool true]) (by simp [results, Tryz.results13, go_sem, f0, f1]) rfl ⟨A2, c2, rfl, ?_, ?_⟩
      · exact ((hrw.far (p := ⟨w.heap.size, 0, none⟩) (by simp) _).far (p := ⟨w.heap.size, 1, none⟩) (by simp) _).mono (by simp)
      · exact ((HB.out.trans (hb2.mono (by simp))).setCell (Nat.le_refl _) _).setCell (Nat.le_refl _) _
    · have hif := HFI.out c hc2
      rw [HT2.out c (by omega) (by omega)] at hif
      have HIF := Lib.hid hif
      clear hif
      go_wp2_with (go_at_call 32; refine (HIF.out _).mono ?_; rintro e w' ⟨rfl, rfl⟩)
      go_round
      case rel => exact ⟨c - 1, by go_num, by omega, by omega⟩
      case measure => simp [intOf]; omega

set_option maxRecDepth 100000 in
set_option maxHeartbeats 1000000 in
theorem impl_FirstFull_2 (w : World) :
    Calls Tryz.prog 13 #[.int .i64 2] w (RetRh2 w 4 (bitsB 4 12 4) true) := by
  have hin : inB 2 1 4 = true := by decide
  have htop := top_spec top_2
  have HT1 := Lib.hid htop.1
  have HT2 := Lib.hid htop.2
  clear htop
  have HRA := Lib.hid (fun V : World => impl_rhythmAt_any 4 12 V (by omega) (by omega) (by omega))
  have HFI := Lib.hid (fun (c : Nat) (hc : c < 16) (V : World) => impl_isFullCode_2 c hc V)
  obtain ⟨L, hL⟩ : ∃ L, bitsB 4 12 4 = L := ⟨_, rfl⟩
  rw [hL] at HRA ⊢
  clear hL
  have HC := Lib.hid (Cells2.new w (.int .i64 0) (.slice none 0 0) 25)
  have HB := Lib.hid ((Below.refl w.heap.size w).alloc (Nat.le_refl _) (.cells #[.int .i64 0, .slice none 0 0] 25))
  go_enter Tryz.func13, Tryz.ntmps13
  go_wp2_with (go_at_call 26; refine (within_any _ _ _ _).mono ?_; rintro e w' ⟨rfl, rfl⟩)
  go_loop [4] (fun sc => ∃ c : Nat, sc = .int .i64 c ∧ 12 ≤ c ∧ c < 16) (fun sc => (intOf sc).toNat)
  case atStart => exact ⟨16 - 1, by rfl, by omega, by omega⟩
  case round =>
    obtain ⟨c, rfl, hc1, hc2⟩ := hrel
    by_cases hc : c = 12
    · subst hc
      have hif := HFI.out _ hc2
      rw [HT1.out] at hif
      have HIF := Lib.hid hif
      clear hif
      go_wp2_with (go_at_call 32; refine (HIF.out _).mono ?_; rintro e w' ⟨rfl, rfl⟩)
      refine (HRA.out _).mono ?_
      rintro e w2 ⟨A2, c2, rfl, hrw, hb2⟩
      obtain ⟨f0, f1, f2, f3, f4⟩ := HC.out.below hb2 (by simp)
      go_wp2_with fail
      refine bodyPost_ret (v := .tuple #[.agg #[.int .i64 4, .slice A2 L.length c2], .bool true]) (by simp [results, Tryz.results13, go_sem, f0, f1]) rfl ⟨A2, c2, rfl, ?_, ?_⟩
      · exact ((hrw.far (p := ⟨w.heap.size, 0, none⟩) (by simp) _).far (p := ⟨w.heap.size, 1, none⟩) (by simp) _).mono (by simp)
      · exact ((HB.out.trans (hb2.mono (by simp))).setCell (Nat.le_refl _) _).setCell (Nat.le_refl _) _
    · have hif := HFI.out c hc2
      rw [HT2.out c (by omega) (by omega)] at hif
      have HIF := Lib.hid hif
      clear hif
      go_wp2_with (go_at_call 32; refine (HIF.out _).mono ?_; rintro e w' ⟨rfl, rfl⟩)
      go_round
      case rel => exact ⟨c - 1, by go_num, by omega, by omega⟩
      case measure => simp [intOf]; omega

set_option maxRecDepth 100000 in
set_option maxHeartbeats 1000000 in
theorem impl_FirstFull_3 (w : World) :
    Calls Tryz.prog 13 #[.int .i64 3] w (RetRh2 w 8 (bitsB 8 232 8) true) := by
  have hin : inB 3 1 4 = true := by decide
  have htop := top_spec top_3
  have HT1 := Lib.hid htop.1
  have HT2 := Lib.hid htop.2
  clear htop
  have HRA := Lib.hid (fun V : World => impl_rhythmAt_any 8 232 V (by omega) (by omega) (by omega))
  have HFI := Lib.hid (fun (c : Nat) (hc : c < 256) (V : World) => impl_isFullCode_3 c hc V)
  obtain ⟨L, hL⟩ : ∃ L, bitsB 8 232 8 = L := ⟨_, rfl⟩
  rw [hL] at HRA ⊢
  clear hL
  have HC := Lib.hid (Cells2.new w (.int .i64 0) (.slice none 0 0) 25)
  have HB := Lib.hid ((Below.refl w.heap.size w).alloc (Nat.le_refl _) (.cells #[.int .i64 0, .slice none 0 0] 25))
  go_enter Tryz.func13, Tryz.ntmps13
  go_wp2_with (go_at_call 26; refine (within_any _ _ _ _).mono ?_; rintro e w' ⟨rfl, rfl⟩)
  go_loop [4] (fun sc => ∃ c : Nat, sc = .int .i64 c ∧ 232 ≤ c ∧ c < 256) (fun sc => (intOf sc).toNat)
  case atStart => exact ⟨256 - 1, by rfl, by omega, by omega⟩
  case round =>
    obtain ⟨c, rfl, hc1, hc2⟩ := hrel
    by_cases hc : c = 232
    · subst hc
      have hif := HFI.out _ hc2
      rw [HT1.out] at hif
      have HIF := Lib.hid hif
      clear hif
      go_wp2_with (go_at_call 32; refine (HIF.out _).mono ?_; rintro e w' ⟨rfl, rfl⟩)
      refine (HRA.out _).mono ?_
      rintro e w2 ⟨A2, c2, rfl, hrw, hb2⟩
      obtain ⟨f0, f1, f2, f3, f4⟩ := HC.out.below hb2 (by simp)
      go_wp2_with fail
      refine bodyPost_ret (v := .tuple #[.agg #[.int .i64 8, .slice A2 L.length c2], .bool true]) (by simp [results, Tryz.results13, go_sem, f0, f1]) rfl ⟨A2, c2, rfl, ?_, ?_⟩
      · exact ((hrw.far (p := ⟨w.heap.size, 0, none⟩) (by simp) _).far (p := ⟨w.heap.size, 1, none⟩) (by simp) _).mono (by simp)
      · exact ((HB.out.trans (hb2.mono (by simp))).setCell (Nat.le_refl _) _).setCell (Nat.le_refl _) _
    · have hif := HFI.out c hc2
      rw [HT2.out c (by omega) (by omega)] at hif
      have HIF := Lib.hid hif
      clear hif
      go_wp2_with (go_at_call 32; refine (HIF.out _).mono ?_; rintro e w' ⟨rfl, rfl⟩)
      go_round
      case rel => exact ⟨c - 1, by go_num, by omega, by omega⟩
      case measure => simp [intOf]; omega

set_option maxRecDepth 100000 in
set_option maxHeartbeats 1000000 in
theorem impl_FirstFull_4 (w : World) :
    Calls Tryz.prog 13 #[.int .i64 4] w (RetRh2 w 16 (bitsB 16 63056 16) true) := by
  have hin : inB 4 1 4 = true := by decide
  have htop := top_spec top_4
  have HT1 := Lib.hid htop.1
  have HT2 := Lib.hid htop.2
  clear htop
  have HRA := Lib.hid (fun V : World => impl_rhythmAt_any 16 63056 V (by omega) (by omega) (by omega))
  have HFI := Lib.hid (fun (c : Nat) (hc : c < 65536) (V : World) => impl_isFullCode_4 c hc V)
  obtain ⟨L, hL⟩ : ∃ L, bitsB 16 63056 16 = L := ⟨_, rfl⟩
  rw [hL] at HRA ⊢
  clear hL
  have HC := Lib.hid (Cells2.new w (.int .i64 0) (.slice none 0 0) 25)
  have HB := Lib.hid ((Below.refl w.heap.size w).alloc (Nat.le_refl _) (.cells #[.int .i64 0, .slice none 0 0] 25))
  go_enter Tryz.func13, Tryz.ntmps13
  go_wp2_with (go_at_call 26; refine (within_any _ _ _ _).mono ?_; rintro e w' ⟨rfl, rfl⟩)
  go_loop [4] (fun sc => ∃ c : Nat, sc = .int .i64 c ∧ 63056 ≤ c ∧ c < 65536) (fun sc => (intOf sc).toNat)
  case atStart => exact ⟨65536 - 1, by rfl, by omega, by omega⟩
  case round =>
    obtain ⟨c, rfl, hc1, hc2⟩ := hrel
    by_cases hc : c = 63056
    · subst hc
      have hif := HFI.out _ hc2
      rw [HT1.out] at hif
      have HIF := Lib.hid hif
      clear hif
      go_wp2_with (go_at_call 32; refine (HIF.out _).mono ?_; rintro e w' ⟨rfl, rfl⟩)
      refine (HRA.out _).mono ?_
      rintro e w2 ⟨A2, c2, rfl, hrw, hb2⟩
      obtain ⟨f0, f1, f2, f3, f4⟩ := HC.out.below hb2 (by simp)
      go_wp2_with fail
      refine bodyPost_ret (v := .tuple #[.agg #[.int .i64 16, .slice A2 L.length c2], .bool true]) (by simp [results, Tryz.results13, go_sem, f0, f1]) rfl ⟨A2, c2, rfl, ?_, ?_⟩
      · exact ((hrw.far (p := ⟨w.heap.size, 0, none⟩) (by simp) _).far (p := ⟨w.heap.size, 1, none⟩) (by simp) _).mono (by simp)
      · exact ((HB.out.trans (hb2.mono (by simp))).setCell (Nat.le_refl _) _).setCell (Nat.le_refl _) _
    · have hif := HFI.out c hc2
      rw [HT2.out c (by omega) (by omega)] at hif
      have HIF := Lib.hid hif
      clear hif
      go_wp2_with (go_at_call 32; refine (HIF.out _).mono ?_; rintro e w' ⟨rfl, rfl⟩)
      go_round
      case rel => exact ⟨c - 1, by go_num, by omega, by omega⟩
      case measure => simp [intOf]; omega

end Go.Proofs.YtlejlcnemibgiaaGreat
