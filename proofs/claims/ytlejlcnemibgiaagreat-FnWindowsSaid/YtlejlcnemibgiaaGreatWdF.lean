/-
  EvenRhythm of the reference; PeriodOf, RotateRhythm and FormatRhythm of the program, at a valid rhythm; what a rhythm that is full of windows of three is.
-/
import Derived.Test.YtlejlcnemibgiaaGreatWzC
import Derived.Test.YtlejlcnemibgiaaGreatText
import Derived.Test.YtlejlcnemibgiaaGreatLFnExactIsFull
import Derived.Test.YtlejlcnemibgiaaGreatLFnExactFirstFull
namespace Go.Proofs.YtlejlcnemibgiaaGreat
open Go.RowKit
set_option linter.unusedVariables false
set_option linter.unusedSimpArgs false

set_option maxHeartbeats 400000 in
theorem spec_l06Ok_yes (n k : Nat) (w : World) (h1 : 1 ≤ n) (h2 : n ≤ 24) (hk : k ≤ n) :
    Calls Tryz.prog 22 #[.int .i64 k, .int .i64 n] w fun e w' => e = .returned (.bool true) ∧ w = w' := by
  have hin1 : inB (n : Int) 1 24 = true := by unfold inB; simp; omega
  have hin2 : inB (k : Int) 0 n = true := by unfold inB; simp; omega
  go_enter Tryz.func22, Tryz.ntmps22
  go_wp2_with (go_at_call 41; refine (l01In_any _ _ _ _).mono ?_; rintro e w' ⟨rfl, rfl⟩)
  go_ret
  exact ⟨rfl, rfl⟩

set_option maxRecDepth 100000 in
set_option maxHeartbeats 1000000 in
theorem spec_EvenRhythm_ok (n k : Nat) (w : World) (h1 : 1 ≤ n) (h2 : n ≤ 24) (hk : k ≤ n) :
    Calls Tryz.prog 6 #[.int .i64 k, .int .i64 n] w fun e w' => ∃ A' c, e = .returned (.tuple #[.agg #[.int .i64 n, .slice A' (evB n k).length c], .bool true]) ∧ RW w' w.heap.size A' (evB n k) ∧ Below w.heap.size w w' := by
  have HL := Lib.hid (fun V => spec_l06Ok_yes n k V h1 h2 hk)
  have HM := Lib.hid (fun V => spec_even_any n k V h1 h2 hk)
  generalize evB n k = R at HM ⊢
  have HB0 := Lib.hid ((Below.refl w.heap.size w).alloc (Nat.le_refl _) (.cells #[.int .i64 0, .slice none 0 0] 25))
  have HZ0 := Lib.hid (Cells2.new w (.int .i64 0) (.slice none 0 0) 25)
  obtain ⟨z0, z1, _, _, _⟩ := HZ0.out
  go_enter Tryz.func6, Tryz.ntmps6
  go_wp2_with fail
  refine (HL.out _).mono ?_
  rintro e w1 ⟨rfl, rfl⟩
  go_wp2_with fail
  refine (HM.out _).mono ?_
  rintro e w2 ⟨A2, c2, rfl, hr, hb⟩
  have HB2 := Lib.hid (HB0.out.trans (hb.mono HB0.out.size))
  have HZ2 := Lib.hid (HZ0.out.below hb HZ0.out.2.2.2.2)
  have HR2 := Lib.hid hr
  have hlt : w.heap.size < (w.alloc (.cells #[.int .i64 0, .slice none 0 0] 25)).heap.size := HZ0.out.2.2.2.2
  clear hb hr z0 z1
  obtain ⟨z0, z1, y0, y1, _⟩ := HZ2.out
  have HZ3 := Lib.hid ((HZ2.out.set0 (.int .i64 n)).set1 (.slice A2 R.length c2))
  obtain ⟨x0, x1, _, _, _⟩ := HZ3.out
  have HF2 := Lib.hid ((HB2.out.setCell (p := ⟨w.heap.size, 0, none⟩) (Nat.le_refl _) (.int .i64 n)).setCell (p := ⟨w.heap.size, 1, none⟩) (Nat.le_refl _) (.slice A2 R.length c2))
  go_wp2_with fail
  refine bodyPost_ret (v := .tuple #[.agg #[.int .i64 n, .slice A2 R.length c2], .bool true]) (by simp [results, Tryz.results6, go_sem, x0, x1]) rfl ?_
  exact ⟨_, _, rfl, ((HR2.out.far (p := ⟨w.heap.size, 0, none⟩) hlt _).far (p := ⟨w.heap.size, 1, none⟩) hlt _).mono (by simp), HF2.out⟩

set_option maxRecDepth 100000 in
set_option maxHeartbeats 1000000 in
theorem impl_RotateRhythm_ok (N : Nat) (A : Option Addr) (cap : Nat) (bs : List Int) (k : Nat) (w : World) (hA : Ints w w.heap.size A bs) (hok : RhOk N bs) (hk1 : k ≤ 1000) :
    Calls Tryz.prog 14 #[.agg #[.int .i64 N, .slice A bs.length cap], .int .i64 k] w fun e w' => ∃ A' c, e = .returned (.tuple #[.agg #[.int .i64 N, .slice A' (rotL N bs k).length c], .bool true]) ∧ RW w' w.heap.size A' (rotL N bs k) ∧ Below w.heap.size w w' := by
  have hfN : Fits (N : Int) := by have := hok.1; have := hok.2.1; unfold Fits; omega
  have hRO := fun V h => impl_RhythmOk_any N A cap bs V hfN h
  rw [rhB_iff.2 hok] at hRO
  have HRO := Lib.hid hRO
  have hin : inB (k : Int) (-1000) 1000 = true := by unfold inB; simp; omega
  have HM := Lib.hid (fun V h => impl_rotated_any N A cap bs k V h hok hk1)
  generalize rotL N bs k = R at HM ⊢
  have hal0 := (Below.refl w.heap.size w).alloc (Nat.le_refl _) (.cells #[.int .i64 N, .slice A bs.length cap] 25)
  have hal2 := hal0.alloc hal0.size (.cells #[.int .i64 0, .slice none 0 0] 25)
  have HC0 := Lib.hid ((Cells2.new w (.int .i64 N) (.slice A bs.length cap) 25).alloc (.cells #[.int .i64 0, .slice none 0 0] 25))
  have HZ0 := Lib.hid (Cells2.new_at (w.alloc (.cells #[.int .i64 N, .slice A bs.length cap] 25)) (.int .i64 0) (.slice none 0 0) 25 (w.heap.size + 1) (by simp))
  have HB0 := Lib.hid hal2
  have HI0 := Lib.hid (hA.lift hal2)
  clear hA hal0 hal2 hRO hok
  obtain ⟨c0, c1, _, _, _⟩ := HC0.out
  obtain ⟨z0, z1, _, _, _⟩ := HZ0.out
  go_enter Tryz.func14, Tryz.ntmps14
  go_wp2_with fail
  refine (HRO.out _ HI0.out).mono ?_
  rintro e w1 ⟨rfl, hb⟩
  have HB1 := Lib.hid (HB0.out.trans (hb.mono HB0.out.size))
  have HC1 := Lib.hid (HC0.out.below hb HC0.out.2.2.2.2)
  have HZ1 := Lib.hid (HZ0.out.below hb HZ0.out.2.2.2.2)
  have HI1 := Lib.hid (HI0.out.lift hb)
  clear hb c0 c1 z0 z1
  obtain ⟨c0, c1, _, _, _⟩ := HC1.out
  obtain ⟨z0, z1, _, _, _⟩ := HZ1.out
  go_wp2_with (go_at_call 26; refine (within_any _ _ _ _).mono ?_; rintro e w' ⟨rfl, rfl⟩)
  refine (HM.out _ HI1.out).mono ?_
  rintro e w2 ⟨A2, c2, rfl, hr, hb⟩
  have HB2 := Lib.hid (HB1.out.trans (hb.mono HB1.out.size))
  have HZ2 := Lib.hid (HZ1.out.below hb HZ1.out.2.2.2.2)
  have HR2 := Lib.hid hr
  have hlt : w.heap.size + 1 < w1.heap.size := HZ1.out.2.2.2.2
  clear hb hr c0 c1 z0 z1
  obtain ⟨z0, z1, y0, y1, _⟩ := HZ2.out
  have HZ3 := Lib.hid ((HZ2.out.set0 (.int .i64 N)).set1 (.slice A2 R.length c2))
  obtain ⟨x0, x1, _, _, _⟩ := HZ3.out
  have HF2 := Lib.hid ((HB2.out.setCell (p := ⟨w.heap.size + 1, 0, none⟩) (by show w.heap.size ≤ w.heap.size + 1; omega) (.int .i64 N)).setCell (p := ⟨w.heap.size + 1, 1, none⟩) (by show w.heap.size ≤ w.heap.size + 1; omega) (.slice A2 R.length c2))
  go_wp2_with fail
  refine bodyPost_ret (v := .tuple #[.agg #[.int .i64 N, .slice A2 R.length c2], .bool true]) (by simp [results, Tryz.results14, go_sem, x0, x1]) rfl ?_
  exact ⟨_, _, rfl, ((HR2.out.far (p := ⟨w.heap.size + 1, 0, none⟩) hlt _).far (p := ⟨w.heap.size + 1, 1, none⟩) hlt _).mono (by omega), HF2.out⟩

set_option maxRecDepth 100000 in
set_option maxHeartbeats 1000000 in
theorem impl_FormatW_ok (N : Nat) (A : Option Addr) (cap : Nat) (bs : List Int) (w : World) (hA : Ints w w.heap.size A bs) (hok : RhOk N bs) :
    Calls Tryz.prog 16 #[.agg #[.int .i64 N, .slice A bs.length cap]] w fun e w' => e = .returned (.string (mkS (textF N bs (fun _ => 120)))) ∧ Below w.heap.size w w' := by
  have hfN : Fits (N : Int) := by have := hok.1; have := hok.2.1; unfold Fits; omega
  have hRO := fun V h => impl_RhythmOk_any N A cap bs V hfN h
  rw [rhB_iff.2 hok] at hRO
  have HRO := Lib.hid hRO
  have HM := Lib.hid (fun V h => impl_text_any N A cap bs V h hok)
  generalize textF N bs (fun _ => 120) = R at HM ⊢
  have HB0 := Lib.hid ((Below.refl w.heap.size w).alloc (Nat.le_refl _) (.cells #[.int .i64 N, .slice A bs.length cap] 25))
  have HC0 := Lib.hid (Cells2.new w (.int .i64 N) (.slice A bs.length cap) 25)
  have HI0 := Lib.hid (hA.lift HB0.out)
  clear hA hRO hok
  obtain ⟨c0, c1, _, _, _⟩ := HC0.out
  go_enter Tryz.func16, Tryz.ntmps16
  go_wp2_with fail
  refine (HRO.out _ HI0.out).mono ?_
  rintro e w1 ⟨rfl, hb⟩
  have HB1 := Lib.hid (HB0.out.trans (hb.mono HB0.out.size))
  have HC1 := Lib.hid (HC0.out.below hb HC0.out.2.2.2.2)
  have HI1 := Lib.hid (HI0.out.lift hb)
  clear hb c0 c1
  obtain ⟨c0, c1, _, _, _⟩ := HC1.out
  go_wp2_with fail
  refine (HM.out _ HI1.out).mono ?_
  rintro e w2 ⟨rfl, hb⟩
  have HB2 := Lib.hid (HB1.out.trans (hb.mono HB1.out.size))
  clear hb
  go_wp2_with fail
  go_ret
  exact ⟨rfl, HB2.out⟩

set_option maxRecDepth 100000 in
set_option maxHeartbeats 1000000 in
theorem impl_PeriodW_ok (N : Nat) (A : Option Addr) (cap : Nat) (bs : List Int) (w : World) (hA : Ints w w.heap.size A bs) (hok : RhOk N bs) :
    Calls Tryz.prog 7 #[.agg #[.int .i64 N, .slice A bs.length cap]] w fun e w' => e = .returned (.int .i64 (perV N bs)) ∧ Below w.heap.size w w' := by
  have hfN : Fits (N : Int) := by have := hok.1; have := hok.2.1; unfold Fits; omega
  have hRO := fun V h => impl_RhythmOk_any N A cap bs V hfN h
  rw [rhB_iff.2 hok] at hRO
  have HRO := Lib.hid hRO
  have HM := Lib.hid (fun V h => impl_period_any N A cap bs V h hok)
  generalize perV N bs = R at HM ⊢
  have HB0 := Lib.hid ((Below.refl w.heap.size w).alloc (Nat.le_refl _) (.cells #[.int .i64 N, .slice A bs.length cap] 25))
  have HC0 := Lib.hid (Cells2.new w (.int .i64 N) (.slice A bs.length cap) 25)
  have HI0 := Lib.hid (hA.lift HB0.out)
  clear hA hRO hok
  obtain ⟨c0, c1, _, _, _⟩ := HC0.out
  go_enter Tryz.func7, Tryz.ntmps7
  go_wp2_with fail
  refine (HRO.out _ HI0.out).mono ?_
  rintro e w1 ⟨rfl, hb⟩
  have HB1 := Lib.hid (HB0.out.trans (hb.mono HB0.out.size))
  have HC1 := Lib.hid (HC0.out.below hb HC0.out.2.2.2.2)
  have HI1 := Lib.hid (HI0.out.lift hb)
  clear hb c0 c1
  obtain ⟨c0, c1, _, _, _⟩ := HC1.out
  go_wp2_with fail
  refine (HM.out _ HI1.out).mono ?_
  rintro e w2 ⟨rfl, hb⟩
  have HB2 := Lib.hid (HB1.out.trans (hb.mono HB1.out.size))
  clear hb
  go_wp2_with fail
  go_ret
  exact ⟨rfl, HB2.out⟩

theorem ff3 : ffN 3 = ((8 : Nat) : Int) ∧ ffL 3 = bitsB 8 232 8 ∧ ffO 3 = true := by
  refine ⟨rfl, rfl, by decide⟩
theorem ff3_ok : RhOk ((8 : Nat) : Int) (bitsB 8 232 8) := bitsB_ok 8 232 (by omega) (by omega)
theorem ff3_text : textF 8 (bitsB 8 232 8) (fun _ => 120) = [120, 120, 120, 46, 120, 46, 46, 46] := by decide +kernel

end Go.Proofs.YtlejlcnemibgiaaGreat
