/-
  The law FnExactAlternateText: AlternateText of both; the walk.
-/
import Derived.Test.YthfofjbegkjdmaaText
import Derived.Test.YthfofjbegkjdmaaRlaw
namespace Go.Proofs.Ythfofjbegkjdmaa
open Go.RowKit
set_option linter.unusedVariables false
set_option linter.unusedSimpArgs false

set_option maxRecDepth 100000 in
set_option maxHeartbeats 1000000 in
theorem impl_AlternateText_ok (N : Nat) (A : Option Addr) (cap : Nat) (bs : List Int) (w : World) (hA : Ints w w.heap.size A bs) (hok : RhOk N bs) :
    Calls Try.prog 23 #[.agg #[.int .i64 N, .slice A bs.length cap]] w fun e w' => e = .returned (.string (mkS (textF N bs (altF bs)))) ∧ Below w.heap.size w w' := by
  have hlen := hA.1
  unfold maxLen at hlen
  have HC := Lib.hid hA.2.2
  have hn1 : 1 ≤ N := by have := hok.1; omega
  have hn2 : N ≤ 24 := by have := hok.2.1; omega
  have HOK := Lib.hid hok
  have hro := fun (V : World) (hV : Ints V V.heap.size A bs) => impl_RhythmOk_any N A cap bs V (by unfold Fits; omega) hV
  rw [rhB_iff.2 hok] at hro
  have HRO := Lib.hid hro
  have HA := Lib.hid hA
  clear hA hok hro
  have HW := Lib.hid ((Below.refl w.heap.size w).alloc (Nat.le_refl _) (.cells #[.int .i64 N, .slice A bs.length cap] 29))
  obtain ⟨c0, c1⟩ := box2 (Below.refl (w.heap.size + 1) (w.alloc (.cells #[.int .i64 N, .slice A bs.length cap] 29)))
  go_enter Try.func23, Try.ntmps23
  go_wp2_with fail
  refine (HRO.out _ (HA.out.lift HW.out)).mono ?_
  rintro e w0 ⟨rfl, hb0⟩
  have hb0' := (bcellB hb0).1
  have e0 := (hb0' w.heap.size 0 (by first | exact Nat.le_refl _ | (simp; done) | (simp; omega) | omega)).trans c0
  have e1 := (hb0' w.heap.size 1 (by first | exact Nat.le_refl _ | (simp; done) | (simp; omega) | omega)).trans c1
  have hw0 : w.heap.size < w0.heap.size := by have := hb0.size; simp at this; omega
  have HW1 := Lib.hid (HW.out.trans (hb0.mono (by first | exact Nat.le_refl _ | (simp; done) | (simp; omega) | omega)))
  have kc : (convert 22 22 (.slice (some ⟨w0.heap.size, 0, none⟩) 1 1)).run Try.prog (w0.alloc (.cells #[.int .u8 46] 5)) = .ok (.slice (some ⟨w0.heap.size, 0, none⟩) 1 1) (w0.alloc (.cells #[.int .u8 46] 5 (1, 2))) :=
    Joins.run_convert_bytes_const_at (P := Try.prog) w0 22 5 #[.int .u8 46] 1 1 w0.heap.size rfl Try.underlying22 Try.underlying5
  clear c0 c1 hb0 hb0'
  have e0' := (((Below.refl w0.heap.size w0).alloc (Nat.le_refl _) (.cells #[.int .u8 46] 5 (1, 2))).cell (p := ⟨w.heap.size, 0, none⟩) hw0).trans e0
  have e1' := (((Below.refl w0.heap.size w0).alloc (Nat.le_refl _) (.cells #[.int .u8 46] 5 (1, 2))).cell (p := ⟨w.heap.size, 1, none⟩) hw0).trans e1
  go_wp2_with fail
  clear kc
  refine (bytes_Repeat_any w0.heap.size 1 N 46 _ ?_ ?_ hn1 (by omega)).mono ?_
  · simp
  · exact (Joins.cell_alloc_mark_at _ _ _ _ _ 0 (by simp)).trans rfl
  rintro e w1 ⟨rfl, htab0, hb1⟩
  have hb1' := (bcellB hb1).1
  have HB1 := Lib.hid ((HW1.out.alloc (by omega) (.cells #[.int .u8 46] 5 (1, 2))).trans (hb1.mono (by simp; omega)))
  have hd0 := (hb1' w.heap.size 0 (by simp; omega)).trans e0'
  have hd1 := (hb1' w.heap.size 1 (by simp; omega)).trans e1'
  clear hb1 hb1' e0 e1 e0' e1'
  obtain ⟨h, hh⟩ : ∃ h, (w0.alloc (.cells #[.int .u8 46] 5 (1, 2))).heap.size = h := ⟨_, rfl⟩
  have hwh : w.heap.size < h := by rw [← hh]; simp; omega
  simp only [hh] at htab0 ⊢
  have HT0 := Lib.hid htab0
  clear htab0 hh
  go_wp2_with fail
  go_loopw [17] (fun i wr => ∃ k : Nat, k ≤ bs.length ∧ i = .int .i64 k ∧ TabU wr h N (txF (bs.take k) (altF bs)) ∧ Below w.heap.size w wr) (fun i _ => bs.length - (intOf i).toNat)
  case atStart => exact ⟨0, Nat.zero_le _, rfl, HT0.out.congr (fun t _ => by simp [txF, hasB]), HB1.out⟩
  case round =>
    obtain ⟨k, hk, rfl, htab, hbel⟩ := hrel
    by_cases hlt : k < bs.length
    · obtain ⟨b, off, rfl, hB, hc⟩ := HC.out (by omega)
      have hcell := (hbel.cell (p := ⟨b, off + k, none⟩) hB).trans (hc k hlt)
      have hx0 := HOK.out.2.2.1 k hlt
      obtain ⟨x, hx⟩ : ∃ x, bs.getD k 0 = x := ⟨_, rfl⟩
      rw [hx] at hcell hx0
      obtain ⟨hx1, hx2⟩ := hx0
      obtain ⟨j, rfl⟩ := Int.eq_ofNat_of_zero_le hx1
      have hjN : j < N := by omega
      have hto := (htab.2 j hjN).1
      have hfr := htab.frz hjN
      have HX := Lib.hid hx
      clear hx hc
      by_cases hpar : k % 2 = 0
      · have hp : ((k : Nat) : Int) % 2 = 0 := by omega
        have HP := Lib.hid hpar
        clear hpar
        go_wp2_with fail
        go_roundw
        case rel => exact ⟨k + 1, by omega, by go_num, (htab.set_ j (altF bs j) hjN _ (by have hck := cntB_beat HOK.out hlt HX.out; unfold altF; rw [hck, if_pos HP.out]; rfl)).congr (fun t _ => txF_step (F := (altF bs)) hlt HX.out t), hbel.setCell (by simp; omega) _⟩
        case measure => simp [intOf]; omega
      · have hp : ((k : Nat) : Int) % 2 = 1 := by omega
        have HP := Lib.hid hpar
        clear hpar
        go_wp2_with fail
        go_roundw
        case rel => exact ⟨k + 1, by omega, by go_num, (htab.set_ j (altF bs j) hjN _ (by have hck := cntB_beat HOK.out hlt HX.out; unfold altF; rw [hck, if_neg HP.out]; rfl)).congr (fun t _ => txF_step (F := (altF bs)) hlt HX.out t), hbel.setCell (by simp; omega) _⟩
        case measure => simp [intOf]; omega
    · have hke : k = bs.length := by omega
      subst hke
      rw [List.take_length] at htab
      have hcv := htab.string N
      go_wp2_with fail
      go_ret
      exact ⟨rfl, hbel⟩

noncomputable def vAlternateText (n : Int) (bs : List Int) : List UInt8 := if rhB n bs = true then textF n.toNat bs (altF bs) else []

set_option maxRecDepth 100000 in
set_option maxHeartbeats 400000 in
theorem impl_AlternateText_any (n : Int) (A : Option Addr) (cap : Nat) (bs : List Int) (w : World) (hn : Fits n) (hA : Ints w w.heap.size A bs) :
    Calls Try.prog 23 #[.agg #[.int .i64 n, .slice A bs.length cap]] w fun e w' => e = .returned (.string (mkS (vAlternateText n bs))) ∧ Below w.heap.size w w' := by
  cases h : rhB n bs
  · rw [show vAlternateText n bs = [] by unfold vAlternateText; rw [h]; rfl]
    have hro := fun (V : World) (hV : Ints V V.heap.size A bs) => impl_RhythmOk_any n A cap bs V hn hV
    rw [h] at hro
    have HRO := Lib.hid hro
    have HA := Lib.hid hA
    clear hA hro
    go_enter Try.func23, Try.ntmps23
    go_wp2_with fail
    refine (HRO.out _ (HA.out.lift (by repeat (first | exact Below.refl _ _ | assumption | (refine Below.alloc ?_ (by first | exact Nat.le_refl _ | (simp; done) | (simp; omega) | omega) _) | (refine Below.drew ?_) | (refine Below.setCell ?_ (by first | exact Nat.le_refl _ | (simp; done) | (simp; omega) | omega) _))))).mono ?_
    rintro e w1 ⟨rfl, hb⟩
    go_wp2_with fail
    go_ret
    exact ⟨rfl, ((Below.refl w.heap.size w).alloc (Nat.le_refl _) _).trans (hb.mono (by first | exact Nat.le_refl _ | (simp; done) | (simp; omega) | omega))⟩
  · have hok := rhB_iff.1 h
    rw [show vAlternateText n bs = textF n.toNat bs (altF bs) by unfold vAlternateText; rw [if_pos h]]
    obtain ⟨N, rfl⟩ := Int.eq_ofNat_of_zero_le (show 0 ≤ n by have := hok.1; omega)
    rw [Int.toNat_natCast]
    exact impl_AlternateText_ok N A cap bs w hA hok

end Go.Proofs.Ythfofjbegkjdmaa
