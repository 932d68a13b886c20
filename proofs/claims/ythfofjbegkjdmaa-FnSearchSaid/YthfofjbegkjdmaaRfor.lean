/-
  RhythmFor, FirstFor, LastFor of both.
-/
import Derived.Test.YthfofjbegkjdmaaL25At
namespace Go.Proofs.Ythfofjbegkjdmaa
open Go.RowKit
set_option linter.unusedVariables false
set_option linter.unusedSimpArgs false

def forOk (n k lo hi x : Int) : Bool := wishB n k lo hi && inB x 0 (stN lo (width lo hi) k.toNat n - 1)
def forN (n k lo hi x : Int) : Int := if forOk n k lo hi x then n else 0
def forL (n k lo hi x : Int) : List Int := if forOk n k lo hi x then wishBeats n k lo hi x else []

set_option maxRecDepth 100000 in
set_option maxHeartbeats 1000000 in
theorem impl_RhythmFor_any (n k lo hi x : Int) (w : World) (hx : Fits x) :
    Calls Try.prog 12 #[.int .i64 n, .int .i64 k, .int .i64 lo, .int .i64 hi, .int .i64 x] w (RetRh2 w (forN n k lo hi x) (forL n k lo hi x) (forOk n k lo hi x)) := by
  cases hw : wishB n k lo hi
  · have hok : forOk n k lo hi x = false := by unfold forOk; rw [hw]; rfl
    have HE := Lib.hid (show forN n k lo hi x = 0 ∧ forL n k lo hi x = [] ∧ forOk n k lo hi x = false by unfold forN forL; rw [hok]; exact ⟨rfl, rfl, rfl⟩)
    clear hok
    rw [HE.out.1, HE.out.2.1, HE.out.2.2]
    go_enter Try.func12, Try.ntmps12
    go_wp2_with (go_at_call 11; refine (impl_WishOk_any _ _ _ _ _).mono ?_; rintro e w' ⟨rfl, rfl⟩)
    refine bodyPost_ret (v := .tuple #[.agg #[.int .i64 0, .slice none 0 0], .bool false]) (by simp [results, Try.results12, go_sem]) rfl ⟨none, 0, rfl, ⟨Nat.zero_le _, fun h => absurd h (by simp)⟩, ?_⟩
    exact (by repeat (first | exact Below.refl _ _ | assumption | (refine Below.alloc ?_ (by first | exact Nat.le_refl _ | (simp; done) | (simp; omega) | omega) _) | (refine Below.drew ?_) | (refine Below.setCell ?_ (by first | exact Nat.le_refl _ | (simp; done) | (simp; omega) | omega) _)))
  · obtain ⟨⟨hn1, hn16⟩, ⟨hk1, hkn⟩, ⟨hl1, hl16⟩, hlh, hh16⟩ := wishB_iff.1 hw
    obtain ⟨c, hc⟩ : ∃ c, stN lo (width lo hi) k.toNat n = c := ⟨_, rfl⟩
    have hc0 : 0 ≤ c := by rw [← hc]; exact stN_nonneg _ _ _ _
    have hc1 : c ≤ 65536 := by rw [← hc]; exact stN_small _ _ hl1 _ _ (by omega)
    have hcs := fun V : World => impl_countSteps_any n k lo hi V (by omega) (by omega) (by omega) (by omega) hl1 hlh (by omega)
    rw [hc] at hcs
    have HCS := Lib.hid hcs
    have HC := Lib.hid hc
    clear hcs
    cases hin : inB x 0 (c - 1)
    · have hok : forOk n k lo hi x = false := by unfold forOk; rw [hw, hc, hin]; rfl
      have HE := Lib.hid (show forN n k lo hi x = 0 ∧ forL n k lo hi x = [] ∧ forOk n k lo hi x = false by unfold forN forL; rw [hok]; exact ⟨rfl, rfl, rfl⟩)
      clear hok hc
      rw [HE.out.1, HE.out.2.1, HE.out.2.2]
      go_enter Try.func12, Try.ntmps12
      go_wp2_with (first
        | (go_at_call 11; refine (impl_WishOk_any _ _ _ _ _).mono ?_; rintro e w' ⟨rfl, rfl⟩)
        | (go_at_call 33; refine (HCS.out _).mono ?_; rintro e w1 ⟨rfl, hb⟩; obtain ⟨f0, f1, f2, f3, f4⟩ := (Cells2.new w (.int .i64 0) (.slice none 0 0) 29).below hb (by simp))
        | (go_at_call 36; refine (within_any _ _ _ _).mono ?_; rintro e w' ⟨rfl, rfl⟩))
      refine bodyPost_ret (v := .tuple #[.agg #[.int .i64 0, .slice none 0 0], .bool false]) (by simp [results, Try.results12, go_sem, f0, f1]) rfl ⟨none, 0, rfl, ⟨Nat.zero_le _, fun h => absurd h (by simp)⟩, ?_⟩
      exact ((((Below.refl w.heap.size w).alloc (Nat.le_refl _) _).trans (hb.mono (by simp))).setCell (Nat.le_refl _) _).setCell (Nat.le_refl _) _
    · have hok : forOk n k lo hi x = true := by unfold forOk; rw [hw, hc, hin]; rfl
      have HE := Lib.hid (show forN n k lo hi x = n ∧ forL n k lo hi x = wishBeats n k lo hi x ∧ forOk n k lo hi x = true by unfold forN forL; rw [hok]; exact ⟨rfl, rfl, rfl⟩)
      obtain ⟨hx0, hx1⟩ := inB_iff.1 hin
      have hwd := fun V : World => impl_wished_any n k.toNat lo hi x V hn16 (by omega) hl1 hlh (by omega) hx0 (by rw [hc]; omega)
      rw [Int.toNat_of_nonneg (by omega)] at hwd
      have HWD := Lib.hid hwd
      clear hok hc hwd
      rw [HE.out.1, HE.out.2.1, HE.out.2.2]
      go_enter Try.func12, Try.ntmps12
      go_wp2_with (first
        | (go_at_call 11; refine (impl_WishOk_any _ _ _ _ _).mono ?_; rintro e w' ⟨rfl, rfl⟩)
        | (go_at_call 33; refine (HCS.out _).mono ?_; rintro e w1 ⟨rfl, hb⟩)
        | (go_at_call 36; refine (within_any _ _ _ _).mono ?_; rintro e w' ⟨rfl, rfl⟩)
        | (go_at_call 34; refine (HWD.out _).mono ?_; rintro e w2 ⟨A2, c2, rfl, hrw, hb2⟩; obtain ⟨f0, f1, f2, f3, f4⟩ := ((Cells2.new w (.int .i64 0) (.slice none 0 0) 29).below hb (by simp)).below hb2 (by have := hb.size; simp only [World.size_alloc] at this; omega)))
      have hz := hb.size
      simp only [World.size_alloc] at hz
      refine bodyPost_ret (v := .tuple #[.agg #[.int .i64 n, .slice A2 (wishBeats n k lo hi x).length c2], .bool true]) (by simp [results, Try.results12, go_sem, f0, f1, wishBeats]) rfl ⟨A2, c2, rfl, ?_, ?_⟩
      · exact ((hrw.far (p := ⟨w.heap.size, 0, none⟩) (by simp; omega) _).far (p := ⟨w.heap.size, 1, none⟩) (by simp; omega) _).mono (by omega)
      · exact (((((Below.refl w.heap.size w).alloc (Nat.le_refl _) _).trans (hb.mono (by simp))).trans (hb2.mono (by omega))).setCell (Nat.le_refl _) _).setCell (Nat.le_refl _) _

set_option maxRecDepth 100000 in
set_option maxHeartbeats 1000000 in
theorem impl_FirstFor_any (n k lo hi : Int) (w : World) :
    Calls Try.prog 8 #[.int .i64 n, .int .i64 k, .int .i64 lo, .int .i64 hi] w (RetRh2 w (forN n k lo hi 0) (forL n k lo hi 0) (forOk n k lo hi 0)) := by
  have hf := fun V : World => impl_RhythmFor_any n k lo hi 0 V (by unfold Fits; omega)
  generalize forN n k lo hi 0 = N at hf ⊢
  generalize forL n k lo hi 0 = L at hf ⊢
  generalize forOk n k lo hi 0 = ok at hf ⊢
  have HF := Lib.hid hf
  clear hf
  go_enter Try.func8, Try.ntmps8
  go_wp2_with (go_at_call 12; refine (HF.out _).mono ?_; rintro e w2 ⟨A2, c2, rfl, hrw, hb2⟩; obtain ⟨f0, f1, f2, f3, f4⟩ := (Cells2.new w (.int .i64 0) (.slice none 0 0) 29).below hb2 (by simp))
  refine bodyPost_ret (v := .tuple #[.agg #[.int .i64 N, .slice A2 L.length c2], .bool ok]) (by simp [results, Try.results8, go_sem, f0, f1]) rfl ⟨A2, c2, rfl, ?_, ?_⟩
  · exact ((hrw.far (p := ⟨w.heap.size, 0, none⟩) (by simp) _).far (p := ⟨w.heap.size, 1, none⟩) (by simp) _).mono (by simp)
  · exact ((((Below.refl w.heap.size w).alloc (Nat.le_refl _) _).trans (hb2.mono (by simp))).setCell (Nat.le_refl _) _).setCell (Nat.le_refl _) _

def lastX (n k lo hi : Int) : Int := (if wishB n k lo hi then stN lo (width lo hi) k.toNat n else -1) - 1
theorem lastX_fit (n k lo hi : Int) : -2 ≤ lastX n k lo hi ∧ lastX n k lo hi ≤ 65535 := by
  unfold lastX
  split
  · rename_i h
    obtain ⟨⟨hn1, hn16⟩, ⟨hk1, hkn⟩, ⟨hl1, hl16⟩, hlh, hh16⟩ := wishB_iff.1 h
    have h1 := stN_nonneg lo (width lo hi) k.toNat n
    have h2 := stN_small lo (width lo hi) hl1 k.toNat n (by omega)
    omega
  · omega

set_option maxRecDepth 100000 in
set_option maxHeartbeats 1000000 in
theorem impl_LastFor_any (n k lo hi : Int) (w : World) :
    Calls Try.prog 9 #[.int .i64 n, .int .i64 k, .int .i64 lo, .int .i64 hi] w (RetRh2 w (forN n k lo hi (lastX n k lo hi)) (forL n k lo hi (lastX n k lo hi)) (forOk n k lo hi (lastX n k lo hi))) := by
  have hlx := lastX_fit n k lo hi
  have hcf := fun V : World => impl_CountFor_any n k lo hi V
  rw [show (if wishB n k lo hi = true then stN lo (width lo hi) k.toNat n else -1) = lastX n k lo hi + 1 by unfold lastX; omega] at hcf
  generalize lastX n k lo hi = X at *
  have hf := fun V : World => impl_RhythmFor_any n k lo hi X V (by unfold Fits; omega)
  generalize forN n k lo hi X = N at hf ⊢
  generalize forL n k lo hi X = L at hf ⊢
  generalize forOk n k lo hi X = ok at hf ⊢
  have HF := Lib.hid hf
  have HCF := Lib.hid hcf
  clear hf hcf
  go_enter Try.func9, Try.ntmps9
  go_wp2_with (first
    | (go_at_call 7; refine (HCF.out _).mono ?_; rintro e w1 ⟨rfl, hb1⟩)
    | (go_at_call 12; refine (HF.out _).mono ?_; rintro e w2 ⟨A2, c2, rfl, hrw, hb2⟩; obtain ⟨f0, f1, f2, f3, f4⟩ := ((Cells2.new w (.int .i64 0) (.slice none 0 0) 29).below hb1 (by simp)).below hb2 (by have := hb1.size; simp only [World.size_alloc] at this; omega)))
  have hz := hb1.size
  simp only [World.size_alloc] at hz
  refine bodyPost_ret (v := .tuple #[.agg #[.int .i64 N, .slice A2 L.length c2], .bool ok]) (by simp [results, Try.results9, go_sem, f0, f1]) rfl ⟨A2, c2, rfl, ?_, ?_⟩
  · exact ((hrw.far (p := ⟨w.heap.size, 0, none⟩) (by simp; omega) _).far (p := ⟨w.heap.size, 1, none⟩) (by simp; omega) _).mono (by omega)
  · exact (((((Below.refl w.heap.size w).alloc (Nat.le_refl _) _).trans (hb1.mono (by simp))).trans (hb2.mono (by omega))).setCell (Nat.le_refl _) _).setCell (Nat.le_refl _) _

end Go.Proofs.Ythfofjbegkjdmaa
