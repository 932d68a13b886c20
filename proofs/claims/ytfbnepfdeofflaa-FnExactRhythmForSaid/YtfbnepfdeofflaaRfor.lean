/-
  RhythmFor, FirstFor, LastFor of both.
-/
import Derived.Test.YtfbnepfdeofflaaL25At
namespace Go.Proofs.Ytfbnepfdeofflaa
open Go.RowKit
set_option linter.unusedVariables false
set_option linter.unusedSimpArgs false

def forOk (n k lo hi x : Int) : Bool := wishB n k lo hi && inB x 0 (stN lo (width lo hi) k.toNat n - 1)
def forN (n k lo hi x : Int) : Int := if forOk n k lo hi x then n else 0
def forL (n k lo hi x : Int) : List Int := if forOk n k lo hi x then wishBeats n k lo hi x else []

theorem RW.far {w : World} {base : Nat} {A : Option Addr} {xs : List Int} (h : RW w base A xs) {p : Addr} (hp : p.block < base) (u : Value) : RW (w.setCell p u) base A xs :=
  ⟨h.1, fun hn => by obtain ⟨b, e, hge, ht⟩ := h.2 hn; exact ⟨b, e, hge, ht.far (by omega) u⟩⟩

set_option maxRecDepth 100000 in
set_option maxHeartbeats 1000000 in
theorem impl_RhythmFor_any (n k lo hi x : Int) (w : World) (hx : Fits x) :
    Calls Try.prog 34 #[.int .i64 n, .int .i64 k, .int .i64 lo, .int .i64 hi, .int .i64 x] w (RetRh2 w (forN n k lo hi x) (forL n k lo hi x) (forOk n k lo hi x)) := by
  cases hw : wishB n k lo hi
  · have hok : forOk n k lo hi x = false := by unfold forOk; rw [hw]; rfl
    have HE := Lib.hid (show forN n k lo hi x = 0 ∧ forL n k lo hi x = [] ∧ forOk n k lo hi x = false by unfold forN forL; rw [hok]; exact ⟨rfl, rfl, rfl⟩)
    clear hok
    rw [HE.out.1, HE.out.2.1, HE.out.2.2]
    go_enter Try.func34, Try.ntmps34
    go_wp2_with (go_at_call 80; refine (impl_WishOk_any _ _ _ _ _).mono ?_; rintro e w' ⟨rfl, rfl⟩)
    refine bodyPost_ret (v := .tuple #[.agg #[.int .i64 0, .slice none 0 0], .bool false]) (by simp [results, Try.results34, go_sem]) rfl ⟨none, 0, rfl, ⟨Nat.zero_le _, fun h => absurd h (by simp)⟩, ?_⟩
    exact (by repeat (first | exact Below.refl _ _ | assumption | (refine Below.alloc ?_ (by first | exact Nat.le_refl _ | (simp; done) | (simp; omega) | omega) _) | (refine Below.drew ?_) | (refine Below.setCell ?_ (by first | exact Nat.le_refl _ | (simp; done) | (simp; omega) | omega) _)))
  · obtain ⟨⟨hn1, hn16⟩, ⟨hk1, hkn⟩, ⟨hl1, hl16⟩, hlh, hh16⟩ := wishB_iff.1 hw
    obtain ⟨c, hc⟩ : ∃ c, stN lo (width lo hi) k.toNat n = c := ⟨_, rfl⟩
    have hc0 : 0 ≤ c := by rw [← hc]; exact stN_nonneg _ _ _ _
    have hc1 : c ≤ 65536 := by rw [← hc]; exact stN_small _ _ hl1 _ _ (by omega)
    have hcs := fun V : World => impl_countSteps_any n k lo hi V (by omega) (by omega) (by omega) (by omega) hl1 hlh (by omega)
    rw [hc] at hcs
    have HCS := Lib.hid hcs
    have HC := Lib.hid hc
    clear hcs
    cases hin : inB x 0 (c - 1)
    · have hok : forOk n k lo hi x = false := by unfold forOk; rw [hw, hc, hin]; rfl
      have HE := Lib.hid (show forN n k lo hi x = 0 ∧ forL n k lo hi x = [] ∧ forOk n k lo hi x = false by unfold forN forL; rw [hok]; exact ⟨rfl, rfl, rfl⟩)
      clear hok hc
      rw [HE.out.1, HE.out.2.1, HE.out.2.2]
      go_enter Try.func34, Try.ntmps34
      go_wp2_with (first
        | (go_at_call 80; refine (impl_WishOk_any _ _ _ _ _).mono ?_; rintro e w' ⟨rfl, rfl⟩)
        | (go_at_call 96; refine (HCS.out _).mono ?_; rintro e w1 ⟨rfl, hb⟩; obtain ⟨f0, f1, f2, f3, f4⟩ := (Cells2.new w (.int .i64 0) (.slice none 0 0) 27).below hb (by simp))
        | (go_at_call 89; refine (within_any _ _ _ _).mono ?_; rintro e w' ⟨rfl, rfl⟩))
      refine bodyPost_ret (v := .tuple #[.agg #[.int .i64 0, .slice none 0 0], .bool false]) (by simp [results, Try.results34, go_sem, f0, f1]) rfl ⟨none, 0, rfl, ⟨Nat.zero_le _, fun h => absurd h (by simp)⟩, ?_⟩
      exact ((((Below.refl w.heap.size w).alloc (Nat.le_refl _) _).trans (hb.mono (by simp))).setCell (Nat.le_refl _) _).setCell (Nat.le_refl _) _
    · have hok : forOk n k lo hi x = true := by unfold forOk; rw [hw, hc, hin]; rfl
      have HE := Lib.hid (show forN n k lo hi x = n ∧ forL n k lo hi x = wishBeats n k lo hi x ∧ forOk n k lo hi x = true by unfold forN forL; rw [hok]; exact ⟨rfl, rfl, rfl⟩)
      obtain ⟨hx0, hx1⟩ := inB_iff.1 hin
      have hwd := fun V : World => impl_wished_any n k.toNat lo hi x V hn16 (by omega) hl1 hlh (by omega) hx0 (by rw [hc]; omega)
      rw [Int.toNat_of_nonneg (by omega)] at hwd
      have HWD := Lib.hid hwd
      clear hok hc hwd
      rw [HE.out.1, HE.out.2.1, HE.out.2.2]
      go_enter Try.func34, Try.ntmps34
      go_wp2_with (first
        | (go_at_call 80; refine (impl_WishOk_any _ _ _ _ _).mono ?_; rintro e w' ⟨rfl, rfl⟩)
        | (go_at_call 96; refine (HCS.out _).mono ?_; rintro e w1 ⟨rfl, hb⟩)
        | (go_at_call 89; refine (within_any _ _ _ _).mono ?_; rintro e w' ⟨rfl, rfl⟩)
        | (go_at_call 97; refine (HWD.out _).mono ?_; rintro e w2 ⟨A2, c2, rfl, hrw, hb2⟩; obtain ⟨f0, f1, f2, f3, f4⟩ := ((Cells2.new w (.int .i64 0) (.slice none 0 0) 27).below hb (by simp)).below hb2 (by have := hb.size; simp only [World.size_alloc] at this; omega)))
      have hz := hb.size
      simp only [World.size_alloc] at hz
      refine bodyPost_ret (v := .tuple #[.agg #[.int .i64 n, .slice A2 (wishBeats n k lo hi x).length c2], .bool true]) (by simp [results, Try.results34, go_sem, f0, f1, wishBeats]) rfl ⟨A2, c2, rfl, ?_, ?_⟩
      · exact ((hrw.far (p := ⟨w.heap.size, 0, none⟩) (by simp; omega) _).far (p := ⟨w.heap.size, 1, none⟩) (by simp; omega) _).mono (by omega)
      · exact (((((Below.refl w.heap.size w).alloc (Nat.le_refl _) _).trans (hb.mono (by simp))).trans (hb2.mono (by omega))).setCell (Nat.le_refl _) _).setCell (Nat.le_refl _) _

set_option maxRecDepth 100000 in
set_option maxHeartbeats 1000000 in
theorem spec_RhythmFor_any (n k lo hi x : Int) (w : World) (hx : Fits x) :
    Calls Try.prog 33 #[.int .i64 n, .int .i64 k, .int .i64 lo, .int .i64 hi, .int .i64 x] w (RetRh2 w (forN n k lo hi x) (forL n k lo hi x) (forOk n k lo hi x)) := by
  cases hw : wishB n k lo hi
  · have hok : forOk n k lo hi x = false := by unfold forOk; rw [hw]; rfl
    have HE := Lib.hid (show forN n k lo hi x = 0 ∧ forL n k lo hi x = [] ∧ forOk n k lo hi x = false by unfold forN forL; rw [hok]; exact ⟨rfl, rfl, rfl⟩)
    clear hok
    rw [HE.out.1, HE.out.2.1, HE.out.2.2]
    go_enter Try.func33, Try.ntmps33
    go_wp2_with (go_at_call 75; refine (spec_WishOk_any _ _ _ _ _).mono ?_; rintro e w' ⟨rfl, rfl⟩)
    refine bodyPost_ret (v := .tuple #[.agg #[.int .i64 0, .slice none 0 0], .bool false]) (by simp [results, Try.results33, go_sem]) rfl ⟨none, 0, rfl, ⟨Nat.zero_le _, fun h => absurd h (by simp)⟩, ?_⟩
    exact (by repeat (first | exact Below.refl _ _ | assumption | (refine Below.alloc ?_ (by first | exact Nat.le_refl _ | (simp; done) | (simp; omega) | omega) _) | (refine Below.drew ?_) | (refine Below.setCell ?_ (by first | exact Nat.le_refl _ | (simp; done) | (simp; omega) | omega) _)))
  · obtain ⟨⟨hn1, hn16⟩, ⟨hk1, hkn⟩, ⟨hl1, hl16⟩, hlh, hh16⟩ := wishB_iff.1 hw
    obtain ⟨c, hc⟩ : ∃ c, stN lo (width lo hi) k.toNat n = c := ⟨_, rfl⟩
    have hc0 : 0 ≤ c := by rw [← hc]; exact stN_nonneg _ _ _ _
    have hc1 : c ≤ 65536 := by rw [← hc]; exact stN_small _ _ hl1 _ _ (by omega)
    have hcs := fun V : World => spec_l25Count_any k.toNat k n lo hi V (by omega) (by omega) (by omega) (by omega) hl1 (by omega) hlh (by omega)
    rw [hc] at hcs
    have HCS := Lib.hid hcs
    have HC := Lib.hid hc
    clear hcs
    cases hin : inB x 0 (c - 1)
    · have hok : forOk n k lo hi x = false := by unfold forOk; rw [hw, hc, hin]; rfl
      have HE := Lib.hid (show forN n k lo hi x = 0 ∧ forL n k lo hi x = [] ∧ forOk n k lo hi x = false by unfold forN forL; rw [hok]; exact ⟨rfl, rfl, rfl⟩)
      clear hok hc
      rw [HE.out.1, HE.out.2.1, HE.out.2.2]
      go_enter Try.func33, Try.ntmps33
      go_wp2_with (first
        | (go_at_call 75; refine (spec_WishOk_any _ _ _ _ _).mono ?_; rintro e w' ⟨rfl, rfl⟩)
        | (go_at_call 93; refine (HCS.out _).mono ?_; rintro e w1 ⟨rfl, rfl⟩)
        | (go_at_call 78; refine (l01In_any _ _ _ _).mono ?_; rintro e w' ⟨rfl, rfl⟩))
      refine bodyPost_ret (v := .tuple #[.agg #[.int .i64 0, .slice none 0 0], .bool false]) (by simp [results, Try.results33, go_sem]) rfl ⟨none, 0, rfl, ⟨Nat.zero_le _, fun h => absurd h (by simp)⟩, ?_⟩
      exact (by repeat (first | exact Below.refl _ _ | assumption | (refine Below.alloc ?_ (by first | exact Nat.le_refl _ | (simp; done) | (simp; omega) | omega) _) | (refine Below.drew ?_) | (refine Below.setCell ?_ (by first | exact Nat.le_refl _ | (simp; done) | (simp; omega) | omega) _)))
    · have hok : forOk n k lo hi x = true := by unfold forOk; rw [hw, hc, hin]; rfl
      have HE := Lib.hid (show forN n k lo hi x = n ∧ forL n k lo hi x = wishBeats n k lo hi x ∧ forOk n k lo hi x = true by unfold forN forL; rw [hok]; exact ⟨rfl, rfl, rfl⟩)
      obtain ⟨hx0, hx1⟩ := inB_iff.1 hin
      have hwd := fun V : World => spec_l25At_any n k.toNat lo hi x V hn16 (by omega) hl1 hlh (by omega) hx0 (by rw [hc]; omega)
      rw [Int.toNat_of_nonneg (by omega)] at hwd
      have HWD := Lib.hid hwd
      have hwid : (width lo hi : Int) = hi + 1 - lo := by unfold width; omega
      have hfit := wishL_fit lo (width lo hi) k.toNat n x hx0 (by rw [hc]; omega)
      have hsum := wishL_sum lo (width lo hi) k.toNat n x hx0 (by rw [hc]; omega)
      have hll := wishL_len lo (width lo hi) k.toNat n x
      have HFS := Lib.hid (fun (A : Option Addr) (cap : Nat) (V : World) (hA : Ints V V.heap.size A (wishL lo (width lo hi) k.toNat n x)) =>
        spec_FromSteps_any A cap _ V hA (fun y hy => by have := hfit y hy; omega) (by omega) (by omega) (by omega))
      have HSUM := Lib.hid hsum
      clear hok hc hwd hfit hsum hll hwid
      rw [HE.out.1, HE.out.2.1, HE.out.2.2]
      go_enter Try.func33, Try.ntmps33
      go_wp2_with (first
        | (go_at_call 75; refine (spec_WishOk_any _ _ _ _ _).mono ?_; rintro e w' ⟨rfl, rfl⟩)
        | (go_at_call 93; refine (HCS.out _).mono ?_; rintro e w1 ⟨rfl, rfl⟩)
        | (go_at_call 78; refine (l01In_any _ _ _ _).mono ?_; rintro e w' ⟨rfl, rfl⟩)
        | (go_at_call 95; refine (HWD.out _).mono ?_; rintro e w1 ⟨A1, c1, rfl, hi1, hb⟩)
        | (go_at_call 94; refine (HFS.out _ _ _ hi1).mono ?_; rintro e w2 ⟨A2, c2, rfl, hrw, hb2⟩; obtain ⟨f0, f1, f2, f3, f4⟩ := ((Cells2.new w (.int .i64 0) (.slice none 0 0) 27).below hb (by simp)).below hb2 (by have := hb.size; simp only [World.size_alloc] at this; omega)))
      have hz := hb.size
      simp only [World.size_alloc] at hz
      have hpe : psum 0 (wishL lo (width lo hi) k.toNat n x) = wishBeats n k lo hi x := rfl
      rw [hpe] at hrw ⊢
      rw [HSUM.out]
      refine bodyPost_ret (v := .tuple #[.agg #[.int .i64 n, .slice A2 (wishBeats n k lo hi x).length c2], .bool true]) (by simp [results, Try.results33, go_sem, f0, f1]) rfl ⟨A2, c2, rfl, ?_, ?_⟩
      · exact ((hrw.far (p := ⟨w.heap.size, 0, none⟩) (by simp; omega) _).far (p := ⟨w.heap.size, 1, none⟩) (by simp; omega) _).mono (by omega)
      · exact (((((Below.refl w.heap.size w).alloc (Nat.le_refl _) _).trans (hb.mono (by simp))).trans (hb2.mono (by omega))).setCell (Nat.le_refl _) _).setCell (Nat.le_refl _) _

set_option maxRecDepth 100000 in
set_option maxHeartbeats 1000000 in
theorem impl_FirstFor_any (n k lo hi : Int) (w : World) :
    Calls Try.prog 46 #[.int .i64 n, .int .i64 k, .int .i64 lo, .int .i64 hi] w (RetRh2 w (forN n k lo hi 0) (forL n k lo hi 0) (forOk n k lo hi 0)) := by
  have hf := fun V : World => impl_RhythmFor_any n k lo hi 0 V (by unfold Fits; omega)
  generalize forN n k lo hi 0 = N at hf ⊢
  generalize forL n k lo hi 0 = L at hf ⊢
  generalize forOk n k lo hi 0 = ok at hf ⊢
  have HF := Lib.hid hf
  clear hf
  go_enter Try.func46, Try.ntmps46
  go_wp2_with (go_at_call 34; refine (HF.out _).mono ?_; rintro e w2 ⟨A2, c2, rfl, hrw, hb2⟩; obtain ⟨f0, f1, f2, f3, f4⟩ := (Cells2.new w (.int .i64 0) (.slice none 0 0) 27).below hb2 (by simp))
  refine bodyPost_ret (v := .tuple #[.agg #[.int .i64 N, .slice A2 L.length c2], .bool ok]) (by simp [results, Try.results46, go_sem, f0, f1]) rfl ⟨A2, c2, rfl, ?_, ?_⟩
  · exact ((hrw.far (p := ⟨w.heap.size, 0, none⟩) (by simp) _).far (p := ⟨w.heap.size, 1, none⟩) (by simp) _).mono (by simp)
  · exact ((((Below.refl w.heap.size w).alloc (Nat.le_refl _) _).trans (hb2.mono (by simp))).setCell (Nat.le_refl _) _).setCell (Nat.le_refl _) _

set_option maxRecDepth 100000 in
set_option maxHeartbeats 1000000 in
theorem spec_FirstFor_any (n k lo hi : Int) (w : World) :
    Calls Try.prog 45 #[.int .i64 n, .int .i64 k, .int .i64 lo, .int .i64 hi] w (RetRh2 w (forN n k lo hi 0) (forL n k lo hi 0) (forOk n k lo hi 0)) := by
  have hf := fun V : World => spec_RhythmFor_any n k lo hi 0 V (by unfold Fits; omega)
  generalize forN n k lo hi 0 = N at hf ⊢
  generalize forL n k lo hi 0 = L at hf ⊢
  generalize forOk n k lo hi 0 = ok at hf ⊢
  have HF := Lib.hid hf
  clear hf
  go_enter Try.func45, Try.ntmps45
  go_wp2_with (go_at_call 33; refine (HF.out _).mono ?_; rintro e w2 ⟨A2, c2, rfl, hrw, hb2⟩; obtain ⟨f0, f1, f2, f3, f4⟩ := (Cells2.new w (.int .i64 0) (.slice none 0 0) 27).below hb2 (by simp))
  refine bodyPost_ret (v := .tuple #[.agg #[.int .i64 N, .slice A2 L.length c2], .bool ok]) (by simp [results, Try.results45, go_sem, f0, f1]) rfl ⟨A2, c2, rfl, ?_, ?_⟩
  · exact ((hrw.far (p := ⟨w.heap.size, 0, none⟩) (by simp) _).far (p := ⟨w.heap.size, 1, none⟩) (by simp) _).mono (by simp)
  · exact ((((Below.refl w.heap.size w).alloc (Nat.le_refl _) _).trans (hb2.mono (by simp))).setCell (Nat.le_refl _) _).setCell (Nat.le_refl _) _

def lastX (n k lo hi : Int) : Int := (if wishB n k lo hi then stN lo (width lo hi) k.toNat n else -1) - 1
theorem lastX_fit (n k lo hi : Int) : -2 ≤ lastX n k lo hi ∧ lastX n k lo hi ≤ 65535 := by
  unfold lastX
  split
  · rename_i h
    obtain ⟨⟨hn1, hn16⟩, ⟨hk1, hkn⟩, ⟨hl1, hl16⟩, hlh, hh16⟩ := wishB_iff.1 h
    have h1 := stN_nonneg lo (width lo hi) k.toNat n
    have h2 := stN_small lo (width lo hi) hl1 k.toNat n (by omega)
    omega
  · omega

set_option maxRecDepth 100000 in
set_option maxHeartbeats 1000000 in
theorem impl_LastFor_any (n k lo hi : Int) (w : World) :
    Calls Try.prog 54 #[.int .i64 n, .int .i64 k, .int .i64 lo, .int .i64 hi] w (RetRh2 w (forN n k lo hi (lastX n k lo hi)) (forL n k lo hi (lastX n k lo hi)) (forOk n k lo hi (lastX n k lo hi))) := by
  have hlx := lastX_fit n k lo hi
  have hcf := fun V : World => impl_CountFor_any n k lo hi V
  rw [show (if wishB n k lo hi = true then stN lo (width lo hi) k.toNat n else -1) = lastX n k lo hi + 1 by unfold lastX; omega] at hcf
  generalize lastX n k lo hi = X at *
  have hf := fun V : World => impl_RhythmFor_any n k lo hi X V (by unfold Fits; omega)
  generalize forN n k lo hi X = N at hf ⊢
  generalize forL n k lo hi X = L at hf ⊢
  generalize forOk n k lo hi X = ok at hf ⊢
  have HF := Lib.hid hf
  have HCF := Lib.hid hcf
  clear hf hcf
  go_enter Try.func54, Try.ntmps54
  go_wp2_with (first
    | (go_at_call 107; refine (HCF.out _).mono ?_; rintro e w1 ⟨rfl, hb1⟩)
    | (go_at_call 34; refine (HF.out _).mono ?_; rintro e w2 ⟨A2, c2, rfl, hrw, hb2⟩; obtain ⟨f0, f1, f2, f3, f4⟩ := ((Cells2.new w (.int .i64 0) (.slice none 0 0) 27).below hb1 (by simp)).below hb2 (by have := hb1.size; simp only [World.size_alloc] at this; omega)))
  have hz := hb1.size
  simp only [World.size_alloc] at hz
  refine bodyPost_ret (v := .tuple #[.agg #[.int .i64 N, .slice A2 L.length c2], .bool ok]) (by simp [results, Try.results54, go_sem, f0, f1]) rfl ⟨A2, c2, rfl, ?_, ?_⟩
  · exact ((hrw.far (p := ⟨w.heap.size, 0, none⟩) (by simp; omega) _).far (p := ⟨w.heap.size, 1, none⟩) (by simp; omega) _).mono (by omega)
  · exact (((((Below.refl w.heap.size w).alloc (Nat.le_refl _) _).trans (hb1.mono (by simp))).trans (hb2.mono (by omega))).setCell (Nat.le_refl _) _).setCell (Nat.le_refl _) _

set_option maxRecDepth 100000 in
set_option maxHeartbeats 1000000 in
theorem spec_LastFor_any (n k lo hi : Int) (w : World) :
    Calls Try.prog 53 #[.int .i64 n, .int .i64 k, .int .i64 lo, .int .i64 hi] w (RetRh2 w (forN n k lo hi (lastX n k lo hi)) (forL n k lo hi (lastX n k lo hi)) (forOk n k lo hi (lastX n k lo hi))) := by
  have hlx := lastX_fit n k lo hi
  have hcf := fun V : World => spec_CountFor_any n k lo hi V
  rw [show (if wishB n k lo hi = true then stN lo (width lo hi) k.toNat n else -1) = lastX n k lo hi + 1 by unfold lastX; omega] at hcf
  generalize lastX n k lo hi = X at *
  have hf := fun V : World => spec_RhythmFor_any n k lo hi X V (by unfold Fits; omega)
  generalize forN n k lo hi X = N at hf ⊢
  generalize forL n k lo hi X = L at hf ⊢
  generalize forOk n k lo hi X = ok at hf ⊢
  have HF := Lib.hid hf
  have HCF := Lib.hid hcf
  clear hf hcf
  go_enter Try.func53, Try.ntmps53
  go_wp2_with (first
    | (go_at_call 106; refine (HCF.out _).mono ?_; rintro e w1 ⟨rfl, rfl⟩)
    | (go_at_call 33; refine (HF.out _).mono ?_; rintro e w2 ⟨A2, c2, rfl, hrw, hb2⟩; obtain ⟨f0, f1, f2, f3, f4⟩ := (Cells2.new w (.int .i64 0) (.slice none 0 0) 27).below hb2 (by simp)))
  refine bodyPost_ret (v := .tuple #[.agg #[.int .i64 N, .slice A2 L.length c2], .bool ok]) (by simp [results, Try.results53, go_sem, f0, f1]) rfl ⟨A2, c2, rfl, ?_, ?_⟩
  · exact ((hrw.far (p := ⟨w.heap.size, 0, none⟩) (by simp) _).far (p := ⟨w.heap.size, 1, none⟩) (by simp) _).mono (by simp)
  · exact ((((Below.refl w.heap.size w).alloc (Nat.le_refl _) _).trans (hb2.mono (by simp))).setCell (Nat.le_refl _) _).setCell (Nat.le_refl _) _

end Go.Proofs.Ytfbnepfdeofflaa
