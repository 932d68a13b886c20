/-
  The law FnExactCountWindows: CountWindows of both; the walk.
-/
import Derived.Test.YtjgbnmljbgadjaaWdws
import Derived.Test.YtjgbnmljbgadjaaRlaw
namespace Go.Proofs.Ytjgbnmljbgadjaa
open Go.RowKit
set_option linter.unusedVariables false
set_option linter.unusedSimpArgs false

noncomputable def cntW (n : Int) (bs : List Int) (k : Int) : Int := if rhB n bs = true ∧ inB k 0 48 = true then (allD n bs k.toNat n.toNat).length else -1
theorem cntW_yes {n : Int} {bs : List Int} {k : Int} (h1 : rhB n bs = true) (h3 : inB k 0 48 = true) : cntW n bs k = (allD n bs k.toNat n.toNat).length := by unfold cntW; rw [if_pos ⟨h1, h3⟩]
theorem cntW_no {n : Int} {bs : List Int} {k : Int} (h : ¬ (rhB n bs = true ∧ inB k 0 48 = true)) : cntW n bs k = -1 := by unfold cntW; rw [if_neg h]

set_option maxRecDepth 100000 in
set_option maxHeartbeats 1000000 in
theorem spec_CountWindows_any (n : Int) (A : Option Addr) (cap : Nat) (bs : List Int) (k : Int) (w : World) (hA : Ints w w.heap.size A bs) :
    Calls Try.prog 13 #[.agg #[.int .i64 n, .slice A bs.length cap], .int .i64 k] w fun e w' => e = .returned (.int .i64 (cntW n bs k)) ∧ Below w.heap.size w w' := by
  have HA := Lib.hid hA
  have hro := fun (V : World) (hV : Ints V V.heap.size A bs) => spec_RhythmOk_any n A cap bs V hV
  have HW := Lib.hid ((Below.refl w.heap.size w).alloc (Nat.le_refl _) (.cells #[.int .i64 n, .slice A bs.length cap] 27))
  obtain ⟨c0, c1⟩ := box2 (Below.refl (w.heap.size + 1) (w.alloc (.cells #[.int .i64 n, .slice A bs.length cap] 27)))
  clear hA
  cases h1 : rhB n bs
  · rw [cntW_no (fun h => by rw [h1] at h; cases h.1)]
    rw [h1] at hro
    have HRO := Lib.hid hro
    clear hro
    go_enter Try.func13, Try.ntmps13
    go_wp2_with fail
    refine (HRO.out _ (HA.out.lift HW.out)).mono ?_
    rintro e w1 ⟨rfl, hb⟩
    go_wp2_with fail
    go_ret
    exact ⟨rfl, HW.out.trans (hb.mono (by first | exact Nat.le_refl _ | (simp; done) | (simp; omega) | omega))⟩
  have hok := rhB_iff.1 h1
  have hn1 := hok.1
  have hn2 := hok.2.1
  have HOK := Lib.hid hok
  rw [h1] at hro
  have HRO := Lib.hid hro
  have H1 := Lib.hid h1
  clear hro hok h1
  cases h3 : inB k 0 48
  · rw [cntW_no (fun h => by rw [h3] at h; cases h.2)]
    go_enter Try.func13, Try.ntmps13
    go_wp2_with fail
    refine (HRO.out _ (HA.out.lift HW.out)).mono ?_
    rintro e w1 ⟨rfl, hb⟩
    have hcc := (bcellB hb).1
    have d0 := (hcc w.heap.size 0 (by first | exact Nat.le_refl _ | (simp; done) | (simp; omega) | omega)).trans c0
    have d1 := (hcc w.heap.size 1 (by first | exact Nat.le_refl _ | (simp; done) | (simp; omega) | omega)).trans c1
    clear hcc c0 c1
    go_wp2_with (go_at_call 33; refine (l01In_any _ _ _ _).mono ?_; rintro e w' ⟨rfl, rfl⟩)
    go_ret
    exact ⟨rfl, HW.out.trans (hb.mono (by first | exact Nat.le_refl _ | (simp; done) | (simp; omega) | omega))⟩
  rw [cntW_yes H1.out h3]
  obtain ⟨hk0, hk1⟩ := inB_iff.1 h3
  obtain ⟨N, rfl⟩ := Int.eq_ofNat_of_zero_le (show 0 ≤ n by omega)
  obtain ⟨k, rfl⟩ := Int.eq_ofNat_of_zero_le hk0
  rw [Int.toNat_natCast, Int.toNat_natCast]
  have hll := allD_len (N : Int) bs k N
  go_enter Try.func13, Try.ntmps13
  go_wp2_with fail
  refine (HRO.out _ (HA.out.lift HW.out)).mono ?_
  rintro e w1 ⟨rfl, hb⟩
  have hcc := (bcellB hb).1
  have d0 := (hcc w.heap.size 0 (by first | exact Nat.le_refl _ | (simp; done) | (simp; omega) | omega)).trans c0
  have d1 := (hcc w.heap.size 1 (by first | exact Nat.le_refl _ | (simp; done) | (simp; omega) | omega)).trans c1
  have HW1 := Lib.hid (HW.out.trans (hb.mono (by first | exact Nat.le_refl _ | (simp; done) | (simp; omega) | omega)))
  clear hcc c0 c1 hb
  go_wp2_with (go_at_call 33; refine (l01In_any _ _ _ _).mono ?_; rintro e w' ⟨rfl, rfl⟩)
  refine (spec_l28All_any N A cap bs k _ (HA.out.lift HW1.out) (by omega) (by omega) (by omega)).mono ?_
  rintro e w2 ⟨v, rfl, hown, hb2⟩
  obtain ⟨A2, c2, rfl, _⟩ := hown.form
  clear hown
  go_wp2_with fail
  go_ret
  exact ⟨rfl, HW1.out.trans (hb2.mono HW1.out.size)⟩

set_option maxRecDepth 100000 in
set_option maxHeartbeats 1000000 in
theorem impl_CountWindows_any (n : Int) (A : Option Addr) (cap : Nat) (bs : List Int) (k : Int) (w : World)(hn : Fits n) (hA : Ints w w.heap.size A bs) :
    Calls Try.prog 14 #[.agg #[.int .i64 n, .slice A bs.length cap], .int .i64 k] w fun e w' => e = .returned (.int .i64 (cntW n bs k)) ∧ Below w.heap.size w w' := by
  have HA := Lib.hid hA
  have hro := fun (V : World) (hV : Ints V V.heap.size A bs) => impl_RhythmOk_any n A cap bs V hn hV
  have HW := Lib.hid ((Below.refl w.heap.size w).alloc (Nat.le_refl _) (.cells #[.int .i64 n, .slice A bs.length cap] 27))
  obtain ⟨c0, c1⟩ := box2 (Below.refl (w.heap.size + 1) (w.alloc (.cells #[.int .i64 n, .slice A bs.length cap] 27)))
  clear hA
  cases h1 : rhB n bs
  · rw [cntW_no (fun h => by rw [h1] at h; cases h.1)]
    rw [h1] at hro
    have HRO := Lib.hid hro
    clear hro
    go_enter Try.func14, Try.ntmps14
    go_wp2_with fail
    refine (HRO.out _ (HA.out.lift HW.out)).mono ?_
    rintro e w1 ⟨rfl, hb⟩
    go_wp2_with fail
    go_ret
    exact ⟨rfl, HW.out.trans (hb.mono (by first | exact Nat.le_refl _ | (simp; done) | (simp; omega) | omega))⟩
  have hok := rhB_iff.1 h1
  have hn1 := hok.1
  have hn2 := hok.2.1
  have HOK := Lib.hid hok
  rw [h1] at hro
  have HRO := Lib.hid hro
  have H1 := Lib.hid h1
  clear hro hok h1
  cases h3 : inB k 0 48
  · rw [cntW_no (fun h => by rw [h3] at h; cases h.2)]
    go_enter Try.func14, Try.ntmps14
    go_wp2_with fail
    refine (HRO.out _ (HA.out.lift HW.out)).mono ?_
    rintro e w1 ⟨rfl, hb⟩
    have hcc := (bcellB hb).1
    have d0 := (hcc w.heap.size 0 (by first | exact Nat.le_refl _ | (simp; done) | (simp; omega) | omega)).trans c0
    have d1 := (hcc w.heap.size 1 (by first | exact Nat.le_refl _ | (simp; done) | (simp; omega) | omega)).trans c1
    clear hcc c0 c1
    go_wp2_with (go_at_call 35; refine (within_any _ _ _ _).mono ?_; rintro e w' ⟨rfl, rfl⟩)
    go_ret
    exact ⟨rfl, HW.out.trans (hb.mono (by first | exact Nat.le_refl _ | (simp; done) | (simp; omega) | omega))⟩
  rw [cntW_yes H1.out h3]
  obtain ⟨hk0, hk1⟩ := inB_iff.1 h3
  obtain ⟨N, rfl⟩ := Int.eq_ofNat_of_zero_le (show 0 ≤ n by omega)
  obtain ⟨k, rfl⟩ := Int.eq_ofNat_of_zero_le hk0
  rw [Int.toNat_natCast, Int.toNat_natCast]
  have hll := allD_len (N : Int) bs k N
  go_enter Try.func14, Try.ntmps14
  go_wp2_with fail
  refine (HRO.out _ (HA.out.lift HW.out)).mono ?_
  rintro e w1 ⟨rfl, hb⟩
  have hcc := (bcellB hb).1
  have d0 := (hcc w.heap.size 0 (by first | exact Nat.le_refl _ | (simp; done) | (simp; omega) | omega)).trans c0
  have d1 := (hcc w.heap.size 1 (by first | exact Nat.le_refl _ | (simp; done) | (simp; omega) | omega)).trans c1
  have HW1 := Lib.hid (HW.out.trans (hb.mono (by first | exact Nat.le_refl _ | (simp; done) | (simp; omega) | omega)))
  clear hcc c0 c1 hb
  go_wp2_with (go_at_call 35; refine (within_any _ _ _ _).mono ?_; rintro e w' ⟨rfl, rfl⟩)
  refine (impl_windows_any N A cap bs k _ (HA.out.lift HW1.out) HOK.out (by omega)).mono ?_
  rintro e w2 ⟨v, rfl, hown, hb2⟩
  obtain ⟨A2, c2, rfl, _⟩ := hown.form
  clear hown
  go_wp2_with fail
  go_ret
  exact ⟨rfl, HW1.out.trans (hb2.mono HW1.out.size)⟩

set_option maxRecDepth 100000 in
set_option maxHeartbeats 1000000 in
theorem law_FnExactCountWindows_of (n : Int) (A : Option Addr) (cap : Nat) (bs : List Int) (k : Int) (r : Value) (hr : ∃ x : Int, r = .int .i64 x) (w : World) (hA : Ints w w.heap.size A bs)
    (hs : ∀ (A : Option Addr) (cap : Nat) (w : World), Ints w w.heap.size A bs → Calls Try.prog 13 #[.agg #[.int .i64 n, .slice A bs.length cap], .int .i64 k] w fun e w' => e = .returned r ∧ Below w.heap.size w w')
    (hi : ∀ (A : Option Addr) (cap : Nat) (w : World), Ints w w.heap.size A bs → Calls Try.prog 14 #[.agg #[.int .i64 n, .slice A bs.length cap], .int .i64 k] w fun e w' => e = .returned r ∧ Below w.heap.size w w') :
    Calls Try.prog 4 #[.agg #[.int .i64 n, .slice A bs.length cap], .int .i64 k] w fun e w' => e = .returned (.bool true) ∧ Below w.heap.size w w' := by
  have hlen := hA.1
  have HA := Lib.hid hA
  have HS := Lib.hid hs
  have HI := Lib.hid hi
  clear hs hi hA
  obtain ⟨r, rfl⟩ := hr
  by_cases hbig : 1048576 < bs.length
  · have HL := Lib.hid hlen
    clear hlen
    go_enter Try.func4, Try.ntmps4
    go_wp2_with fail
    refine (szRhythm_big n A cap bs _ _ HL.out (by omega) (by omega) (by omega)).mono ?_
    rintro e w1 ⟨rfl, hb1⟩
    go_wp2_with fail
    go_ret
    exact ⟨rfl, ((Below.refl w.heap.size w).alloc (by first | exact Nat.le_refl _ | (simp; done) | (simp; omega) | omega) _).trans (hb1.mono (by first | exact Nat.le_refl _ | (simp; done) | (simp; omega) | omega))⟩
  · have hsm : bs.length ≤ 1048576 := by omega
    clear hbig hlen
    go_enter Try.func4, Try.ntmps4
    go_wp2_with fail
    refine (szRhythm_small n A cap bs _ _ (by omega) (by omega)).mono ?_
    rintro e w1 ⟨rfl, hb1⟩
    have hB1 := hb1.mono (B' := w.heap.size + 1) (by first | exact Nat.le_refl _ | (simp; done) | (simp; omega) | omega)
    have hW1 := ((Below.refl w.heap.size w).alloc (Nat.le_refl _) _).trans (hB1.mono (by omega))
    obtain ⟨hc0, hc1⟩ := box2 hB1
    have hz1 := hB1.size
    simp only [World.size_alloc] at hz1
    clear hb1
    go_wp2_with fail
    refine (toRhythm_any n A cap bs _ (HA.out.lift hW1) hsm).mono ?_
    rintro e w2 ⟨rfl, ht2, hb2⟩
    have hB2 := hB1.trans (hb2.mono (by omega))
    have hW2 := hW1.trans (hb2.mono (by omega))
    have hi2 := ht2.ints (B := w2.heap.size) ht2.1 HA.out.1 HA.out.2.1
    have HI2 := Lib.hid hi2
    clear hc0 hc1 ht2 hb2 hi2
    obtain ⟨hc0, hc1⟩ := box2 hB2
    have hz2 := hB2.size
    simp only [World.size_alloc] at hz2
    go_wp2_with fail
    refine (HS.out _ _ _ HI2.out).mono ?_
    rintro e w3 ⟨rfl, hb3⟩
    have hB3 := hB2.trans (hb3.mono (by omega))
    have hW3 := hW2.trans (hb3.mono (by omega))
    clear hc0 hc1 hb3 HI2
    obtain ⟨hc0, hc1⟩ := box2 hB3
    have hz3 := hB3.size
    simp only [World.size_alloc] at hz3
    go_wp2_with fail
    refine (toRhythm_any n A cap bs _ (HA.out.lift hW3) hsm).mono ?_
    rintro e w4 ⟨rfl, ht4, hb4⟩
    have hB4 := hB3.trans (hb4.mono (by omega))
    have hW4 := hW3.trans (hb4.mono (by omega))
    have hi4 := ht4.ints (B := w4.heap.size) ht4.1 HA.out.1 HA.out.2.1
    have HI4 := Lib.hid hi4
    clear hc0 hc1 ht4 hb4 hi4
    obtain ⟨hc0, hc1⟩ := box2 hB4
    have hz4 := hB4.size
    simp only [World.size_alloc] at hz4
    obtain ⟨g4, hg4⟩ : ∃ g, w3.heap.size + 3 = g := ⟨_, rfl⟩
    rw [hg4] at HI4 ⊢
    have HG := Lib.hid hg4
    clear hg4
    go_wp2_with fail
    refine (HI.out _ _ _ (HI4.out.lift (by repeat (first | exact Below.refl _ _ | assumption | (refine Below.alloc ?_ (by first | exact Nat.le_refl _ | (simp; done) | (simp; omega) | omega) _) | (refine Below.drew ?_) | (refine Below.setCell ?_ (by first | exact Nat.le_refl _ | (simp; done) | (simp; omega) | omega) _))))).mono ?_
    rintro e w6 ⟨rfl, hb6⟩
    have hb6' := hb6.mono (B' := w4.heap.size + 1) (by first | exact Nat.le_refl _ | (simp; done) | (simp; omega) | omega)
    have hB6 := (hB4.alloc hz4 _).trans (hb6'.mono (by omega))
    have hW6 := (hW4.alloc (by omega) _).trans (hb6'.mono (by omega))
    have hI6 := ((HI4.out.alloc (Nat.le_refl _) _).below (hb6'.mono (by omega))).mono (Nat.le_trans (Nat.le_succ _) (by have := hb6'.size; simpa using this))
    have HI6 := Lib.hid hI6
    obtain ⟨hd0, hd1⟩ := box2 hb6'
    clear hc0 hc1 hb6 hI6
    obtain ⟨hc0, hc1⟩ := box2 hB6
    have hz6 := hb6'.size
    simp only [World.size_alloc] at hz6
    have he := eqB_self bs
    go_wp2_with fail
    go_region_held3 (fun w' => w'.cell? ⟨w.heap.size, 0, none⟩ = some (.int .i64 n) ∧ w'.cell? ⟨w.heap.size, 1, none⟩ = some (.slice A bs.length cap) ∧ w'.cell? ⟨w4.heap.size, 0, none⟩ = some (.int .i64 n) ∧ w'.cell? ⟨w4.heap.size, 1, none⟩ = some (.slice (some ⟨g4, 0, none⟩) bs.length bs.length))
      (first
        | go_keep
        | (obtain ⟨hcc, _⟩ := bcellB hb7
           refine ⟨?_, ?_, ?_, ?_⟩ <;> (rw [hcc _ _ (by simp; omega)]; assumption))
        | (obtain ⟨hcc, _⟩ := bcellB (hb7.trans (hb8.mono (by have := hb7.size; omega)))
           refine ⟨?_, ?_, ?_, ?_⟩ <;> (rw [hcc _ _ (by simp; omega)]; assumption)))
      (first
        | (go_at_call 10; refine (toRhythm_any n A cap bs _ ((HA.out.lift hW6).drewN_ _) hsm).mono ?_; rintro e w7 ⟨rfl, ht7, hb7⟩)
        | (go_at_call 12; refine (eqRhythm_any n n _ _ _ _ bs bs _ ((HI6.out.drewN_ _).lift hb7) (ht7.ints ht7.1 HA.out.1 HA.out.2.1)).mono ?_; rintro e w8 ⟨rfl, hb8⟩))
    go_wp2_with fail
    go_ret
    have hW7 := (Below.drewN_ hW6 1).trans (hb7.mono (show w.heap.size ≤ (w6.drewN 1).heap.size from hW6.size))
    exact ⟨rfl, hW7.trans (hb8.mono hW7.size)⟩

theorem law_FnExactCountWindows {w : World} (n : Int) (A : Option Addr) (cap : Nat) (bs : List Int) (hn : Fits n) (hA : Ints w w.heap.size A bs) (k : Int) (_ : Fits k) :
    Calls Try.prog 4 #[.agg #[.int .i64 n, .slice A bs.length cap], .int .i64 k] w fun e w' => e = .returned (.bool true) ∧ Below w.heap.size w w' :=
  law_FnExactCountWindows_of n A cap bs k _ ⟨_, rfl⟩ w hA (fun A cap w hA => spec_CountWindows_any n A cap bs k w hA) (fun A cap w hA => impl_CountWindows_any n A cap bs k w hn hA)

end Go.Proofs.Ytjgbnmljbgadjaa
