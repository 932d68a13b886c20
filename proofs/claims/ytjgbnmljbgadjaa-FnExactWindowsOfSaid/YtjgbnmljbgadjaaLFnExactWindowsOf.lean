/-
  The law FnExactWindowsOf: WindowsOf of both; the walk.
-/
import Derived.Test.YtjgbnmljbgadjaaWdws
import Derived.Test.YtjgbnmljbgadjaaMarkS
namespace Go.Proofs.Ytjgbnmljbgadjaa
open Go.RowKit
set_option linter.unusedVariables false
set_option linter.unusedSimpArgs false

noncomputable def winsV (n : Int) (bs : List Int) (k : Int) : List Txt := if rhB n bs = true ∧ inB k 0 48 = true then allD n bs k.toNat n.toNat else []
theorem winsV_yes {n : Int} {bs : List Int} {k : Int} (h1 : rhB n bs = true) (h3 : inB k 0 48 = true) : winsV n bs k = allD n bs k.toNat n.toNat := by unfold winsV; rw [if_pos ⟨h1, h3⟩]
theorem winsV_no {n : Int} {bs : List Int} {k : Int} (h : ¬ (rhB n bs = true ∧ inB k 0 48 = true)) : winsV n bs k = [] := by unfold winsV; rw [if_neg h]
theorem winsV_len (n : Int) (bs : List Int) (k : Int) : (winsV n bs k).length ≤ 1000 := by
  unfold winsV
  split
  · rename_i h
    have := (rhB_iff.1 h.1).2.1
    have := allD_len n bs k.toNat n.toNat
    omega
  · simp

set_option maxRecDepth 100000 in
set_option maxHeartbeats 1000000 in
theorem spec_WindowsOf_any (n : Int) (A : Option Addr) (cap : Nat) (bs : List Int) (k : Int) (w : World) (hA : Ints w w.heap.size A bs) :
    Calls Try.prog 15 #[.agg #[.int .i64 n, .slice A bs.length cap], .int .i64 k] w (RetStr w (winsV n bs k)) := by
  have HA := Lib.hid hA
  have hro := fun (V : World) (hV : Ints V V.heap.size A bs) => spec_RhythmOk_any n A cap bs V hV
  have HW := Lib.hid ((Below.refl w.heap.size w).alloc (Nat.le_refl _) (.cells #[.int .i64 n, .slice A bs.length cap] 27))
  obtain ⟨c0, c1⟩ := box2 (Below.refl (w.heap.size + 1) (w.alloc (.cells #[.int .i64 n, .slice A bs.length cap] 27)))
  clear hA
  cases h1 : rhB n bs
  · rw [winsV_no (fun h => by rw [h1] at h; cases h.1)]
    rw [h1] at hro
    have HRO := Lib.hid hro
    clear hro
    go_enter Try.func15, Try.ntmps15
    go_wp2_with fail
    refine (HRO.out _ (HA.out.lift HW.out)).mono ?_
    rintro e w1 ⟨rfl, hb⟩
    go_wp2_with fail
    go_ret
    exact ⟨_, rfl, OwnS.nil _ _, HW.out.trans (hb.mono (by first | exact Nat.le_refl _ | (simp; done) | (simp; omega) | omega))⟩
  have hok := rhB_iff.1 h1
  have hn1 := hok.1
  have hn2 := hok.2.1
  have HOK := Lib.hid hok
  rw [h1] at hro
  have HRO := Lib.hid hro
  have H1 := Lib.hid h1
  clear hro hok h1
  cases h3 : inB k 0 48
  · rw [winsV_no (fun h => by rw [h3] at h; cases h.2)]
    go_enter Try.func15, Try.ntmps15
    go_wp2_with fail
    refine (HRO.out _ (HA.out.lift HW.out)).mono ?_
    rintro e w1 ⟨rfl, hb⟩
    have hcc := (bcellB hb).1
    have d0 := (hcc w.heap.size 0 (by first | exact Nat.le_refl _ | (simp; done) | (simp; omega) | omega)).trans c0
    have d1 := (hcc w.heap.size 1 (by first | exact Nat.le_refl _ | (simp; done) | (simp; omega) | omega)).trans c1
    clear hcc c0 c1
    go_wp2_with (go_at_call 33; refine (l01In_any _ _ _ _).mono ?_; rintro e w' ⟨rfl, rfl⟩)
    go_ret
    exact ⟨_, rfl, OwnS.nil _ _, HW.out.trans (hb.mono (by first | exact Nat.le_refl _ | (simp; done) | (simp; omega) | omega))⟩
  rw [winsV_yes H1.out h3]
  obtain ⟨hk0, hk1⟩ := inB_iff.1 h3
  obtain ⟨N, rfl⟩ := Int.eq_ofNat_of_zero_le (show 0 ≤ n by omega)
  obtain ⟨k, rfl⟩ := Int.eq_ofNat_of_zero_le hk0
  rw [Int.toNat_natCast, Int.toNat_natCast]
  have hll := allD_len (N : Int) bs k N
  go_enter Try.func15, Try.ntmps15
  go_wp2_with fail
  refine (HRO.out _ (HA.out.lift HW.out)).mono ?_
  rintro e w1 ⟨rfl, hb⟩
  have hcc := (bcellB hb).1
  have d0 := (hcc w.heap.size 0 (by first | exact Nat.le_refl _ | (simp; done) | (simp; omega) | omega)).trans c0
  have d1 := (hcc w.heap.size 1 (by first | exact Nat.le_refl _ | (simp; done) | (simp; omega) | omega)).trans c1
  have HW1 := Lib.hid (HW.out.trans (hb.mono (by first | exact Nat.le_refl _ | (simp; done) | (simp; omega) | omega)))
  clear hcc c0 c1 hb
  go_wp2_with (go_at_call 33; refine (l01In_any _ _ _ _).mono ?_; rintro e w' ⟨rfl, rfl⟩)
  refine (spec_l28All_any N A cap bs k _ (HA.out.lift HW1.out) (by omega) (by omega) (by omega)).mono ?_
  rintro e w2 ⟨v, rfl, hown, hb2⟩
  obtain ⟨A2, c2, rfl, _⟩ := hown.form
  have HO := Lib.hid hown
  clear hown
  go_wp2_with fail
  go_ret
  exact ⟨_, rfl, HO.out.mono HW1.out.size, HW1.out.trans (hb2.mono HW1.out.size)⟩

set_option maxRecDepth 100000 in
set_option maxHeartbeats 1000000 in
theorem impl_WindowsOf_any (n : Int) (A : Option Addr) (cap : Nat) (bs : List Int) (k : Int) (w : World)(hn : Fits n) (hA : Ints w w.heap.size A bs) :
    Calls Try.prog 16 #[.agg #[.int .i64 n, .slice A bs.length cap], .int .i64 k] w (RetStr w (winsV n bs k)) := by
  have HA := Lib.hid hA
  have hro := fun (V : World) (hV : Ints V V.heap.size A bs) => impl_RhythmOk_any n A cap bs V hn hV
  have HW := Lib.hid ((Below.refl w.heap.size w).alloc (Nat.le_refl _) (.cells #[.int .i64 n, .slice A bs.length cap] 27))
  obtain ⟨c0, c1⟩ := box2 (Below.refl (w.heap.size + 1) (w.alloc (.cells #[.int .i64 n, .slice A bs.length cap] 27)))
  clear hA
  cases h1 : rhB n bs
  · rw [winsV_no (fun h => by rw [h1] at h; cases h.1)]
    rw [h1] at hro
    have HRO := Lib.hid hro
    clear hro
    go_enter Try.func16, Try.ntmps16
    go_wp2_with fail
    refine (HRO.out _ (HA.out.lift HW.out)).mono ?_
    rintro e w1 ⟨rfl, hb⟩
    go_wp2_with fail
    go_ret
    exact ⟨_, rfl, OwnS.nil _ _, HW.out.trans (hb.mono (by first | exact Nat.le_refl _ | (simp; done) | (simp; omega) | omega))⟩
  have hok := rhB_iff.1 h1
  have hn1 := hok.1
  have hn2 := hok.2.1
  have HOK := Lib.hid hok
  rw [h1] at hro
  have HRO := Lib.hid hro
  have H1 := Lib.hid h1
  clear hro hok h1
  cases h3 : inB k 0 48
  · rw [winsV_no (fun h => by rw [h3] at h; cases h.2)]
    go_enter Try.func16, Try.ntmps16
    go_wp2_with fail
    refine (HRO.out _ (HA.out.lift HW.out)).mono ?_
    rintro e w1 ⟨rfl, hb⟩
    have hcc := (bcellB hb).1
    have d0 := (hcc w.heap.size 0 (by first | exact Nat.le_refl _ | (simp; done) | (simp; omega) | omega)).trans c0
    have d1 := (hcc w.heap.size 1 (by first | exact Nat.le_refl _ | (simp; done) | (simp; omega) | omega)).trans c1
    clear hcc c0 c1
    go_wp2_with (go_at_call 35; refine (within_any _ _ _ _).mono ?_; rintro e w' ⟨rfl, rfl⟩)
    go_ret
    exact ⟨_, rfl, OwnS.nil _ _, HW.out.trans (hb.mono (by first | exact Nat.le_refl _ | (simp; done) | (simp; omega) | omega))⟩
  rw [winsV_yes H1.out h3]
  obtain ⟨hk0, hk1⟩ := inB_iff.1 h3
  obtain ⟨N, rfl⟩ := Int.eq_ofNat_of_zero_le (show 0 ≤ n by omega)
  obtain ⟨k, rfl⟩ := Int.eq_ofNat_of_zero_le hk0
  rw [Int.toNat_natCast, Int.toNat_natCast]
  have hll := allD_len (N : Int) bs k N
  go_enter Try.func16, Try.ntmps16
  go_wp2_with fail
  refine (HRO.out _ (HA.out.lift HW.out)).mono ?_
  rintro e w1 ⟨rfl, hb⟩
  have hcc := (bcellB hb).1
  have d0 := (hcc w.heap.size 0 (by first | exact Nat.le_refl _ | (simp; done) | (simp; omega) | omega)).trans c0
  have d1 := (hcc w.heap.size 1 (by first | exact Nat.le_refl _ | (simp; done) | (simp; omega) | omega)).trans c1
  have HW1 := Lib.hid (HW.out.trans (hb.mono (by first | exact Nat.le_refl _ | (simp; done) | (simp; omega) | omega)))
  clear hcc c0 c1 hb
  go_wp2_with (go_at_call 35; refine (within_any _ _ _ _).mono ?_; rintro e w' ⟨rfl, rfl⟩)
  refine (impl_windows_any N A cap bs k _ (HA.out.lift HW1.out) HOK.out (by omega)).mono ?_
  rintro e w2 ⟨v, rfl, hown, hb2⟩
  obtain ⟨A2, c2, rfl, _⟩ := hown.form
  have HO := Lib.hid hown
  clear hown
  go_wp2_with fail
  go_ret
  exact ⟨_, rfl, HO.out.mono HW1.out.size, HW1.out.trans (hb2.mono HW1.out.size)⟩

set_option maxRecDepth 100000 in
set_option maxHeartbeats 2000000 in
theorem law_FnExactWindowsOf_of (n : Int) (A : Option Addr) (cap : Nat) (bs : List Int) (k : Int) (L : List Txt) (hL : L.length ≤ 1000) (w : World) (hA : Ints w w.heap.size A bs)
    (hs : ∀ (A : Option Addr) (cap : Nat) (w : World), Ints w w.heap.size A bs → Calls Try.prog 15 #[.agg #[.int .i64 n, .slice A bs.length cap], .int .i64 k] w (RetStr w L))
    (hi : ∀ (A : Option Addr) (cap : Nat) (w : World), Ints w w.heap.size A bs → Calls Try.prog 16 #[.agg #[.int .i64 n, .slice A bs.length cap], .int .i64 k] w (RetStr w L)) :
    Calls Try.prog 5 #[.agg #[.int .i64 n, .slice A bs.length cap], .int .i64 k] w fun e w' => e = .returned (.bool true) ∧ Below w.heap.size w w' := by
  have hlen := hA.1
  have HA := Lib.hid hA
  have HS := Lib.hid hs
  have HI := Lib.hid hi
  clear hs hi hA
  by_cases hbig : 1048576 < bs.length
  · have HL := Lib.hid hlen
    clear hlen
    go_enter Try.func5, Try.ntmps5
    go_wp2_with fail
    refine (szRhythm_big n A cap bs _ _ HL.out (by omega) (by omega) (by omega)).mono ?_
    rintro e w1 ⟨rfl, hb1⟩
    go_wp2_with fail
    go_ret
    exact ⟨rfl, ((Below.refl w.heap.size w).alloc (by first | exact Nat.le_refl _ | (simp; done) | (simp; omega) | omega) _).trans (hb1.mono (by first | exact Nat.le_refl _ | (simp; done) | (simp; omega) | omega))⟩
  · have hsm : bs.length ≤ 1048576 := by omega
    clear hbig hlen
    go_enter Try.func5, Try.ntmps5
    go_wp2_with fail
    refine (szRhythm_small n A cap bs _ _ (by omega) (by omega)).mono ?_
    rintro e w1 ⟨rfl, hb1⟩
    have hB1 := hb1.mono (B' := w.heap.size + 1) (by first | exact Nat.le_refl _ | (simp; done) | (simp; omega) | omega)
    have hW1 := ((Below.refl w.heap.size w).alloc (Nat.le_refl _) _).trans (hB1.mono (by omega))
    obtain ⟨hc0, hc1⟩ := box2 hB1
    have hz1 := hB1.size
    simp only [World.size_alloc] at hz1
    clear hb1
    go_wp2_with fail
    refine (toRhythm_any n A cap bs _ (HA.out.lift hW1) hsm).mono ?_
    rintro e w2 ⟨rfl, ht2, hb2⟩
    have hB2 := hB1.trans (hb2.mono (by omega))
    have hW2 := hW1.trans (hb2.mono (by omega))
    have hi2 := ht2.ints (B := w2.heap.size) ht2.1 HA.out.1 HA.out.2.1
    have HI2 := Lib.hid hi2
    clear hc0 hc1 ht2 hb2 hi2
    obtain ⟨hc0, hc1⟩ := box2 hB2
    have hz2 := hB2.size
    simp only [World.size_alloc] at hz2
    go_wp2_with fail
    refine (HS.out _ _ _ HI2.out).mono ?_
    rintro e w3 ⟨v3, rfl, ho3, hb3⟩
    obtain ⟨A3, c3, rfl, _⟩ := ho3.form
    have HT3 := Lib.hid (ho3.strs (by omega))
    have hB3 := hB2.trans (hb3.mono (by omega))
    have hW3 := hW2.trans (hb3.mono (by omega))
    clear hc0 hc1 hb3 HI2 ho3
    obtain ⟨hc0, hc1⟩ := box2 hB3
    have HC3 := Lib.hid (And.intro hc0 hc1)
    have HW3 := Lib.hid hW3
    have hz3 := hB3.size
    simp only [World.size_alloc] at hz3
    go_wp2_with fail
    refine (toRhythm_any n A cap bs _ (HA.out.lift hW3) hsm).mono ?_
    rintro e w4 ⟨rfl, ht4, hb4⟩
    have hi4 := ht4.ints (B := w4.heap.size) ht4.1 HA.out.1 HA.out.2.1
    have HI4 := Lib.hid hi4
    have hg4z : w3.heap.size + 3 < w4.heap.size := ht4.1
    have hz34 : w3.heap.size + 3 < w4.heap.size := ht4.1
    have HT4 := Lib.hid ht4.tabV
    have HB4 := Lib.hid hb4
    have hB4 := hB3.trans (hb4.mono (by omega))
    clear hc0 hc1 ht4 hb4 hi4
    obtain ⟨hc0, hc1⟩ := box2 hB4
    have hz4 := hB4.size
    simp only [World.size_alloc] at hz4
    obtain ⟨g4, hg4⟩ : ∃ g, w3.heap.size + 3 = g := ⟨_, rfl⟩
    rw [hg4] at HI4 HT4 hg4z ⊢
    have HG := Lib.hid hg4
    clear hg4
    go_wp2_with fail
    refine (HI.out _ _ _ (HI4.out.lift (by repeat (first | exact Below.refl _ _ | assumption | (refine Below.alloc ?_ (by first | exact Nat.le_refl _ | (simp; done) | (simp; omega) | omega) _) | (refine Below.drew ?_) | (refine Below.setCell ?_ (by first | exact Nat.le_refl _ | (simp; done) | (simp; omega) | omega) _))))).mono ?_
    rintro e w5 ⟨v5, rfl, ho5, hb5⟩
    obtain ⟨A5, c5, rfl, _⟩ := ho5.form
    simp only [World.size_alloc] at ho5 hb5
    have HH5 := Lib.hid ho5.heldV
    have HB5 := Lib.hid ((HB4.out.alloc (by omega) (.cells #[.int .i64 n, .slice (some ⟨g4, 0, none⟩) bs.length bs.length] 27)).trans (hb5.mono (by omega)))
    have HI5 := Lib.hid (((HI4.out.alloc (Nat.le_refl _) (.cells #[.int .i64 n, .slice (some ⟨g4, 0, none⟩) bs.length bs.length] 27)).below (hb5.mono (by omega))).mono (show w4.heap.size ≤ w5.heap.size by have := hb5.size; simp only [World.size_alloc] at this; omega))
    have HT5 := Lib.hid ((HT4.out.frm (Frm.pure ((Below.refl w4.heap.size w4).alloc (Nat.le_refl _) (.cells #[.int .i64 n, .slice (some ⟨g4, 0, none⟩) bs.length bs.length] 27)) (fun _ => False)) (fun h => h)).frm (Frm.of_below (S := fun c => w4.heap.size + 1 ≤ c) hb5 (fun c _ h => h)) (by omega))
    obtain ⟨hd0, hd1⟩ := box2 hb5
    have hz5 := hb5.size
    simp only [World.size_alloc] at hz5
    clear hc0 hc1 hb5 ho5
    have HST5 := Lib.hid (HH5.out.strs (Nat.le_refl _) (by omega))
    go_wp2_with fail
    refine (eqStr_same L A5 A3 c5 c3 _ HST5.out ((HT3.out.below HB5.out).mono (by omega))).mono ?_
    rintro e w6 ⟨rfl, hb6⟩
    have HF6 := Lib.hid (Frm.pure hb6 (fun _ => False))
    have HB6 := Lib.hid (HB5.out.trans (hb6.mono (by omega)))
    have hz6 := hb6.size
    have hW6 := HW3.out.trans (HB6.out.mono (by omega))
    have HI6 := Lib.hid (HI5.out.lift hb6)
    have hc0 := (HB6.out.cell (p := ⟨w.heap.size, 0, none⟩) (by simp; omega)).trans HC3.out.1
    have hc1 := (HB6.out.cell (p := ⟨w.heap.size, 1, none⟩) (by simp; omega)).trans HC3.out.2
    rw [← hb6.cell (p := ⟨w4.heap.size, 0, none⟩) (by simp; omega)] at hd0
    rw [← hb6.cell (p := ⟨w4.heap.size, 1, none⟩) (by simp; omega)] at hd1
    have HH6 := Lib.hid (HH5.out.frm HF6.out (fun _ _ _ h => h))
    have HT6 := Lib.hid (HT5.out.frm HF6.out (fun h => h))
    have HDS := Lib.hid (And.intro hd0 hd1)
    clear hb6
    have he := eqB_self bs
    go_wp2_with fail
    go_region_held3 (fun w' => w'.cell? ⟨w.heap.size, 0, none⟩ = some (.int .i64 n) ∧ w'.cell? ⟨w.heap.size, 1, none⟩ = some (.slice A bs.length cap) ∧ w'.cell? ⟨w4.heap.size, 0, none⟩ = some (.int .i64 n) ∧ w'.cell? ⟨w4.heap.size, 1, none⟩ = some (.slice (some ⟨g4, 0, none⟩) bs.length bs.length))
      (first
        | go_keep
        | (obtain ⟨hcc, _⟩ := bcellB hb7
           refine ⟨?_, ?_, ?_, ?_⟩ <;> (rw [hcc _ _ (by simp; omega)]; assumption))
        | (obtain ⟨hcc, _⟩ := bcellB (hb7.trans (hb8.mono (by have := hb7.size; omega)))
           refine ⟨?_, ?_, ?_, ?_⟩ <;> (rw [hcc _ _ (by simp; omega)]; assumption)))
      (first
        | (go_at_call 10; refine (toRhythm_any n A cap bs _ ((HA.out.lift hW6).drewN_ _) hsm).mono ?_; rintro e w7 ⟨rfl, ht7, hb7⟩)
        | (go_at_call 12; refine (eqRhythm_any n n _ _ _ _ bs bs _ ((HI6.out.drewN_ _).lift hb7) (ht7.ints ht7.1 HA.out.1 HA.out.2.1)).mono ?_; rintro e w8 ⟨rfl, hb8⟩))
    have HF8 := Lib.hid (((Frm.refl (fun _ => False) w6).drewN 1).trans ((Frm.pure hb7 _).trans (Frm.pure hb8 _)))
    have hz8 := HF8.out.size
    clear ht7 hb7 hb8 hc0 hc1 hd0 hd1 hW6
    have hd0 := (HF8.out.cell (c := w4.heap.size) (o := 0) (by omega) (fun h => h)).trans HDS.out.1
    have hd1 := (HF8.out.cell (c := w4.heap.size) (o := 1) (by omega) (fun h => h)).trans HDS.out.2
    have HB8 := Lib.hid (HB6.out.trans (HF8.out.below (B := w3.heap.size) (fun _ h => h.elim) (by omega)))
    have HH8 := Lib.hid (HH6.out.frm HF8.out (fun _ _ _ h => h))
    have HM8 := Lib.hid (show HeldV w8 (some ⟨g4, 0, none⟩) bs.length (fun t => .int .i64 (bs.getD t 0)) g4 (g4 + 1) from fun _ => ⟨g4, rfl, Nat.le_refl _, Nat.lt_succ_self _, HT6.out.frm HF8.out (fun h => h)⟩)
    go_wp2_with fail
    refine (markRhythm2_any n (some ⟨g4, 0, none⟩) bs.length bs.length _ 1 g4 (g4 + 1) _ hsm HM8.out (by omega) (by omega) (by omega)).mono ?_
    rintro e w9 ⟨rfl, _, hf9⟩
    have HF9 := Lib.hid hf9
    have hz9 := hf9.size
    have hg3 := HG.out
    have HB9 := Lib.hid (HB8.out.trans (HF9.out.below (B := w3.heap.size) (fun c h => by have := h.1; omega) (by omega)))
    have HH9 := Lib.hid (HH8.out.frm HF9.out (fun c h1 _ h => by have := h.2; omega))
    have HST9 := Lib.hid ((HH9.out.strs (by omega) (by omega)))
    clear hf9 hd0 hd1
    go_wp2_with (go_at_call 17; refine (eqStr_same L A5 A3 c5 c3 _ HST9.out ((HT3.out.below HB9.out).mono (by omega))).mono ?_; rintro e w10 ⟨rfl, hb10⟩)
    have HF10 := Lib.hid (Frm.pure hb10 (fun _ => False))
    have hz10 := hb10.size
    have HB10 := Lib.hid (HB9.out.trans (hb10.mono (by omega)))
    have HH10 := Lib.hid (HH9.out.frm HF10.out (fun _ _ _ h => h))
    clear hb10
    go_wp2_with fail
    refine (markStringS_any A5 c5 L.length _ 1 (w4.heap.size + 1) w5.heap.size _ (by omega) HH10.out (by omega) (by omega) (by omega)).mono ?_
    rintro e w11 ⟨rfl, hh11, hf11⟩
    have HH11 := Lib.hid hh11
    have hz11 := hf11.size
    have HB11 := Lib.hid (HB10.out.trans (hf11.below (B := w3.heap.size) (fun c h => by have := h.1; omega) (by omega)))
    clear hh11 hf11
    go_wp2_with fail
    refine (heldStringS_any A5 c5 L.length 1 (w4.heap.size + 1) w5.heap.size _ (by omega) HH11.out (by omega) (by omega)).mono ?_
    rintro e w12 ⟨rfl, hb12⟩
    have HF12 := Lib.hid (Frm.pure hb12 (fun _ => False))
    have hz12 := hb12.size
    have HB12 := Lib.hid (HB11.out.trans (hb12.mono (by omega)))
    have HH12 := Lib.hid (HH11.out.frm HF12.out (fun _ _ _ h => h))
    have hc0 := (HB12.out.cell (p := ⟨w.heap.size, 0, none⟩) (by simp; omega)).trans HC3.out.1
    have hc1 := (HB12.out.cell (p := ⟨w.heap.size, 1, none⟩) (by simp; omega)).trans HC3.out.2
    have HW12 := Lib.hid (HW3.out.trans (HB12.out.mono (by omega)))
    clear hb12
    go_wp2_with fail
    refine (toRhythm_any n A cap bs _ (HA.out.lift HW12.out) hsm).mono ?_
    rintro e w13 ⟨rfl, ht13, hb13⟩
    have HI13 := Lib.hid (ht13.ints (B := w13.heap.size) ht13.1 HA.out.1 HA.out.2.1)
    have HF13 := Lib.hid (Frm.pure hb13 (fun _ => False))
    have hz13 := hb13.size
    have HB13 := Lib.hid (HB12.out.trans (hb13.mono (by omega)))
    clear ht13 hb13 hc0 hc1
    go_wp2_with fail
    refine (HI.out _ _ _ HI13.out).mono ?_
    rintro e w14 ⟨v14, rfl, ho14, hb14⟩
    obtain ⟨A14, c14, rfl, _⟩ := ho14.form
    have HT14 := Lib.hid (ho14.strs (by omega))
    have HF14 := Lib.hid (Frm.pure hb14 (fun _ => False))
    have hz14 := hb14.size
    have HB14 := Lib.hid (HB13.out.trans (hb14.mono (by omega)))
    clear ho14 hb14
    go_wp2_with fail
    refine (eqStr_same L A14 A3 c14 c3 _ HT14.out ((HT3.out.below HB14.out).mono (by omega))).mono ?_
    rintro e w15 ⟨rfl, hb15⟩
    have HF15 := Lib.hid (Frm.pure hb15 (fun _ => False))
    have hz15 := hb15.size
    have HB15 := Lib.hid (HB14.out.trans (hb15.mono (by omega)))
    have HH15 := Lib.hid (((HH12.out.frm HF13.out (fun _ _ _ h => h)).frm HF14.out (fun _ _ _ h => h)).frm HF15.out (fun _ _ _ h => h))
    clear hb15
    go_wp2_with fail
    refine (heldStringS_any A5 c5 L.length 1 (w4.heap.size + 1) w5.heap.size _ (by omega) HH15.out (by omega) (by omega)).mono ?_
    rintro e w16 ⟨rfl, hb16⟩
    have HW16 := Lib.hid (HW3.out.trans ((HB15.out.mono (by omega)).trans (hb16.mono (by omega))))
    clear hb16
    go_wp2_with fail
    go_ret
    exact ⟨rfl, HW16.out⟩

theorem law_FnExactWindowsOf {w : World} (n : Int) (A : Option Addr) (cap : Nat) (bs : List Int) (hn : Fits n) (hA : Ints w w.heap.size A bs) (k : Int) (_ : Fits k) :
    Calls Try.prog 5 #[.agg #[.int .i64 n, .slice A bs.length cap], .int .i64 k] w fun e w' => e = .returned (.bool true) ∧ Below w.heap.size w w' :=
  law_FnExactWindowsOf_of n A cap bs k (winsV n bs k) (winsV_len n bs k) w hA (fun A cap w hA => spec_WindowsOf_any n A cap bs k w hA) (fun A cap w hA => impl_WindowsOf_any n A cap bs k w hn hA)

end Go.Proofs.Ytjgbnmljbgadjaa
