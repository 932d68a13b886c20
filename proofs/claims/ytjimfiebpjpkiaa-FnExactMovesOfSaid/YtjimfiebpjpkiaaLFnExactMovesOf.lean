/-
  The law FnExactMovesOf: MovesOf of both; the walk.
-/
import Derived.Test.YtjimfiebpjpkiaaMovX
import Derived.Test.YtjimfiebpjpkiaaMarkR
import Derived.Test.YtjimfiebpjpkiaaRlaw
namespace Go.Proofs.Ytjimfiebpjpkiaa
open Go.RowKit Go.Shelf Go.Sort
set_option linter.unusedVariables false
set_option linter.unusedSimpArgs false

theorem movS_eq (N : Nat) (bs : List Int) (h1 : 1 ≤ N) (h2 : N ≤ 24) : movS N bs (2 * bs.length) = movP N (movC N bs) := by
  unfold movS movP movC cdL
  rw [mov_eq bs h1 h2, List.map_map]
  rfl
theorem movV_yes {N : Nat} {bs : List Int} (h : rhB N bs = true) : movV (N : Int) bs = movS N bs (2 * bs.length) := by
  have hok := rhB_iff.1 h
  have h1 : 1 ≤ N := by have := hok.1; omega
  have h2 : N ≤ 24 := by have := hok.2.1; omega
  rw [movS_eq N bs h1 h2]
  unfold movV
  rw [h, if_pos rfl, Int.toNat_natCast]
theorem movV_ok (n : Int) (bs : List Int) : (movV n bs).length ≤ 65536 ∧ ∀ p ∈ movV n bs, ∀ x ∈ p.2, Fits x := by
  cases h : rhB n bs
  · have hv : movV n bs = [] := by unfold movV; rw [h]; rfl
    rw [hv]
    exact ⟨Nat.zero_le _, fun p hp => by cases hp⟩
  · have hok := rhB_iff.1 h
    obtain ⟨N, rfl⟩ := Int.eq_ofNat_of_zero_le (show 0 ≤ n by have := hok.1; omega)
    have h1 : 1 ≤ N := by have := hok.1; omega
    have h2 : N ≤ 24 := by have := hok.2.1; omega
    have hbl : bs.length ≤ 24 := by have := rhok_len hok; omega
    rw [movV_yes h]
    refine ⟨?_, fun p hp x hx => ?_⟩
    · unfold movS
      rw [List.length_map]
      have := insL_len N bs (2 * bs.length)
      omega
    · unfold movS at hp
      rw [List.mem_map] at hp
      obtain ⟨y, hy, rfl⟩ := hp
      exact rh_fits' ((insL_desc bs h1 h2 (2 * bs.length)).1.2 y hy) x hx

set_option maxRecDepth 100000 in
set_option maxHeartbeats 1000000 in
theorem spec_MovesOf_any (n : Int) (A : Option Addr) (cap : Nat) (bs : List Int) (w : World) (hA : Ints w w.heap.size A bs) :
    Calls Try.prog 5 #[.agg #[.int .i64 n, .slice A bs.length cap]] w (RetRd w (movV n bs)) := by
  have HRO := Lib.hid (fun V h => spec_RhythmOk_any n A cap bs V h)
  have HB0 := Lib.hid ((Below.refl w.heap.size w).alloc (Nat.le_refl _) (.cells #[.int .i64 n, .slice A bs.length cap] 28))
  have HC0 := Lib.hid (Cells2.new w (.int .i64 n) (.slice A bs.length cap) 28)
  have HI0 := Lib.hid (hA.lift HB0.out)
  obtain ⟨c0, c1, _, _, _⟩ := HC0.out
  cases h2 : rhB n bs
  · have hv : movV n bs = [] := by unfold movV; rw [h2]; rfl
    rw [h2] at HRO
    rw [hv]
    clear hA h2 hv
    go_enter Try.func5, Try.ntmps5
    go_wp2_with fail
    refine (HRO.out _ HI0.out).mono ?_
    rintro e w1 ⟨rfl, hb⟩
    have HB1 := Lib.hid (HB0.out.trans (hb.mono HB0.out.size))
    clear hb
    go_wp2_with fail
    go_ret
    exact ⟨_, _, [], rfl, rfl, ⟨Nat.zero_le _, (fun r hr => by cases hr), fun h => absurd h (Nat.lt_irrefl 0)⟩, HB1.out⟩
  · have hok := rhB_iff.1 h2
    obtain ⟨N, rfl⟩ := Int.eq_ofNat_of_zero_le (show 0 ≤ n by have := hok.1; omega)
    have hv := movV_yes h2
    rw [h2] at HRO
    rw [hv]
    have HMV := Lib.hid (fun V h => spec_l24Moves_any N A cap bs V h hok)
    generalize movS N bs (2 * bs.length) = L at HMV ⊢
    clear hA h2 hv hok
    go_enter Try.func5, Try.ntmps5
    go_wp2_with fail
    refine (HRO.out _ HI0.out).mono ?_
    rintro e w1 ⟨rfl, hb⟩
    have HB1 := Lib.hid (HB0.out.trans (hb.mono HB0.out.size))
    have HC1 := Lib.hid (HC0.out.below hb HC0.out.2.2.2.2)
    have HI1 := Lib.hid (HI0.out.lift hb)
    clear hb c0 c1
    obtain ⟨c0, c1, _, _, _⟩ := HC1.out
    go_wp2_with fail
    refine (HMV.out _ HI1.out).mono ?_
    rintro e w2 ⟨A2, c2, rs, rfl, hk, hd, hb⟩
    have HK := Lib.hid hk
    have HD := Lib.hid hd
    have HB2 := Lib.hid (HB1.out.trans (hb.mono HB1.out.size))
    clear hk hd hb
    go_wp2_with fail
    go_ret
    exact ⟨_, _, rs, rfl, HK.out, HD.out, HB2.out⟩

set_option maxRecDepth 100000 in
set_option maxHeartbeats 2000000 in
theorem law_FnExactMovesOf_of (n : Int) (A : Option Addr) (cap : Nat) (bs : List Int)  (L : List (Int × List Int)) (hL : L.length ≤ 65536) (hf : ∀ p ∈ L, ∀ x ∈ p.2, Fits x) (w : World) (hA : Ints w w.heap.size A bs)
    (hs : ∀ (A : Option Addr) (cap : Nat) (w : World), Ints w w.heap.size A bs → Calls Try.prog 5 #[.agg #[.int .i64 n, .slice A bs.length cap]] w (RetRd w L))
    (hi : ∀ (A : Option Addr) (cap : Nat) (w : World), Ints w w.heap.size A bs → Calls Try.prog 7 #[.agg #[.int .i64 n, .slice A bs.length cap]] w (RetRs w L)) :
    Calls Try.prog 3 #[.agg #[.int .i64 n, .slice A bs.length cap]] w fun e w' => e = .returned (.bool true) ∧ Below w.heap.size w w' := by
  have hlen := hA.1
  have HA := Lib.hid hA
  have HS := Lib.hid hs
  have HI := Lib.hid hi
  have HFT := Lib.hid hf
  clear hs hi hA hf
  by_cases hbig : 1048576 < bs.length
  · have HL := Lib.hid hlen
    clear hlen
    go_enter Try.func3, Try.ntmps3
    go_wp2_with fail
    refine (szRhythm_big n A cap bs _ _ HL.out (by omega) (by omega) (by omega)).mono ?_
    rintro e w1 ⟨rfl, hb1⟩
    go_wp2_with fail
    go_ret
    exact ⟨rfl, ((Below.refl w.heap.size w).alloc (by first | exact Nat.le_refl _ | (simp; done) | (simp; omega) | omega) _).trans (hb1.mono (by first | exact Nat.le_refl _ | (simp; done) | (simp; omega) | omega))⟩
  · have hsm : bs.length ≤ 1048576 := by omega
    clear hbig hlen
    go_enter Try.func3, Try.ntmps3
    go_wp2_with fail
    refine (szRhythm_small n A cap bs _ _ (by omega) (by omega)).mono ?_
    rintro e w1 ⟨rfl, hb1⟩
    have hB1 := hb1.mono (B' := w.heap.size + 1) (by first | exact Nat.le_refl _ | (simp; done) | (simp; omega) | omega)
    have hW1 := ((Below.refl w.heap.size w).alloc (Nat.le_refl _) _).trans (hB1.mono (by omega))
    obtain ⟨hc0, hc1⟩ := box2 hB1
    have hz1 := hB1.size
    simp only [World.size_alloc] at hz1
    clear hb1
    go_wp2_with fail
    refine (toRhythm_any n A cap bs _ (HA.out.lift hW1) hsm).mono ?_
    rintro e w2 ⟨rfl, ht2, hb2⟩
    have hB2 := hB1.trans (hb2.mono (by omega))
    have hW2 := hW1.trans (hb2.mono (by omega))
    have hi2 := ht2.ints (B := w2.heap.size) ht2.1 HA.out.1 HA.out.2.1
    have HI2 := Lib.hid hi2
    clear hc0 hc1 ht2 hb2 hi2
    obtain ⟨hc0, hc1⟩ := box2 hB2
    have hz2 := hB2.size
    simp only [World.size_alloc] at hz2
    go_wp2_with fail
    refine (HS.out _ _ _ HI2.out).mono ?_
    rintro e w3 ⟨A3, c3, rs3, rfl, hk3, hd3, hb3⟩
    have HK3 := Lib.hid hk3
    have HT3 := Lib.hid hd3
    have hl3 : rs3.length ≤ 65536 := by rw [← keyR_len, hk3]; exact hL
    have hB3 := hB2.trans (hb3.mono (by omega))
    have hW3 := hW2.trans (hb3.mono (by omega))
    clear hc0 hc1 hb3 HI2 hk3 hd3
    obtain ⟨hc0, hc1⟩ := box2 hB3
    have HC3 := Lib.hid (And.intro hc0 hc1)
    have HW3 := Lib.hid hW3
    have hz3 := hB3.size
    simp only [World.size_alloc] at hz3
    go_wp2_with fail
    refine (toRhythm_any n A cap bs _ (HA.out.lift hW3) hsm).mono ?_
    rintro e w4 ⟨rfl, ht4, hb4⟩
    have hi4 := ht4.ints (B := w4.heap.size) ht4.1 HA.out.1 HA.out.2.1
    have HI4 := Lib.hid hi4
    have hg4z : w3.heap.size + 3 < w4.heap.size := ht4.1
    have hz34 : w3.heap.size + 3 < w4.heap.size := ht4.1
    have HT4 := Lib.hid ht4.tabV
    have HB4 := Lib.hid hb4
    have hB4 := hB3.trans (hb4.mono (by omega))
    clear hc0 hc1 ht4 hb4 hi4
    obtain ⟨hc0, hc1⟩ := box2 hB4
    have hz4 := hB4.size
    simp only [World.size_alloc] at hz4
    obtain ⟨g4, hg4⟩ : ∃ g, w3.heap.size + 3 = g := ⟨_, rfl⟩
    rw [hg4] at HI4 HT4 hg4z ⊢
    have HG := Lib.hid hg4
    clear hg4
    go_wp2_with fail
    refine (HI.out _ _ _ (HI4.out.lift (by repeat (first | exact Below.refl _ _ | assumption | (refine Below.alloc ?_ (by first | exact Nat.le_refl _ | (simp; done) | (simp; omega) | omega) _) | (refine Below.drew ?_) | (refine Below.setCell ?_ (by first | exact Nat.le_refl _ | (simp; done) | (simp; omega) | omega) _))))).mono ?_
    rintro e w5 ⟨v5, rs5, rfl, hk5, ho5, hb5⟩
    obtain ⟨A5, c5, rfl⟩ := ho5.form
    simp only [World.size_alloc] at ho5 hb5
    have hl5 : rs5.length ≤ 65536 := by rw [← keyR_len, hk5]; exact hL
    have HK5 := Lib.hid (show keyR rs5 = keyR rs3 from hk5.trans HK3.out.symm)
    have HFI := Lib.hid (keyR_fit hk5 HFT.out)
    have HAP := Lib.hid ho5.apart
    have HLN := Lib.hid ho5.lens
    have HST5 := Lib.hid (ho5.rd (by omega) HFI.out)
    have HH5 := Lib.hid ho5.held
    have HB5 := Lib.hid ((HB4.out.alloc (by omega) (.cells #[.int .i64 n, .slice (some ⟨g4, 0, none⟩) bs.length bs.length] 28)).trans (hb5.mono (by omega)))
    have HI5 := Lib.hid (((HI4.out.alloc (Nat.le_refl _) (.cells #[.int .i64 n, .slice (some ⟨g4, 0, none⟩) bs.length bs.length] 28)).below (hb5.mono (by omega))).mono (show w4.heap.size ≤ w5.heap.size by have := hb5.size; simp only [World.size_alloc] at this; omega))
    have HT5 := Lib.hid ((HT4.out.frm (Frm.pure ((Below.refl w4.heap.size w4).alloc (Nat.le_refl _) (.cells #[.int .i64 n, .slice (some ⟨g4, 0, none⟩) bs.length bs.length] 28)) (fun _ => False)) (fun h => h)).frm (Frm.of_below (S := fun c => w4.heap.size + 1 ≤ c) hb5 (fun c _ h => h)) (by omega))
    obtain ⟨hd0, hd1⟩ := box2 hb5
    have hz5 := hb5.size
    simp only [World.size_alloc] at hz5
    clear hc0 hc1 hb5 ho5 hk5
    go_wp2_with fail
    refine (eqRhythmS_same rs5 rs3 A5 A3 c5 c3 _ HST5.out ((HT3.out.below HB5.out).mono (by omega)) HK5.out).mono ?_
    rintro e w6 ⟨rfl, hb6⟩
    have HF6 := Lib.hid (Frm.pure hb6 (fun _ => False))
    have HB6 := Lib.hid (HB5.out.trans (hb6.mono (by omega)))
    have hz6 := hb6.size
    have hW6 := HW3.out.trans (HB6.out.mono (by omega))
    have HI6 := Lib.hid (HI5.out.lift hb6)
    have hc0 := (HB6.out.cell (p := ⟨w.heap.size, 0, none⟩) (by simp; omega)).trans HC3.out.1
    have hc1 := (HB6.out.cell (p := ⟨w.heap.size, 1, none⟩) (by simp; omega)).trans HC3.out.2
    rw [← hb6.cell (p := ⟨w4.heap.size, 0, none⟩) (by simp; omega)] at hd0
    rw [← hb6.cell (p := ⟨w4.heap.size, 1, none⟩) (by simp; omega)] at hd1
    have HH6 := Lib.hid (HH5.out.frm HF6.out (fun _ _ _ h => h))
    have HT6 := Lib.hid (HT5.out.frm HF6.out (fun h => h))
    have HDS := Lib.hid (And.intro hd0 hd1)
    clear hb6
    have he := eqB_self bs
    go_wp2_with fail
    go_region_held3 (fun w' => w'.cell? ⟨w.heap.size, 0, none⟩ = some (.int .i64 n) ∧ w'.cell? ⟨w.heap.size, 1, none⟩ = some (.slice A bs.length cap) ∧ w'.cell? ⟨w4.heap.size, 0, none⟩ = some (.int .i64 n) ∧ w'.cell? ⟨w4.heap.size, 1, none⟩ = some (.slice (some ⟨g4, 0, none⟩) bs.length bs.length))
      (first
        | go_keep
        | (obtain ⟨hcc, _⟩ := bcellB hb7
           refine ⟨?_, ?_, ?_, ?_⟩ <;> (rw [hcc _ _ (by simp; omega)]; assumption))
        | (obtain ⟨hcc, _⟩ := bcellB (hb7.trans (hb8.mono (by have := hb7.size; omega)))
           refine ⟨?_, ?_, ?_, ?_⟩ <;> (rw [hcc _ _ (by simp; omega)]; assumption)))
      (first
        | (go_at_call 6; refine (toRhythm_any n A cap bs _ ((HA.out.lift hW6).drewN_ _) hsm).mono ?_; rintro e w7 ⟨rfl, ht7, hb7⟩)
        | (go_at_call 9; refine (eqRhythm_any n n _ _ _ _ bs bs _ ((HI6.out.drewN_ _).lift hb7) (ht7.ints ht7.1 HA.out.1 HA.out.2.1)).mono ?_; rintro e w8 ⟨rfl, hb8⟩))
    have HF8 := Lib.hid (((Frm.refl (fun _ => False) w6).drewN 1).trans ((Frm.pure hb7 _).trans (Frm.pure hb8 _)))
    have hz8 := HF8.out.size
    clear ht7 hb7 hb8 hc0 hc1 hd0 hd1 hW6
    have hd0 := (HF8.out.cell (c := w4.heap.size) (o := 0) (by omega) (fun h => h)).trans HDS.out.1
    have hd1 := (HF8.out.cell (c := w4.heap.size) (o := 1) (by omega) (fun h => h)).trans HDS.out.2
    have HB8 := Lib.hid (HB6.out.trans (HF8.out.below (B := w3.heap.size) (fun _ h => h.elim) (by omega)))
    have HH8 := Lib.hid (HH6.out.frm HF8.out (fun _ _ _ h => h))
    have HM8 := Lib.hid (show HeldV w8 (some ⟨g4, 0, none⟩) bs.length (fun t => .int .i64 (bs.getD t 0)) g4 (g4 + 1) from fun _ => ⟨g4, rfl, Nat.le_refl _, Nat.lt_succ_self _, HT6.out.frm HF8.out (fun h => h)⟩)
    go_wp2_with fail
    refine (markRhythm2_any n (some ⟨g4, 0, none⟩) bs.length bs.length _ 1 g4 (g4 + 1) _ hsm HM8.out (by omega) (by omega) (by omega)).mono ?_
    rintro e w9 ⟨rfl, _, hf9⟩
    have HF9 := Lib.hid hf9
    have hz9 := hf9.size
    have hg3 := HG.out
    have HB9 := Lib.hid (HB8.out.trans (HF9.out.below (B := w3.heap.size) (fun c h => by have := h.1; omega) (by omega)))
    have HH9 := Lib.hid (HH8.out.frm HF9.out (fun c h1 _ h => by have := h.2; omega))
    have HST9 := Lib.hid (HH9.out.rd (by omega) HLN.out HFI.out)
    clear hf9 hd0 hd1
    go_wp2_with (go_at_call 8; refine (eqRhythmS_same rs5 rs3 A5 A3 c5 c3 _ HST9.out ((HT3.out.below HB9.out).mono (by omega)) HK5.out).mono ?_; rintro e w10 ⟨rfl, hb10⟩)
    have HF10 := Lib.hid (Frm.pure hb10 (fun _ => False))
    have hz10 := hb10.size
    have HB10 := Lib.hid (HB9.out.trans (hb10.mono (by omega)))
    have HH10 := Lib.hid (HH9.out.frm HF10.out (fun _ _ _ h => h))
    clear hb10
    go_wp2_with fail
    refine (markRhythmS_held A5 c5 rs5 1 (w4.heap.size + 1) w5.heap.size _ _ _ (by omega) HLN.out HAP.out HH10.out (by omega) (by omega)).mono ?_
    rintro e w11 ⟨rfl, hh11, hf11⟩
    have HH11 := Lib.hid hh11
    have hkm := kAt_le (k := 1) HLN.out rs5.length (Nat.le_refl _)
    obtain ⟨K, hK⟩ : ∃ K, kAt 1 rs5 rs5.length = K := ⟨_, rfl⟩
    rw [hK] at hkm
    have hkn : ¬ K < 0 := by omega
    have HKK := Lib.hid hK
    rw [hK]
    have hz11 := hf11.size
    have HB11 := Lib.hid (HB10.out.trans (hf11.below (B := w3.heap.size) (fun c h => by have := h.1; omega) (by omega)))
    clear hh11 hf11 hK
    go_wp2_with fail
    refine (heldRhythmS_held A5 c5 rs5 1 (w4.heap.size + 1) w5.heap.size _ (by omega) HLN.out HH11.out (by omega) (by omega)).mono ?_
    rintro e w12 ⟨rfl, hb12⟩
    rw [HKK.out]
    have HF12 := Lib.hid (Frm.pure hb12 (fun _ => False))
    have hz12 := hb12.size
    have HB12 := Lib.hid (HB11.out.trans (hb12.mono (by omega)))
    have HH12 := Lib.hid (HH11.out.frm HF12.out (fun _ _ _ h => h))
    have hc0 := (HB12.out.cell (p := ⟨w.heap.size, 0, none⟩) (by simp; omega)).trans HC3.out.1
    have hc1 := (HB12.out.cell (p := ⟨w.heap.size, 1, none⟩) (by simp; omega)).trans HC3.out.2
    have HW12 := Lib.hid (HW3.out.trans (HB12.out.mono (by omega)))
    clear hb12
    go_wp2_with fail
    refine (toRhythm_any n A cap bs _ (HA.out.lift HW12.out) hsm).mono ?_
    rintro e w13 ⟨rfl, ht13, hb13⟩
    have HI13 := Lib.hid (ht13.ints (B := w13.heap.size) ht13.1 HA.out.1 HA.out.2.1)
    have HF13 := Lib.hid (Frm.pure hb13 (fun _ => False))
    have hz13 := hb13.size
    have HB13 := Lib.hid (HB12.out.trans (hb13.mono (by omega)))
    clear ht13 hb13 hc0 hc1
    go_wp2_with fail
    refine (HI.out _ _ _ HI13.out).mono ?_
    rintro e w14 ⟨v14, rs14, rfl, hk14, ho14, hb14⟩
    obtain ⟨A14, c14, rfl⟩ := ho14.form
    have hl14 : rs14.length ≤ 65536 := by rw [← keyR_len, hk14]; exact hL
    have HT14 := Lib.hid (ho14.rd (by omega) (keyR_fit hk14 HFT.out))
    have HK14 := Lib.hid (show keyR rs14 = keyR rs3 from hk14.trans HK3.out.symm)
    have HF14 := Lib.hid (Frm.pure hb14 (fun _ => False))
    have hz14 := hb14.size
    have HB14 := Lib.hid (HB13.out.trans (hb14.mono (by omega)))
    clear ho14 hb14 hk14
    go_wp2_with fail
    refine (eqRhythmS_same rs14 rs3 A14 A3 c14 c3 _ HT14.out ((HT3.out.below HB14.out).mono (by omega)) HK14.out).mono ?_
    rintro e w15 ⟨rfl, hb15⟩
    have HF15 := Lib.hid (Frm.pure hb15 (fun _ => False))
    have hz15 := hb15.size
    have HB15 := Lib.hid (HB14.out.trans (hb15.mono (by omega)))
    have HH15 := Lib.hid (((HH12.out.frm HF13.out (fun _ _ _ h => h)).frm HF14.out (fun _ _ _ h => h)).frm HF15.out (fun _ _ _ h => h))
    clear hb15
    go_wp2_with fail
    refine (heldRhythmS_held A5 c5 rs5 1 (w4.heap.size + 1) w5.heap.size _ (by omega) HLN.out HH15.out (by omega) (by omega)).mono ?_
    rintro e w16 ⟨rfl, hb16⟩
    rw [HKK.out]
    have HW16 := Lib.hid (HW3.out.trans ((HB15.out.mono (by omega)).trans (hb16.mono (by omega))))
    clear hb16
    go_wp2_with fail
    go_ret
    exact ⟨rfl, HW16.out⟩

theorem law_FnExactMovesOf {w : World} (n : Int) (A : Option Addr) (cap : Nat) (bs : List Int) (hn : Fits n) (hA : Ints w w.heap.size A bs) :
    Calls Try.prog 3 #[.agg #[.int .i64 n, .slice A bs.length cap]] w fun e w' => e = .returned (.bool true) ∧ Below w.heap.size w w' :=
  law_FnExactMovesOf_of n A cap bs (movV n bs) (movV_ok n bs).1 (movV_ok n bs).2 w hA (fun A cap w h => spec_MovesOf_any n A cap bs w h) (fun A cap w h => impl_MovesOf_any n A cap bs w hn h)

end Go.Proofs.Ytjimfiebpjpkiaa
