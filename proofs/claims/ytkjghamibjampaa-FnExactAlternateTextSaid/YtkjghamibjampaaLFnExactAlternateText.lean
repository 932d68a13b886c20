/-
  The law FnExactAlternateText: AlternateText of both; the walk.
-/
import Derived.Test.YtkjghamibjampaaText
import Derived.Test.YtkjghamibjampaaRlaw
namespace Go.Proofs.Ytkjghamibjampaa
open Go.RowKit
set_option linter.unusedVariables false
set_option linter.unusedSimpArgs false

set_option maxRecDepth 100000 in
set_option maxHeartbeats 1000000 in
theorem impl_AlternateText_ok (N : Nat) (A : Option Addr) (cap : Nat) (bs : List Int) (w : World) (hA : Ints w w.heap.size A bs) (hok : RhOk N bs) :
    Calls Try.prog 21 #[.agg #[.int .i64 N, .slice A bs.length cap]] w fun e w' => e = .returned (.string (mkS (textF N bs (altF bs)))) ∧ Below w.heap.size w w' := by
  have hlen := hA.1
  unfold maxLen at hlen
  have HC := Lib.hid hA.2.2
  have hn1 : 1 ≤ N := by have := hok.1; omega
  have hn2 : N ≤ 24 := by have := hok.2.1; omega
  have HOK := Lib.hid hok
  have hro := fun (V : World) (hV : Ints V V.heap.size A bs) => impl_RhythmOk_any N A cap bs V (by unfold Fits; omega) hV
  rw [rhB_iff.2 hok] at hro
  have HRO := Lib.hid hro
  have HA := Lib.hid hA
  clear hA hok hro
  have HW := Lib.hid ((Below.refl w.heap.size w).alloc (Nat.le_refl _) (.cells #[.int .i64 N, .slice A bs.length cap] 27))
  obtain ⟨c0, c1⟩ := box2 (Below.refl (w.heap.size + 1) (w.alloc (.cells #[.int .i64 N, .slice A bs.length cap] 27)))
  go_enter Try.func21, Try.ntmps21
  go_wp2_with fail
  refine (HRO.out _ (HA.out.lift HW.out)).mono ?_
  rintro e w0 ⟨rfl, hb0⟩
  have hb0' := (bcellB hb0).1
  have e0 := (hb0' w.heap.size 0 (by first | exact Nat.le_refl _ | (simp; done) | (simp; omega) | omega)).trans c0
  have e1 := (hb0' w.heap.size 1 (by first | exact Nat.le_refl _ | (simp; done) | (simp; omega) | omega)).trans c1
  have hw0 : w.heap.size < w0.heap.size := by have := hb0.size; simp at this; omega
  have HW1 := Lib.hid (HW.out.trans (hb0.mono (by first | exact Nat.le_refl _ | (simp; done) | (simp; omega) | omega)))
  have kc : (convert 56 56 (.slice (some ⟨w0.heap.size, 0, none⟩) 1 1)).run Try.prog (w0.alloc (.cells #[.int .u8 46] 5)) = .ok (.slice (some ⟨w0.heap.size, 0, none⟩) 1 1) (w0.alloc (.cells #[.int .u8 46] 5 (1, 2))) :=
    Joins.run_convert_bytes_const_at (P := Try.prog) w0 56 5 #[.int .u8 46] 1 1 w0.heap.size rfl Try.underlying56 Try.underlying5
  clear c0 c1 hb0 hb0'
  have e0' := (((Below.refl w0.heap.size w0).alloc (Nat.le_refl _) (.cells #[.int .u8 46] 5 (1, 2))).cell (p := ⟨w.heap.size, 0, none⟩) hw0).trans e0
  have e1' := (((Below.refl w0.heap.size w0).alloc (Nat.le_refl _) (.cells #[.int .u8 46] 5 (1, 2))).cell (p := ⟨w.heap.size, 1, none⟩) hw0).trans e1
  go_wp2_with fail
  clear kc
  refine (bytes_Repeat_any w0.heap.size 1 N 46 _ ?_ ?_ hn1 (by omega)).mono ?_
  · simp
  · exact (Joins.cell_alloc_mark_at _ _ _ _ _ 0 (by simp)).trans rfl
  rintro e w1 ⟨rfl, htab0, hb1⟩
  have hb1' := (bcellB hb1).1
  have HB1 := Lib.hid ((HW1.out.alloc (by omega) (.cells #[.int .u8 46] 5 (1, 2))).trans (hb1.mono (by simp; omega)))
  have hd0 := (hb1' w.heap.size 0 (by simp; omega)).trans e0'
  have hd1 := (hb1' w.heap.size 1 (by simp; omega)).trans e1'
  clear hb1 hb1' e0 e1 e0' e1'
  obtain ⟨h, hh⟩ : ∃ h, (w0.alloc (.cells #[.int .u8 46] 5 (1, 2))).heap.size = h := ⟨_, rfl⟩
  have hwh : w.heap.size < h := by rw [← hh]; simp; omega
  simp only [hh] at htab0 ⊢
  have HT0 := Lib.hid htab0
  clear htab0 hh
  go_wp2_with fail
  go_loopw [17] (fun i wr => ∃ k : Nat, k ≤ bs.length ∧ i = .int .i64 k ∧ TabU wr h N (txF (bs.take k) (altF bs)) ∧ Below w.heap.size w wr) (fun i _ => bs.length - (intOf i).toNat)
  case atStart => exact ⟨0, Nat.zero_le _, rfl, HT0.out.congr (fun t _ => by simp [txF, hasB]), HB1.out⟩
  case round =>
    obtain ⟨k, hk, rfl, htab, hbel⟩ := hrel
    by_cases hlt : k < bs.length
    · obtain ⟨b, off, rfl, hB, hc⟩ := HC.out (by omega)
      have hcell := (hbel.cell (p := ⟨b, off + k, none⟩) hB).trans (hc k hlt)
      have hx0 := HOK.out.2.2.1 k hlt
      obtain ⟨x, hx⟩ : ∃ x, bs.getD k 0 = x := ⟨_, rfl⟩
      rw [hx] at hcell hx0
      obtain ⟨hx1, hx2⟩ := hx0
      obtain ⟨j, rfl⟩ := Int.eq_ofNat_of_zero_le hx1
      have hjN : j < N := by omega
      have hto := (htab.2 j hjN).1
      have hfr := htab.frz hjN
      have HX := Lib.hid hx
      clear hx hc
      by_cases hpar : k % 2 = 0
      · have hp : ((k : Nat) : Int) % 2 = 0 := by omega
        have HP := Lib.hid hpar
        clear hpar
        go_wp2_with fail
        go_roundw
        case rel => exact ⟨k + 1, by omega, by go_num, (htab.set_ j (altF bs j) hjN _ (by have hck := cntB_beat HOK.out hlt HX.out; unfold altF; rw [hck, if_pos HP.out]; rfl)).congr (fun t _ => txF_step (F := (altF bs)) hlt HX.out t), hbel.setCell (by simp; omega) _⟩
        case measure => simp [intOf]; omega
      · have hp : ((k : Nat) : Int) % 2 = 1 := by omega
        have HP := Lib.hid hpar
        clear hpar
        go_wp2_with fail
        go_roundw
        case rel => exact ⟨k + 1, by omega, by go_num, (htab.set_ j (altF bs j) hjN _ (by have hck := cntB_beat HOK.out hlt HX.out; unfold altF; rw [hck, if_neg HP.out]; rfl)).congr (fun t _ => txF_step (F := (altF bs)) hlt HX.out t), hbel.setCell (by simp; omega) _⟩
        case measure => simp [intOf]; omega
    · have hke : k = bs.length := by omega
      subst hke
      rw [List.take_length] at htab
      have hcv := htab.string N
      go_wp2_with fail
      go_ret
      exact ⟨rfl, hbel⟩

set_option maxRecDepth 100000 in
set_option maxHeartbeats 1000000 in
theorem spec_AlternateText_ok (N : Nat) (A : Option Addr) (cap : Nat) (bs : List Int) (w : World) (hA : Ints w w.heap.size A bs) (hok : RhOk N bs) :
    Calls Try.prog 20 #[.agg #[.int .i64 N, .slice A bs.length cap]] w fun e w' => e = .returned (.string (mkS (textF N bs (altF bs)))) ∧ Below w.heap.size w w' := by
  have hlen := hA.1
  unfold maxLen at hlen
  have hn1 : 1 ≤ N := by have := hok.1; omega
  have hn2 : N ≤ 24 := by have := hok.2.1; omega
  have hro := fun (V : World) (hV : Ints V V.heap.size A bs) => spec_RhythmOk_any N A cap bs V hV
  rw [rhB_iff.2 hok] at hro
  have HRO := Lib.hid hro
  have HA := Lib.hid hA
  clear hA hok hro
  have HW := Lib.hid ((Below.refl w.heap.size w).alloc (Nat.le_refl _) (.cells #[.int .i64 N, .slice A bs.length cap] 27))
  obtain ⟨c0, c1⟩ := box2 (Below.refl (w.heap.size + 1) (w.alloc (.cells #[.int .i64 N, .slice A bs.length cap] 27)))
  go_enter Try.func20, Try.ntmps20
  go_wp2_with fail
  refine (HRO.out _ (HA.out.lift HW.out)).mono ?_
  rintro e w0 ⟨rfl, hb0⟩
  have hb0' := (bcellB hb0).1
  have e0 := (hb0' w.heap.size 0 (by first | exact Nat.le_refl _ | (simp; done) | (simp; omega) | omega)).trans c0
  have e1 := (hb0' w.heap.size 1 (by first | exact Nat.le_refl _ | (simp; done) | (simp; omega) | omega)).trans c1
  have HW1 := Lib.hid (HW.out.trans (hb0.mono (by first | exact Nat.le_refl _ | (simp; done) | (simp; omega) | omega)))
  have HI := Lib.hid (HA.out.lift HW1.out)
  clear c0 c1 hb0 hb0'
  go_wp2_with fail
  go_loop [3, 4, 5] (fun s c p => ∃ (q : Nat) (u : ByteArray), q ≤ N ∧ p = .int .i64 q ∧ c = .int .i64 (cntB bs q) ∧ s = .string u ∧ Str u (tabL q (txF bs (altF bs)))) (fun _ _ p => N - (intOf p).toNat)
  case atStart => exact ⟨0, _, Nat.zero_le _, rfl, rfl, rfl, str_nil⟩
  case round =>
    obtain ⟨q, u, hq, rfl, rfl, rfl, hu⟩ := hrel
    by_cases hlt : q < N
    · have hsz := hu.size
      rw [tabL_len] at hsz
      have hsz' : u.size ≤ 1000 := by omega
      clear hsz
      have hs := tabL_succ q (txF bs (altF bs))
      have HH := fun V hV => spec_l02Has_any A cap bs (q : Int) V V.heap.size hV
      have hcl := cntB_le bs q
      cases hh : hasB bs (q : Int)
      · rw [show txF bs (altF bs) q = 46 by unfold txF; rw [hh]; rfl] at hs
        rw [hh] at HH
        have HS := Lib.hid hs
        have HHH := Lib.hid HH
        have HCN := Lib.hid (show cntB bs (q + 1) = cntB bs q by rw [cntB, hh]; first | done | rfl)
        clear hs HH hh
        go_wp2_with fail
        refine (HHH.out _ HI.out).mono ?_
        rintro e w' ⟨rfl, rfl⟩
        go_wp2_with fail
        go_round
        case rel => exact ⟨q + 1, _, by omega, by go_num, by rw [HCN.out]; first | done | rfl | go_num, rfl, by rw [HS.out]; exact hu.app (str_one _)⟩
        case measure => simp [intOf]; omega
      · by_cases hpar : cntB bs q % 2 = 0
        · rw [show txF bs (altF bs) q = 82 by unfold txF altF; rw [hh, if_pos rfl, if_pos hpar]] at hs
          rw [hh] at HH
          have HS := Lib.hid hs
          have HHH := Lib.hid HH
          have HCN := Lib.hid (show cntB bs (q + 1) = cntB bs q + 1 by rw [cntB, hh]; first | done | rfl)
          have hp : ((cntB bs q : Nat) : Int) % 2 = 0 := by omega
          clear hs HH hh hpar
          go_wp2_with fail
          refine (HHH.out _ HI.out).mono ?_
          rintro e w' ⟨rfl, rfl⟩
          go_wp2_with fail
          go_round
          case rel => exact ⟨q + 1, _, by omega, by go_num, by rw [HCN.out]; first | done | rfl | go_num, rfl, by rw [HS.out]; exact hu.app (str_one _)⟩
          case measure => simp [intOf]; omega
        · rw [show txF bs (altF bs) q = 76 by unfold txF altF; rw [hh, if_pos rfl, if_neg hpar]] at hs
          rw [hh] at HH
          have HS := Lib.hid hs
          have HHH := Lib.hid HH
          have HCN := Lib.hid (show cntB bs (q + 1) = cntB bs q + 1 by rw [cntB, hh]; first | done | rfl)
          have hp : ((cntB bs q : Nat) : Int) % 2 = 1 := by omega
          clear hs HH hh hpar
          go_wp2_with fail
          refine (HHH.out _ HI.out).mono ?_
          rintro e w' ⟨rfl, rfl⟩
          go_wp2_with fail
          go_round
          case rel => exact ⟨q + 1, _, by omega, by go_num, by rw [HCN.out]; first | done | rfl | go_num, rfl, by rw [HS.out]; exact hu.app (str_one _)⟩
          case measure => simp [intOf]; omega
    · have hqe : q = N := by omega
      subst hqe
      have HU := Lib.hid hu.eq
      clear hu
      go_wp2_with fail
      go_ret
      exact ⟨ret_str HU.out, HW1.out⟩

noncomputable def vAlternateText (n : Int) (bs : List Int) : List UInt8 := if rhB n bs = true then textF n.toNat bs (altF bs) else []

set_option maxRecDepth 100000 in
set_option maxHeartbeats 400000 in
theorem spec_AlternateText_any (n : Int) (A : Option Addr) (cap : Nat) (bs : List Int) (w : World) (hA : Ints w w.heap.size A bs) :
    Calls Try.prog 20 #[.agg #[.int .i64 n, .slice A bs.length cap]] w fun e w' => e = .returned (.string (mkS (vAlternateText n bs))) ∧ Below w.heap.size w w' := by
  cases h : rhB n bs
  · rw [show vAlternateText n bs = [] by unfold vAlternateText; rw [h]; rfl]
    have hro := fun (V : World) (hV : Ints V V.heap.size A bs) => spec_RhythmOk_any n A cap bs V hV
    rw [h] at hro
    have HRO := Lib.hid hro
    have HA := Lib.hid hA
    clear hA hro
    go_enter Try.func20, Try.ntmps20
    go_wp2_with fail
    refine (HRO.out _ (HA.out.lift (by repeat (first | exact Below.refl _ _ | assumption | (refine Below.alloc ?_ (by first | exact Nat.le_refl _ | (simp; done) | (simp; omega) | omega) _) | (refine Below.drew ?_) | (refine Below.setCell ?_ (by first | exact Nat.le_refl _ | (simp; done) | (simp; omega) | omega) _))))).mono ?_
    rintro e w1 ⟨rfl, hb⟩
    go_wp2_with fail
    go_ret
    exact ⟨rfl, ((Below.refl w.heap.size w).alloc (Nat.le_refl _) _).trans (hb.mono (by first | exact Nat.le_refl _ | (simp; done) | (simp; omega) | omega))⟩
  · have hok := rhB_iff.1 h
    rw [show vAlternateText n bs = textF n.toNat bs (altF bs) by unfold vAlternateText; rw [if_pos h]]
    obtain ⟨N, rfl⟩ := Int.eq_ofNat_of_zero_le (show 0 ≤ n by have := hok.1; omega)
    rw [Int.toNat_natCast]
    exact spec_AlternateText_ok N A cap bs w hA hok

set_option maxRecDepth 100000 in
set_option maxHeartbeats 400000 in
theorem impl_AlternateText_any (n : Int) (A : Option Addr) (cap : Nat) (bs : List Int) (w : World) (hn : Fits n) (hA : Ints w w.heap.size A bs) :
    Calls Try.prog 21 #[.agg #[.int .i64 n, .slice A bs.length cap]] w fun e w' => e = .returned (.string (mkS (vAlternateText n bs))) ∧ Below w.heap.size w w' := by
  cases h : rhB n bs
  · rw [show vAlternateText n bs = [] by unfold vAlternateText; rw [h]; rfl]
    have hro := fun (V : World) (hV : Ints V V.heap.size A bs) => impl_RhythmOk_any n A cap bs V hn hV
    rw [h] at hro
    have HRO := Lib.hid hro
    have HA := Lib.hid hA
    clear hA hro
    go_enter Try.func21, Try.ntmps21
    go_wp2_with fail
    refine (HRO.out _ (HA.out.lift (by repeat (first | exact Below.refl _ _ | assumption | (refine Below.alloc ?_ (by first | exact Nat.le_refl _ | (simp; done) | (simp; omega) | omega) _) | (refine Below.drew ?_) | (refine Below.setCell ?_ (by first | exact Nat.le_refl _ | (simp; done) | (simp; omega) | omega) _))))).mono ?_
    rintro e w1 ⟨rfl, hb⟩
    go_wp2_with fail
    go_ret
    exact ⟨rfl, ((Below.refl w.heap.size w).alloc (Nat.le_refl _) _).trans (hb.mono (by first | exact Nat.le_refl _ | (simp; done) | (simp; omega) | omega))⟩
  · have hok := rhB_iff.1 h
    rw [show vAlternateText n bs = textF n.toNat bs (altF bs) by unfold vAlternateText; rw [if_pos h]]
    obtain ⟨N, rfl⟩ := Int.eq_ofNat_of_zero_le (show 0 ≤ n by have := hok.1; omega)
    rw [Int.toNat_natCast]
    exact impl_AlternateText_ok N A cap bs w hA hok

set_option maxRecDepth 100000 in
set_option maxHeartbeats 1000000 in
theorem law_FnExactAlternateText_of (n : Int) (A : Option Addr) (cap : Nat) (bs : List Int)  (r : Value) (hr : ∃ x : ByteArray, r = .string x) (w : World) (hA : Ints w w.heap.size A bs)
    (hs : ∀ (A : Option Addr) (cap : Nat) (w : World), Ints w w.heap.size A bs → Calls Try.prog 20 #[.agg #[.int .i64 n, .slice A bs.length cap]] w fun e w' => e = .returned r ∧ Below w.heap.size w w')
    (hi : ∀ (A : Option Addr) (cap : Nat) (w : World), Ints w w.heap.size A bs → Calls Try.prog 21 #[.agg #[.int .i64 n, .slice A bs.length cap]] w fun e w' => e = .returned r ∧ Below w.heap.size w w') :
    Calls Try.prog 6 #[.agg #[.int .i64 n, .slice A bs.length cap]] w fun e w' => e = .returned (.bool true) ∧ Below w.heap.size w w' := by
  have hlen := hA.1
  have HA := Lib.hid hA
  have HS := Lib.hid hs
  have HI := Lib.hid hi
  clear hs hi hA
  obtain ⟨r, rfl⟩ := hr
  by_cases hbig : 1048576 < bs.length
  · have HL := Lib.hid hlen
    clear hlen
    go_enter Try.func6, Try.ntmps6
    go_wp2_with fail
    refine (szRhythm_big n A cap bs _ _ HL.out (by omega) (by omega) (by omega)).mono ?_
    rintro e w1 ⟨rfl, hb1⟩
    go_wp2_with fail
    go_ret
    exact ⟨rfl, ((Below.refl w.heap.size w).alloc (by first | exact Nat.le_refl _ | (simp; done) | (simp; omega) | omega) _).trans (hb1.mono (by first | exact Nat.le_refl _ | (simp; done) | (simp; omega) | omega))⟩
  · have hsm : bs.length ≤ 1048576 := by omega
    clear hbig hlen
    go_enter Try.func6, Try.ntmps6
    go_wp2_with fail
    refine (szRhythm_small n A cap bs _ _ (by omega) (by omega)).mono ?_
    rintro e w1 ⟨rfl, hb1⟩
    have hB1 := hb1.mono (B' := w.heap.size + 1) (by first | exact Nat.le_refl _ | (simp; done) | (simp; omega) | omega)
    have hW1 := ((Below.refl w.heap.size w).alloc (Nat.le_refl _) _).trans (hB1.mono (by omega))
    obtain ⟨hc0, hc1⟩ := box2 hB1
    have hz1 := hB1.size
    simp only [World.size_alloc] at hz1
    clear hb1
    go_wp2_with fail
    refine (toRhythm_any n A cap bs _ (HA.out.lift hW1) hsm).mono ?_
    rintro e w2 ⟨rfl, ht2, hb2⟩
    have hB2 := hB1.trans (hb2.mono (by omega))
    have hW2 := hW1.trans (hb2.mono (by omega))
    have hi2 := ht2.ints (B := w2.heap.size) ht2.1 HA.out.1 HA.out.2.1
    have HI2 := Lib.hid hi2
    clear hc0 hc1 ht2 hb2 hi2
    obtain ⟨hc0, hc1⟩ := box2 hB2
    have hz2 := hB2.size
    simp only [World.size_alloc] at hz2
    go_wp2_with fail
    refine (HS.out _ _ _ HI2.out).mono ?_
    rintro e w3 ⟨rfl, hb3⟩
    have hB3 := hB2.trans (hb3.mono (by omega))
    have hW3 := hW2.trans (hb3.mono (by omega))
    clear hc0 hc1 hb3 HI2
    obtain ⟨hc0, hc1⟩ := box2 hB3
    have hz3 := hB3.size
    simp only [World.size_alloc] at hz3
    go_wp2_with fail
    refine (toRhythm_any n A cap bs _ (HA.out.lift hW3) hsm).mono ?_
    rintro e w4 ⟨rfl, ht4, hb4⟩
    have hB4 := hB3.trans (hb4.mono (by omega))
    have hW4 := hW3.trans (hb4.mono (by omega))
    have hi4 := ht4.ints (B := w4.heap.size) ht4.1 HA.out.1 HA.out.2.1
    have HI4 := Lib.hid hi4
    clear hc0 hc1 ht4 hb4 hi4
    obtain ⟨hc0, hc1⟩ := box2 hB4
    have hz4 := hB4.size
    simp only [World.size_alloc] at hz4
    obtain ⟨g4, hg4⟩ : ∃ g, w3.heap.size + 3 = g := ⟨_, rfl⟩
    rw [hg4] at HI4 ⊢
    have HG := Lib.hid hg4
    clear hg4
    go_wp2_with fail
    refine (HI.out _ _ _ (HI4.out.lift (by repeat (first | exact Below.refl _ _ | assumption | (refine Below.alloc ?_ (by first | exact Nat.le_refl _ | (simp; done) | (simp; omega) | omega) _) | (refine Below.drew ?_) | (refine Below.setCell ?_ (by first | exact Nat.le_refl _ | (simp; done) | (simp; omega) | omega) _))))).mono ?_
    rintro e w6 ⟨rfl, hb6⟩
    have hb6' := hb6.mono (B' := w4.heap.size + 1) (by first | exact Nat.le_refl _ | (simp; done) | (simp; omega) | omega)
    have hB6 := (hB4.alloc hz4 _).trans (hb6'.mono (by omega))
    have hW6 := (hW4.alloc (by omega) _).trans (hb6'.mono (by omega))
    have hI6 := ((HI4.out.alloc (Nat.le_refl _) _).below (hb6'.mono (by omega))).mono (Nat.le_trans (Nat.le_succ _) (by have := hb6'.size; simpa using this))
    have HI6 := Lib.hid hI6
    obtain ⟨hd0, hd1⟩ := box2 hb6'
    clear hc0 hc1 hb6 hI6
    obtain ⟨hc0, hc1⟩ := box2 hB6
    have hz6 := hb6'.size
    simp only [World.size_alloc] at hz6
    have he := eqB_self bs
    go_wp2_with fail
    go_region_held3 (fun w' => w'.cell? ⟨w.heap.size, 0, none⟩ = some (.int .i64 n) ∧ w'.cell? ⟨w.heap.size, 1, none⟩ = some (.slice A bs.length cap) ∧ w'.cell? ⟨w4.heap.size, 0, none⟩ = some (.int .i64 n) ∧ w'.cell? ⟨w4.heap.size, 1, none⟩ = some (.slice (some ⟨g4, 0, none⟩) bs.length bs.length))
      (first
        | go_keep
        | (obtain ⟨hcc, _⟩ := bcellB hb7
           refine ⟨?_, ?_, ?_, ?_⟩ <;> (rw [hcc _ _ (by simp; omega)]; assumption))
        | (obtain ⟨hcc, _⟩ := bcellB (hb7.trans (hb8.mono (by have := hb7.size; omega)))
           refine ⟨?_, ?_, ?_, ?_⟩ <;> (rw [hcc _ _ (by simp; omega)]; assumption)))
      (first
        | (go_at_call 11; refine (toRhythm_any n A cap bs _ ((HA.out.lift hW6).drewN_ _) hsm).mono ?_; rintro e w7 ⟨rfl, ht7, hb7⟩)
        | (go_at_call 13; refine (eqRhythm_any n n _ _ _ _ bs bs _ ((HI6.out.drewN_ _).lift hb7) (ht7.ints ht7.1 HA.out.1 HA.out.2.1)).mono ?_; rintro e w8 ⟨rfl, hb8⟩))
    go_wp2_with fail
    go_ret
    have hW7 := (Below.drewN_ hW6 1).trans (hb7.mono (show w.heap.size ≤ (w6.drewN 1).heap.size from hW6.size))
    exact ⟨rfl, hW7.trans (hb8.mono hW7.size)⟩

theorem law_FnExactAlternateText {w : World} (n : Int) (A : Option Addr) (cap : Nat) (bs : List Int) (hn : Fits n) (hA : Ints w w.heap.size A bs) :
    Calls Try.prog 6 #[.agg #[.int .i64 n, .slice A bs.length cap]] w fun e w' => e = .returned (.bool true) ∧ Below w.heap.size w w' :=
  law_FnExactAlternateText_of n A cap bs _ ⟨_, rfl⟩ w hA (fun A cap w hA => spec_AlternateText_any n A cap bs w hA) (fun A cap w hA => impl_AlternateText_any n A cap bs w hn hA)

end Go.Proofs.Ytkjghamibjampaa
