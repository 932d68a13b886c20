/-
  IndexFor of both.
-/
import Derived.Test.YthfofjbegkjdmaaIsFor
import Derived.Test.YthfofjbegkjdmaaImplCnt
import Derived.Test.YthfofjbegkjdmaaSpecCnt
namespace Go.Proofs.Ythfofjbegkjdmaa
open Go.RowKit
set_option linter.unusedVariables false
set_option linter.unusedSimpArgs false

/-- How many choices lie below the j-th one. -/
def cntS (lo : Int) (m k : Nat) (n : Int) : Nat → Int
  | 0 => 0
  | j + 1 => cntS lo m k n j + stN lo m k (n - (lo + j))
theorem cntS_bound (lo : Int) (m k : Nat) (n : Int) (hlo : 1 ≤ lo) (hn : n ≤ 16) : ∀ j : Nat, 0 ≤ cntS lo m k n j ∧ cntS lo m k n j ≤ 65536 * j
  | 0 => by unfold cntS; omega
  | j + 1 => by
    have h1 := cntS_bound lo m k n hlo hn j
    have h2 := stN_nonneg lo m k (n - (lo + j))
    have h3 := stN_small lo m hlo k (n - (lo + j)) (by omega)
    unfold cntS
    omega
def ixL (lo : Int) (m : Nat) : List Int → Int → Int
  | [], _ => 0
  | s :: l, n => cntS lo m l.length n (s - lo).toNat + ixL lo m l (n - s)
noncomputable def idxI (n : Int) (bs : List Int) (lo hi : Int) : Int := if isForB n bs n bs.length lo hi then ixL lo (width lo hi) (stepsL n bs) n else -1

theorem isForB_iff {n : Int} {bs : List Int} {N k lo hi : Int} (h : isForB n bs N k lo hi = true) : wishB N k lo hi = true ∧ rhB n bs = true ∧ n = N ∧ (bs.length : Int) = k ∧ hasB bs 0 = true ∧ allB (stepsL n bs) lo hi = true := by
  unfold isForB at h
  simp only [Bool.and_eq_true, decide_eq_true_eq] at h
  exact h

theorem allB_at {xs : List Int} {lo hi : Int} (h : allB xs lo hi = true) {i : Nat} (hi' : i < xs.length) : lo ≤ xs.getD i 0 ∧ xs.getD i 0 ≤ hi := by
  unfold allB at h
  rw [List.all_eq_true] at h
  rw [List.getD_eq_getElem?_getD, List.getElem?_eq_getElem hi']
  exact inB_iff.1 (h _ (List.getElem_mem hi'))

theorem drop_cons {xs : List Int} {q : Nat} (h : q < xs.length) : xs.drop q = xs.getD q 0 :: xs.drop (q + 1) := by
  rw [List.drop_eq_getElem_cons h, List.getD_eq_getElem?_getD, List.getElem?_eq_getElem h]; rfl

/-- One round of the outer loop. -/
theorem ixL_step {lo : Int} {m : Nat} {xs : List Int} {q : Nat} {n s T acc : Int} (h : q < xs.length) (hs : xs.getD q 0 = s) (hT : acc + ixL lo m (xs.drop q) n = T) :
    acc + cntS lo m (xs.length - 1 - q) n (s - lo).toNat + ixL lo m (xs.drop (q + 1)) (n - s) = T := by
  rw [drop_cons h, hs] at hT
  unfold ixL at hT
  rw [List.length_drop, show xs.length - (q + 1) = xs.length - 1 - q by omega] at hT
  omega

set_option maxRecDepth 100000 in
set_option maxHeartbeats 1000000 in
theorem impl_IndexFor_any (n : Int) (A : Option Addr) (cap : Nat) (bs : List Int) (lo hi : Int) (w : World) (hn : Fits n) (hA : Ints w w.heap.size A bs) :
    Calls Try.prog 14 #[.agg #[.int .i64 n, .slice A bs.length cap], .int .i64 lo, .int .i64 hi] w fun e w' => e = .returned (.int .i64 (idxI n bs lo hi)) ∧ Below w.heap.size w w' := by
  have hlen := hA.1
  unfold maxLen at hlen
  have HA := Lib.hid hA
  have HIF := Lib.hid (fun (V : World) (hV : Ints V V.heap.size A bs) => impl_IsFor_any n A cap bs n bs.length lo hi V hn hV)
  have HE := Lib.hid (show idxI n bs lo hi = if isForB n bs n bs.length lo hi then ixL lo (width lo hi) (stepsL n bs) n else -1 from rfl)
  generalize idxI n bs lo hi = r at HE ⊢
  clear hA hn
  cases hb : isForB n bs n bs.length lo hi
  · rw [hb] at HIF HE
    go_enter Try.func14, Try.ntmps14
    go_wp2_with (go_at_call 13; refine (HIF.out _ (HA.out.lift (by repeat (first | exact Below.refl _ _ | assumption | (refine Below.alloc ?_ (by first | exact Nat.le_refl _ | (simp; done) | (simp; omega) | omega) _) | (refine Below.drew ?_) | (refine Below.setCell ?_ (by first | exact Nat.le_refl _ | (simp; done) | (simp; omega) | omega) _))))).mono ?_; rintro e w1 ⟨rfl, hb1⟩)
    go_ret
    exact ⟨ret_int (by rw [HE.out]; rfl), ((Below.refl w.heap.size w).alloc (by first | exact Nat.le_refl _ | (simp; done) | (simp; omega) | omega) _).trans (hb1.mono (by first | exact Nat.le_refl _ | (simp; done) | (simp; omega) | omega))⟩
  · obtain ⟨h1, h2, _, _, _, h6⟩ := isForB_iff hb
    obtain ⟨⟨hn1, hn16⟩, ⟨hk1, hkn⟩, ⟨hl1, hl16⟩, hlh, hh16⟩ := wishB_iff.1 h1
    have HOK := Lib.hid (rhB_iff.1 h2)
    have HALL := Lib.hid h6
    have hl3 : (stepsL n bs).length = bs.length := stepsL_len n bs
    have hl24 : bs.length ≤ 16 := by omega
    rw [hb] at HIF HE
    clear h1 h2 h6 hb hlen
    go_enter Try.func14, Try.ntmps14
    go_wp2_with (first
      | (go_at_call 13; refine (HIF.out _ (HA.out.lift (by repeat (first | exact Below.refl _ _ | assumption | (refine Below.alloc ?_ (by first | exact Nat.le_refl _ | (simp; done) | (simp; omega) | omega) _) | (refine Below.drew ?_) | (refine Below.setCell ?_ (by first | exact Nat.le_refl _ | (simp; done) | (simp; omega) | omega) _))))).mono ?_; rintro e w1 ⟨rfl, hb1⟩; have hb1' := ((Below.refl w.heap.size w).alloc (by first | exact Nat.le_refl _ | (simp; done) | (simp; omega) | omega) _).trans (hb1.mono (by first | exact Nat.le_refl _ | (simp; done) | (simp; omega) | omega)); obtain ⟨hc, hf⟩ := bcell hb1))
    go_quiet (fail)
    go_wp2_with (first
      | (go_at_call 40; refine (impl_steps_any n A cap bs _ ((HA.out.lift hb1').drewN_ _) HOK.out).mono ?_; rintro e w3 ⟨A3, c3, rfl, hi3, hb3⟩))
    have hbb := Below.drewN_ hb1 nq
    have HBX := Lib.hid (hbb.trans (hb3.mono hbb.size))
    have HW3 := Lib.hid ((Below.drewN_ hb1' nq).trans (hb3.mono (show w.heap.size ≤ (w1.drewN nq).heap.size from hb1'.size)))
    have HI3 := Lib.hid hi3
    clear hc hf hb1 hb1' hb3 hi3 hbb
    obtain ⟨m, hm⟩ : ∃ m, width lo hi = m := ⟨_, rfl⟩
    have HM := Lib.hid hm
    have HRT := Lib.hid (show ixL lo m ((stepsL n bs).drop 0) n = r by rw [HE.out, ← hm]; rfl)
    clear hm
    go_loopw [7, 8, 9, 10, 11, 27] (fun s7 s8 _ _ _ s27 wr => ∃ (q : Nat) (acc left : Int), q ≤ bs.length ∧ s27 = .int .i64 q ∧ s7 = .int .i64 acc ∧ s8 = .int .i64 left ∧ acc + ixL lo m ((stepsL n bs).drop q) left = r ∧ 0 ≤ acc ∧ acc ≤ 1048576 * q ∧ n - 16 * q ≤ left ∧ left ≤ n ∧ Below w3.heap.size w3 wr) (fun _ _ _ _ _ s27 _ => bs.length - (intOf s27).toNat)
    case atStart => exact ⟨0, 0, n, Nat.zero_le _, rfl, rfl, rfl, by rw [HRT.out]; omega, by omega, by omega, by omega, by omega, Below.refl _ _⟩
    case round =>
      obtain ⟨q, acc, left, hq, rfl, rfl, rfl, hT, ha0, ha1, hl0, hln, hbel⟩ := hrel
      have HT := Lib.hid hT
      clear hT
      by_cases hlt : q < bs.length
      · obtain ⟨b3, off3, rfl, hB3, hc3⟩ := HI3.out.2.2 (by omega)
        have hcell := hc3 q (by omega)
        rw [← hbel.cell (p := ⟨b3, off3 + q, none⟩) hB3] at hcell
        clear hc3
        obtain ⟨s, hs⟩ : ∃ s, (stepsL n bs).getD q 0 = s := ⟨_, rfl⟩
        rw [hs] at hcell
        have hsb := allB_at HALL.out (i := q) (by omega)
        rw [hs] at hsb
        obtain ⟨hs0, hs1⟩ := hsb
        have HS := Lib.hid hs
        clear hs
        go_wp2_with fail
        go_loopw [7, 11] (fun s7 s11 wr2 => ∃ (j : Nat) (x aj : Int), s11 = .int .i64 x ∧ s7 = .int .i64 aj ∧ x = lo + j ∧ x ≤ s ∧ aj = acc + cntS lo m (bs.length - 1 - q) left j ∧ Below w3.heap.size w3 wr2) (fun _ s11 _ => (s - intOf s11).toNat)
        case atStart => exact ⟨0, lo, acc, rfl, rfl, by omega, by omega, by unfold cntS; omega, hbel⟩
        case round =>
          obtain ⟨j, x, aj, rfl, rfl, hx, hxs, haj, hbel2⟩ := hrel
          obtain ⟨f0, f1⟩ := box2 ((HBX.out.trans (hbel2.mono HBX.out.size)).mono (B' := w.heap.size + 1) (by simp))
          have hcb := cntS_bound lo m (bs.length - 1 - q) left hl1 (by omega) j
          have haj0 : 0 ≤ aj := by omega
          have haj1 : aj ≤ 100000000 := by omega
          have hjx : (j : Int) ≤ 16 := by omega
          have HAJ := Lib.hid haj
          have HX := Lib.hid hx
          have hxlo : lo ≤ x := by omega
          have hxm : lo + j ≤ s := by omega
          clear haj hcb hx
          by_cases hxl : x < s
          · obtain ⟨c, hc⟩ : ∃ c, stN lo m (bs.length - 1 - q) (left - x) = c := ⟨_, rfl⟩
            have hcs : ∀ V : World, Calls Try.prog 33 #[.int .i64 (left - x), .int .i64 ((bs.length : Int) - 1 - q), .int .i64 lo, .int .i64 hi] V fun e w' => e = .returned (.int .i64 c) ∧ Below V.heap.size V w' := by
              intro V
              have := impl_countSteps_any (left - x) ((bs.length : Int) - 1 - q) lo hi V (by omega) (by omega) (by omega) (by omega) hl1 hlh (by omega)
              rw [show ((bs.length : Int) - 1 - q).toNat = bs.length - 1 - q by omega, HM.out, hc] at this
              exact this
            have HCS := Lib.hid hcs
            have hc0 : 0 ≤ c := by rw [← hc]; exact stN_nonneg _ _ _ _
            have hc1 : c ≤ 65536 := by rw [← hc]; exact stN_small _ _ hl1 _ _ (by omega)
            have HC := Lib.hid hc
            clear hcs hc
            go_wp2_with fail
            refine (HCS.out _).mono ?_
            rintro e w4 ⟨rfl, hb4⟩
            go_wp2_with fail
            go_roundw
            case rel =>
              refine ⟨j + 1, x + 1, aj + c, by go_num, by go_num, by have := HX.out; omega, by omega, ?_, hbel2.trans (hb4.mono hbel2.size)⟩
              show aj + c = acc + (cntS lo m (bs.length - 1 - q) left j + stN lo m (bs.length - 1 - q) (left - (lo + j)))
              rw [← HX.out, HC.out, HAJ.out]
              omega
            case measure => simp [intOf]; omega
          · go_wp2_with fail
            go_roundw
            case rel =>
              have hj : (s - lo).toNat = j := by have := HX.out; omega
              have hstep := ixL_step (m := m) (by rw [hl3]; exact hlt) HS.out HT.out
              rw [hl3, hj, ← HAJ.out] at hstep
              have hcb := cntS_bound lo m (bs.length - 1 - q) left hl1 (by omega) j
              exact ⟨q + 1, aj, left - s, by omega, by go_num, rfl, rfl, hstep, haj0, by have := HAJ.out; omega, by omega, by omega, hbel2⟩
            case measure => simp [intOf]; omega
      · have hqe : q = bs.length := by omega
        have HF := Lib.hid (show acc = r by have := HT.out; rw [List.drop_eq_nil_of_le (by omega)] at this; unfold ixL at this; omega)
        go_wp2_with fail
        go_ret
        exact ⟨ret_int HF.out, HW3.out.trans (hbel.mono HW3.out.size)⟩

end Go.Proofs.Ythfofjbegkjdmaa
