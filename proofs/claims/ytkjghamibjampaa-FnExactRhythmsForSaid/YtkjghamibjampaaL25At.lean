/-
  The reference's list of steps with a number; FromSteps of the reference; RhythmFor of both.
-/
import Derived.Test.YtkjghamibjampaaWished
namespace Go.Proofs.Ytkjghamibjampaa
open Go.RowKit
set_option linter.unusedVariables false
set_option linter.unusedSimpArgs false

set_option maxRecDepth 100000 in
set_option maxHeartbeats 2000000 in
theorem spec_l25At_any (n : Int) (k : Nat) (lo hi x0 : Int) (w : World) (hn16 : n ≤ 16) (hk : k ≤ 16) (hlo : 1 ≤ lo) (hlh : lo ≤ hi) (h100 : hi ≤ 100) (h0 : 0 ≤ x0) (h : x0 < stN lo (width lo hi) k n) :
    Calls Try.prog 50 #[.int .i64 n, .int .i64 k, .int .i64 lo, .int .i64 hi, .int .i64 x0] w fun e w' => ∃ A cap, e = .returned (.slice A (wishL lo (width lo hi) k n x0).length cap) ∧ Ints w' w'.heap.size A (wishL lo (width lo hi) k n x0) ∧ Below w.heap.size w w' := by
  have hw : (width lo hi : Int) = hi + 1 - lo := by unfold width; omega
  have HW := Lib.hid hw
  have hst := WishAt.start h0 h
  have HST := Lib.hid hst
  have hn0 := (hst.sum (by omega)).2
  have hfit := wishL_fit lo (width lo hi) k n x0 h0 h
  have HFIT := Lib.hid hfit
  clear hw h hst hfit
  go_enter Try.func50, Try.ntmps50
  go_wp2_with fail
  go_loopw [0, 1, 4, 11] (fun sn sk sx so wr => ∃ (q : Nat) (a x : Int) (done : List Int), q ≤ k ∧ sn = .int .i64 (n - a) ∧ sk = .int .i64 (k - q : Int) ∧ sx = .int .i64 x ∧ WishAt n lo x0 (width lo hi) k q a x done ∧
      OwnI wr w.heap.size so done ∧ Below w.heap.size w wr) (fun _ sk _ _ _ => (intOf sk).toNat)
  case atStart =>
    refine ⟨0, 0, x0, [], Nat.zero_le _, by rw [Int.sub_zero], by simp, rfl, HST.out, OwnI.empty_at _ _ _ rfl (Nat.le_refl _), (Below.refl _ _).alloc (Nat.le_refl _) _⟩
  case round =>
    obtain ⟨q, a, x, done, hq, rfl, rfl, rfl, hwish, hown, hbel⟩ := hrel
    obtain ⟨wo, rfl⟩ : ∃ wo : World, wo = wr := ⟨_, rfl⟩
    have HDL := Lib.hid hwish.1
    have hdle : done.length ≤ 16 := by rw [HDL.out]; omega
    have hsum := hwish.sum (by omega)
    obtain ⟨ha0, han⟩ := hsum
    have HWI := Lib.hid hwish
    have hosz := hbel.size
    obtain ⟨A1, c1, rfl⟩ := hown.form
    clear hwish
    by_cases hlt : q < k
    · have hpos : (0 : Int) < (k : Int) - q := by omega
      obtain ⟨k', hk'⟩ : ∃ k', k - (q + 1) = k' := ⟨_, rfl⟩
      have HK' := Lib.hid hk'
      have hk16 : k' ≤ 16 := by omega
      have hst2 := HWI.out.2.2.2.2.1
      rw [show k - q = k' + 1 by omega] at hst2
      have HS2 := Lib.hid hst2
      have HX0 := Lib.hid HWI.out.2.2.2.1
      have HKI := Lib.hid (show (k : Int) - q - 1 = (k' : Nat) by omega)
      clear hk' hst2
      go_wp2_with fail
      go_loop [4, 12] (fun sx ss => ∃ (j : Nat) (y s : Int), j ≤ width lo hi ∧ ss = .int .i64 s ∧ s = lo + j ∧ sx = .int .i64 y ∧ pk lo (width lo hi) k' (n - a) (width lo hi) 0 x = pk lo (width lo hi) k' (n - a) (width lo hi - j) j y ∧ 0 ≤ y ∧ y < restS lo (width lo hi) k' (n - a) j) (fun _ ss => (hi + 1 - intOf ss).toNat)
      case atStart => exact ⟨0, x, lo, Nat.zero_le _, rfl, by omega, rfl, rfl, HX0.out, by rw [restS_zero]; exact HS2.out⟩
      case round =>
        obtain ⟨j, y, s, hj, rfl, hs, rfl, hpk, hy0, hyr⟩ := hrel
        have hjm := restS_pos hj hy0 hyr
        have hshi : s ≤ hi := by have := HW.out; omega
        have hslo : lo ≤ s := by omega
        have HS := Lib.hid hs
        have HPK := Lib.hid hpk
        have HYR := Lib.hid hyr
        clear hs hpk hyr
        obtain ⟨c, hc⟩ : ∃ c, stN lo (width lo hi) k' (n - a - s) = c := ⟨_, rfl⟩
        have hcs : ∀ V : World, Calls Try.prog 48 #[.int .i64 (n - a - s), .int .i64 ((k : Int) - q - 1), .int .i64 lo, .int .i64 hi] V fun e w' => e = .returned (.int .i64 c) ∧ V = w' := by
          intro V
          have := spec_l25Count_any k' ((k : Int) - q - 1) (n - a - s) lo hi V HKI.out (by omega) (by omega) (by omega) hlo (by omega) hlh h100
          rwa [hc] at this
        have HCS := Lib.hid hcs
        have hc0 : 0 ≤ c := by rw [← hc]; exact stN_nonneg _ _ _ _
        have hc1 : c ≤ 65536 := by rw [← hc]; exact stN_small _ _ hlo _ _ (by omega)
        have hyb : y ≤ 65536 := by
          have h1 := HYR.out
          unfold restS at h1
          have h2 := stN_small lo (width lo hi) hlo (k' + 1) (n - a) (by omega)
          have h3 := (stS_bound lo (width lo hi) k' (n - a) hlo (by omega) j).1
          omega
        have HC := Lib.hid hc
        clear hcs hc
        by_cases hge : c ≤ y
        · go_wp2_with fail
          refine (HCS.out _).mono ?_
          rintro e w3 ⟨rfl, rfl⟩
          go_wp2_with fail
          refine (HCS.out _).mono ?_
          rintro e w4 ⟨rfl, rfl⟩
          go_wp2_with fail
          go_round
          case rel =>
            have e1 : n - a - s = n - a - (lo + j) := by have := HS.out; omega
            refine ⟨j + 1, y - c, s + 1, by omega, rfl, by have := HS.out; omega, rfl, ?_, by omega, ?_⟩
            · rw [HPK.out, show width lo hi - j = width lo hi - (j + 1) + 1 by omega, pk_go (by rw [← e1, HC.out]; exact hge), ← e1, HC.out]
            · rw [restS_succ, ← e1, HC.out]; have := HYR.out; omega
          case measure => simp [intOf]; omega
        · go_wp2_with fail
          refine (HCS.out _).mono ?_
          rintro e w3 ⟨rfl, rfl⟩
          go_wp2_with (at_builtin; refine wpList_append_int rfl _ _ rfl w.heap.size _ done rfl (hown.alloc _) _ _ rfl (cell_new1 _ _ _) (by omega) (by first | exact Nat.le_refl _ | (simp; done) | (simp; omega) | omega) ?_; intro v' w1 hown1 hg1; obtain ⟨A2, c2, rfl⟩ := hown1.form)
          go_roundw
          case rel =>
            have e1 : n - a - s = n - a - (lo + j) := by have := HS.out; omega
            have hp : pk lo (width lo hi) (k - (q + 1)) (n - a) (width lo hi) 0 x = (j, y) := by
              rw [HK'.out, HPK.out, pk_stop (by rw [← e1, HC.out]; omega)]
            have hstep := HWI.out.step hlt hlo hp
            rw [← HS.out] at hstep
            have hown2 := hown1
            refine ⟨q + 1, a + s, y, done ++ [s], by omega, ?_, ?_, rfl, hstep, ?_, (hbel.alloc hosz _).trans hg1⟩
            · rw [show n - (a + s) = n - a - s by omega]
            · rw [show (k : Int) - ((q + 1 : Nat) : Int) = k - q - 1 by omega]
            · simpa using hown1
          case measure => simp [intOf]; omega
    · have hqk : q = k := by omega
      have hfin : wishL lo (width lo hi) k n x0 = done := by
        rw [HWI.out.2.2.1, hqk, Nat.sub_self]
        simp [wishL]
      have HF := Lib.hid hfin
      clear hfin hqk
      go_wp2_with fail
      go_ret
      have hf := HFIT.out
      have hwd := HW.out
      rw [HF.out] at hf ⊢
      exact ⟨A1, c1, rfl, hown.ints (fun y hy => by have := hf y hy; exact ⟨by omega, by omega⟩), hbel⟩

/-- A rhythm and a bool, the rhythm's beats in memory of the call's own. -/

theorem sumL_take_le : ∀ (l : List Int) (k : Nat), (∀ x ∈ l, 1 ≤ x) → sumL (l.take k) ≤ sumL l
  | [], k, _ => by simp
  | x :: l, 0, h => by
    have h1 := sumL_nonneg (x :: l) (fun y hy => by have := h y hy; omega)
    exact h1
  | x :: l, k + 1, h => by
    have := sumL_take_le l k (fun y hy => h y (by simp [hy]))
    rw [List.take_succ_cons]
    show x + sumL (l.take k) ≤ x + sumL l
    omega
theorem take_snocI (l : List Int) (k : Nat) (h : k < l.length) : l.take (k + 1) = l.take k ++ [l.getD k 0] := by
  rw [List.take_succ_eq_append_getElem h]
  simp [List.getD_eq_getElem?_getD, h]

set_option maxRecDepth 100000 in
set_option maxHeartbeats 2000000 in
theorem spec_FromSteps_any (A : Option Addr) (cap : Nat) (xs : List Int) (w : World) (hA : Ints w w.heap.size A xs) (hf : ∀ x ∈ xs, 1 ≤ x ∧ x ≤ 24) (hs : sumL xs ≤ 24) (h0 : 0 < xs.length) (hl : xs.length ≤ 24) :
    Calls Try.prog 49 #[.slice A xs.length cap, .int .i64 0] w (RetRh2 w (sumL xs) (psum 0 xs) true) := by
  obtain ⟨b, off, rfl, hB, hc⟩ := hA.2.2 h0
  have HC := Lib.hid hc
  have hin : inB 0 0 (xs.getD (xs.length - 1) 0 - 1) = true := by
    have h1 := hf (xs.getD (xs.length - 1) 0) (by rw [List.getD_eq_getElem?_getD, List.getElem?_eq_getElem (by omega)]; exact List.getElem_mem _)
    exact inB_true ⟨Int.le_refl _, by omega⟩
  have HIN := Lib.hid hin
  have HF := Lib.hid hf
  have HS := Lib.hid (fun k => sumL_take_le xs k (fun x hx => (hf x hx).1))
  have HN := Lib.hid (fun k => sumL_nonneg (xs.take k) (fun x hx => by have := hf x (List.mem_of_mem_take hx); omega))
  have hsum0 := HN.out xs.length
  rw [List.take_length] at hsum0
  clear hA hc hin hf
  go_enter Try.func49, Try.ntmps49
  go_wp2_with fail
  go_loop [6, 15] (fun t i => ∃ q : Nat, q ≤ xs.length ∧ i = .int .i64 q ∧ t = .int .i64 (sumL (xs.take q))) (fun _ i => xs.length - (intOf i).toNat)
  case atStart => exact ⟨0, Nat.zero_le _, rfl, rfl⟩
  case round =>
    obtain ⟨q, hq, rfl, rfl⟩ := hrel
    have hle := HS.out q
    have hnn := HN.out q
    by_cases hlt : q < xs.length
    · have hcell := HC.out q hlt
      have hcell' : (w.alloc (.cells #[.int .i64 0, .slice none 0 0] 27)).cell? ⟨b, off + q, none⟩ = some (.int .i64 (xs.getD q 0)) := by rw [World.cell?_alloc_lt w _ _ hB]; exact hcell
      have hx := HF.out (xs.getD q 0) (by rw [List.getD_eq_getElem?_getD, List.getElem?_eq_getElem hlt]; exact List.getElem_mem _)
      have hsn := congrArg sumL (take_snocI xs q hlt)
      rw [sumL_snoc] at hsn
      obtain ⟨x, hxe⟩ : ∃ x, xs.getD q 0 = x := ⟨_, rfl⟩
      rw [hxe] at hcell hcell' hx hsn
      have HSN := Lib.hid hsn
      have hin := inB_true hx
      clear hxe hsn
      go_wp2_with (go_at_call 30; refine (l01In_any _ _ _ _).mono ?_; rintro e w' ⟨rfl, rfl⟩)
      go_round
      case rel => exact ⟨q + 1, by omega, by go_num, by rw [HSN.out]⟩
      case measure => simp [intOf]; omega
    · have hqe : q = xs.length := by omega
      rw [hqe, List.take_length]
      have hz : ((xs.length : Int) == 0) = false := beq_eq_false_iff_ne.2 (by omega)
      have hgt : decide (24 < sumL xs) = false := decide_eq_false (by omega)
      have hlast := HC.out (xs.length - 1) (by omega)
      have hlast' : (w.alloc (.cells #[.int .i64 0, .slice none 0 0] 27)).cell? ⟨b, off + (xs.length - 1), none⟩ = some (.int .i64 (xs.getD (xs.length - 1) 0)) := by rw [World.cell?_alloc_lt w _ _ hB]; exact hlast
      have hlx := HF.out (xs.getD (xs.length - 1) 0) (by rw [List.getD_eq_getElem?_getD, List.getElem?_eq_getElem (by omega)]; exact List.getElem_mem _)
      obtain ⟨y, hy⟩ : ∃ y, xs.getD (xs.length - 1) 0 = y := ⟨_, rfl⟩
      have hin := HIN.out
      rw [hy] at hlast hlast' hlx hin
      clear hy hqe hle hnn
      go_wp2_with (go_at_call 30; refine (l01In_any _ _ _ _).mono ?_; rintro e w' ⟨rfl, rfl⟩)
      clear hlast hlast' hlx hin hgt hz
      obtain ⟨S, hS⟩ : ∃ S, sumL xs = S := ⟨_, rfl⟩
      rw [hS] at hs hsum0 ⊢
      have HSS := Lib.hid hS
      clear hS
      go_loopw [10, 56] (fun sp si wr => ∃ (q : Nat) (v : Value), q ≤ xs.length ∧ si = .int .i64 q ∧ sp = .int .i64 (sumL (xs.take q)) ∧
        Cells2 wr (w.heap.size + 1) (.int .i64 S) v ∧ OwnI wr (w.heap.size + 2) v (psum 0 (xs.take q)) ∧ (∃ u1 u2, Cells2 wr w.heap.size u1 u2) ∧ Below w.heap.size w wr ∧ w.heap.size + 2 ≤ wr.heap.size) (fun _ si _ => xs.length - (intOf si).toNat)
      case atStart =>
        refine ⟨0, .slice none 0 0, Nat.zero_le _, rfl, rfl, Cells2.new_at _ _ _ _ _ (by simp), OwnI.nil _ _, ⟨_, _, (Cells2.new w _ _ _).alloc _⟩, ?_, by simp⟩
        exact ((Below.refl _ _).alloc (Nat.le_refl _) _).alloc (by first | exact Nat.le_refl _ | (simp; done) | (simp; omega) | omega) _
      case round =>
        obtain ⟨q, v, hq, rfl, rfl, hc2, hown, ⟨u1, u2, hc1⟩, hbel, hsz⟩ := hrel
        have hle := HS.out q
        rw [HSS.out] at hle
        have hnn := HN.out q
        have HC2 := Lib.hid hc2
        have HC1 := Lib.hid hc1
        have hple : (psum 0 (xs.take q)).length ≤ 24 := by rw [psum_len]; have := List.length_take_le q xs; omega
        obtain ⟨A1, c1, rfl⟩ := hown.form
        by_cases hlt : q < xs.length
        · obtain ⟨g0, g1, g2, g3, g4⟩ := HC2.out
          have hcell := (hbel.cell (p := ⟨b, off + q, none⟩) hB).trans (HC.out q hlt)
          have hx := HF.out (xs.getD q 0) (by rw [List.getD_eq_getElem?_getD, List.getElem?_eq_getElem hlt]; exact List.getElem_mem _)
          have hts := take_snocI xs q hlt
          have hsn := congrArg sumL hts
          rw [sumL_snoc] at hsn
          have hps := psum_snoc (xs.take q) 0 (xs.getD q 0)
          rw [← hts, Int.zero_add] at hps
          obtain ⟨x, hxe⟩ : ∃ x, xs.getD q 0 = x := ⟨_, rfl⟩
          rw [hxe] at hcell hx hsn
          have HSN := Lib.hid hsn
          have HPS := Lib.hid hps
          clear hxe hsn hps hts
          go_wp2_with (at_builtin; refine wpList_append_int rfl _ _ rfl (w.heap.size + 2) _ (psum 0 (xs.take q)) rfl (hown.alloc _) _ _ rfl (cell_new1 _ _ _) (by omega) (by first | exact Nat.le_refl _ | (simp; done) | (simp; omega) | omega) ?_; intro v' w1 hown1 hg1; obtain ⟨A2, c2, rfl⟩ := hown1.form; obtain ⟨j0, j1, j2, j3, j4⟩ := (HC2.out.alloc (Obj.cells #[Value.int .i64 (sumL (xs.take q))] 3)).below hg1 (by omega))
          have hw1 : w.heap.size + 2 ≤ w1.heap.size := by have := hg1.size; simp only [World.size_alloc] at this; omega
          have HD2 := (Cells2.set1 (((HC2.out.alloc (Obj.cells #[Value.int .i64 (sumL (xs.take q))] 3)).below hg1 (by omega))) (.slice A2 (psum 0 (xs.take q) ++ [sumL (xs.take q)]).length c2))
          have HD1 := (((HC1.out.alloc (Obj.cells #[Value.int .i64 (sumL (xs.take q))] 3)).below hg1 (by omega)).far (p := ⟨w.heap.size + 1, 1, none⟩) (by simp) (.slice A2 (psum 0 (xs.take q) ++ [sumL (xs.take q)]).length c2))
          have HOW := (hown1.far (p := ⟨w.heap.size + 1, 1, none⟩) (by simp) (.slice A2 (psum 0 (xs.take q) ++ [sumL (xs.take q)]).length c2))
          have HBW := ((((hbel.alloc (by omega) _).trans (hg1.mono (by omega))).setCell (p := ⟨w.heap.size + 1, 1, none⟩) (by simp) (.slice A2 (psum 0 (xs.take q) ++ [sumL (xs.take q)]).length c2)))
          have hlen : (psum 0 (xs.take q) ++ [sumL (xs.take q)]).length = (psum 0 (xs.take q)).length + 1 := by simp
          rw [hlen] at HD1 HD2 HOW HBW
          go_roundw
          case rel =>
            refine ⟨q + 1, _, by omega, by go_num, by rw [HSN.out], HD2, ?_, ⟨u1, u2, HD1⟩, HBW, by simpa [World.setCell] using hw1⟩
            rw [HPS.out]
            exact HOW
          case measure => simp [intOf]; omega
        · have hqe : q = xs.length := by omega
          have HQ := Lib.hid hqe
          clear hqe
          obtain ⟨g0, g1, g2, g3, g4⟩ := HC2.out
          obtain ⟨f0, f1, f2, f3, f4⟩ := HC1.out
          go_wp2_with fail
          have hfin : psum 0 (xs.take q) = psum 0 xs := by rw [HQ.out, List.take_length]
          rw [hfin] at hown hple g1 ⊢
          refine bodyPost_ret (v := .tuple #[.agg #[.int .i64 S, .slice A1 (psum 0 xs).length c1], .bool true]) (by simp [results, Try.results49, go_sem, f0, f1]) rfl ?_
          rw [HSS.out]
          refine ⟨A1, c1, rfl, ?_, ?_⟩
          · exact (((hown.far (p := ⟨w.heap.size, 0, none⟩) (by simp) _).far (p := ⟨w.heap.size, 1, none⟩) (by simp) _).rw_ (by omega)).mono (by omega)
          · exact (hbel.setCell (Nat.le_refl _) _).setCell (Nat.le_refl _) _

end Go.Proofs.Ytkjghamibjampaa
