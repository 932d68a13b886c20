/-
  The program's rhythm with a number.
-/
import Derived.Test.YthfofjbegkjdmaaPick
import Derived.Test.YthfofjbegkjdmaaImplCnt
import Derived.Test.YthfofjbegkjdmaaOwn
import Derived.Test.YthfofjbegkjdmaaCells
import Derived.Test.YthfofjbegkjdmaaRw
namespace Go.Proofs.Ythfofjbegkjdmaa
open Go.RowKit
set_option linter.unusedVariables false
set_option linter.unusedSimpArgs false

/-- What the outer loop knows. -/
def WishAt (n lo x0 : Int) (m k q : Nat) (at_ x : Int) (done : List Int) : Prop :=
  done.length = q ∧ at_ = sumL done ∧ wishL lo m k n x0 = done ++ wishL lo m (k - q) (n - at_) x ∧ 0 ≤ x ∧ x < stN lo m (k - q) (n - at_) ∧ (∀ y ∈ done, 1 ≤ y)
theorem WishAt.start {n lo x0 : Int} {m k : Nat} (h0 : 0 ≤ x0) (h : x0 < stN lo m k n) : WishAt n lo x0 m k 0 0 x0 [] :=
  ⟨rfl, rfl, by simp, h0, by simpa using h, fun y hy => by cases hy⟩
theorem WishAt.step {n lo x0 : Int} {m k q : Nat} {at_ x : Int} {done : List Int} (h : WishAt n lo x0 m k q at_ x done) (hq : q < k) (hlo : 1 ≤ lo) {j : Nat} {x' : Int} (hp : pk lo m (k - (q + 1)) (n - at_) m 0 x = (j, x')) :
    WishAt n lo x0 m k (q + 1) (at_ + (lo + j)) x' (done ++ [lo + j]) := by
  obtain ⟨h1, h2, h3, h4, h5, h6⟩ := h
  have e : k - q = k - (q + 1) + 1 := by omega
  rw [e] at h3 h5
  have hok := pk_ok h4 h5
  rw [hp] at hok
  refine ⟨by simp [h1], by rw [sumL_snoc, h2], ?_, hok.2.1, ?_, fun y hy => ?_⟩
  · rw [h3]
    rw [wishL_succ, hp, List.append_assoc]
    simp only [List.cons_append, List.nil_append]
    rw [show n - (at_ + (lo + (j : Int))) = n - at_ - (lo + j) by omega]
  · rw [show n - (at_ + (lo + (j : Int))) = n - at_ - (lo + j) by omega]
    exact hok.2.2
  · rcases List.mem_append.1 hy with hy | hy
    · exact h6 y hy
    · simp at hy; omega
theorem WishAt.sum {n lo x0 : Int} {m k q : Nat} {at_ x : Int} {done : List Int} (h : WishAt n lo x0 m k q at_ x done) (hlo : 0 ≤ lo) : 0 ≤ at_ ∧ at_ ≤ n := by
  obtain ⟨h1, h2, h3, h4, h5, h6⟩ := h
  refine ⟨by rw [h2]; exact sumL_nonneg _ fun y hy => by have := h6 y hy; omega, ?_⟩
  apply Classical.byContradiction
  intro hn
  rw [stN_neg lo m hlo _ _ (by omega)] at h5
  omega

set_option maxRecDepth 100000 in
set_option maxHeartbeats 2000000 in
theorem impl_wished_any (n : Int) (k : Nat) (lo hi x0 : Int) (w : World) (hn16 : n ≤ 16) (hk : k ≤ 16) (hlo : 1 ≤ lo) (hlh : lo ≤ hi) (h100 : hi ≤ 100) (h0 : 0 ≤ x0) (h : x0 < stN lo (width lo hi) k n) :
    Calls Try.prog 34 #[.int .i64 n, .int .i64 k, .int .i64 lo, .int .i64 hi, .int .i64 x0] w (RetRh1 w n (psum 0 (wishL lo (width lo hi) k n x0))) := by
  have hw : (width lo hi : Int) = hi + 1 - lo := by unfold width; omega
  have HW := Lib.hid hw
  have hst := WishAt.start h0 h
  have HST := Lib.hid hst
  have hn0 := (hst.sum (by omega)).2
  clear hw h hst
  go_enter Try.func34, Try.ntmps34
  go_wp2_with fail
  go_loopw [4, 12, 18] (fun sx sa si wr => ∃ (q : Nat) (a x : Int) (done : List Int) (v : Value), q ≤ k ∧ si = .int .i64 q ∧ sa = .int .i64 a ∧ sx = .int .i64 x ∧ WishAt n lo x0 (width lo hi) k q a x done ∧
      Cells2 wr (w.heap.size + 1) (.int .i64 n) v ∧ OwnI wr (w.heap.size + 2) v (psum 0 done) ∧ (∃ u1 u2, Cells2 wr w.heap.size u1 u2) ∧ Below w.heap.size w wr ∧ w.heap.size + 2 ≤ wr.heap.size) (fun _ _ si _ => k - (intOf si).toNat)
  case atStart =>
    refine ⟨0, 0, x0, [], .slice none 0 0, Nat.zero_le _, rfl, rfl, rfl, HST.out, Cells2.new_at _ _ _ _ _ (by simp), OwnI.nil _ _, ⟨_, _, (Cells2.new w _ _ _).alloc _⟩, ?_, by simp⟩
    exact ((Below.refl _ _).alloc (Nat.le_refl _) _).alloc (by first | exact Nat.le_refl _ | (simp; done) | (simp; omega) | omega) _
  case round =>
    obtain ⟨q, a, x, done, v, hq, rfl, rfl, rfl, hwish, hc2, hown, ⟨u1, u2, hc1⟩, hbel, hsz⟩ := hrel
    obtain ⟨wo, rfl⟩ : ∃ wo : World, wo = wr := ⟨_, rfl⟩
    have HDL := Lib.hid hwish.1
    have hple : (psum 0 done).length ≤ 16 := by rw [psum_len, HDL.out]; omega
    have hsum := hwish.sum (by omega)
    obtain ⟨ha0, han⟩ := hsum
    have HWI := Lib.hid hwish
    have HC2 := Lib.hid hc2
    have HC1 := Lib.hid hc1
    clear hwish
    by_cases hlt : q < k
    · obtain ⟨g0, g1, g2, g3, g4⟩ := HC2.out
      obtain ⟨A1, c1, rfl⟩ := hown.form
      go_wp2_with (at_builtin; refine wpList_append_int rfl _ _ rfl (w.heap.size + 2) _ (psum 0 done) rfl (hown.alloc _) _ _ rfl (cell_new1 _ _ _) (by omega) (by first | exact Nat.le_refl _ | (simp; done) | (simp; omega) | omega) ?_; intro v' w1 hown1 hg1; obtain ⟨A2, c2, rfl⟩ := hown1.form; obtain ⟨j0, j1, j2, j3, j4⟩ := (HC2.out.alloc (Obj.cells #[Value.int .i64 a] 3)).below hg1 (by omega))
      clear g0 g1 g2 g3 hown
      have hw1 : w.heap.size + 2 ≤ w1.heap.size := by have := hg1.size; simp only [World.size_alloc] at this; omega
      have HD2 := Lib.hid (Cells2.set1 (((HC2.out.alloc (Obj.cells #[Value.int .i64 a] 3)).below hg1 (by omega))) (.slice A2 (psum 0 done ++ [a]).length c2))
      have HD1 := Lib.hid (((HC1.out.alloc (Obj.cells #[Value.int .i64 a] 3)).below hg1 (by omega)).far (p := ⟨w.heap.size + 1, 1, none⟩) (by simp) (.slice A2 (psum 0 done ++ [a]).length c2))
      have HOW := Lib.hid (hown1.far (p := ⟨w.heap.size + 1, 1, none⟩) (by simp) (.slice A2 (psum 0 done ++ [a]).length c2))
      have HBW := Lib.hid ((((hbel.alloc (by omega) _).trans (hg1.mono (by omega))).setCell (p := ⟨w.heap.size + 1, 1, none⟩) (by simp) (.slice A2 (psum 0 done ++ [a]).length c2)))
      clear j0 j1 j2 j3 j4 hg1 hown1 hbel g4 hc2 hc1
      have hlen : (psum 0 done ++ [a]).length = (psum 0 done).length + 1 := by simp
      rw [hlen] at HD1 HD2 HOW HBW
      clear hlen
      generalize hWW : w1.setCell ⟨w.heap.size + 1, 1, none⟩ (.slice A2 ((psum 0 done).length + 1) c2) = W at HD1 HD2 HOW HBW ⊢
      have hWs : w.heap.size + 2 ≤ W.heap.size := by rw [← hWW]; simpa [World.setCell] using hw1
      clear hWW hw1
      obtain ⟨k', hk'⟩ : ∃ k', k - (q + 1) = k' := ⟨_, rfl⟩
      have HK' := Lib.hid hk'
      have hkk : ((k : Int) - 1 - q).toNat = k' := by omega
      have HKK := Lib.hid hkk
      have hst2 := HWI.out.2.2.2.2.1
      rw [show k - q = k' + 1 by omega] at hst2
      have HS2 := Lib.hid hst2
      have HX0 := Lib.hid HWI.out.2.2.2.1
      clear hk' hkk hst2
      go_loopw [4, 14] (fun sx ss wr => ∃ (j : Nat) (y s : Int), j ≤ width lo hi ∧ ss = .int .i64 s ∧ s = lo + j ∧ sx = .int .i64 y ∧ pk lo (width lo hi) k' (n - a) (width lo hi) 0 x = pk lo (width lo hi) k' (n - a) (width lo hi - j) j y ∧ 0 ≤ y ∧ y < restS lo (width lo hi) k' (n - a) j ∧ Below W.heap.size W wr) (fun _ ss _ => (hi + 1 - intOf ss).toNat)
      case atStart => exact ⟨0, x, lo, Nat.zero_le _, rfl, by omega, rfl, rfl, HX0.out, by rw [restS_zero]; exact HS2.out, Below.refl _ _⟩
      case round =>
        obtain ⟨j, y, s, hj, rfl, hs, rfl, hpk, hy0, hyr, hb2⟩ := hrel
        have hjm := restS_pos hj hy0 hyr
        have hshi : s ≤ hi := by have := HW.out; omega
        have hslo : lo ≤ s := by omega
        have HS := Lib.hid hs
        have HPK := Lib.hid hpk
        have HYR := Lib.hid hyr
        clear hs hpk hyr
        obtain ⟨c, hc⟩ : ∃ c, stN lo (width lo hi) k' (n - a - s) = c := ⟨_, rfl⟩
        have hcs : ∀ V : World, Calls Try.prog 33 #[.int .i64 (n - a - s), .int .i64 ((k : Int) - 1 - q), .int .i64 lo, .int .i64 hi] V fun e w' => e = .returned (.int .i64 c) ∧ Below V.heap.size V w' := by
          intro V
          have := impl_countSteps_any (n - a - s) ((k : Int) - 1 - q) lo hi V (by omega) (by omega) (by omega) (by omega) hlo hlh h100
          rwa [HKK.out, hc] at this
        have HCS := Lib.hid hcs
        have hc0 : 0 ≤ c := by rw [← hc]; exact stN_nonneg _ _ _ _
        have hc1 : c ≤ 65536 := by rw [← hc]; exact stN_small _ _ hlo _ _ (by omega)
        have hyb : y ≤ 65536 := by
          have h1 := HYR.out
          unfold restS at h1
          have h2 := stN_small lo (width lo hi) hlo (k' + 1) (n - a) (by omega)
          have h3 := (stS_bound lo (width lo hi) k' (n - a) hlo (by omega) j).1
          omega
        have HC := Lib.hid hc
        clear hcs hc
        by_cases hge : c ≤ y
        · go_wp2_with fail
          refine (HCS.out _).mono ?_
          rintro e w3 ⟨rfl, hb3⟩
          go_wp2_with fail
          refine (HCS.out _).mono ?_
          rintro e w4 ⟨rfl, hb4⟩
          go_wp2_with fail
          go_roundw
          case rel =>
            have e1 : n - a - s = n - a - (lo + j) := by have := HS.out; omega
            refine ⟨j + 1, y - c, s + 1, by omega, rfl, by have := HS.out; omega, rfl, ?_, by omega, ?_, ?_⟩
            · rw [HPK.out, show width lo hi - j = width lo hi - (j + 1) + 1 by omega, pk_go (by rw [← e1, HC.out]; exact hge), ← e1, HC.out]
            · rw [restS_succ, ← e1, HC.out]; have := HYR.out; omega
            · have hB3 := hb2.trans (hb3.mono hb2.size)
              exact hB3.trans (hb4.mono hB3.size)
          case measure => simp [intOf]; omega
        · go_wp2_with fail
          refine (HCS.out _).mono ?_
          rintro e w3 ⟨rfl, hb3⟩
          have hB3 := hb2.trans (hb3.mono hb2.size)
          go_wp2_with fail
          go_roundw
          case rel =>
            have e1 : n - a - s = n - a - (lo + j) := by have := HS.out; omega
            have hp : pk lo (width lo hi) (k - (q + 1)) (n - a) (width lo hi) 0 x = (j, y) := by
              rw [HK'.out, HPK.out, pk_stop (by rw [← e1, HC.out]; omega)]
            have hstep := HWI.out.step hlt hlo hp
            rw [← HS.out] at hstep
            refine ⟨q + 1, a + s, y, done ++ [s], _, by omega, by go_num, rfl, rfl, hstep, HD2.out.below hB3 (by omega), ?_, ⟨u1, u2, HD1.out.below hB3 (by omega)⟩, HBW.out.trans (hB3.mono (by omega)), by have := hB3.size; omega⟩
            have hps : psum 0 (done ++ [s]) = psum 0 done ++ [a] := by rw [psum_snoc, HWI.out.2.1, Int.zero_add]
            rw [hps]
            exact HOW.out.grown hB3
          case measure => simp [intOf]; omega
    · have hqk : q = k := by omega
      have hfin : psum 0 (wishL lo (width lo hi) k n x0) = psum 0 done := by
        rw [HWI.out.2.2.1, hqk, Nat.sub_self]
        simp [wishL]
      have HF := Lib.hid hfin
      obtain ⟨A1, c1, rfl⟩ := hown.form
      obtain ⟨g0, g1, g2, g3, g4⟩ := HC2.out
      obtain ⟨f0, f1, f2, f3, f4⟩ := HC1.out
      clear hfin hqk
      go_wp2_with fail
      refine bodyPost_ret (v := .agg #[.int .i64 n, .slice A1 (psum 0 done).length c1]) (by simp [results, Try.results34, go_sem, f0, f1]) rfl ?_
      rw [HF.out]
      refine ⟨A1, c1, rfl, ?_, ?_⟩
      · exact (((hown.far (p := ⟨w.heap.size, 0, none⟩) (by simp) _).far (p := ⟨w.heap.size, 1, none⟩) (by simp) _).rw_ (by omega)).mono (by omega)
      · exact (hbel.setCell (Nat.le_refl _) _).setCell (Nat.le_refl _) _

end Go.Proofs.Ythfofjbegkjdmaa
