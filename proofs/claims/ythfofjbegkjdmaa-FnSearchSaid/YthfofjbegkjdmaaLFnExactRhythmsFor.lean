/-
  The law FnExactRhythmsFor: RhythmsFor of both; the walk.
-/
import Derived.Test.YthfofjbegkjdmaaWished
import Derived.Test.YthfofjbegkjdmaaL25At
import Derived.Test.YthfofjbegkjdmaaMarkR
namespace Go.Proofs.Ythfofjbegkjdmaa
open Go.RowKit
set_option linter.unusedVariables false
set_option linter.unusedSimpArgs false

def rsB (n k lo hi : Int) (i : Nat) : List Int := psum 0 (wishL lo (width lo hi) k.toNat n i)
def rsP (n k lo hi : Int) (q : Nat) : List (Int × List Int) := (List.range q).map fun i => (n, rsB n k lo hi i)
theorem rsP_succ (n k lo hi : Int) (q : Nat) : rsP n k lo hi (q + 1) = rsP n k lo hi q ++ [(n, rsB n k lo hi q)] := by simp [rsP, List.range_succ]
theorem rsP_len (n k lo hi : Int) (q : Nat) : (rsP n k lo hi q).length = q := by simp [rsP]
def rsL (n k lo hi : Int) : List (Int × List Int) := if wishB n k lo hi = true ∧ n ≤ 12 then rsP n k lo hi (stN lo (width lo hi) k.toNat n).toNat else []
theorem rsL_no {n k lo hi : Int} (h : ¬ (wishB n k lo hi = true ∧ n ≤ 12)) : rsL n k lo hi = [] := by unfold rsL; rw [if_neg h]
theorem rsL_yes {n k lo hi : Int} (h : wishB n k lo hi = true) (h2 : n ≤ 12) {C : Nat} (hC : stN lo (width lo hi) k.toNat n = C) : rsL n k lo hi = rsP n k lo hi C := by
  unfold rsL; rw [if_pos ⟨h, h2⟩, hC, Int.toNat_natCast]

set_option maxRecDepth 100000 in
set_option maxHeartbeats 1000000 in
theorem impl_RhythmsFor_any (n k lo hi : Int) (w : World) :
    Calls Try.prog 6 #[.int .i64 n, .int .i64 k, .int .i64 lo, .int .i64 hi] w (RetRs w (rsL n k lo hi)) := by
  cases hw : wishB n k lo hi
  · rw [rsL_no (fun h => by rw [hw] at h; cases h.1)]
    go_enter Try.func6, Try.ntmps6
    go_wp2_with (go_at_call 11; refine (impl_WishOk_any _ _ _ _ _).mono ?_; rintro e w' ⟨rfl, rfl⟩)
    go_ret
    exact ⟨_, [], rfl, rfl, OwnR.nil _ _, Below.refl _ _⟩
  by_cases h12 : n ≤ 12
  rotate_left
  · rw [rsL_no (fun h => h12 h.2)]
    have h12' : 12 < n := by omega
    go_enter Try.func6, Try.ntmps6
    go_wp2_with (go_at_call 11; refine (impl_WishOk_any _ _ _ _ _).mono ?_; rintro e w' ⟨rfl, rfl⟩)
    go_ret
    exact ⟨_, [], rfl, rfl, OwnR.nil _ _, Below.refl _ _⟩
  obtain ⟨⟨hn1, hn16⟩, ⟨hk1, hkn⟩, ⟨hl1, hl16⟩, hlh, hh16⟩ := wishB_iff.1 hw
  obtain ⟨C, hC⟩ := Int.eq_ofNat_of_zero_le (stN_nonneg lo (width lo hi) k.toNat n)
  have hC1 : C ≤ 65536 := by have := stN_small lo (width lo hi) hl1 k.toNat n (by omega); omega
  rw [rsL_yes hw h12 hC]
  have hcs := fun V : World => impl_countSteps_any n k lo hi V (by omega) (by omega) (by omega) (by omega) hl1 hlh (by omega)
  rw [hC] at hcs
  have HCS := Lib.hid hcs
  have hwd := fun (q : Nat) (hq : q < C) (V : World) => impl_wished_any n k.toNat lo hi q V hn16 (by omega) hl1 hlh (by omega) (by omega) (by rw [hC]; omega)
  rw [Int.toNat_of_nonneg (by omega)] at hwd
  have HWD := Lib.hid (show ∀ (q : Nat), q < C → ∀ V : World, Calls Try.prog 34 #[.int .i64 n, .int .i64 k, .int .i64 lo, .int .i64 hi, .int .i64 q] V (RetRh1 V n (rsB n k lo hi q)) from hwd)
  have HWI := Lib.hid (fun V : World => hw ▸ impl_WishOk_any n k lo hi V)
  clear hcs hwd hC hw hn1 hn16 hk1 hkn hl1 hl16 hlh hh16
  go_enter Try.func6, Try.ntmps6
  go_wp2_with (first
    | (go_at_call 11; refine (HWI.out _).mono ?_; rintro e w' ⟨rfl, rfl⟩)
    | (go_at_call 33; refine (HCS.out _).mono ?_; rintro e w1 ⟨rfl, hb0⟩))
  have HB0 := Lib.hid hb0
  clear hb0
  go_loopw [9, 26] (fun so i wr => ∃ (q : Nat) (rs : List RV), q ≤ C ∧ i = .int .i64 q ∧ keyR rs = rsP n k lo hi q ∧ OwnR wr w.heap.size so rs ∧ Below w.heap.size w wr) (fun _ i _ => C - (intOf i).toNat)
  case atStart => exact ⟨0, [], Nat.zero_le _, rfl, rfl, OwnR.nil _ _, HB0.out⟩
  case round =>
    obtain ⟨q, rs, hq, rfl, hkey, hown, hbel⟩ := hrel
    obtain ⟨wo, rfl⟩ : ∃ wo : World, wo = wr := ⟨_, rfl⟩
    have hrl : rs.length = q := by rw [← keyR_len, hkey, rsP_len]
    have HK := Lib.hid hkey
    have HO := Lib.hid hown
    have HB := Lib.hid hbel
    have hwz := hbel.size
    obtain ⟨A1, c1, rfl⟩ := hown.form
    clear hkey hown hbel
    by_cases hlt : q < C
    · have HSU := Lib.hid (rsP_succ n k lo hi q)
      have HQ := Lib.hid (HWD.out q hlt)
      generalize rsB n k lo hi q = X at HSU HQ
      have HRL := Lib.hid hrl
      clear hrl
      go_wp2_with fail
      refine (HQ.out _).mono ?_
      rintro e w1 ⟨A2, c2, rfl, hrw, hb1⟩
      have hz1 := hb1.size
      obtain ⟨b, hL, hblt, hbne, hown1⟩ := HO.out.fresh hb1 hrw hwz ((Below.refl w1.heap.size w1).alloc (Nat.le_refl _) (.cells #[.int .i64 n, .slice A2 X.length c2] 29)) (by simp; omega) n c2
      have HL := Lib.hid hL
      have HLT := Lib.hid hblt
      have HNE := Lib.hid hbne
      have HO1 := Lib.hid hown1
      have HB1 := Lib.hid ((HB.out.trans (hb1.mono hwz)).alloc (by omega) (.cells #[.int .i64 n, .slice A2 X.length c2] 29))
      have HCC := Lib.hid (Cells2.new w1 (.int .i64 n) (.slice A2 X.length c2) 29)
      clear hL hblt hbne hown1 hb1 hrw
      go_wp2_with (at_builtin; refine wpList_append_rh rfl (.tmp 29) (.tmp 36) rfl w.heap.size _ rs rfl HO1.out w1.heap.size ⟨n, X, A2, c2, b⟩ (by rfl) ⟨HCC.out.1, HCC.out.2.1⟩ HL.out HLT.out HNE.out (by have := HRL.out; omega) (by simp; omega) ?_; intro v2 w2 hown2 hb2)
      have HO2 := Lib.hid hown2
      have HB2 := Lib.hid (HB1.out.trans hb2)
      clear hown2 hb2
      go_wp2_with fail
      go_roundw
      case rel => exact ⟨q + 1, rs ++ [⟨n, X, A2, c2, b⟩], by omega, by go_num, by rw [HSU.out, ← HK.out]; simp [keyR], HO2.out, HB2.out⟩
      case measure => simp [intOf]; omega
    · have hqe : q = C := by omega
      subst hqe
      clear hrl
      go_wp2_with fail
      go_ret
      exact ⟨_, rs, rfl, HK.out, HO.out, HB.out⟩

theorem psum_bnd : ∀ (l : List Int) (a : Int), (∀ x ∈ l, 0 ≤ x) → ∀ y ∈ psum a l, a ≤ y ∧ y ≤ a + sumL l
  | [], a, _, y, hy => by cases hy
  | s :: l, a, h, y, hy => by
    have hs := h s (by simp)
    have hsum := sumL_nonneg l (fun z hz => h z (by simp [hz]))
    have e : sumL (s :: l) = s + sumL l := rfl
    unfold psum at hy
    rcases List.mem_cons.1 hy with rfl | hy
    · omega
    · have := psum_bnd l (a + s) (fun z hz => h z (by simp [hz])) y hy
      omega
theorem rsL_len (n k lo hi : Int) : (rsL n k lo hi).length ≤ 65536 := by
  unfold rsL
  split
  · rename_i h
    obtain ⟨⟨hn1, hn16⟩, ⟨hk1, hkn⟩, ⟨hl1, hl16⟩, hlh, hh16⟩ := wishB_iff.1 h.1
    have := stN_small lo (width lo hi) hl1 k.toNat n (by omega)
    rw [rsP_len]; omega
  · simp
theorem rsL_fit (n k lo hi : Int) : ∀ p ∈ rsL n k lo hi, ∀ x ∈ p.2, Fits x := by
  unfold rsL
  split
  · rename_i h
    obtain ⟨⟨hn1, hn16⟩, ⟨hk1, hkn⟩, ⟨hl1, hl16⟩, hlh, hh16⟩ := wishB_iff.1 h.1
    intro p hp x hx
    unfold rsP at hp
    rw [List.mem_map] at hp
    obtain ⟨i, hi', rfl⟩ := hp
    rw [List.mem_range] at hi'
    have h0 := stN_nonneg lo (width lo hi) k.toNat n
    have hfit := wishL_fit lo (width lo hi) k.toNat n i (by omega) (by omega)
    have hsum := wishL_sum lo (width lo hi) k.toNat n i (by omega) (by omega)
    have := psum_bnd _ 0 (fun z hz => by have := hfit z hz; omega) x hx
    unfold Fits
    omega
  · intro p hp; cases hp

end Go.Proofs.Ythfofjbegkjdmaa
