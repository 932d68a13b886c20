/-
  The law FnExactRhythmsFor: RhythmsFor of both; the walk.
-/
import Derived.Test.YtkjghamibjampaaWished
import Derived.Test.YtkjghamibjampaaL25At
import Derived.Test.YtkjghamibjampaaMarkR
namespace Go.Proofs.Ytkjghamibjampaa
open Go.RowKit
set_option linter.unusedVariables false
set_option linter.unusedSimpArgs false

def rsB (n k lo hi : Int) (i : Nat) : List Int := psum 0 (wishL lo (width lo hi) k.toNat n i)
def rsP (n k lo hi : Int) (q : Nat) : List (Int × List Int) := (List.range q).map fun i => (n, rsB n k lo hi i)
theorem rsP_succ (n k lo hi : Int) (q : Nat) : rsP n k lo hi (q + 1) = rsP n k lo hi q ++ [(n, rsB n k lo hi q)] := by simp [rsP, List.range_succ]
theorem rsP_len (n k lo hi : Int) (q : Nat) : (rsP n k lo hi q).length = q := by simp [rsP]
def rsL (n k lo hi : Int) : List (Int × List Int) := if wishB n k lo hi = true ∧ n ≤ 12 then rsP n k lo hi (stN lo (width lo hi) k.toNat n).toNat else []
theorem rsL_no {n k lo hi : Int} (h : ¬ (wishB n k lo hi = true ∧ n ≤ 12)) : rsL n k lo hi = [] := by unfold rsL; rw [if_neg h]
theorem rsL_yes {n k lo hi : Int} (h : wishB n k lo hi = true) (h2 : n ≤ 12) {C : Nat} (hC : stN lo (width lo hi) k.toNat n = C) : rsL n k lo hi = rsP n k lo hi C := by
  unfold rsL; rw [if_pos ⟨h, h2⟩, hC, Int.toNat_natCast]

set_option maxRecDepth 100000 in
set_option maxHeartbeats 1000000 in
theorem impl_RhythmsFor_any (n k lo hi : Int) (w : World) :
    Calls Try.prog 25 #[.int .i64 n, .int .i64 k, .int .i64 lo, .int .i64 hi] w (RetRs w (rsL n k lo hi)) := by
  cases hw : wishB n k lo hi
  · rw [rsL_no (fun h => by rw [hw] at h; cases h.1)]
    go_enter Try.func25, Try.ntmps25
    go_wp2_with (go_at_call 51; refine (impl_WishOk_any _ _ _ _ _).mono ?_; rintro e w' ⟨rfl, rfl⟩)
    go_ret
    exact ⟨_, [], rfl, rfl, OwnR.nil _ _, Below.refl _ _⟩
  by_cases h12 : n ≤ 12
  rotate_left
  · rw [rsL_no (fun h => h12 h.2)]
    have h12' : 12 < n := by omega
    go_enter Try.func25, Try.ntmps25
    go_wp2_with (go_at_call 51; refine (impl_WishOk_any _ _ _ _ _).mono ?_; rintro e w' ⟨rfl, rfl⟩)
    go_ret
    exact ⟨_, [], rfl, rfl, OwnR.nil _ _, Below.refl _ _⟩
  obtain ⟨⟨hn1, hn16⟩, ⟨hk1, hkn⟩, ⟨hl1, hl16⟩, hlh, hh16⟩ := wishB_iff.1 hw
  obtain ⟨C, hC⟩ := Int.eq_ofNat_of_zero_le (stN_nonneg lo (width lo hi) k.toNat n)
  have hC1 : C ≤ 65536 := by have := stN_small lo (width lo hi) hl1 k.toNat n (by omega); omega
  rw [rsL_yes hw h12 hC]
  have hcs := fun V : World => impl_countSteps_any n k lo hi V (by omega) (by omega) (by omega) (by omega) hl1 hlh (by omega)
  rw [hC] at hcs
  have HCS := Lib.hid hcs
  have hwd := fun (q : Nat) (hq : q < C) (V : World) => impl_wished_any n k.toNat lo hi q V hn16 (by omega) hl1 hlh (by omega) (by omega) (by rw [hC]; omega)
  rw [Int.toNat_of_nonneg (by omega)] at hwd
  have HWD := Lib.hid (show ∀ (q : Nat), q < C → ∀ V : World, Calls Try.prog 53 #[.int .i64 n, .int .i64 k, .int .i64 lo, .int .i64 hi, .int .i64 q] V (RetRh1 V n (rsB n k lo hi q)) from hwd)
  have HWI := Lib.hid (fun V : World => hw ▸ impl_WishOk_any n k lo hi V)
  clear hcs hwd hC hw hn1 hn16 hk1 hkn hl1 hl16 hlh hh16
  go_enter Try.func25, Try.ntmps25
  go_wp2_with (first
    | (go_at_call 51; refine (HWI.out _).mono ?_; rintro e w' ⟨rfl, rfl⟩)
    | (go_at_call 52; refine (HCS.out _).mono ?_; rintro e w1 ⟨rfl, hb0⟩))
  have HB0 := Lib.hid hb0
  clear hb0
  go_loopw [9, 26] (fun so i wr => ∃ (q : Nat) (rs : List RV), q ≤ C ∧ i = .int .i64 q ∧ keyR rs = rsP n k lo hi q ∧ OwnR wr w.heap.size so rs ∧ Below w.heap.size w wr) (fun _ i _ => C - (intOf i).toNat)
  case atStart => exact ⟨0, [], Nat.zero_le _, rfl, rfl, OwnR.nil _ _, HB0.out⟩
  case round =>
    obtain ⟨q, rs, hq, rfl, hkey, hown, hbel⟩ := hrel
    obtain ⟨wo, rfl⟩ : ∃ wo : World, wo = wr := ⟨_, rfl⟩
    have hrl : rs.length = q := by rw [← keyR_len, hkey, rsP_len]
    have HK := Lib.hid hkey
    have HO := Lib.hid hown
    have HB := Lib.hid hbel
    have hwz := hbel.size
    obtain ⟨A1, c1, rfl⟩ := hown.form
    clear hkey hown hbel
    by_cases hlt : q < C
    · have HSU := Lib.hid (rsP_succ n k lo hi q)
      have HQ := Lib.hid (HWD.out q hlt)
      generalize rsB n k lo hi q = X at HSU HQ
      have HRL := Lib.hid hrl
      clear hrl
      go_wp2_with fail
      refine (HQ.out _).mono ?_
      rintro e w1 ⟨A2, c2, rfl, hrw, hb1⟩
      have hz1 := hb1.size
      obtain ⟨b, hL, hblt, hbne, hown1⟩ := HO.out.fresh hb1 hrw hwz ((Below.refl w1.heap.size w1).alloc (Nat.le_refl _) (.cells #[.int .i64 n, .slice A2 X.length c2] 27)) (by simp; omega) n c2
      have HL := Lib.hid hL
      have HLT := Lib.hid hblt
      have HNE := Lib.hid hbne
      have HO1 := Lib.hid hown1
      have HB1 := Lib.hid ((HB.out.trans (hb1.mono hwz)).alloc (by omega) (.cells #[.int .i64 n, .slice A2 X.length c2] 27))
      have HCC := Lib.hid (Cells2.new w1 (.int .i64 n) (.slice A2 X.length c2) 27)
      clear hL hblt hbne hown1 hb1 hrw
      go_wp2_with (at_builtin; refine wpList_append_rh rfl (.tmp 29) (.tmp 36) rfl w.heap.size _ rs rfl HO1.out w1.heap.size ⟨n, X, A2, c2, b⟩ (by rfl) ⟨HCC.out.1, HCC.out.2.1⟩ HL.out HLT.out HNE.out (by have := HRL.out; omega) (by simp; omega) ?_; intro v2 w2 hown2 hb2)
      have HO2 := Lib.hid hown2
      have HB2 := Lib.hid (HB1.out.trans hb2)
      clear hown2 hb2
      go_wp2_with fail
      go_roundw
      case rel => exact ⟨q + 1, rs ++ [⟨n, X, A2, c2, b⟩], by omega, by go_num, by rw [HSU.out, ← HK.out]; simp [keyR], HO2.out, HB2.out⟩
      case measure => simp [intOf]; omega
    · have hqe : q = C := by omega
      subst hqe
      clear hrl
      go_wp2_with fail
      go_ret
      exact ⟨_, rs, rfl, HK.out, HO.out, HB.out⟩

set_option maxRecDepth 100000 in
set_option maxHeartbeats 1000000 in
theorem spec_RhythmsFor_any (n k lo hi : Int) (w : World) :
    Calls Try.prog 24 #[.int .i64 n, .int .i64 k, .int .i64 lo, .int .i64 hi] w (RetRs w (rsL n k lo hi)) := by
  cases hw : wishB n k lo hi
  · rw [rsL_no (fun h => by rw [hw] at h; cases h.1)]
    go_enter Try.func24, Try.ntmps24
    go_wp2_with (go_at_call 47; refine (spec_WishOk_any _ _ _ _ _).mono ?_; rintro e w' ⟨rfl, rfl⟩)
    go_ret
    exact ⟨_, [], rfl, rfl, OwnR.nil _ _, Below.refl _ _⟩
  by_cases h12 : n ≤ 12
  rotate_left
  · rw [rsL_no (fun h => h12 h.2)]
    have h12' : 12 < n := by omega
    go_enter Try.func24, Try.ntmps24
    go_wp2_with (go_at_call 47; refine (spec_WishOk_any _ _ _ _ _).mono ?_; rintro e w' ⟨rfl, rfl⟩)
    go_ret
    exact ⟨_, [], rfl, rfl, OwnR.nil _ _, Below.refl _ _⟩
  obtain ⟨⟨hn1, hn16⟩, ⟨hk1, hkn⟩, ⟨hl1, hl16⟩, hlh, hh16⟩ := wishB_iff.1 hw
  obtain ⟨C, hC⟩ := Int.eq_ofNat_of_zero_le (stN_nonneg lo (width lo hi) k.toNat n)
  have hC1 : C ≤ 65536 := by have := stN_small lo (width lo hi) hl1 k.toNat n (by omega); omega
  rw [rsL_yes hw h12 hC]
  have hcs := fun V : World => spec_l25Count_any k.toNat k n lo hi V (by omega) (by omega) (by omega) (by omega) hl1 (by omega) hlh (by omega)
  rw [hC] at hcs
  have HCS := Lib.hid hcs
  have HWD := Lib.hid (fun (q : Nat) (hq : q < C) (V : World) => (Int.toNat_of_nonneg (show 0 ≤ k by omega)) ▸ spec_l25At_any n k.toNat lo hi q V hn16 (by omega) hl1 hlh (by omega) (by omega) (by rw [hC]; omega))
  have HFS := Lib.hid (fun (q : Nat) (hq : q < C) (A : Option Addr) (cap : Nat) (V : World) (hA : Ints V V.heap.size A (wishL lo (width lo hi) k.toNat n q)) =>
    show Calls Try.prog 49 #[.slice A (wishL lo (width lo hi) k.toNat n q).length cap, .int .i64 0] V (RetRh2 V n (rsB n k lo hi q) true) from
    have hwid : (width lo hi : Int) = hi + 1 - lo := by unfold width; omega
    have hfit := wishL_fit lo (width lo hi) k.toNat n q (by omega) (by rw [hC]; omega)
    have hsum := wishL_sum lo (width lo hi) k.toNat n q (by omega) (by rw [hC]; omega)
    have hll := wishL_len lo (width lo hi) k.toNat n q
    by
      have := spec_FromSteps_any A cap _ V hA (fun y hy => by have := hfit y hy; omega) (by omega) (by omega) (by omega)
      rw [hsum] at this
      exact this)
  have HWI := Lib.hid (fun V : World => hw ▸ spec_WishOk_any n k lo hi V)
  clear hcs hC hw hn1 hn16 hk1 hkn hl1 hl16 hlh hh16
  go_enter Try.func24, Try.ntmps24
  go_wp2_with (go_at_call 47; refine (HWI.out _).mono ?_; rintro e w' ⟨rfl, rfl⟩)
  have HB0 := Lib.hid ((Below.refl w.heap.size w).alloc (Nat.le_refl _) (.cells #[] 27))
  go_loopw [9, 10] (fun so i wr => ∃ (q : Nat) (rs : List RV), q ≤ C ∧ i = .int .i64 q ∧ keyR rs = rsP n k lo hi q ∧ OwnR wr w.heap.size so rs ∧ Below w.heap.size w wr) (fun _ i _ => C - (intOf i).toNat)
  case atStart => exact ⟨0, [], Nat.zero_le _, rfl, rfl, OwnR.empty_at _ _ _ rfl (Nat.le_refl _), HB0.out⟩
  case round =>
    obtain ⟨q, rs, hq, rfl, hkey, hown, hbel⟩ := hrel
    obtain ⟨wo, rfl⟩ : ∃ wo : World, wo = wr := ⟨_, rfl⟩
    have hrl : rs.length = q := by rw [← keyR_len, hkey, rsP_len]
    have HK := Lib.hid hkey
    have HO := Lib.hid hown
    have HB := Lib.hid hbel
    have hwz := hbel.size
    obtain ⟨A1, c1, rfl⟩ := hown.form
    clear hkey hown hbel
    by_cases hlt : q < C
    · have HSU := Lib.hid (rsP_succ n k lo hi q)
      have HQ := Lib.hid (HWD.out q hlt)
      have HF := Lib.hid (HFS.out q hlt)
      generalize rsB n k lo hi q = X at HSU HF
      generalize wishL lo (width lo hi) k.toNat n q = Y at HQ HF
      have HRL := Lib.hid hrl
      clear hrl
      go_wp2_with (go_at_call 48; refine (HCS.out _).mono ?_; rintro e w' ⟨rfl, rfl⟩)
      refine (HQ.out _).mono ?_
      rintro e w1 ⟨A5, c5, rfl, hi5, hb5⟩
      have HI5 := Lib.hid hi5
      have hz5 := hb5.size
      have HB5 := Lib.hid hb5
      clear hi5 hb5
      go_wp2_with fail
      refine (HF.out A5 c5 _ HI5.out).mono ?_
      rintro e w2 ⟨A2, c2, rfl, hrw, hb6⟩
      have hz2 := hb6.size
      have hb1 := HB5.out.trans (hb6.mono hz5)
      obtain ⟨b, hL, hblt, hbne, hown1⟩ := HO.out.fresh hb1 (hrw.mono hz5) hwz (((Below.refl w2.heap.size w2).alloc (Nat.le_refl _) (.cells #[.int .i64 n, .slice A2 X.length c2] 27)).alloc (by simp) (.cells #[.int .i64 n, .slice A2 X.length c2] 27)) (by simp; omega) n c2
      have HL := Lib.hid hL
      have HLT := Lib.hid hblt
      have HNE := Lib.hid hbne
      have HO1 := Lib.hid hown1
      have HB1 := Lib.hid (((HB.out.trans (hb1.mono hwz)).alloc (by omega) (.cells #[.int .i64 n, .slice A2 X.length c2] 27)).alloc (by simp; omega) (.cells #[.int .i64 n, .slice A2 X.length c2] 27))
      have HCC := Lib.hid (Cells2.new_at (w2.alloc (.cells #[.int .i64 n, .slice A2 X.length c2] 27)) (.int .i64 n) (.slice A2 X.length c2) 27 (w2.heap.size + 1) (by simp))
      obtain ⟨d0, d1, _, _, _⟩ := Cells2.new w2 (.int .i64 n) (.slice A2 X.length c2) 27
      clear hL hblt hbne hown1 hb1 hrw hb6
      go_wp2_with (at_builtin; refine wpList_append_rh rfl (.tmp 43) (.tmp 45) rfl w.heap.size _ rs rfl HO1.out (w2.heap.size + 1) ⟨n, X, A2, c2, b⟩ (by rfl) ⟨HCC.out.1, HCC.out.2.1⟩ HL.out HLT.out HNE.out (by have := HRL.out; omega) (by simp; omega) ?_; intro v2 w3 hown2 hb2)
      have HO2 := Lib.hid hown2
      have HB2 := Lib.hid (HB1.out.trans hb2)
      clear hown2 hb2
      go_wp2_with fail
      go_roundw
      case rel => exact ⟨q + 1, rs ++ [⟨n, X, A2, c2, b⟩], by omega, by go_num, by rw [HSU.out, ← HK.out]; simp [keyR], HO2.out, HB2.out⟩
      case measure => simp [intOf]; omega
    · have hqe : q = C := by omega
      subst hqe
      clear hrl
      go_wp2_with (go_at_call 48; refine (HCS.out _).mono ?_; rintro e w' ⟨rfl, rfl⟩)
      go_ret
      exact ⟨_, rs, rfl, HK.out, HO.out, HB.out⟩

theorem psum_bnd : ∀ (l : List Int) (a : Int), (∀ x ∈ l, 0 ≤ x) → ∀ y ∈ psum a l, a ≤ y ∧ y ≤ a + sumL l
  | [], a, _, y, hy => by cases hy
  | s :: l, a, h, y, hy => by
    have hs := h s (by simp)
    have hsum := sumL_nonneg l (fun z hz => h z (by simp [hz]))
    have e : sumL (s :: l) = s + sumL l := rfl
    unfold psum at hy
    rcases List.mem_cons.1 hy with rfl | hy
    · omega
    · have := psum_bnd l (a + s) (fun z hz => h z (by simp [hz])) y hy
      omega
theorem rsL_len (n k lo hi : Int) : (rsL n k lo hi).length ≤ 65536 := by
  unfold rsL
  split
  · rename_i h
    obtain ⟨⟨hn1, hn16⟩, ⟨hk1, hkn⟩, ⟨hl1, hl16⟩, hlh, hh16⟩ := wishB_iff.1 h.1
    have := stN_small lo (width lo hi) hl1 k.toNat n (by omega)
    rw [rsP_len]; omega
  · simp
theorem rsL_fit (n k lo hi : Int) : ∀ p ∈ rsL n k lo hi, ∀ x ∈ p.2, Fits x := by
  unfold rsL
  split
  · rename_i h
    obtain ⟨⟨hn1, hn16⟩, ⟨hk1, hkn⟩, ⟨hl1, hl16⟩, hlh, hh16⟩ := wishB_iff.1 h.1
    intro p hp x hx
    unfold rsP at hp
    rw [List.mem_map] at hp
    obtain ⟨i, hi', rfl⟩ := hp
    rw [List.mem_range] at hi'
    have h0 := stN_nonneg lo (width lo hi) k.toNat n
    have hfit := wishL_fit lo (width lo hi) k.toNat n i (by omega) (by omega)
    have hsum := wishL_sum lo (width lo hi) k.toNat n i (by omega) (by omega)
    have := psum_bnd _ 0 (fun z hz => by have := hfit z hz; omega) x hx
    unfold Fits
    omega
  · intro p hp; cases hp

set_option maxRecDepth 100000 in
set_option maxHeartbeats 1000000 in
theorem law_FnExactRhythmsFor_of (n k lo hi : Int) (L : List (Int × List Int)) (hL : L.length ≤ 65536) (w : World) (hf : ∀ p ∈ L, ∀ x ∈ p.2, Fits x)
    (hS : ∀ (w : World), Calls Try.prog 24 #[.int .i64 n, .int .i64 k, .int .i64 lo, .int .i64 hi] w (RetRs w L))
    (hI : ∀ (w : World), Calls Try.prog 25 #[.int .i64 n, .int .i64 k, .int .i64 lo, .int .i64 hi] w (RetRs w L)) :
    Calls Try.prog 8 #[.int .i64 n, .int .i64 k, .int .i64 lo, .int .i64 hi] w fun e w' => e = .returned (.bool true) ∧ Below w.heap.size w w' := by
  have HS := Lib.hid hS
  have HI := Lib.hid hI
  have HF := Lib.hid hf
  clear hS hI hf
  go_enter Try.func8, Try.ntmps8
  go_wp2_with fail
  refine (HS.out _).mono ?_
  rintro e w1 ⟨v1, rs1, rfl, hk1, ho1, hb1⟩
  obtain ⟨A1, c1, rfl⟩ := ho1.form
  have hl1 : rs1.length ≤ 65536 := by rw [← keyR_len, hk1]; exact hL
  have HD1 := Lib.hid (ho1.rd (by omega) (keyR_fit hk1 HF.out))
  have HK1 := Lib.hid hk1
  have HB1 := Lib.hid hb1
  have hz1 := hb1.size
  clear hk1 hb1 ho1
  go_wp2_with fail
  refine (HI.out _).mono ?_
  rintro e w2 ⟨v2, rs2, rfl, hk2, ho2, hb2⟩
  obtain ⟨A2, c2, rfl⟩ := ho2.form
  have hl2 : rs2.length ≤ 65536 := by rw [← keyR_len, hk2]; exact hL
  have HD2 := Lib.hid (ho2.rd (by omega) (keyR_fit hk2 HF.out))
  have HG2 := Lib.hid ho2.held
  have HAP := Lib.hid ho2.apart
  have HLN := Lib.hid ho2.lens
  have HK2 := Lib.hid hk2
  have HB2 := Lib.hid hb2
  have hz2 := hb2.size
  clear hk2 hb2 ho2
  go_wp2_with fail
  refine (eqRhythmS_same rs2 rs1 A2 A1 c2 c1 _ HD2.out (HD1.out.lift HB2.out) (HK2.out.trans HK1.out.symm)).mono ?_
  rintro e w3 ⟨rfl, hb3⟩
  have HB3 := Lib.hid (HB2.out.trans (hb3.mono (by omega)))
  have HG3 := Lib.hid (HG2.out.frm (Frm.pure hb3 (fun _ => False)) (fun _ _ _ h => h))
  have hz3 := hb3.size
  clear hb3
  go_wp2_with fail
  refine (markRhythmS_held A2 c2 rs2 1 w1.heap.size w2.heap.size _ _ _ (by omega) HLN.out HAP.out HG3.out (by omega) (by omega)).mono ?_
  rintro e w4 ⟨rfl, hg4, hf4⟩
  have HG4 := Lib.hid hg4
  have HB4 := Lib.hid (HB3.out.trans (hf4.below (B := w1.heap.size) (fun c h => h.1) (by omega)))
  have hz4 := hf4.size
  have hkm := kAt_le (k := 1) HLN.out rs2.length (Nat.le_refl _)
  obtain ⟨K, hK⟩ : ∃ K, kAt 1 rs2 rs2.length = K := ⟨_, rfl⟩
  rw [hK] at hkm
  have hkn : ¬ K < 0 := by omega
  have HKK := Lib.hid hK
  rw [hK]
  clear hg4 hf4 hK
  go_wp2_with fail
  refine (heldRhythmS_held A2 c2 rs2 1 w1.heap.size w2.heap.size _ (by omega) HLN.out HG4.out (by omega) (by omega)).mono ?_
  rintro e w5 ⟨rfl, hb5⟩
  have HB5 := Lib.hid (HB4.out.trans (hb5.mono (by omega)))
  have HG5 := Lib.hid (HG4.out.frm (Frm.pure hb5 (fun _ => False)) (fun _ _ _ h => h))
  have hz5 := hb5.size
  rw [HKK.out]
  clear hb5
  go_wp2_with fail
  refine (HI.out _).mono ?_
  rintro e w6 ⟨v6, rs6, rfl, hk6, ho6, hb6⟩
  obtain ⟨A6, c6, rfl⟩ := ho6.form
  have hl6 : rs6.length ≤ 65536 := by rw [← keyR_len, hk6]; exact hL
  have HD6 := Lib.hid (ho6.rd (by omega) (keyR_fit hk6 HF.out))
  have HK6 := Lib.hid hk6
  have HB6 := Lib.hid (HB5.out.trans (hb6.mono (by omega)))
  have HG6 := Lib.hid (HG5.out.frm (Frm.pure hb6 (fun _ => False)) (fun _ _ _ h => h))
  have hz6 := hb6.size
  clear hk6 hb6 ho6
  go_wp2_with fail
  refine (eqRhythmS_same rs6 rs1 A6 A1 c6 c1 _ HD6.out (HD1.out.lift HB6.out) (HK6.out.trans HK1.out.symm)).mono ?_
  rintro e w7 ⟨rfl, hb7⟩
  have HB7 := Lib.hid (HB6.out.trans (hb7.mono (by omega)))
  have HG7 := Lib.hid (HG6.out.frm (Frm.pure hb7 (fun _ => False)) (fun _ _ _ h => h))
  have hz7 := hb7.size
  clear hb7
  go_wp2_with fail
  refine (heldRhythmS_held A2 c2 rs2 1 w1.heap.size w2.heap.size _ (by omega) HLN.out HG7.out (by omega) (by omega)).mono ?_
  rintro e w8 ⟨rfl, hb8⟩
  have HW8 := Lib.hid (HB1.out.trans ((HB7.out.mono (by omega)).trans (hb8.mono (by omega))))
  rw [HKK.out]
  clear hb8
  go_wp2_with fail
  go_ret
  exact ⟨rfl, HW8.out⟩

theorem law_FnExactRhythmsFor {w : World} (n : Int) (_ : Fits n) (k : Int) (_ : Fits k) (lo : Int) (_ : Fits lo) (hi : Int) (_ : Fits hi) :
    Calls Try.prog 8 #[.int .i64 n, .int .i64 k, .int .i64 lo, .int .i64 hi] w fun e w' => e = .returned (.bool true) ∧ Below w.heap.size w w' :=
  law_FnExactRhythmsFor_of n k lo hi (rsL n k lo hi) (rsL_len n k lo hi) w (rsL_fit n k lo hi) (fun w => spec_RhythmsFor_any n k lo hi w) (fun w => impl_RhythmsFor_any n k lo hi w)

end Go.Proofs.Ytkjghamibjampaa
