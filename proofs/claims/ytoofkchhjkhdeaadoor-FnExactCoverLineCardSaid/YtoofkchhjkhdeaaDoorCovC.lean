/-
  The search for covers, by the program: the closure that calls itself.
-/
import Derived.Test.YtoofkchhjkhdeaaDoorCovB
namespace Go.Proofs.YtoofkchhjkhdeaaDoor
open Go.RowKit Go.Shelf
set_option linter.unusedVariables false
set_option linter.unusedSimpArgs false

set_option maxRecDepth 100000 in
set_option maxHeartbeats 4000000 in
theorem impl_covers1_any (A : Option Addr) (cap : Nat) (xs : List Int) (n kinds base qn qo qk qp qx : Nat) (hp : patB xs = true) (hn : n ≤ 24) (hkd : kinds = if mirL xs = xs then 1 else 2) :
    ∀ (f t s T : Nat) (l : List Nat) (v vo : Value) (rs : List SV) (w : World), n + 1 ≤ f + (t + stN (n - t) s) → t ≤ n → s < 2 ^ (n - t) → TS T t s → l.length + f ≤ 1000 → (∀ x ∈ l, x < 100) → rs.length + 2 ^ f ≤ 100000000 →
      OwnI w base v (castN l) → CovE w base qn qo qk qp qx A cap xs n kinds → OutC w base qo vo rs v.ownBlock →
      Calls Tryd.prog 31 #[v, .int .i64 T, .pointer (some ⟨qn, 0, none⟩), .pointer (some ⟨qo, 0, none⟩), .pointer (some ⟨qk, 0, none⟩), .pointer (some ⟨qp, 0, none⟩), .pointer (some ⟨qx, 0, none⟩)] w fun e w' => e = .returned (.tuple #[]) ∧ CovR w base qo v vo rs l (covL n (patM xs) (patM (mirL xs)) f t s) w' := by
  have HKD := Lib.hid hkd
  clear hkd
  intro f
  induction f with
  | zero => intro t s T l v vo rs w h1; have := stN_le (n - t) s; intro h2; omega
  | succ f ih =>
    intro t s T l v vo rs w hf ht hs hT hll hl100 hrl hown hE hO
    have HIH := Lib.hid (fun t s T l v vo rs w h1 h2 h3 h4 h5 h6 h7 h8 h9 h10 => ih t s T l v vo rs w h1 h2 h3 h4 h5 h6 h7 h8 h9 h10)
    clear ih
    have hT24 : T < 2 ^ 24 := Nat.lt_of_lt_of_le (hT.lt ht hs) (Nat.pow_le_pow_right (by decide) hn)
    have hkl := stN_le (n - t) s
    have hT' := hT.strip (d := n - t)
    have hs' := strip_lt (k := stN (n - t) s) (show t + stN (n - t) s ≤ n by omega) hs
    have hzz := stN_zero (n - t) s
    have hTL := hT.lt ht hs
    obtain ⟨m, hm⟩ : ∃ m, t + stN (n - t) s = m := ⟨_, rfl⟩
    obtain ⟨s1, hs1⟩ : ∃ s1, s / 2 ^ stN (n - t) s = s1 := ⟨_, rfl⟩
    rw [hm, hs1] at hT' hs'
    have hmn : m ≤ n := by omega
    have hbj : ∀ j, j < m → T.testBit j = true := fun j hj => by rw [hT' j]; simp [hj]
    have hbm : T.testBit m = false := by
      by_cases e : m = n
      · exact Nat.testBit_lt_two_pow (by rw [e]; exact hTL)
      · rw [hT m, ← hm]
        simp only [show ¬ t + stN (n - t) s < t by omega, decide_false, Bool.false_or, Nat.add_sub_cancel_left]
        exact hzz (by omega)
    have hctz := ctz_free hT24 hbj hbm (by omega)
    have HTZ := Lib.hid (fun V h => bits_TrailingZerosC (2 ^ 64 - 1 - T) (by omega) V h)
    have hxo := xor_ones T hT24
    rw [hctz] at HTZ
    obtain ⟨U, hU⟩ : ∃ U, 2 ^ 64 - 1 - T = U := ⟨_, rfl⟩
    rw [hU] at HTZ hxo
    have hsg : IntKind.i64.signed = true := rfl
    clear hU
    have hlf0 : ∀ x ∈ castN l, Fits x := fun x hx => by
      obtain ⟨y, hy, rfl⟩ := List.mem_map.1 hx
      have := hl100 y hy
      unfold Fits
      show _ ≤ ((y : Nat) : Int) ∧ ((y : Nat) : Int) ≤ _
      omega
    have HLH := Lib.hid hl100
    have HX := Lib.hid hown
    have HE := Lib.hid hE
    have HO := Lib.hid hO
    have HLB := Lib.hid (hown.lt)
    obtain ⟨A1, c1, rfl⟩ := hown.form
    have hcn := hE.cn
    have hck := hE.ck
    have hcp := hE.cp
    have hcx := hE.cx
    have hco := hO.cell
    have hfo := hO.froz
    clear hown hE hO hctz hl100
    go_enter Tryd.func31, Tryd.ntmps31
    go_wp2_with fail
    refine (HTZ.out _ HE.out.deb).mono ?_
    rintro e w' ⟨rfl, hw'⟩
    obtain rfl := hw'.symm
    have HLF := Lib.hid hlf0
    clear hlf0
    by_cases hme : m = n
    · have HLE := Lib.hid (covL_end (a := patM xs) (b := patM (mirL xs)) (f := f) (hm.trans hme))
      have hmd : ((m : Int) == (n : Int)) = true := by rw [hme]; simp
      clear hme hbj hbm hs' hT' hzz hs hT hTL
      go_wp2_with fail
      have HE0 := Lib.hid HE.out.size
      have HBW := Lib.hid (Below.drew5_ (Below.refl w.heap.size w))
      have HE := Lib.hid (HE.out.below HBW.out)
      have HO := Lib.hid (HO.out.below HBW.out)
      have HX := Lib.hid HX.out.drew
      (refine wp_region_held_drew (S := (fun _ => True)) (by kernel_rfl) ?_ (fun hHeld => ?_); (focus ((try dsimp only); all_goals trivial)))
      have HWS := Lib.hid (show w.drew.heap.size = w.heap.size from rfl)
      generalize w.drew = wg at *
      have hco := HO.out.cell
      have hfo := HO.out.froz
      have HVL := Lib.hid (HO.out.own.lt)
      (refine wpAnyH_take (i := 1) (v := ?_) rfl (by kernel_rfl) (by kernel_rfl) (by kernel_rfl) (fun _ _ _ h => h) (Or.inl ⟨by rfl, ?_⟩) (by assumption) ?_; rotate_left; (focus (intro wS hSw; (try dsimp only at hSw); go_simp; (try with_reducible rfl))); (try simp only [Act.put, List.getElem_toArray, List.getElem_cons_zero, List.getElem_cons_succ, List.setIfInBounds_toArray, List.set_cons_zero, List.set_cons_succ]))
      refine wpAnyH_ready (rs := [0, 2]) (by kernel_rfl) (by simp) ?_
      refine AllReadyH.cons rfl (fun K hK => ?_) (AllReadyH.cons rfl (fun K hK => ?_) AllReadyH.nil)
      · go_simp
        (refine hK.out _ _ ?_ (fun hHeld2 => ?_); (focus ((try dsimp only); all_goals trivial)); (clear hK K); (try simp only [Act.put, List.getElem_toArray, List.getElem_cons_zero, List.getElem_cons_succ, List.setIfInBounds_toArray, List.set_cons_zero, List.set_cons_succ]))
        (refine wpAnyH_ready (rs := [2]) (by kernel_rfl) (by simp) ?_; refine AllReadyH.cons rfl (fun K hK => ?_) AllReadyH.nil; go_simp)
        go_at_call 33
        refine (clone_intsC A1 c1 (castN l) _ (HX.out.ints HLF.out) (by rw [castN_len]; omega)).mono ?_
        rintro e w2 ⟨v2, rfl, hown2, hb2⟩
        obtain ⟨A2, c2, rfl⟩ := hown2.form
        have HE := Lib.hid (HE.out.below hb2)
        have HO := Lib.hid (HO.out.below hb2)
        have HX := Lib.hid (HX.out.grown hb2)
        have HBW := Lib.hid (HBW.out.trans (hb2.mono (by have := HWS.out; omega)))
        have HNL := Lib.hid (show ∀ b off t, A2 = some ⟨b, off, t⟩ → w.heap.size ≤ b ∧ b < w2.heap.size from fun b off t e => by
          have := hown2.lt b (by rw [e]; rfl)
          have := HWS.out
          omega)
        have HRD := Lib.hid (show (⟨castN l, A2, c2⟩ : SV).Rd w2 vo.ownBlock from ⟨hown2.capC, hown2.ints HLF.out, fun _ b off t e hh => by
          have h1 := hown2.lt b (by rw [show A2 = some ⟨b, off, t⟩ from e]; rfl)
          have h2 := HVL.out b hh
          omega⟩)
        clear hown2 hb2 hco hfo
        have hco := HO.out.cell
        have hfo := HO.out.froz
        go_wp2_with fail
        (refine hK.out _ _ ?_ (fun hHeld2 => ?_); (focus ((try dsimp only); all_goals trivial)); (clear hK K); (try simp only [Act.put, List.getElem_toArray, List.getElem_cons_zero, List.getElem_cons_succ, List.setIfInBounds_toArray, List.set_cons_zero, List.set_cons_succ]))
        (refine wpAnyH_ready (rs := [3]) (by kernel_rfl) (by simp) ?_; refine AllReadyH.cons rfl (fun K hK => ?_) AllReadyH.nil; go_simp)
        have hb3 := (Below.refl w2.heap.size w2).alloc (Nat.le_refl _) (.cells #[.slice A2 (castN l).length c2] 22)
        have hgc := cell_new1 w2 (.slice A2 (castN l).length c2) 22
        have HE := Lib.hid (HE.out.below hb3)
        have HO := Lib.hid (HO.out.below hb3)
        have HX := Lib.hid (HX.out.grown hb3)
        have HBW := Lib.hid (HBW.out.trans (hb3.mono HBW.out.size))
        have HRD := Lib.hid (HRD.out.lift hb3)
        have hz3 : w2.heap.size ≤ (w2.alloc (.cells #[.slice A2 (castN l).length c2] 22)).heap.size := hb3.size
        clear hb3 hco hfo
        have hco := HO.out.cell
        have hfo := HO.out.froz
        have HGC := Lib.hid hgc
        clear hgc
        (refine hK.out _ _ ?_ (fun hHeld2 => ?_); (focus ((try dsimp only); all_goals trivial)); (clear hK K); (try simp only [Act.put, List.getElem_toArray, List.getElem_cons_zero, List.getElem_cons_succ, List.setIfInBounds_toArray, List.set_cons_zero, List.set_cons_succ]))
        generalize w2.alloc (.cells #[.slice A2 (castN l).length c2] 22) = w3 at *
        refine wpAnyH_ready (rs := [4]) (by kernel_rfl) (by simp) ?_
        refine AllReadyH.cons rfl (fun K hK => ?_) AllReadyH.nil
        refine step_append_rowsC (by rfl) _ _ (by rfl) base _ rs (by rfl) HO.out.own w2.heap.size 0 1 [⟨castN l, A2, c2⟩] (by rfl) (fun i hi => by
          have h0 : i = 0 := by simp at hi; omega
          subst h0
          exact HGC.out) (fun r hr => by rw [List.mem_singleton] at hr; subst hr; exact HRD.out) (by simp) (by have := Nat.two_pow_pos (f + 1); simp; omega) HO.out.size ?_
        intro v4 w4 hown4 hgr4 hat4
        obtain ⟨A4, c4, rfl⟩ := hown4.form
        have hl4 : (rs ++ [(⟨castN l, A2, c2⟩ : SV)]).length = rs.length + 1 := by simp
        rw [hl4] at hown4 hat4 ⊢
        clear hl4
        have hf4 : Frm (fun c => vo.ownBlock = some c) w3 w4 := ⟨hgr4.os, hgr4.tape, hgr4.output, hgr4.size, fun c hc hS => hgr4.block c hc (fun e => hS e.symm)⟩
        have hqv : ¬ vo.ownBlock = some qo := fun e => by have := (HO.out.own.lt _ e).1; have := HO.out.lt; omega
        have hql := Nat.lt_of_lt_of_le HO.out.lt HO.out.size
        clear hco hfo
        have hco := (hf4.cell (o := 0) hql hqv).trans HO.out.cell
        have hfo := (hf4.frozen (o := 0) hql hqv).trans HO.out.froz
        have HFIN := Lib.hid (cov_emit HO.out HX.out HBW.out (fun k e => (HLB.out k e).2) (fun _ b off t e => by have := HNL.out b off t e; omega) hown4 hgr4 hat4 HE0.out)
        clear hf4 hqv hql hown4 hgr4 hat4
        (try simp only [Act.put, List.getElem_toArray, List.getElem_cons_zero, List.getElem_cons_succ, List.setIfInBounds_toArray, List.set_cons_zero, List.set_cons_succ])
        (refine hK.out _ _ ?_ (fun hHeld2 => ?_); (focus ((try dsimp only); all_goals trivial)); (clear hK K); (try simp only [Act.put, List.getElem_toArray, List.getElem_cons_zero, List.getElem_cons_succ, List.setIfInBounds_toArray, List.set_cons_zero, List.set_cons_succ]))
        (refine wpAnyH_ready (rs := [5]) (by kernel_rfl) (by simp) ?_; refine AllReadyH.cons rfl (fun K hK => ?_) AllReadyH.nil; go_simp)
        (refine hK.out _ _ ?_ (fun hHeld2 => ?_); (focus ((try dsimp only); all_goals trivial)); (clear hK K); (try simp only [Act.put, List.getElem_toArray, List.getElem_cons_zero, List.getElem_cons_succ, List.setIfInBounds_toArray, List.set_cons_zero, List.set_cons_succ]))
        refine wpAnyH_done (by kernel_rfl) ?_ _
        go_wp2_with fail
        (try simp only [Exit.inBlock, Exit.then]); refine bodyPost_ret (results_none rfl _ _ _) rfl ?_
        rw [HLE.out]
        exact ⟨rfl, HFIN.out⟩
      · go_simp
        go_at_call 33
        refine (clone_intsC A1 c1 (castN l) _ (HX.out.ints HLF.out) (by rw [castN_len]; omega)).mono ?_
        rintro e w2 ⟨v2, rfl, hown2, hb2⟩
        obtain ⟨A2, c2, rfl⟩ := hown2.form
        have HE := Lib.hid (HE.out.below hb2)
        have HO := Lib.hid (HO.out.below hb2)
        have HX := Lib.hid (HX.out.grown hb2)
        have HBW := Lib.hid (HBW.out.trans (hb2.mono (by have := HWS.out; omega)))
        have HNL := Lib.hid (show ∀ b off t, A2 = some ⟨b, off, t⟩ → w.heap.size ≤ b ∧ b < w2.heap.size from fun b off t e => by
          have := hown2.lt b (by rw [e]; rfl)
          have := HWS.out
          omega)
        have HRD := Lib.hid (show (⟨castN l, A2, c2⟩ : SV).Rd w2 vo.ownBlock from ⟨hown2.capC, hown2.ints HLF.out, fun _ b off t e hh => by
          have h1 := hown2.lt b (by rw [show A2 = some ⟨b, off, t⟩ from e]; rfl)
          have h2 := HVL.out b hh
          omega⟩)
        clear hown2 hb2 hco hfo
        have hco := HO.out.cell
        have hfo := HO.out.froz
        go_wp2_with fail
        (refine hK.out _ _ ?_ (fun hHeld2 => ?_); (focus ((try dsimp only); all_goals trivial)); (clear hK K); (try simp only [Act.put, List.getElem_toArray, List.getElem_cons_zero, List.getElem_cons_succ, List.setIfInBounds_toArray, List.set_cons_zero, List.set_cons_succ]))
        refine wpAnyH_ready (rs := [0, 3]) (by kernel_rfl) (by simp) ?_
        refine AllReadyH.cons rfl (fun K hK => ?_) (AllReadyH.cons rfl (fun K hK => ?_) AllReadyH.nil)
        · go_simp
          (refine hK.out _ _ ?_ (fun hHeld2 => ?_); (focus ((try dsimp only); all_goals trivial)); (clear hK K); (try simp only [Act.put, List.getElem_toArray, List.getElem_cons_zero, List.getElem_cons_succ, List.setIfInBounds_toArray, List.set_cons_zero, List.set_cons_succ]))
          (refine wpAnyH_ready (rs := [3]) (by kernel_rfl) (by simp) ?_; refine AllReadyH.cons rfl (fun K hK => ?_) AllReadyH.nil; go_simp)
          have hb3 := (Below.refl w2.heap.size w2).alloc (Nat.le_refl _) (.cells #[.slice A2 (castN l).length c2] 22)
          have hgc := cell_new1 w2 (.slice A2 (castN l).length c2) 22
          have HE := Lib.hid (HE.out.below hb3)
          have HO := Lib.hid (HO.out.below hb3)
          have HX := Lib.hid (HX.out.grown hb3)
          have HBW := Lib.hid (HBW.out.trans (hb3.mono HBW.out.size))
          have HRD := Lib.hid (HRD.out.lift hb3)
          have hz3 : w2.heap.size ≤ (w2.alloc (.cells #[.slice A2 (castN l).length c2] 22)).heap.size := hb3.size
          clear hb3 hco hfo
          have hco := HO.out.cell
          have hfo := HO.out.froz
          have HGC := Lib.hid hgc
          clear hgc
          (refine hK.out _ _ ?_ (fun hHeld2 => ?_); (focus ((try dsimp only); all_goals trivial)); (clear hK K); (try simp only [Act.put, List.getElem_toArray, List.getElem_cons_zero, List.getElem_cons_succ, List.setIfInBounds_toArray, List.set_cons_zero, List.set_cons_succ]))
          generalize w2.alloc (.cells #[.slice A2 (castN l).length c2] 22) = w3 at *
          refine wpAnyH_ready (rs := [4]) (by kernel_rfl) (by simp) ?_
          refine AllReadyH.cons rfl (fun K hK => ?_) AllReadyH.nil
          refine step_append_rowsC (by rfl) _ _ (by rfl) base _ rs (by rfl) HO.out.own w2.heap.size 0 1 [⟨castN l, A2, c2⟩] (by rfl) (fun i hi => by
            have h0 : i = 0 := by simp at hi; omega
            subst h0
            exact HGC.out) (fun r hr => by rw [List.mem_singleton] at hr; subst hr; exact HRD.out) (by simp) (by have := Nat.two_pow_pos (f + 1); simp; omega) HO.out.size ?_
          intro v4 w4 hown4 hgr4 hat4
          obtain ⟨A4, c4, rfl⟩ := hown4.form
          have hl4 : (rs ++ [(⟨castN l, A2, c2⟩ : SV)]).length = rs.length + 1 := by simp
          rw [hl4] at hown4 hat4 ⊢
          clear hl4
          have hf4 : Frm (fun c => vo.ownBlock = some c) w3 w4 := ⟨hgr4.os, hgr4.tape, hgr4.output, hgr4.size, fun c hc hS => hgr4.block c hc (fun e => hS e.symm)⟩
          have hqv : ¬ vo.ownBlock = some qo := fun e => by have := (HO.out.own.lt _ e).1; have := HO.out.lt; omega
          have hql := Nat.lt_of_lt_of_le HO.out.lt HO.out.size
          clear hco hfo
          have hco := (hf4.cell (o := 0) hql hqv).trans HO.out.cell
          have hfo := (hf4.frozen (o := 0) hql hqv).trans HO.out.froz
          have HFIN := Lib.hid (cov_emit HO.out HX.out HBW.out (fun k e => (HLB.out k e).2) (fun _ b off t e => by have := HNL.out b off t e; omega) hown4 hgr4 hat4 HE0.out)
          clear hf4 hqv hql hown4 hgr4 hat4
          (try simp only [Act.put, List.getElem_toArray, List.getElem_cons_zero, List.getElem_cons_succ, List.setIfInBounds_toArray, List.set_cons_zero, List.set_cons_succ])
          (refine hK.out _ _ ?_ (fun hHeld2 => ?_); (focus ((try dsimp only); all_goals trivial)); (clear hK K); (try simp only [Act.put, List.getElem_toArray, List.getElem_cons_zero, List.getElem_cons_succ, List.setIfInBounds_toArray, List.set_cons_zero, List.set_cons_succ]))
          (refine wpAnyH_ready (rs := [5]) (by kernel_rfl) (by simp) ?_; refine AllReadyH.cons rfl (fun K hK => ?_) AllReadyH.nil; go_simp)
          (refine hK.out _ _ ?_ (fun hHeld2 => ?_); (focus ((try dsimp only); all_goals trivial)); (clear hK K); (try simp only [Act.put, List.getElem_toArray, List.getElem_cons_zero, List.getElem_cons_succ, List.setIfInBounds_toArray, List.set_cons_zero, List.set_cons_succ]))
          refine wpAnyH_done (by kernel_rfl) ?_ _
          go_wp2_with fail
          (try simp only [Exit.inBlock, Exit.then]); refine bodyPost_ret (results_none rfl _ _ _) rfl ?_
          rw [HLE.out]
          exact ⟨rfl, HFIN.out⟩
        · go_simp
          have hb3 := (Below.refl w2.heap.size w2).alloc (Nat.le_refl _) (.cells #[.slice A2 (castN l).length c2] 22)
          have hgc := cell_new1 w2 (.slice A2 (castN l).length c2) 22
          have HE := Lib.hid (HE.out.below hb3)
          have HO := Lib.hid (HO.out.below hb3)
          have HX := Lib.hid (HX.out.grown hb3)
          have HBW := Lib.hid (HBW.out.trans (hb3.mono HBW.out.size))
          have HRD := Lib.hid (HRD.out.lift hb3)
          have hz3 : w2.heap.size ≤ (w2.alloc (.cells #[.slice A2 (castN l).length c2] 22)).heap.size := hb3.size
          clear hb3 hco hfo
          have hco := HO.out.cell
          have hfo := HO.out.froz
          have HGC := Lib.hid hgc
          clear hgc
          (refine hK.out _ _ ?_ (fun hHeld2 => ?_); (focus ((try dsimp only); all_goals trivial)); (clear hK K); (try simp only [Act.put, List.getElem_toArray, List.getElem_cons_zero, List.getElem_cons_succ, List.setIfInBounds_toArray, List.set_cons_zero, List.set_cons_succ]))
          generalize w2.alloc (.cells #[.slice A2 (castN l).length c2] 22) = w3 at *
          (refine wpAnyH_ready (rs := [0]) (by kernel_rfl) (by simp) ?_; refine AllReadyH.cons rfl (fun K hK => ?_) AllReadyH.nil; go_simp)
          (refine hK.out _ _ ?_ (fun hHeld2 => ?_); (focus ((try dsimp only); all_goals trivial)); (clear hK K); (try simp only [Act.put, List.getElem_toArray, List.getElem_cons_zero, List.getElem_cons_succ, List.setIfInBounds_toArray, List.set_cons_zero, List.set_cons_succ]))
          refine wpAnyH_ready (rs := [4]) (by kernel_rfl) (by simp) ?_
          refine AllReadyH.cons rfl (fun K hK => ?_) AllReadyH.nil
          refine step_append_rowsC (by rfl) _ _ (by rfl) base _ rs (by rfl) HO.out.own w2.heap.size 0 1 [⟨castN l, A2, c2⟩] (by rfl) (fun i hi => by
            have h0 : i = 0 := by simp at hi; omega
            subst h0
            exact HGC.out) (fun r hr => by rw [List.mem_singleton] at hr; subst hr; exact HRD.out) (by simp) (by have := Nat.two_pow_pos (f + 1); simp; omega) HO.out.size ?_
          intro v4 w4 hown4 hgr4 hat4
          obtain ⟨A4, c4, rfl⟩ := hown4.form
          have hl4 : (rs ++ [(⟨castN l, A2, c2⟩ : SV)]).length = rs.length + 1 := by simp
          rw [hl4] at hown4 hat4 ⊢
          clear hl4
          have hf4 : Frm (fun c => vo.ownBlock = some c) w3 w4 := ⟨hgr4.os, hgr4.tape, hgr4.output, hgr4.size, fun c hc hS => hgr4.block c hc (fun e => hS e.symm)⟩
          have hqv : ¬ vo.ownBlock = some qo := fun e => by have := (HO.out.own.lt _ e).1; have := HO.out.lt; omega
          have hql := Nat.lt_of_lt_of_le HO.out.lt HO.out.size
          clear hco hfo
          have hco := (hf4.cell (o := 0) hql hqv).trans HO.out.cell
          have hfo := (hf4.frozen (o := 0) hql hqv).trans HO.out.froz
          have HFIN := Lib.hid (cov_emit HO.out HX.out HBW.out (fun k e => (HLB.out k e).2) (fun _ b off t e => by have := HNL.out b off t e; omega) hown4 hgr4 hat4 HE0.out)
          clear hf4 hqv hql hown4 hgr4 hat4
          (try simp only [Act.put, List.getElem_toArray, List.getElem_cons_zero, List.getElem_cons_succ, List.setIfInBounds_toArray, List.set_cons_zero, List.set_cons_succ])
          (refine hK.out _ _ ?_ (fun hHeld2 => ?_); (focus ((try dsimp only); all_goals trivial)); (clear hK K); (try simp only [Act.put, List.getElem_toArray, List.getElem_cons_zero, List.getElem_cons_succ, List.setIfInBounds_toArray, List.set_cons_zero, List.set_cons_succ]))
          (refine wpAnyH_ready (rs := [5]) (by kernel_rfl) (by simp) ?_; refine AllReadyH.cons rfl (fun K hK => ?_) AllReadyH.nil; go_simp)
          (refine hK.out _ _ ?_ (fun hHeld2 => ?_); (focus ((try dsimp only); all_goals trivial)); (clear hK K); (try simp only [Act.put, List.getElem_toArray, List.getElem_cons_zero, List.getElem_cons_succ, List.setIfInBounds_toArray, List.set_cons_zero, List.set_cons_succ]))
          refine wpAnyH_done (by kernel_rfl) ?_ _
          go_wp2_with fail
          (try simp only [Exit.inBlock, Exit.then]); refine bodyPost_ret (results_none rfl _ _ _) rfl ?_
          rw [HLE.out]
          exact ⟨rfl, HFIN.out⟩
    · have hmd : ((m : Int) == (n : Int)) = false := beq_eq_false_iff_ne.2 (by omega)
      have hkk : (kinds = 1 ∧ patM (mirL xs) = patM xs) ∨ (kinds = 2 ∧ patM (mirL xs) ≠ patM xs) := by
        rw [HKD.out]
        by_cases e : mirL xs = xs
        · exact .inl ⟨if_pos e, by rw [e]⟩
        · exact .inr ⟨if_neg e, fun h => e ((pat_same (mir_ok hp) hp).1 h)⟩
      have HTOT := Lib.hid (show covL n (patM xs) (patM (mirL xs)) (f + 1) t s = covK n (patM xs) (patM (mirL xs)) f m s1 kinds from by
        rcases hkk with ⟨e1, e2⟩ | ⟨e1, e2⟩
        · rw [e1]; exact covL_one hm hs1 hme e2
        · rw [e1]; exact covL_two hm hs1 hme e2)
      have hk2 : kinds ≤ 2 := by rcases hkk with ⟨e1, _⟩ | ⟨e1, _⟩ <;> omega
      have HZ0 := Lib.hid (cov_none HO.out HX.out)
      have HE0 := Lib.hid HE.out.size
      clear hkk
      go_wp2_with fail
      go_loopw [28] (fun i wr => ∃ k : Nat, k ≤ kinds ∧ i = .int .i64 k ∧ CovR w base qo (.slice A1 (castN l).length c1) vo rs l (covK n (patM xs) (patM (mirL xs)) f m s1 k) wr) (fun i _ => kinds - (intOf i).toNat)
      case atStart => exact ⟨0, Nat.zero_le _, rfl, HZ0.out⟩
      case round =>
        obtain ⟨k, hk, rfl, hR⟩ := hrel
        obtain ⟨wo, rfl⟩ : ∃ wo : World, wo = wr := ⟨_, rfl⟩
        by_cases hlt : k < kinds
        · obtain ⟨vo1, new1, hO1, hkey, hvo1, hnw1, hX1, hF1⟩ := hR
          have hE1 := HE.out.frm hF1 (fun c hc => by
            rcases hc with h1 | h1 | h1
            · exact .inl h1
            · exact .inr (HLB.out c h1).1
            · exact .inr (HO.out.own.lt c h1).1)
          have HE1 := Lib.hid hE1
          have HO1 := Lib.hid hO1
          have HX1 := Lib.hid hX1
          have HF1 := Lib.hid hF1
          have HKY := Lib.hid (And.intro hkey (And.intro hvo1 hnw1))
          have hnl : new1.length ≤ k * 2 ^ f := by
            have := congrArg List.length hkey
            rw [List.length_map, List.length_map] at this
            have := covK_len n (patM xs) (patM (mirL xs)) f m s1 k
            omega
          obtain ⟨c, hc⟩ : ∃ c, 2 * m + k = c := ⟨_, rfl⟩
          have hc2 : c / 2 = m := by omega
          have hcm : c % 2 = k % 2 := by omega
          have hM : (if k % 2 = 1 then patM (mirL xs) else patM xs) = patM (shp xs c) := by rw [← hcm]; exact shp_mask xs c
          have HLY := Lib.hid (fun h1 h2 => covK_yes (n := n) (a := patM xs) (b := patM (mirL xs)) (f := f) (m := m) (s1 := s1) (k := k) hM h1 h2)
          have HLN := Lib.hid (fun h => covK_no (n := n) (a := patM xs) (b := patM (mirL xs)) (f := f) (m := m) (s1 := s1) (k := k) hM h)
          have HLD := Lib.hid (impl_laidBy_ok A cap xs c wo hE1.intsW hp (by omega))
          have HLL := Lib.hid (laidL_len xs c)
          have HOR := Lib.hid (fun j hj => laid_or hp c (j := j) hj)
          have HBD := Lib.hid (fun j hj => laid_bnd hp (show c < 50 by omega) (j := j) hj)
          have HIN := Lib.hid (fun j hj => laid_in hp c (j := j) hj)
          have HFT := Lib.hid (laid_fits hp (show c < 100 by omega))
          have hpd := pat_odd (shp_ok hp c)
          have HPM := Lib.hid (show mkN (shp xs c) xs.length = patM (shp xs c) from by unfold patM; rw [shp_len])
          have hfree := hT'.free (m := patM (shp xs c))
          have hfit := fit_iff (m := patM (shp xs c)) hmn
          have HFE := Lib.hid hfree
          have HFI := Lib.hid hfit
          have HC := Lib.hid hc
          rw [hc2] at HOR HBD HIN
          obtain ⟨G, hG⟩ : ∃ G : Nat → Nat, (fun j => mkN (shp xs c) j * 2 ^ m) = G := ⟨_, rfl⟩
          have hGj : ∀ j, mkN (shp xs c) j * 2 ^ m = G j := fun j => congrFun hG j
          simp only [hGj] at HOR HBD
          have HG0 := Lib.hid (show G 0 = 0 from by rw [← hGj]; simp [mkN])
          have HGE := Lib.hid (show G xs.length = patM (shp xs c) * 2 ^ m from by rw [← hGj, HPM.out])
          clear hG hGj HPM
          have hwm : IntKind.i64.wrap (2 * (m : Int)) = 2 * (m : Int) := i64w (by omega)
          have hwc : IntKind.i64.wrap (2 * (m : Int) + (k : Int)) = (c : Int) := by rw [show 2 * (m : Int) + (k : Int) = (c : Int) by omega]; exact i64w (by omega)
          have hkc : (k : Int) < (kinds : Int) := by omega
          have hcp1 := hE1.cp
          clear hE1 hO1 hX1 hF1 hkey hvo1 hnw1 hM hfree hfit hc hcm
          go_wp2_with fail
          refine HLD.out.mono ?_
          rintro e w2 ⟨v2, rfl, hown2, hb2⟩
          obtain ⟨A2, c2, rfl⟩ := hown2.form
          have HI2 := Lib.hid (hown2.ints HFT.out)
          rw [HLL.out]
          have HB2 := Lib.hid hb2
          clear hown2 hb2
          generalize laidL xs c = L at *
          generalize patM (shp xs c) = M at *
          have hg0 := HG0.out
          go_wp2_with fail
          go_loop [12, 39] (fun v i => ∃ j : Nat, j ≤ xs.length ∧ i = .int .i64 j ∧ v = .int .i64 (G j)) (fun _ i => xs.length - (intOf i).toNat)
          case atStart => exact ⟨0, Nat.zero_le _, rfl, by rw [HG0.out]; rfl⟩
          case round =>
            obtain ⟨j, hj, rfl, rfl⟩ := hrel
            by_cases hjl : j < xs.length
            · obtain ⟨b, off, rfl, hB, hce⟩ := HI2.out.2.2 (by rw [HLL.out]; omega)
              have hcx2 := hce j (by rw [HLL.out]; exact hjl)
              have hin := HIN.out j hjl
              have hor := HOR.out j hjl
              have hbd := HBD.out j hj
              obtain ⟨x, hx⟩ : ∃ x, L.getD j 0 = x := ⟨_, rfl⟩
              rw [hx] at hcx2 hin hor
              obtain ⟨x, rfl⟩ := Int.eq_ofNat_of_zero_le (show 0 ≤ x by omega)
              have h3 := i64_or_pow3 (G j) x (by omega) (by omega)
              rw [show (x : Int).toNat = x from rfl] at hor
              rw [hor] at h3
              have hji : (j : Int) < (xs.length : Int) := by omega
              have hj0 : (0 : Int) ≤ (j : Int) := Int.natCast_nonneg _
              have hx0 : (0 : Int) ≤ (x : Int) := Int.natCast_nonneg _
              have hwj : IntKind.i64.wrap ((j : Int) + 1) = (j : Int) + 1 := i64w (by have := pat_len hp; omega)
              have hx64 : x < 64 := by omega
              clear hce hx hin hor hbd
              go_wp2_with fail
              go_round
              case rel => exact ⟨j + 1, hjl, by go_num, rfl⟩
              case measure => simp [intOf]; omega
            · have hje : j = xs.length := by omega
              have hji : ¬ (j : Int) < (xs.length : Int) := by omega
              have HGJ := Lib.hid (show G j = M * 2 ^ m from by rw [hje]; exact HGE.out)
              have hgb := HBD.out j hj
              clear hje
              obtain ⟨Q, hQ⟩ : ∃ Q, G j = Q := ⟨_, rfl⟩
              rw [hQ] at HGJ hgb ⊢
              have hand := i64_and_nat Q T (by omega) (by omega)
              have hshl := shl_is n (by omega)
              have hn64 : (n : Int) < 64 := by omega
              have hn0 : (0 : Int) ≤ (n : Int) := Int.natCast_nonneg _
              have hcn2 := (HE1.out.below HB2.out).cn
              clear hQ
              obtain ⟨P2, hP2⟩ : ∃ P2, 2 ^ n = P2 := ⟨_, rfl⟩
              have hshl2 : wrap64 (2 ^ n) = (P2 : Int) := by rw [hshl, hP2]
              have HP2 := Lib.hid hP2
              clear hshl hP2
              by_cases hq : Q &&& T = 0
              · have hq0 : (((Q &&& T : Nat) : Int) == 0) = true := by rw [hq]; rfl
                have HQ0 := Lib.hid (HFE.out.1 (by rw [← HGJ.out]; exact hq))
                clear hq
                by_cases hqn : Q < P2
                · have HQN := Lib.hid (HFI.out.1 (by rw [← HGJ.out, HP2.out]; exact hqn))
                  have hqd : (Q : Int) < (P2 : Int) := by omega
                  have hor := i64_or_nat T Q (by omega) (by omega)
                  have HE2 := Lib.hid (HE1.out.below HB2.out)
                  have HO2 := Lib.hid (HO1.out.below HB2.out)
                  have HX2 := Lib.hid (HX1.out.grown HB2.out)
                  have HF2 := Lib.hid (HF1.out.trans (Frm.pure HB2.out _))
                  have HTQ := Lib.hid (show TS (T ||| Q) m (s1 ||| M) from by rw [HGJ.out]; exact hT'.put)
                  have HSM := Lib.hid (or_fit hs' HQN.out)
                  have hmlt : m < n := by omega
                  have HST := Lib.hid (stN_pos (d := n - m) (s := s1 ||| M) (by
                    have := Nat.testBit_or s1 M 0
                    rw [Nat.testBit_zero, Nat.testBit_zero, Nat.testBit_zero, decide_eq_true hpd, Bool.or_true] at this
                    exact of_decide_eq_true this) (by omega))
                  have HCY := Lib.hid (show ∀ x ∈ l ++ [c], x < 100 from fun x hx => by
                    rcases List.mem_append.1 hx with h | h
                    · exact HLH.out x h
                    · rw [List.mem_singleton] at h; omega)
                  have hnl2 : (rs ++ new1).length + 2 ^ f ≤ 100000000 := by
                    rw [List.length_append]
                    have : 2 ^ (f + 1) = 2 ^ f * 2 := Nat.pow_succ ..
                    have : k * 2 ^ f ≤ 1 * 2 ^ f := Nat.mul_le_mul_right _ (by omega)
                    omega
                  have HNL2 := Lib.hid hnl2
                  clear hqn hnl2
                  go_wp2_with fail
                  have hbd := Below.drew5_ (Below.refl w2.heap.size w2)
                  have HWS := Lib.hid (show w2.drew.heap.size = w2.heap.size from rfl)
                  have HE2 := Lib.hid (HE2.out.below hbd)
                  have HO2 := Lib.hid (HO2.out.below hbd)
                  have HX2 := Lib.hid HX2.out.drew
                  have HF2 := Lib.hid HF2.out.drew
                  have hcx2 := HE2.out.cx
                  clear hbd
                  (refine wp_region_held_drew (S := (fun w' => w'.cell? ⟨qx, 0, none⟩ = some (.func (.func 31) #[] #[.pointer (some ⟨qn, 0, none⟩), .pointer (some ⟨qo, 0, none⟩), .pointer (some ⟨qk, 0, none⟩), .pointer (some ⟨qp, 0, none⟩), .pointer (some ⟨qx, 0, none⟩)]))) (by kernel_rfl) ?_ (fun hHeld => ?_); (focus ((try dsimp only); exact hcx2)))
                  generalize w2.drew = wg at *
                  ((refine wpAnyH_take (i := 0) (v := ?_) rfl (by kernel_rfl) (by kernel_rfl) (by kernel_rfl) (fun _ _ _ h => h) (Or.inl ⟨by rfl, ?_⟩) (by assumption) ?_; rotate_left; (focus (intro wS hSw; (try dsimp only at hSw); go_simp; (try with_reducible rfl))); (try simp only [Act.put, List.getElem_toArray, List.getElem_cons_zero, List.getElem_cons_succ, List.setIfInBounds_toArray, List.set_cons_zero, List.set_cons_succ])); (refine wpAnyH_take (i := 1) (v := ?_) rfl (by kernel_rfl) (by kernel_rfl) (by kernel_rfl) (fun _ _ _ h => h) (Or.inl ⟨by rfl, ?_⟩) (by assumption) ?_; rotate_left; (focus (intro wS hSw; (try dsimp only at hSw); go_simp; (try with_reducible rfl))); (try simp only [Act.put, List.getElem_toArray, List.getElem_cons_zero, List.getElem_cons_succ, List.setIfInBounds_toArray, List.set_cons_zero, List.set_cons_succ])); (refine wpAnyH_take (i := 2) (v := ?_) rfl (by kernel_rfl) (by kernel_rfl) (by kernel_rfl) (fun _ _ _ h => h) (Or.inl ⟨by rfl, ?_⟩) (by assumption) ?_; rotate_left; (focus (intro wS hSw; (try dsimp only at hSw); go_simp; (try with_reducible rfl))); (try simp only [Act.put, List.getElem_toArray, List.getElem_cons_zero, List.getElem_cons_succ, List.setIfInBounds_toArray, List.set_cons_zero, List.set_cons_succ])); (refine wpAnyH_take (i := 5) (v := ?_) rfl (by kernel_rfl) (by kernel_rfl) (by kernel_rfl) (fun _ _ _ h => h) (Or.inl ⟨by rfl, ?_⟩) (by assumption) ?_; rotate_left; (focus (intro wS hSw; (try dsimp only at hSw); go_simp; (try with_reducible rfl))); (try simp only [Act.put, List.getElem_toArray, List.getElem_cons_zero, List.getElem_cons_succ, List.setIfInBounds_toArray, List.set_cons_zero, List.set_cons_succ])); (refine wpAnyH_take (i := 6) (v := ?_) rfl (by kernel_rfl) (by kernel_rfl) (by kernel_rfl) (fun _ _ _ h => h) (Or.inl ⟨by rfl, ?_⟩) (by assumption) ?_; rotate_left; (focus (intro wS hSw; (try dsimp only at hSw); go_simp; (try with_reducible rfl))); (try simp only [Act.put, List.getElem_toArray, List.getElem_cons_zero, List.getElem_cons_succ, List.setIfInBounds_toArray, List.set_cons_zero, List.set_cons_succ])); (refine wpAnyH_take (i := 7) (v := ?_) rfl (by kernel_rfl) (by kernel_rfl) (by kernel_rfl) (fun _ _ _ h => h) (Or.inl ⟨by rfl, ?_⟩) (by assumption) ?_; rotate_left; (focus (intro wS hSw; (try dsimp only at hSw); go_simp; (try with_reducible rfl))); (try simp only [Act.put, List.getElem_toArray, List.getElem_cons_zero, List.getElem_cons_succ, List.setIfInBounds_toArray, List.set_cons_zero, List.set_cons_succ])))
                  (refine wpAnyH_ready (rs := [3]) (by kernel_rfl) (by simp) ?_; refine AllReadyH.cons rfl (fun K hK => ?_) AllReadyH.nil; go_simp)
                  have hb3 := (Below.refl wg.heap.size wg).alloc (Nat.le_refl _) (.cells #[.int .i64 c] 3)
                  have HNC := Lib.hid (cell_new1 wg (.int .i64 c) 3)
                  have HE3 := Lib.hid (HE2.out.below hb3)
                  have HO3 := Lib.hid (HO2.out.below hb3)
                  have HX3 := Lib.hid (HX2.out.grown hb3)
                  have HF3 := Lib.hid (HF2.out.trans (Frm.pure hb3 _))
                  have HZ3 := Lib.hid hb3.size
                  have hcx3 := HE3.out.cx
                  clear hb3
                  (refine hK.out _ _ ?_ (fun hHeld2 => ?_); (focus ((try dsimp only); exact hcx3)); (clear hK K); (try simp only [Act.put, List.getElem_toArray, List.getElem_cons_zero, List.getElem_cons_succ, List.setIfInBounds_toArray, List.set_cons_zero, List.set_cons_succ]))
                  generalize wg.alloc (.cells #[.int .i64 c] 3) = w3 at *
                  refine wpAnyH_ready (rs := [4]) (by kernel_rfl) (by simp) ?_
                  refine AllReadyH.cons rfl (fun K hK => ?_) AllReadyH.nil
                  refine step_append_intR (by rfl) _ _ (by rfl) base _ (castN l) (by rfl) HX3.out wg.heap.size 0 1 (c : Int) (by rfl) HNC.out (by rw [castN_len]; omega) HE3.out.size ?_
                  intro v4 w4 hown4 hgr4 hsr4
                  have hf4 : Frm (fun c => (Value.slice A1 (castN l).length c1).ownBlock = some c) w3 w4 := ⟨hgr4.os, hgr4.tape, hgr4.output, hgr4.size, fun c hc hS => hgr4.block c hc (fun e => hS e.symm)⟩
                  have HE4 := Lib.hid (HE3.out.frm hf4 (fun c h => .inr (HLB.out c h).1))
                  have HO4 := Lib.hid (HO3.out.grown (fun k e => (HLB.out k e).1) hgr4 hsr4)
                  have HX4 := Lib.hid (show OwnI w4 base v4 (castN (l ++ [c])) from by rw [castN_snoc]; exact hown4)
                  have HF4 := Lib.hid (HF3.out.trans (hf4.mono (fun c h => .inr (.inl h))))
                  have HSR := Lib.hid hsr4
                  have HF0 := Lib.hid hf4
                  have HSZ := Lib.hid (show wo.heap.size ≤ w3.heap.size from by
                    have h1 := HB2.out.size
                    have h2 := HWS.out
                    have h3 := HZ3.out
                    omega)
                  have hcx4 := HE4.out.cx
                  clear hown4 hgr4 hsr4 hf4
                  (try simp only [Act.put, List.getElem_toArray, List.getElem_cons_zero, List.getElem_cons_succ, List.setIfInBounds_toArray, List.set_cons_zero, List.set_cons_succ])
                  (refine hK.out _ _ ?_ (fun hHeld2 => ?_); (focus ((try dsimp only); exact hcx4)); (clear hK K); (try simp only [Act.put, List.getElem_toArray, List.getElem_cons_zero, List.getElem_cons_succ, List.setIfInBounds_toArray, List.set_cons_zero, List.set_cons_succ]))
                  (refine wpAnyH_ready (rs := [8]) (by kernel_rfl) (by simp) ?_; refine AllReadyH.cons rfl (fun K hK => ?_) AllReadyH.nil; go_simp)
                  go_at_call 31
                  refine (HIH.out m (s1 ||| M) (T ||| Q) (l ++ [c]) v4 vo1 (rs ++ new1) w4 (by have := HST.out; omega) hmn HSM.out HTQ.out (by simp; omega) HCY.out HNL2.out HX4.out HE4.out HO4.out).mono ?_
                  rintro e w5 ⟨rfl, hR5⟩
                  have HRN := Lib.hid (cov_push (fun g e => (HLB.out g e).2) HF1.out.size HO1.out HKY.out.1 HKY.out.2.1 HKY.out.2.2 HX3.out HF4.out HF0.out HSR.out HSZ.out hR5)
                  clear hR5
                  have hcx5 := (HE.out.frm HRN.out.frame (fun c hc => by
                    rcases hc with h1 | h1 | h1
                    · exact .inl h1
                    · exact .inr (HLB.out c h1).1
                    · exact .inr (HO.out.own.lt c h1).1)).cx
                  go_wp2_with fail
                  (refine hK.out _ _ ?_ (fun hHeld2 => ?_); (focus ((try dsimp only); exact hcx5)); (clear hK K); (try simp only [Act.put, List.getElem_toArray, List.getElem_cons_zero, List.getElem_cons_succ, List.setIfInBounds_toArray, List.set_cons_zero, List.set_cons_succ]))
                  refine wpAnyH_done (by kernel_rfl) ?_ _
                  go_wp2_with fail
                  go_roundw
                  case rel => exact ⟨k + 1, hlt, by go_num, by rw [HLY.out HQ0.out HQN.out, HC.out]; exact HRN.out⟩
                  case measure => simp [intOf]; omega
                · have HQN := Lib.hid (HLN.out (fun h => hqn (by rw [HGJ.out, ← HP2.out]; exact HFI.out.2 h.2)))
                  have hqd : ¬ (Q : Int) < (P2 : Int) := by omega
                  have hqd2 : decide ((Q : Int) < (P2 : Int)) = false := decide_eq_false hqd
                  go_wp2_with fail
                  go_roundw
                  case rel => exact ⟨k + 1, hlt, by go_num, by rw [HQN.out]; exact (CovR.mk HO1.out HKY.out HX1.out HF1.out).below HB2.out⟩
                  case measure => simp [intOf]; omega
              · have hq0 : (((Q &&& T : Nat) : Int) == 0) = false := beq_eq_false_iff_ne.2 (by omega)
                have HQ0 := Lib.hid (HLN.out (fun h => hq (by rw [HGJ.out]; exact HFE.out.2 h.1)))
                clear hq
                go_wp2_with fail
                go_roundw
                case rel => exact ⟨k + 1, hlt, by go_num, by rw [HQ0.out]; exact (CovR.mk HO1.out HKY.out HX1.out HF1.out).below HB2.out⟩
                case measure => simp [intOf]; omega
        · have hke : k = kinds := by omega
          have HRR := Lib.hid hR
          have hkc : ¬ (k : Int) < (kinds : Int) := by omega
          have HKE := Lib.hid hke
          clear hR hke
          go_wp2_with fail
          refine bodyPost_end (results_none rfl _ _ _) rfl ?_
          rw [HTOT.out, ← HKE.out]
          exact ⟨rfl, HRR.out⟩

end Go.Proofs.YtoofkchhjkhdeaaDoor
