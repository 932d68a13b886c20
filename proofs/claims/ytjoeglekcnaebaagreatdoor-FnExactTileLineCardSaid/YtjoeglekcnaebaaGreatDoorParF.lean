/-
  FirstPartner of the reference.
-/
import Derived.Test.YtjoeglekcnaebaaGreatDoorParR
namespace Go.Proofs.YtjoeglekcnaebaaGreatDoor
open Go.RowKit
set_option linter.unusedVariables false
set_option linter.unusedSimpArgs false

theorem gS_rhok {N : Nat} {bs : List Int} {y : List Nat} : ∀ {m : Nat} {b : List Nat} {p : Nat}, RhOk N (b.map Int.ofNat) → (∀ q ∈ b, q < p) → p + m = N → gS N bs m b p = some y → RhOk N (y.map Int.ofNat)
  | 0, b, p, hr, hb, hp, e => by
    unfold gS at e
    split at e
    · injection e with e; subst e; exact hr
    · cases e
  | m + 1, b, p, hr, hb, hp, e => by
    have hno : gS N bs m b (p + 1) = some y → RhOk N (y.map Int.ofNat) := gS_rhok hr (fun q hq => by have := hb q hq; omega) (by omega)
    unfold gS at e
    split at e
    · injection e with e; subst e; exact hr
    · split at e
      · cases e2 : gS N bs m (b ++ [p]) (p + 1) with
        | some z =>
          rw [e2] at e
          injection e with e; subst e
          refine gS_rhok ?_ ?_ (by omega) e2
          · rw [List.map_append]
            refine rhok_snoc hr p (by omega) (fun x hx => ?_)
            rw [List.mem_map] at hx
            obtain ⟨q, hq, rfl⟩ := hx
            have := hb q hq
            show (q : Int) < (p : Int)
            omega
          · intro q hq
            rw [List.mem_append, List.mem_singleton] at hq
            rcases hq with hq | rfl
            · have := hb q hq; omega
            · omega
        | none => rw [e2] at e; exact hno e
      · exact hno e
/-- The partner that is found. -/
def parV (N : Nat) (bs : List Int) : Option (List Int) := if bs.length = 0 ∨ N % bs.length ≠ 0 then none else (gS N bs (N - 1) [0] 1).map (·.map Int.ofNat)
theorem rhok_zero {N : Nat} (h1 : 1 ≤ N) (h2 : N ≤ 24) : RhOk N [(0 : Int)] := by
  refine ⟨by omega, by omega, fun i hi => ?_, fun i hi => ?_⟩
  · have : i = 0 := by simp at hi; omega
    subst this
    simp; omega
  · simp at hi
theorem parV_ok {N : Nat} {bs : List Int} (hok : RhOk N bs) {y : List Int} (h : parV N bs = some y) : RhOk N y := by
  have h1 : 1 ≤ N := by have := hok.1; omega
  have h2 : N ≤ 24 := by have := hok.2.1; omega
  unfold parV at h
  split at h
  · cases h
  · cases e : gS N bs (N - 1) [0] 1 with
    | none => rw [e] at h; cases h
    | some z =>
      rw [e] at h
      injection h with h; subst h
      exact gS_rhok (b := [0]) (show RhOk N (([0] : List Nat).map Int.ofNat) from rhok_zero h1 h2) (by simp) (by omega) e

set_option maxRecDepth 100000 in
set_option maxHeartbeats 4000000 in
theorem spec_l09Find_first (N : Nat) (bs : List Int) (hok : RhOk N bs) (hk : 1 ≤ bs.length) (hmod : N % bs.length = 0) (AC : Option Addr) (cC : Nat) (p : Nat) (hp : p = 0) (AO : Option Addr) (w : World) (hC : Ints w w.heap.size AC bs) :
    Calls Tryz.prog 54 #[.agg #[.int .i64 N, .slice AC bs.length cC], .agg #[.int .i64 N, .slice none 0 0], .slice AO 0 0, .int .i64 p, .bool true] w (RetF w N AO none (gS N bs (N - 1) [0] 1)) := by
  have hn1 : 1 ≤ N := by have := hok.1; omega
  have hn2 : N ≤ 24 := by have := hok.2.1; omega
  have hla : bs.length ≤ N := rhok_len hok
  have HBN := Lib.hid (fun V h1 A2 c2 h2 => btw_first hok ▸ spec_l09Between_any N AC A2 cC c2 bs [0] V h1 h2 hok (rhok_zero hn1 hn2))
  have HIY := Lib.hid (fun AB' cB' AO' V h5 h6 => spec_l09Find_any N bs hok hk hmod AC cC (N - 1) 1 [0] AB' cB' AO' V (by omega) (Nat.le_refl _) (Nat.le_refl _) (by simp) (rhok_zero hn1 hn2) (List.pairwise_singleton _ _) h5 h6)
  have HMZ := Lib.hid (show ([0] : List Nat).map Int.ofNat = [0] from rfl)
  rw [HMZ.out] at HIY
  clear hok hmod
  obtain ⟨xs, hxs⟩ : ∃ xs : List Int, [] = xs := ⟨_, rfl⟩
  have hxl : 0 = xs.length := by rw [← hxs]; rfl
  have hB : Ints w w.heap.size none xs := by rw [← hxs]; exact ⟨Nat.zero_le _, by simp, fun h => absurd h (by decide)⟩
  obtain ⟨AB, hAB⟩ : ∃ AB : Option Addr, none = AB := ⟨_, rfl⟩
  obtain ⟨cB, hcB⟩ : ∃ cB : Nat, 0 = cB := ⟨_, rfl⟩
  obtain ⟨X0, hX0⟩ : ∃ X : List Int, xs ++ [(p : Int)] = X := ⟨_, rfl⟩
  have hX1 : X0 = [0] := by rw [← hX0, ← hxs, hp]; rfl
  have HLX := Lib.hid (show xs.length ≤ 24 by omega)
  have HNB := Lib.hid (show xs.length = 0 → AB = none ∧ cB = 0 from fun _ => ⟨hAB.symm, hcB.symm⟩)
  rw [show (Value.slice none 0 0 : Value) = .slice AB xs.length cB by rw [← hAB, ← hcB, ← hxl]]
  rw [hAB] at hB
  have HPF := Lib.hid (show Fits (p : Int) by unfold Fits; omega)
  have HPX := Lib.hid (fun x (hx : x ∈ xs ++ [(p : Int)]) => show Fits x by
    rw [hX0, hX1, List.mem_singleton] at hx
    subst hx; unfold Fits; omega)
  have HX1 := Lib.hid (show xs ++ [(p : Int)] = [0] from hX0.trans hX1)
  have hb1' := (Below.refl w.heap.size w).alloc (Nat.le_refl _) (.cells #[.int .i64 N, .slice AC (bs).length cC] 27)
  have HVA := Lib.hid ((Hav.boxed hC N cC).alloc (.cells #[.int .i64 N, .slice AB (xs).length cB] 27))
  have HVX := Lib.hid (Hav.boxed (hB.lift hb1') N cB)
  have HBW := Lib.hid (hb1'.alloc hb1'.size (.cells #[.int .i64 N, .slice AB (xs).length cB] 27))
  have hzW : (w.alloc (.cells #[.int .i64 N, .slice AC (bs).length cC] 27)).heap.size = w.heap.size + 1 := by simp
  rw [hzW] at HVX
  clear hC hB hb1' hzW hAB hcB hX0 hX1
  obtain ⟨⟨p0, p1, _, _, _⟩, _⟩ := HVA.out
  obtain ⟨⟨q0, q1, _, _, _⟩, _⟩ := HVX.out
  have hw1 : IntKind.i64.wrap ((bs.length : Int) * (xs.length : Int)) = 0 := by rw [← hxl]; simp; decide
  have hq : ((0 : Int) == (N : Int)) = false := beq_eq_false_iff_ne.2 (by omega)
  have hq2 : ((0 : Int) = (N : Int)) = False := eq_false (by omega)
  obtain ⟨D, hD⟩ : ∃ D, N / bs.length = D := ⟨_, rfl⟩
  have hDl : D ≤ N := by rw [← hD]; exact Nat.div_le_self _ _
  have hw2 : IntKind.i64.wrap ((xs.length : Int) + (N : Int)) = (N : Int) := by rw [i64w (by omega)]; omega
  have hw3 : IntKind.i64.wrap ((N : Int) - (p : Int)) = (N : Int) := by rw [i64w (by omega)]; omega
  have hdv : Int.tdiv (N : Int) (bs.length : Int) = (D : Int) := by rw [Int.tdiv_eq_ediv_of_nonneg (by omega), ← hD, Int.natCast_ediv]
  have hw4 : IntKind.i64.wrap (D : Int) = (D : Int) := i64w (by omega)
  have hnz : ((bs.length : Int) = 0) = False := eq_false (by omega)
  have hnz2 : (bs.length = 0) = False := eq_false (by omega)
  have hnz3 : (bs = []) = False := eq_false (by intro h; rw [h] at hk; exact absurd hk (by decide))
  have hsi : ¬ (N : Int) < (D : Int) := by omega
  have hsn : ¬ N < D := by omega
  have HXS := Lib.hid hxs
  have HXL := Lib.hid hxl
  have HPZ := Lib.hid hp
  clear hD hxs hxl hp hDl
  obtain ⟨W, hW⟩ : ∃ W, (w.alloc (.cells #[.int .i64 N, .slice AC (bs).length cC] 27)).alloc (.cells #[.int .i64 N, .slice AB (xs).length cB] 27) = W := ⟨_, rfl⟩
  rw [hW] at HVA HVX HBW p0 p1 q0 q1
  go_enter Tryz.func54, Tryz.ntmps54
  go_wp2_with fail
  clear hW
  go_quiet (fail)
  have HVA := Lib.hid (show Hav (W.drewN nq) N w.heap.size AC cC bs from HVA.out)
  have HVX := Lib.hid (show Hav (W.drewN nq) N (w.heap.size + 1) AB cB xs from HVX.out)
  have HBW := Lib.hid (show Below w.heap.size w (W.drewN nq) from ⟨HBW.out.os, HBW.out.tape, HBW.out.output, HBW.out.size, HBW.out.block⟩)
  clear p0 p1 q0 q1
  generalize W.drewN nq = w1 at *
  obtain ⟨gB, hgB⟩ : ∃ g, w.heap.size + 1 = g := ⟨_, rfl⟩
  rw [hgB] at HVX ⊢
  obtain ⟨gA, hgA⟩ : ∃ g, w.heap.size = g := ⟨_, rfl⟩
  rw [hgA] at HVA ⊢
  clear hgA hgB
  obtain ⟨⟨p0, p1, _, _, hgA⟩, _⟩ := HVA.out
  obtain ⟨⟨q0, q1, _, _, hgB⟩, _⟩ := HVX.out
  go_wp2_with fail
  go_cut [11] from 49 to 58 (fun s11 wx => ∃ (gX : Nat) (A8 : Option Addr) (c8 : Nat), s11 = .pointer (some ⟨gX, 0, none⟩) ∧ Hav wx N gX A8 c8 (xs ++ [(p : Int)]) ∧ (∃ k8, A8 = some ⟨k8, 0, none⟩ ∧ w1.heap.size ≤ k8) ∧ Below w1.heap.size w1 wx)
  case first =>
    have HP0 := Lib.hid p0
    have HQ1 := Lib.hid q1
    have HIB := Lib.hid HVX.out.2
    have HBW := Lib.hid (show Below w1.heap.size w1 w1.drew from Below.drewH_ (Below.refl _ _))
    (refine wp_region_held_drew (S := (fun w' => w'.cell? ⟨gA, 0, none⟩ = some (.int .i64 N) ∧ w'.cell? ⟨gB, 1, none⟩ = some (.slice AB xs.length cB))) (by kernel_rfl) ?_ (fun hHeld => ?_); (focus ((try dsimp only); exact ⟨p0, q1⟩)))
    clear p0 p1 q0 q1
    generalize w1.drew = z0 at *
    ((refine wpAnyH_take (i := 0) (v := ?_) rfl (by kernel_rfl) (by kernel_rfl) (by kernel_rfl) (fun _ _ _ h => h) (Or.inl ⟨by rfl, ?_⟩) (by assumption) ?_; rotate_left; (focus (intro wS hSw; (try dsimp only at hSw); go_simp; (try with_reducible rfl))); (try simp only [Act.put, List.getElem_toArray, List.getElem_cons_zero, List.getElem_cons_succ, List.setIfInBounds_toArray, List.set_cons_zero, List.set_cons_succ])); (refine wpAnyH_take (i := 1) (v := ?_) rfl (by kernel_rfl) (by kernel_rfl) (by kernel_rfl) (fun _ _ _ h => h) (Or.inl ⟨by rfl, ?_⟩) (by assumption) ?_; rotate_left; (focus (intro wS hSw; (try dsimp only at hSw); go_simp; (try with_reducible rfl))); (try simp only [Act.put, List.getElem_toArray, List.getElem_cons_zero, List.getElem_cons_succ, List.setIfInBounds_toArray, List.set_cons_zero, List.set_cons_succ])); (refine wpAnyH_take (i := 3) (v := ?_) rfl (by kernel_rfl) (by kernel_rfl) (by kernel_rfl) (fun _ _ _ h => h) (Or.inl ⟨by rfl, ?_⟩) (by assumption) ?_; rotate_left; (focus (intro wS hSw; (try dsimp only at hSw); go_simp; (try with_reducible rfl))); (try simp only [Act.put, List.getElem_toArray, List.getElem_cons_zero, List.getElem_cons_succ, List.setIfInBounds_toArray, List.set_cons_zero, List.set_cons_succ])); (refine wpAnyH_take (i := 4) (v := ?_) rfl (by kernel_rfl) (by kernel_rfl) (by kernel_rfl) (fun _ _ _ h => h) (Or.inl ⟨by rfl, ?_⟩) (by assumption) ?_; rotate_left; (focus (intro wS hSw; (try dsimp only at hSw); go_simp; (try with_reducible rfl))); (try simp only [Act.put, List.getElem_toArray, List.getElem_cons_zero, List.getElem_cons_succ, List.setIfInBounds_toArray, List.set_cons_zero, List.set_cons_succ])); (refine wpAnyH_take (i := 6) (v := ?_) rfl (by kernel_rfl) (by kernel_rfl) (by kernel_rfl) (fun _ _ _ h => h) (Or.inl ⟨by rfl, ?_⟩) (by assumption) ?_; rotate_left; (focus (intro wS hSw; (try dsimp only at hSw); go_simp; (try with_reducible rfl))); (try simp only [Act.put, List.getElem_toArray, List.getElem_cons_zero, List.getElem_cons_succ, List.setIfInBounds_toArray, List.set_cons_zero, List.set_cons_succ])))
    refine wpAnyH_ready (rs := [2, 7, 10]) (by kernel_rfl) (by simp) ?_
    refine (AllReadyH.cons rfl (fun K hK => ?_) (AllReadyH.cons rfl (fun K hK => ?_) (AllReadyH.cons rfl (fun K hK => ?_) AllReadyH.nil)))
    · go_simp
      have hsz := HBW.out.size
      have hb := (Below.refl z0.heap.size z0).alloc (Nat.le_refl _) (.cells #[] 3)
      have HBW := Lib.hid (HBW.out.trans (hb.mono hsz))
      have HE := Lib.hid (OwnI.empty_at z0 w1.heap.size _ rfl hsz)
      clear hb
      generalize z0.alloc (.cells #[] 3) = z1 at *
      (refine hK.out _ _ ?_ (fun hHeld2 => ?_); (focus ((try dsimp only); exact ⟨(HBW.out.cell (p := ⟨gA, 0, none⟩) hgA).trans HP0.out, (HBW.out.cell (p := ⟨gB, 1, none⟩) hgB).trans HQ1.out⟩)); (clear hK K); (try simp only [Act.put, List.getElem_toArray, List.getElem_cons_zero, List.getElem_cons_succ, List.setIfInBounds_toArray, List.set_cons_zero, List.set_cons_succ]))
      clear hsz
      refine wpAnyH_ready (rs := [5, 7, 10]) (by kernel_rfl) (by simp) ?_
      refine (AllReadyH.cons rfl (fun K hK => ?_) (AllReadyH.cons rfl (fun K hK => ?_) (AllReadyH.cons rfl (fun K hK => ?_) AllReadyH.nil)))
      · refine step_append_src0I (by rfl) _ _ (by rfl) w1.heap.size _ (by rfl) HE.out AB cB xs (by rfl) (HIB.out.lift HBW.out) HNB.out (by have := HLX.out; omega) HBW.out.size ?_
        intro v5 z2 hown5 hb5 hat5
        obtain ⟨A5, c5, rfl⟩ := hown5.form
        have hsz := HBW.out.size
        have HBW := Lib.hid (HBW.out.trans (hb5.mono hsz))
        have HE := Lib.hid hown5
        clear hown5 hb5 hat5
        (refine hK.out _ _ ?_ (fun hHeld2 => ?_); (focus ((try dsimp only); exact ⟨(HBW.out.cell (p := ⟨gA, 0, none⟩) hgA).trans HP0.out, (HBW.out.cell (p := ⟨gB, 1, none⟩) hgB).trans HQ1.out⟩)); (clear hK K); (try simp only [Act.put, List.getElem_toArray, List.getElem_cons_zero, List.getElem_cons_succ, List.setIfInBounds_toArray, List.set_cons_zero, List.set_cons_succ]))
        clear hsz
        refine wpAnyH_ready (rs := [7, 10]) (by kernel_rfl) (by simp) ?_
        refine (AllReadyH.cons rfl (fun K hK => ?_) (AllReadyH.cons rfl (fun K hK => ?_) AllReadyH.nil))
        · go_simp
          have hsz := HBW.out.size
          have hb := (Below.refl z2.heap.size z2).alloc (Nat.le_refl _) (.cells #[.int .i64 p] 3)
          have HBW := Lib.hid (HBW.out.trans (hb.mono hsz))
          have HE := Lib.hid (HE.out.grown hb)
          have HP := Lib.hid (Cell1.new z2 (.int .i64 p) 3)
          clear hb
          generalize z2.alloc (.cells #[.int .i64 p] 3) = z3 at *
          (refine hK.out _ _ ?_ (fun hHeld2 => ?_); (focus ((try dsimp only); exact ⟨(HBW.out.cell (p := ⟨gA, 0, none⟩) hgA).trans HP0.out, (HBW.out.cell (p := ⟨gB, 1, none⟩) hgB).trans HQ1.out⟩)); (clear hK K); (try simp only [Act.put, List.getElem_toArray, List.getElem_cons_zero, List.getElem_cons_succ, List.setIfInBounds_toArray, List.set_cons_zero, List.set_cons_succ]))
          clear hsz
          refine wpAnyH_ready (rs := [8, 10]) (by kernel_rfl) (by simp) ?_
          refine (AllReadyH.cons rfl (fun K hK => ?_) (AllReadyH.cons rfl (fun K hK => ?_) AllReadyH.nil))
          · have hpi := HP.out.ints HPF.out
            refine step_append_srcI (by rfl) _ _ (by rfl) w1.heap.size _ xs (by rfl) HE.out (some ⟨_, 0, none⟩) 1 [(p : Int)] (by rfl) hpi (by intro h; cases h) (by have := HLX.out; simp; omega) HBW.out.size ?_
            intro v8 z4 hown8 hb8 hgr8 hat8
            obtain ⟨A8, c8, rfl⟩ := hown8.form
            have HBW := Lib.hid (HBW.out.trans hb8)
            have HE := Lib.hid hown8
            clear hown8 hb8 hgr8 hat8 hpi
            (refine hK.out _ _ ?_ (fun hHeld2 => ?_); (focus ((try dsimp only); exact ⟨(HBW.out.cell (p := ⟨gA, 0, none⟩) hgA).trans HP0.out, (HBW.out.cell (p := ⟨gB, 1, none⟩) hgB).trans HQ1.out⟩)); (clear hK K); (try simp only [Act.put, List.getElem_toArray, List.getElem_cons_zero, List.getElem_cons_succ, List.setIfInBounds_toArray, List.set_cons_zero, List.set_cons_succ]))
            (refine wpAnyH_take (i := 9) (v := ?_) rfl (by kernel_rfl) (by kernel_rfl) (by kernel_rfl) (fun _ _ _ h => h) (Or.inl ⟨by rfl, ?_⟩) (by assumption) ?_; rotate_left; (focus (intro wS hSw; (try dsimp only at hSw); go_simp; (try with_reducible rfl))); (try simp only [Act.put, List.getElem_toArray, List.getElem_cons_zero, List.getElem_cons_succ, List.setIfInBounds_toArray, List.set_cons_zero, List.set_cons_succ]))
            refine wpAnyH_ready (rs := [10]) (by kernel_rfl) (by simp) ?_
            refine AllReadyH.cons rfl (fun K hK => ?_) AllReadyH.nil
            go_simp
            have hsz := HBW.out.size
            have hb := (Below.refl z4.heap.size z4).alloc (Nat.le_refl _) (.cells #[.int .i64 0, .slice none 0 0] 27)
            have HBW := Lib.hid (HBW.out.trans (hb.mono hsz))
            have HGX := Lib.hid hsz
            have HD := Lib.hid (fun k (hk : _ = some k) => Nat.ne_of_lt (HE.out.lt k hk).2)
            have HE := Lib.hid (HE.out.grown hb)
            have HX := Lib.hid (Cells2.new z4 (.int .i64 0) (.slice none 0 0) 27)
            clear hb
            generalize z4.alloc (.cells #[.int .i64 0, .slice none 0 0] 27) = z5 at *
            obtain ⟨gX, hgX⟩ : ∃ g, z4.heap.size = g := ⟨_, rfl⟩
            rw [hgX] at HX HGX HD ⊢
            clear hgX
            (refine hK.out _ _ ?_ (fun hHeld2 => ?_); (focus ((try dsimp only); exact ⟨(HBW.out.cell (p := ⟨gA, 0, none⟩) hgA).trans HP0.out, (HBW.out.cell (p := ⟨gB, 1, none⟩) hgB).trans HQ1.out⟩)); (clear hK K); (try simp only [Act.put, List.getElem_toArray, List.getElem_cons_zero, List.getElem_cons_succ, List.setIfInBounds_toArray, List.set_cons_zero, List.set_cons_succ]))
            clear hsz
            obtain ⟨x0, x1, xf0, xf1, _⟩ := HX.out
            have HN8 := Lib.hid (HE.out.newAt (by simp))
            have hl8 : (xs ++ [(p : Int)]).length = xs.length + 1 := by simp
            have HX9 := Lib.hid ((HX.out.set0 (.int .i64 N)).set1 (.slice A8 (xs.length + 1) c8))
            have HE9 := (HE.out.setFar (p := ⟨gX, 0, none⟩) HD.out (.int .i64 N)).setFar (p := ⟨gX, 1, none⟩) HD.out (.slice A8 (xs.length + 1) c8)
            have HI9 := Lib.hid (HE9.ints HPX.out)
            have HBW := Lib.hid ((HBW.out.setCell (p := ⟨gX, 0, none⟩) HGX.out (.int .i64 N)).setCell (p := ⟨gX, 1, none⟩) HGX.out (.slice A8 (xs.length + 1) c8))
            have HR9 := Lib.hid (show Hav ((z5.setCell ⟨gX, 0, none⟩ (.int .i64 N)).setCell ⟨gX, 1, none⟩ (.slice A8 (xs.length + 1) c8)) N gX A8 c8 (xs ++ [(p : Int)]) by unfold Hav; rw [hl8]; exact ⟨HX9.out, HI9.out⟩)
            clear HE9 hl8
            (refine wpAnyH_ready (rs := [11]) (by kernel_rfl) (by simp) ?_; refine AllReadyH.cons rfl (fun K hK => ?_) AllReadyH.nil; go_simp)
            (refine hK.out _ _ ?_ (fun hHeld2 => ?_); (focus ((try dsimp only); exact ⟨(HBW.out.cell (p := ⟨gA, 0, none⟩) hgA).trans HP0.out, (HBW.out.cell (p := ⟨gB, 1, none⟩) hgB).trans HQ1.out⟩)); (clear hK K); (try simp only [Act.put, List.getElem_toArray, List.getElem_cons_zero, List.getElem_cons_succ, List.setIfInBounds_toArray, List.set_cons_zero, List.set_cons_succ]))
            refine wpAnyH_done (by kernel_rfl) ?_ _
            go_wp2_with fail
            go_meet
            exact ⟨gX, A8, c8, rfl, HR9.out, HN8.out, HBW.out⟩
          · go_simp
            have hsz := HBW.out.size
            have hb := (Below.refl z3.heap.size z3).alloc (Nat.le_refl _) (.cells #[.int .i64 0, .slice none 0 0] 27)
            have HBW := Lib.hid (HBW.out.trans (hb.mono hsz))
            have HGX := Lib.hid hsz
            have HD := Lib.hid (fun k (hk : _ = some k) => Nat.ne_of_lt (HE.out.lt k hk).2)
            have HE := Lib.hid (HE.out.grown hb)
            have HP := Lib.hid (HP.out.lift hb)
            have HX := Lib.hid (Cells2.new z3 (.int .i64 0) (.slice none 0 0) 27)
            clear hb
            generalize z3.alloc (.cells #[.int .i64 0, .slice none 0 0] 27) = z4 at *
            obtain ⟨gX, hgX⟩ : ∃ g, z3.heap.size = g := ⟨_, rfl⟩
            rw [hgX] at HX HGX HD ⊢
            clear hgX
            (refine hK.out _ _ ?_ (fun hHeld2 => ?_); (focus ((try dsimp only); exact ⟨(HBW.out.cell (p := ⟨gA, 0, none⟩) hgA).trans HP0.out, (HBW.out.cell (p := ⟨gB, 1, none⟩) hgB).trans HQ1.out⟩)); (clear hK K); (try simp only [Act.put, List.getElem_toArray, List.getElem_cons_zero, List.getElem_cons_succ, List.setIfInBounds_toArray, List.set_cons_zero, List.set_cons_succ]))
            clear hsz
            refine wpAnyH_ready (rs := [8]) (by kernel_rfl) (by simp) ?_
            refine (AllReadyH.cons rfl (fun K hK => ?_) AllReadyH.nil)
            have hpi := HP.out.ints HPF.out
            refine step_append_srcI (by rfl) _ _ (by rfl) w1.heap.size _ xs (by rfl) HE.out (some ⟨_, 0, none⟩) 1 [(p : Int)] (by rfl) hpi (by intro h; cases h) (by have := HLX.out; simp; omega) HBW.out.size ?_
            intro v8 z5 hown8 hb8 hgr8 hat8
            obtain ⟨A8, c8, rfl⟩ := hown8.form
            have HBW := Lib.hid (HBW.out.trans hb8)
            have HD2 := Lib.hid (fun k hk => show k ≠ gX from (hat8 k hk).elim (fun h => HD.out k h) (fun h => by have := HX.out.2.2.2.2; omega))
            have HX := Lib.hid (HX.out.grown hgr8 (fun h => HD.out _ h.symm rfl))
            have HD := HD2
            have HE := Lib.hid hown8
            clear hown8 hb8 hgr8 hat8 hpi
            (refine hK.out _ _ ?_ (fun hHeld2 => ?_); (focus ((try dsimp only); exact ⟨(HBW.out.cell (p := ⟨gA, 0, none⟩) hgA).trans HP0.out, (HBW.out.cell (p := ⟨gB, 1, none⟩) hgB).trans HQ1.out⟩)); (clear hK K); (try simp only [Act.put, List.getElem_toArray, List.getElem_cons_zero, List.getElem_cons_succ, List.setIfInBounds_toArray, List.set_cons_zero, List.set_cons_succ]))
            (refine wpAnyH_take (i := 9) (v := ?_) rfl (by kernel_rfl) (by kernel_rfl) (by kernel_rfl) (fun _ _ _ h => h) (Or.inl ⟨by rfl, ?_⟩) (by assumption) ?_; rotate_left; (focus (intro wS hSw; (try dsimp only at hSw); go_simp; (try with_reducible rfl))); (try simp only [Act.put, List.getElem_toArray, List.getElem_cons_zero, List.getElem_cons_succ, List.setIfInBounds_toArray, List.set_cons_zero, List.set_cons_succ]))
            obtain ⟨x0, x1, xf0, xf1, _⟩ := HX.out
            have HN8 := Lib.hid (HE.out.newAt (by simp))
            have hl8 : (xs ++ [(p : Int)]).length = xs.length + 1 := by simp
            have HX9 := Lib.hid ((HX.out.set0 (.int .i64 N)).set1 (.slice A8 (xs.length + 1) c8))
            have HE9 := (HE.out.setFar (p := ⟨gX, 0, none⟩) HD.out (.int .i64 N)).setFar (p := ⟨gX, 1, none⟩) HD.out (.slice A8 (xs.length + 1) c8)
            have HI9 := Lib.hid (HE9.ints HPX.out)
            have HBW := Lib.hid ((HBW.out.setCell (p := ⟨gX, 0, none⟩) HGX.out (.int .i64 N)).setCell (p := ⟨gX, 1, none⟩) HGX.out (.slice A8 (xs.length + 1) c8))
            have HR9 := Lib.hid (show Hav ((z5.setCell ⟨gX, 0, none⟩ (.int .i64 N)).setCell ⟨gX, 1, none⟩ (.slice A8 (xs.length + 1) c8)) N gX A8 c8 (xs ++ [(p : Int)]) by unfold Hav; rw [hl8]; exact ⟨HX9.out, HI9.out⟩)
            clear HE9 hl8
            (refine wpAnyH_ready (rs := [11]) (by kernel_rfl) (by simp) ?_; refine AllReadyH.cons rfl (fun K hK => ?_) AllReadyH.nil; go_simp)
            (refine hK.out _ _ ?_ (fun hHeld2 => ?_); (focus ((try dsimp only); exact ⟨(HBW.out.cell (p := ⟨gA, 0, none⟩) hgA).trans HP0.out, (HBW.out.cell (p := ⟨gB, 1, none⟩) hgB).trans HQ1.out⟩)); (clear hK K); (try simp only [Act.put, List.getElem_toArray, List.getElem_cons_zero, List.getElem_cons_succ, List.setIfInBounds_toArray, List.set_cons_zero, List.set_cons_succ]))
            refine wpAnyH_done (by kernel_rfl) ?_ _
            go_wp2_with fail
            go_meet
            exact ⟨gX, A8, c8, rfl, HR9.out, HN8.out, HBW.out⟩
        · go_simp
          have hsz := HBW.out.size
          have hb := (Below.refl z2.heap.size z2).alloc (Nat.le_refl _) (.cells #[.int .i64 0, .slice none 0 0] 27)
          have HBW := Lib.hid (HBW.out.trans (hb.mono hsz))
          have HGX := Lib.hid hsz
          have HD := Lib.hid (fun k (hk : _ = some k) => Nat.ne_of_lt (HE.out.lt k hk).2)
          have HE := Lib.hid (HE.out.grown hb)
          have HX := Lib.hid (Cells2.new z2 (.int .i64 0) (.slice none 0 0) 27)
          clear hb
          generalize z2.alloc (.cells #[.int .i64 0, .slice none 0 0] 27) = z3 at *
          obtain ⟨gX, hgX⟩ : ∃ g, z2.heap.size = g := ⟨_, rfl⟩
          rw [hgX] at HX HGX HD ⊢
          clear hgX
          (refine hK.out _ _ ?_ (fun hHeld2 => ?_); (focus ((try dsimp only); exact ⟨(HBW.out.cell (p := ⟨gA, 0, none⟩) hgA).trans HP0.out, (HBW.out.cell (p := ⟨gB, 1, none⟩) hgB).trans HQ1.out⟩)); (clear hK K); (try simp only [Act.put, List.getElem_toArray, List.getElem_cons_zero, List.getElem_cons_succ, List.setIfInBounds_toArray, List.set_cons_zero, List.set_cons_succ]))
          clear hsz
          refine wpAnyH_ready (rs := [7]) (by kernel_rfl) (by simp) ?_
          refine AllReadyH.cons rfl (fun K hK => ?_) AllReadyH.nil
          go_simp
          have hsz := HBW.out.size
          have hb := (Below.refl z3.heap.size z3).alloc (Nat.le_refl _) (.cells #[.int .i64 p] 3)
          have HBW := Lib.hid (HBW.out.trans (hb.mono hsz))
          have HE := Lib.hid (HE.out.grown hb)
          have HX := Lib.hid (HX.out.below hb HX.out.2.2.2.2)
          have HP := Lib.hid (Cell1.new z3 (.int .i64 p) 3)
          clear hb
          generalize z3.alloc (.cells #[.int .i64 p] 3) = z4 at *
          (refine hK.out _ _ ?_ (fun hHeld2 => ?_); (focus ((try dsimp only); exact ⟨(HBW.out.cell (p := ⟨gA, 0, none⟩) hgA).trans HP0.out, (HBW.out.cell (p := ⟨gB, 1, none⟩) hgB).trans HQ1.out⟩)); (clear hK K); (try simp only [Act.put, List.getElem_toArray, List.getElem_cons_zero, List.getElem_cons_succ, List.setIfInBounds_toArray, List.set_cons_zero, List.set_cons_succ]))
          clear hsz
          refine wpAnyH_ready (rs := [8]) (by kernel_rfl) (by simp) ?_
          refine (AllReadyH.cons rfl (fun K hK => ?_) AllReadyH.nil)
          have hpi := HP.out.ints HPF.out
          refine step_append_srcI (by rfl) _ _ (by rfl) w1.heap.size _ xs (by rfl) HE.out (some ⟨_, 0, none⟩) 1 [(p : Int)] (by rfl) hpi (by intro h; cases h) (by have := HLX.out; simp; omega) HBW.out.size ?_
          intro v8 z5 hown8 hb8 hgr8 hat8
          obtain ⟨A8, c8, rfl⟩ := hown8.form
          have HBW := Lib.hid (HBW.out.trans hb8)
          have HD2 := Lib.hid (fun k hk => show k ≠ gX from (hat8 k hk).elim (fun h => HD.out k h) (fun h => by have := HX.out.2.2.2.2; omega))
          have HX := Lib.hid (HX.out.grown hgr8 (fun h => HD.out _ h.symm rfl))
          have HD := HD2
          have HE := Lib.hid hown8
          clear hown8 hb8 hgr8 hat8 hpi
          (refine hK.out _ _ ?_ (fun hHeld2 => ?_); (focus ((try dsimp only); exact ⟨(HBW.out.cell (p := ⟨gA, 0, none⟩) hgA).trans HP0.out, (HBW.out.cell (p := ⟨gB, 1, none⟩) hgB).trans HQ1.out⟩)); (clear hK K); (try simp only [Act.put, List.getElem_toArray, List.getElem_cons_zero, List.getElem_cons_succ, List.setIfInBounds_toArray, List.set_cons_zero, List.set_cons_succ]))
          (refine wpAnyH_take (i := 9) (v := ?_) rfl (by kernel_rfl) (by kernel_rfl) (by kernel_rfl) (fun _ _ _ h => h) (Or.inl ⟨by rfl, ?_⟩) (by assumption) ?_; rotate_left; (focus (intro wS hSw; (try dsimp only at hSw); go_simp; (try with_reducible rfl))); (try simp only [Act.put, List.getElem_toArray, List.getElem_cons_zero, List.getElem_cons_succ, List.setIfInBounds_toArray, List.set_cons_zero, List.set_cons_succ]))
          obtain ⟨x0, x1, xf0, xf1, _⟩ := HX.out
          have HN8 := Lib.hid (HE.out.newAt (by simp))
          have hl8 : (xs ++ [(p : Int)]).length = xs.length + 1 := by simp
          have HX9 := Lib.hid ((HX.out.set0 (.int .i64 N)).set1 (.slice A8 (xs.length + 1) c8))
          have HE9 := (HE.out.setFar (p := ⟨gX, 0, none⟩) HD.out (.int .i64 N)).setFar (p := ⟨gX, 1, none⟩) HD.out (.slice A8 (xs.length + 1) c8)
          have HI9 := Lib.hid (HE9.ints HPX.out)
          have HBW := Lib.hid ((HBW.out.setCell (p := ⟨gX, 0, none⟩) HGX.out (.int .i64 N)).setCell (p := ⟨gX, 1, none⟩) HGX.out (.slice A8 (xs.length + 1) c8))
          have HR9 := Lib.hid (show Hav ((z5.setCell ⟨gX, 0, none⟩ (.int .i64 N)).setCell ⟨gX, 1, none⟩ (.slice A8 (xs.length + 1) c8)) N gX A8 c8 (xs ++ [(p : Int)]) by unfold Hav; rw [hl8]; exact ⟨HX9.out, HI9.out⟩)
          clear HE9 hl8
          (refine wpAnyH_ready (rs := [11]) (by kernel_rfl) (by simp) ?_; refine AllReadyH.cons rfl (fun K hK => ?_) AllReadyH.nil; go_simp)
          (refine hK.out _ _ ?_ (fun hHeld2 => ?_); (focus ((try dsimp only); exact ⟨(HBW.out.cell (p := ⟨gA, 0, none⟩) hgA).trans HP0.out, (HBW.out.cell (p := ⟨gB, 1, none⟩) hgB).trans HQ1.out⟩)); (clear hK K); (try simp only [Act.put, List.getElem_toArray, List.getElem_cons_zero, List.getElem_cons_succ, List.setIfInBounds_toArray, List.set_cons_zero, List.set_cons_succ]))
          refine wpAnyH_done (by kernel_rfl) ?_ _
          go_wp2_with fail
          go_meet
          exact ⟨gX, A8, c8, rfl, HR9.out, HN8.out, HBW.out⟩
      · go_simp
        have hsz := HBW.out.size
        have hb := (Below.refl z1.heap.size z1).alloc (Nat.le_refl _) (.cells #[.int .i64 p] 3)
        have HBW := Lib.hid (HBW.out.trans (hb.mono hsz))
        have HE := Lib.hid (HE.out.grown hb)
        have HP := Lib.hid (Cell1.new z1 (.int .i64 p) 3)
        clear hb
        generalize z1.alloc (.cells #[.int .i64 p] 3) = z2 at *
        (refine hK.out _ _ ?_ (fun hHeld2 => ?_); (focus ((try dsimp only); exact ⟨(HBW.out.cell (p := ⟨gA, 0, none⟩) hgA).trans HP0.out, (HBW.out.cell (p := ⟨gB, 1, none⟩) hgB).trans HQ1.out⟩)); (clear hK K); (try simp only [Act.put, List.getElem_toArray, List.getElem_cons_zero, List.getElem_cons_succ, List.setIfInBounds_toArray, List.set_cons_zero, List.set_cons_succ]))
        clear hsz
        refine wpAnyH_ready (rs := [5, 10]) (by kernel_rfl) (by simp) ?_
        refine (AllReadyH.cons rfl (fun K hK => ?_) (AllReadyH.cons rfl (fun K hK => ?_) AllReadyH.nil))
        · refine step_append_src0I (by rfl) _ _ (by rfl) w1.heap.size _ (by rfl) HE.out AB cB xs (by rfl) (HIB.out.lift HBW.out) HNB.out (by have := HLX.out; omega) HBW.out.size ?_
          intro v5 z3 hown5 hb5 hat5
          obtain ⟨A5, c5, rfl⟩ := hown5.form
          have hsz := HBW.out.size
          have HBW := Lib.hid (HBW.out.trans (hb5.mono hsz))
          have HP := Lib.hid (HP.out.lift hb5)
          have HE := Lib.hid hown5
          clear hown5 hb5 hat5
          (refine hK.out _ _ ?_ (fun hHeld2 => ?_); (focus ((try dsimp only); exact ⟨(HBW.out.cell (p := ⟨gA, 0, none⟩) hgA).trans HP0.out, (HBW.out.cell (p := ⟨gB, 1, none⟩) hgB).trans HQ1.out⟩)); (clear hK K); (try simp only [Act.put, List.getElem_toArray, List.getElem_cons_zero, List.getElem_cons_succ, List.setIfInBounds_toArray, List.set_cons_zero, List.set_cons_succ]))
          clear hsz
          refine wpAnyH_ready (rs := [8, 10]) (by kernel_rfl) (by simp) ?_
          refine (AllReadyH.cons rfl (fun K hK => ?_) (AllReadyH.cons rfl (fun K hK => ?_) AllReadyH.nil))
          · have hpi := HP.out.ints HPF.out
            refine step_append_srcI (by rfl) _ _ (by rfl) w1.heap.size _ xs (by rfl) HE.out (some ⟨_, 0, none⟩) 1 [(p : Int)] (by rfl) hpi (by intro h; cases h) (by have := HLX.out; simp; omega) HBW.out.size ?_
            intro v8 z4 hown8 hb8 hgr8 hat8
            obtain ⟨A8, c8, rfl⟩ := hown8.form
            have HBW := Lib.hid (HBW.out.trans hb8)
            have HE := Lib.hid hown8
            clear hown8 hb8 hgr8 hat8 hpi
            (refine hK.out _ _ ?_ (fun hHeld2 => ?_); (focus ((try dsimp only); exact ⟨(HBW.out.cell (p := ⟨gA, 0, none⟩) hgA).trans HP0.out, (HBW.out.cell (p := ⟨gB, 1, none⟩) hgB).trans HQ1.out⟩)); (clear hK K); (try simp only [Act.put, List.getElem_toArray, List.getElem_cons_zero, List.getElem_cons_succ, List.setIfInBounds_toArray, List.set_cons_zero, List.set_cons_succ]))
            (refine wpAnyH_take (i := 9) (v := ?_) rfl (by kernel_rfl) (by kernel_rfl) (by kernel_rfl) (fun _ _ _ h => h) (Or.inl ⟨by rfl, ?_⟩) (by assumption) ?_; rotate_left; (focus (intro wS hSw; (try dsimp only at hSw); go_simp; (try with_reducible rfl))); (try simp only [Act.put, List.getElem_toArray, List.getElem_cons_zero, List.getElem_cons_succ, List.setIfInBounds_toArray, List.set_cons_zero, List.set_cons_succ]))
            refine wpAnyH_ready (rs := [10]) (by kernel_rfl) (by simp) ?_
            refine AllReadyH.cons rfl (fun K hK => ?_) AllReadyH.nil
            go_simp
            have hsz := HBW.out.size
            have hb := (Below.refl z4.heap.size z4).alloc (Nat.le_refl _) (.cells #[.int .i64 0, .slice none 0 0] 27)
            have HBW := Lib.hid (HBW.out.trans (hb.mono hsz))
            have HGX := Lib.hid hsz
            have HD := Lib.hid (fun k (hk : _ = some k) => Nat.ne_of_lt (HE.out.lt k hk).2)
            have HE := Lib.hid (HE.out.grown hb)
            have HX := Lib.hid (Cells2.new z4 (.int .i64 0) (.slice none 0 0) 27)
            clear hb
            generalize z4.alloc (.cells #[.int .i64 0, .slice none 0 0] 27) = z5 at *
            obtain ⟨gX, hgX⟩ : ∃ g, z4.heap.size = g := ⟨_, rfl⟩
            rw [hgX] at HX HGX HD ⊢
            clear hgX
            (refine hK.out _ _ ?_ (fun hHeld2 => ?_); (focus ((try dsimp only); exact ⟨(HBW.out.cell (p := ⟨gA, 0, none⟩) hgA).trans HP0.out, (HBW.out.cell (p := ⟨gB, 1, none⟩) hgB).trans HQ1.out⟩)); (clear hK K); (try simp only [Act.put, List.getElem_toArray, List.getElem_cons_zero, List.getElem_cons_succ, List.setIfInBounds_toArray, List.set_cons_zero, List.set_cons_succ]))
            clear hsz
            obtain ⟨x0, x1, xf0, xf1, _⟩ := HX.out
            have HN8 := Lib.hid (HE.out.newAt (by simp))
            have hl8 : (xs ++ [(p : Int)]).length = xs.length + 1 := by simp
            have HX9 := Lib.hid ((HX.out.set0 (.int .i64 N)).set1 (.slice A8 (xs.length + 1) c8))
            have HE9 := (HE.out.setFar (p := ⟨gX, 0, none⟩) HD.out (.int .i64 N)).setFar (p := ⟨gX, 1, none⟩) HD.out (.slice A8 (xs.length + 1) c8)
            have HI9 := Lib.hid (HE9.ints HPX.out)
            have HBW := Lib.hid ((HBW.out.setCell (p := ⟨gX, 0, none⟩) HGX.out (.int .i64 N)).setCell (p := ⟨gX, 1, none⟩) HGX.out (.slice A8 (xs.length + 1) c8))
            have HR9 := Lib.hid (show Hav ((z5.setCell ⟨gX, 0, none⟩ (.int .i64 N)).setCell ⟨gX, 1, none⟩ (.slice A8 (xs.length + 1) c8)) N gX A8 c8 (xs ++ [(p : Int)]) by unfold Hav; rw [hl8]; exact ⟨HX9.out, HI9.out⟩)
            clear HE9 hl8
            (refine wpAnyH_ready (rs := [11]) (by kernel_rfl) (by simp) ?_; refine AllReadyH.cons rfl (fun K hK => ?_) AllReadyH.nil; go_simp)
            (refine hK.out _ _ ?_ (fun hHeld2 => ?_); (focus ((try dsimp only); exact ⟨(HBW.out.cell (p := ⟨gA, 0, none⟩) hgA).trans HP0.out, (HBW.out.cell (p := ⟨gB, 1, none⟩) hgB).trans HQ1.out⟩)); (clear hK K); (try simp only [Act.put, List.getElem_toArray, List.getElem_cons_zero, List.getElem_cons_succ, List.setIfInBounds_toArray, List.set_cons_zero, List.set_cons_succ]))
            refine wpAnyH_done (by kernel_rfl) ?_ _
            go_wp2_with fail
            go_meet
            exact ⟨gX, A8, c8, rfl, HR9.out, HN8.out, HBW.out⟩
          · go_simp
            have hsz := HBW.out.size
            have hb := (Below.refl z3.heap.size z3).alloc (Nat.le_refl _) (.cells #[.int .i64 0, .slice none 0 0] 27)
            have HBW := Lib.hid (HBW.out.trans (hb.mono hsz))
            have HGX := Lib.hid hsz
            have HD := Lib.hid (fun k (hk : _ = some k) => Nat.ne_of_lt (HE.out.lt k hk).2)
            have HE := Lib.hid (HE.out.grown hb)
            have HP := Lib.hid (HP.out.lift hb)
            have HX := Lib.hid (Cells2.new z3 (.int .i64 0) (.slice none 0 0) 27)
            clear hb
            generalize z3.alloc (.cells #[.int .i64 0, .slice none 0 0] 27) = z4 at *
            obtain ⟨gX, hgX⟩ : ∃ g, z3.heap.size = g := ⟨_, rfl⟩
            rw [hgX] at HX HGX HD ⊢
            clear hgX
            (refine hK.out _ _ ?_ (fun hHeld2 => ?_); (focus ((try dsimp only); exact ⟨(HBW.out.cell (p := ⟨gA, 0, none⟩) hgA).trans HP0.out, (HBW.out.cell (p := ⟨gB, 1, none⟩) hgB).trans HQ1.out⟩)); (clear hK K); (try simp only [Act.put, List.getElem_toArray, List.getElem_cons_zero, List.getElem_cons_succ, List.setIfInBounds_toArray, List.set_cons_zero, List.set_cons_succ]))
            clear hsz
            refine wpAnyH_ready (rs := [8]) (by kernel_rfl) (by simp) ?_
            refine (AllReadyH.cons rfl (fun K hK => ?_) AllReadyH.nil)
            have hpi := HP.out.ints HPF.out
            refine step_append_srcI (by rfl) _ _ (by rfl) w1.heap.size _ xs (by rfl) HE.out (some ⟨_, 0, none⟩) 1 [(p : Int)] (by rfl) hpi (by intro h; cases h) (by have := HLX.out; simp; omega) HBW.out.size ?_
            intro v8 z5 hown8 hb8 hgr8 hat8
            obtain ⟨A8, c8, rfl⟩ := hown8.form
            have HBW := Lib.hid (HBW.out.trans hb8)
            have HD2 := Lib.hid (fun k hk => show k ≠ gX from (hat8 k hk).elim (fun h => HD.out k h) (fun h => by have := HX.out.2.2.2.2; omega))
            have HX := Lib.hid (HX.out.grown hgr8 (fun h => HD.out _ h.symm rfl))
            have HD := HD2
            have HE := Lib.hid hown8
            clear hown8 hb8 hgr8 hat8 hpi
            (refine hK.out _ _ ?_ (fun hHeld2 => ?_); (focus ((try dsimp only); exact ⟨(HBW.out.cell (p := ⟨gA, 0, none⟩) hgA).trans HP0.out, (HBW.out.cell (p := ⟨gB, 1, none⟩) hgB).trans HQ1.out⟩)); (clear hK K); (try simp only [Act.put, List.getElem_toArray, List.getElem_cons_zero, List.getElem_cons_succ, List.setIfInBounds_toArray, List.set_cons_zero, List.set_cons_succ]))
            (refine wpAnyH_take (i := 9) (v := ?_) rfl (by kernel_rfl) (by kernel_rfl) (by kernel_rfl) (fun _ _ _ h => h) (Or.inl ⟨by rfl, ?_⟩) (by assumption) ?_; rotate_left; (focus (intro wS hSw; (try dsimp only at hSw); go_simp; (try with_reducible rfl))); (try simp only [Act.put, List.getElem_toArray, List.getElem_cons_zero, List.getElem_cons_succ, List.setIfInBounds_toArray, List.set_cons_zero, List.set_cons_succ]))
            obtain ⟨x0, x1, xf0, xf1, _⟩ := HX.out
            have HN8 := Lib.hid (HE.out.newAt (by simp))
            have hl8 : (xs ++ [(p : Int)]).length = xs.length + 1 := by simp
            have HX9 := Lib.hid ((HX.out.set0 (.int .i64 N)).set1 (.slice A8 (xs.length + 1) c8))
            have HE9 := (HE.out.setFar (p := ⟨gX, 0, none⟩) HD.out (.int .i64 N)).setFar (p := ⟨gX, 1, none⟩) HD.out (.slice A8 (xs.length + 1) c8)
            have HI9 := Lib.hid (HE9.ints HPX.out)
            have HBW := Lib.hid ((HBW.out.setCell (p := ⟨gX, 0, none⟩) HGX.out (.int .i64 N)).setCell (p := ⟨gX, 1, none⟩) HGX.out (.slice A8 (xs.length + 1) c8))
            have HR9 := Lib.hid (show Hav ((z5.setCell ⟨gX, 0, none⟩ (.int .i64 N)).setCell ⟨gX, 1, none⟩ (.slice A8 (xs.length + 1) c8)) N gX A8 c8 (xs ++ [(p : Int)]) by unfold Hav; rw [hl8]; exact ⟨HX9.out, HI9.out⟩)
            clear HE9 hl8
            (refine wpAnyH_ready (rs := [11]) (by kernel_rfl) (by simp) ?_; refine AllReadyH.cons rfl (fun K hK => ?_) AllReadyH.nil; go_simp)
            (refine hK.out _ _ ?_ (fun hHeld2 => ?_); (focus ((try dsimp only); exact ⟨(HBW.out.cell (p := ⟨gA, 0, none⟩) hgA).trans HP0.out, (HBW.out.cell (p := ⟨gB, 1, none⟩) hgB).trans HQ1.out⟩)); (clear hK K); (try simp only [Act.put, List.getElem_toArray, List.getElem_cons_zero, List.getElem_cons_succ, List.setIfInBounds_toArray, List.set_cons_zero, List.set_cons_succ]))
            refine wpAnyH_done (by kernel_rfl) ?_ _
            go_wp2_with fail
            go_meet
            exact ⟨gX, A8, c8, rfl, HR9.out, HN8.out, HBW.out⟩
        · go_simp
          have hsz := HBW.out.size
          have hb := (Below.refl z2.heap.size z2).alloc (Nat.le_refl _) (.cells #[.int .i64 0, .slice none 0 0] 27)
          have HBW := Lib.hid (HBW.out.trans (hb.mono hsz))
          have HGX := Lib.hid hsz
          have HD := Lib.hid (fun k (hk : _ = some k) => Nat.ne_of_lt (HE.out.lt k hk).2)
          have HE := Lib.hid (HE.out.grown hb)
          have HP := Lib.hid (HP.out.lift hb)
          have HX := Lib.hid (Cells2.new z2 (.int .i64 0) (.slice none 0 0) 27)
          clear hb
          generalize z2.alloc (.cells #[.int .i64 0, .slice none 0 0] 27) = z3 at *
          obtain ⟨gX, hgX⟩ : ∃ g, z2.heap.size = g := ⟨_, rfl⟩
          rw [hgX] at HX HGX HD ⊢
          clear hgX
          (refine hK.out _ _ ?_ (fun hHeld2 => ?_); (focus ((try dsimp only); exact ⟨(HBW.out.cell (p := ⟨gA, 0, none⟩) hgA).trans HP0.out, (HBW.out.cell (p := ⟨gB, 1, none⟩) hgB).trans HQ1.out⟩)); (clear hK K); (try simp only [Act.put, List.getElem_toArray, List.getElem_cons_zero, List.getElem_cons_succ, List.setIfInBounds_toArray, List.set_cons_zero, List.set_cons_succ]))
          clear hsz
          refine wpAnyH_ready (rs := [5]) (by kernel_rfl) (by simp) ?_
          refine (AllReadyH.cons rfl (fun K hK => ?_) AllReadyH.nil)
          refine step_append_src0I (by rfl) _ _ (by rfl) w1.heap.size _ (by rfl) HE.out AB cB xs (by rfl) (HIB.out.lift HBW.out) HNB.out (by have := HLX.out; omega) HBW.out.size ?_
          intro v5 z4 hown5 hb5 hat5
          obtain ⟨A5, c5, rfl⟩ := hown5.form
          have hsz := HBW.out.size
          have HBW := Lib.hid (HBW.out.trans (hb5.mono hsz))
          have HP := Lib.hid (HP.out.lift hb5)
          have HD2 := Lib.hid (fun k hk => show k ≠ gX from (hat5 k hk).elim (fun h => HD.out k h) (fun h => by have := HX.out.2.2.2.2; omega))
          have HX := Lib.hid (HX.out.below hb5 HX.out.2.2.2.2)
          have HD := HD2
          have HE := Lib.hid hown5
          clear hown5 hb5 hat5
          (refine hK.out _ _ ?_ (fun hHeld2 => ?_); (focus ((try dsimp only); exact ⟨(HBW.out.cell (p := ⟨gA, 0, none⟩) hgA).trans HP0.out, (HBW.out.cell (p := ⟨gB, 1, none⟩) hgB).trans HQ1.out⟩)); (clear hK K); (try simp only [Act.put, List.getElem_toArray, List.getElem_cons_zero, List.getElem_cons_succ, List.setIfInBounds_toArray, List.set_cons_zero, List.set_cons_succ]))
          clear hsz
          refine wpAnyH_ready (rs := [8]) (by kernel_rfl) (by simp) ?_
          refine (AllReadyH.cons rfl (fun K hK => ?_) AllReadyH.nil)
          have hpi := HP.out.ints HPF.out
          refine step_append_srcI (by rfl) _ _ (by rfl) w1.heap.size _ xs (by rfl) HE.out (some ⟨_, 0, none⟩) 1 [(p : Int)] (by rfl) hpi (by intro h; cases h) (by have := HLX.out; simp; omega) HBW.out.size ?_
          intro v8 z5 hown8 hb8 hgr8 hat8
          obtain ⟨A8, c8, rfl⟩ := hown8.form
          have HBW := Lib.hid (HBW.out.trans hb8)
          have HD2 := Lib.hid (fun k hk => show k ≠ gX from (hat8 k hk).elim (fun h => HD.out k h) (fun h => by have := HX.out.2.2.2.2; omega))
          have HX := Lib.hid (HX.out.grown hgr8 (fun h => HD.out _ h.symm rfl))
          have HD := HD2
          have HE := Lib.hid hown8
          clear hown8 hb8 hgr8 hat8 hpi
          (refine hK.out _ _ ?_ (fun hHeld2 => ?_); (focus ((try dsimp only); exact ⟨(HBW.out.cell (p := ⟨gA, 0, none⟩) hgA).trans HP0.out, (HBW.out.cell (p := ⟨gB, 1, none⟩) hgB).trans HQ1.out⟩)); (clear hK K); (try simp only [Act.put, List.getElem_toArray, List.getElem_cons_zero, List.getElem_cons_succ, List.setIfInBounds_toArray, List.set_cons_zero, List.set_cons_succ]))
          (refine wpAnyH_take (i := 9) (v := ?_) rfl (by kernel_rfl) (by kernel_rfl) (by kernel_rfl) (fun _ _ _ h => h) (Or.inl ⟨by rfl, ?_⟩) (by assumption) ?_; rotate_left; (focus (intro wS hSw; (try dsimp only at hSw); go_simp; (try with_reducible rfl))); (try simp only [Act.put, List.getElem_toArray, List.getElem_cons_zero, List.getElem_cons_succ, List.setIfInBounds_toArray, List.set_cons_zero, List.set_cons_succ]))
          obtain ⟨x0, x1, xf0, xf1, _⟩ := HX.out
          have HN8 := Lib.hid (HE.out.newAt (by simp))
          have hl8 : (xs ++ [(p : Int)]).length = xs.length + 1 := by simp
          have HX9 := Lib.hid ((HX.out.set0 (.int .i64 N)).set1 (.slice A8 (xs.length + 1) c8))
          have HE9 := (HE.out.setFar (p := ⟨gX, 0, none⟩) HD.out (.int .i64 N)).setFar (p := ⟨gX, 1, none⟩) HD.out (.slice A8 (xs.length + 1) c8)
          have HI9 := Lib.hid (HE9.ints HPX.out)
          have HBW := Lib.hid ((HBW.out.setCell (p := ⟨gX, 0, none⟩) HGX.out (.int .i64 N)).setCell (p := ⟨gX, 1, none⟩) HGX.out (.slice A8 (xs.length + 1) c8))
          have HR9 := Lib.hid (show Hav ((z5.setCell ⟨gX, 0, none⟩ (.int .i64 N)).setCell ⟨gX, 1, none⟩ (.slice A8 (xs.length + 1) c8)) N gX A8 c8 (xs ++ [(p : Int)]) by unfold Hav; rw [hl8]; exact ⟨HX9.out, HI9.out⟩)
          clear HE9 hl8
          (refine wpAnyH_ready (rs := [11]) (by kernel_rfl) (by simp) ?_; refine AllReadyH.cons rfl (fun K hK => ?_) AllReadyH.nil; go_simp)
          (refine hK.out _ _ ?_ (fun hHeld2 => ?_); (focus ((try dsimp only); exact ⟨(HBW.out.cell (p := ⟨gA, 0, none⟩) hgA).trans HP0.out, (HBW.out.cell (p := ⟨gB, 1, none⟩) hgB).trans HQ1.out⟩)); (clear hK K); (try simp only [Act.put, List.getElem_toArray, List.getElem_cons_zero, List.getElem_cons_succ, List.setIfInBounds_toArray, List.set_cons_zero, List.set_cons_succ]))
          refine wpAnyH_done (by kernel_rfl) ?_ _
          go_wp2_with fail
          go_meet
          exact ⟨gX, A8, c8, rfl, HR9.out, HN8.out, HBW.out⟩
      · go_simp
        have hsz := HBW.out.size
        have hb := (Below.refl z1.heap.size z1).alloc (Nat.le_refl _) (.cells #[.int .i64 0, .slice none 0 0] 27)
        have HBW := Lib.hid (HBW.out.trans (hb.mono hsz))
        have HGX := Lib.hid hsz
        have HD := Lib.hid (fun k (hk : _ = some k) => Nat.ne_of_lt (HE.out.lt k hk).2)
        have HE := Lib.hid (HE.out.grown hb)
        have HX := Lib.hid (Cells2.new z1 (.int .i64 0) (.slice none 0 0) 27)
        clear hb
        generalize z1.alloc (.cells #[.int .i64 0, .slice none 0 0] 27) = z2 at *
        obtain ⟨gX, hgX⟩ : ∃ g, z1.heap.size = g := ⟨_, rfl⟩
        rw [hgX] at HX HGX HD ⊢
        clear hgX
        (refine hK.out _ _ ?_ (fun hHeld2 => ?_); (focus ((try dsimp only); exact ⟨(HBW.out.cell (p := ⟨gA, 0, none⟩) hgA).trans HP0.out, (HBW.out.cell (p := ⟨gB, 1, none⟩) hgB).trans HQ1.out⟩)); (clear hK K); (try simp only [Act.put, List.getElem_toArray, List.getElem_cons_zero, List.getElem_cons_succ, List.setIfInBounds_toArray, List.set_cons_zero, List.set_cons_succ]))
        clear hsz
        refine wpAnyH_ready (rs := [5, 7]) (by kernel_rfl) (by simp) ?_
        refine (AllReadyH.cons rfl (fun K hK => ?_) (AllReadyH.cons rfl (fun K hK => ?_) AllReadyH.nil))
        · refine step_append_src0I (by rfl) _ _ (by rfl) w1.heap.size _ (by rfl) HE.out AB cB xs (by rfl) (HIB.out.lift HBW.out) HNB.out (by have := HLX.out; omega) HBW.out.size ?_
          intro v5 z3 hown5 hb5 hat5
          obtain ⟨A5, c5, rfl⟩ := hown5.form
          have hsz := HBW.out.size
          have HBW := Lib.hid (HBW.out.trans (hb5.mono hsz))
          have HD2 := Lib.hid (fun k hk => show k ≠ gX from (hat5 k hk).elim (fun h => HD.out k h) (fun h => by have := HX.out.2.2.2.2; omega))
          have HX := Lib.hid (HX.out.below hb5 HX.out.2.2.2.2)
          have HD := HD2
          have HE := Lib.hid hown5
          clear hown5 hb5 hat5
          (refine hK.out _ _ ?_ (fun hHeld2 => ?_); (focus ((try dsimp only); exact ⟨(HBW.out.cell (p := ⟨gA, 0, none⟩) hgA).trans HP0.out, (HBW.out.cell (p := ⟨gB, 1, none⟩) hgB).trans HQ1.out⟩)); (clear hK K); (try simp only [Act.put, List.getElem_toArray, List.getElem_cons_zero, List.getElem_cons_succ, List.setIfInBounds_toArray, List.set_cons_zero, List.set_cons_succ]))
          clear hsz
          refine wpAnyH_ready (rs := [7]) (by kernel_rfl) (by simp) ?_
          refine AllReadyH.cons rfl (fun K hK => ?_) AllReadyH.nil
          go_simp
          have hsz := HBW.out.size
          have hb := (Below.refl z3.heap.size z3).alloc (Nat.le_refl _) (.cells #[.int .i64 p] 3)
          have HBW := Lib.hid (HBW.out.trans (hb.mono hsz))
          have HE := Lib.hid (HE.out.grown hb)
          have HX := Lib.hid (HX.out.below hb HX.out.2.2.2.2)
          have HP := Lib.hid (Cell1.new z3 (.int .i64 p) 3)
          clear hb
          generalize z3.alloc (.cells #[.int .i64 p] 3) = z4 at *
          (refine hK.out _ _ ?_ (fun hHeld2 => ?_); (focus ((try dsimp only); exact ⟨(HBW.out.cell (p := ⟨gA, 0, none⟩) hgA).trans HP0.out, (HBW.out.cell (p := ⟨gB, 1, none⟩) hgB).trans HQ1.out⟩)); (clear hK K); (try simp only [Act.put, List.getElem_toArray, List.getElem_cons_zero, List.getElem_cons_succ, List.setIfInBounds_toArray, List.set_cons_zero, List.set_cons_succ]))
          clear hsz
          refine wpAnyH_ready (rs := [8]) (by kernel_rfl) (by simp) ?_
          refine (AllReadyH.cons rfl (fun K hK => ?_) AllReadyH.nil)
          have hpi := HP.out.ints HPF.out
          refine step_append_srcI (by rfl) _ _ (by rfl) w1.heap.size _ xs (by rfl) HE.out (some ⟨_, 0, none⟩) 1 [(p : Int)] (by rfl) hpi (by intro h; cases h) (by have := HLX.out; simp; omega) HBW.out.size ?_
          intro v8 z5 hown8 hb8 hgr8 hat8
          obtain ⟨A8, c8, rfl⟩ := hown8.form
          have HBW := Lib.hid (HBW.out.trans hb8)
          have HD2 := Lib.hid (fun k hk => show k ≠ gX from (hat8 k hk).elim (fun h => HD.out k h) (fun h => by have := HX.out.2.2.2.2; omega))
          have HX := Lib.hid (HX.out.grown hgr8 (fun h => HD.out _ h.symm rfl))
          have HD := HD2
          have HE := Lib.hid hown8
          clear hown8 hb8 hgr8 hat8 hpi
          (refine hK.out _ _ ?_ (fun hHeld2 => ?_); (focus ((try dsimp only); exact ⟨(HBW.out.cell (p := ⟨gA, 0, none⟩) hgA).trans HP0.out, (HBW.out.cell (p := ⟨gB, 1, none⟩) hgB).trans HQ1.out⟩)); (clear hK K); (try simp only [Act.put, List.getElem_toArray, List.getElem_cons_zero, List.getElem_cons_succ, List.setIfInBounds_toArray, List.set_cons_zero, List.set_cons_succ]))
          (refine wpAnyH_take (i := 9) (v := ?_) rfl (by kernel_rfl) (by kernel_rfl) (by kernel_rfl) (fun _ _ _ h => h) (Or.inl ⟨by rfl, ?_⟩) (by assumption) ?_; rotate_left; (focus (intro wS hSw; (try dsimp only at hSw); go_simp; (try with_reducible rfl))); (try simp only [Act.put, List.getElem_toArray, List.getElem_cons_zero, List.getElem_cons_succ, List.setIfInBounds_toArray, List.set_cons_zero, List.set_cons_succ]))
          obtain ⟨x0, x1, xf0, xf1, _⟩ := HX.out
          have HN8 := Lib.hid (HE.out.newAt (by simp))
          have hl8 : (xs ++ [(p : Int)]).length = xs.length + 1 := by simp
          have HX9 := Lib.hid ((HX.out.set0 (.int .i64 N)).set1 (.slice A8 (xs.length + 1) c8))
          have HE9 := (HE.out.setFar (p := ⟨gX, 0, none⟩) HD.out (.int .i64 N)).setFar (p := ⟨gX, 1, none⟩) HD.out (.slice A8 (xs.length + 1) c8)
          have HI9 := Lib.hid (HE9.ints HPX.out)
          have HBW := Lib.hid ((HBW.out.setCell (p := ⟨gX, 0, none⟩) HGX.out (.int .i64 N)).setCell (p := ⟨gX, 1, none⟩) HGX.out (.slice A8 (xs.length + 1) c8))
          have HR9 := Lib.hid (show Hav ((z5.setCell ⟨gX, 0, none⟩ (.int .i64 N)).setCell ⟨gX, 1, none⟩ (.slice A8 (xs.length + 1) c8)) N gX A8 c8 (xs ++ [(p : Int)]) by unfold Hav; rw [hl8]; exact ⟨HX9.out, HI9.out⟩)
          clear HE9 hl8
          (refine wpAnyH_ready (rs := [11]) (by kernel_rfl) (by simp) ?_; refine AllReadyH.cons rfl (fun K hK => ?_) AllReadyH.nil; go_simp)
          (refine hK.out _ _ ?_ (fun hHeld2 => ?_); (focus ((try dsimp only); exact ⟨(HBW.out.cell (p := ⟨gA, 0, none⟩) hgA).trans HP0.out, (HBW.out.cell (p := ⟨gB, 1, none⟩) hgB).trans HQ1.out⟩)); (clear hK K); (try simp only [Act.put, List.getElem_toArray, List.getElem_cons_zero, List.getElem_cons_succ, List.setIfInBounds_toArray, List.set_cons_zero, List.set_cons_succ]))
          refine wpAnyH_done (by kernel_rfl) ?_ _
          go_wp2_with fail
          go_meet
          exact ⟨gX, A8, c8, rfl, HR9.out, HN8.out, HBW.out⟩
        · go_simp
          have hsz := HBW.out.size
          have hb := (Below.refl z2.heap.size z2).alloc (Nat.le_refl _) (.cells #[.int .i64 p] 3)
          have HBW := Lib.hid (HBW.out.trans (hb.mono hsz))
          have HE := Lib.hid (HE.out.grown hb)
          have HX := Lib.hid (HX.out.below hb HX.out.2.2.2.2)
          have HP := Lib.hid (Cell1.new z2 (.int .i64 p) 3)
          clear hb
          generalize z2.alloc (.cells #[.int .i64 p] 3) = z3 at *
          (refine hK.out _ _ ?_ (fun hHeld2 => ?_); (focus ((try dsimp only); exact ⟨(HBW.out.cell (p := ⟨gA, 0, none⟩) hgA).trans HP0.out, (HBW.out.cell (p := ⟨gB, 1, none⟩) hgB).trans HQ1.out⟩)); (clear hK K); (try simp only [Act.put, List.getElem_toArray, List.getElem_cons_zero, List.getElem_cons_succ, List.setIfInBounds_toArray, List.set_cons_zero, List.set_cons_succ]))
          clear hsz
          refine wpAnyH_ready (rs := [5]) (by kernel_rfl) (by simp) ?_
          refine (AllReadyH.cons rfl (fun K hK => ?_) AllReadyH.nil)
          refine step_append_src0I (by rfl) _ _ (by rfl) w1.heap.size _ (by rfl) HE.out AB cB xs (by rfl) (HIB.out.lift HBW.out) HNB.out (by have := HLX.out; omega) HBW.out.size ?_
          intro v5 z4 hown5 hb5 hat5
          obtain ⟨A5, c5, rfl⟩ := hown5.form
          have hsz := HBW.out.size
          have HBW := Lib.hid (HBW.out.trans (hb5.mono hsz))
          have HP := Lib.hid (HP.out.lift hb5)
          have HD2 := Lib.hid (fun k hk => show k ≠ gX from (hat5 k hk).elim (fun h => HD.out k h) (fun h => by have := HX.out.2.2.2.2; omega))
          have HX := Lib.hid (HX.out.below hb5 HX.out.2.2.2.2)
          have HD := HD2
          have HE := Lib.hid hown5
          clear hown5 hb5 hat5
          (refine hK.out _ _ ?_ (fun hHeld2 => ?_); (focus ((try dsimp only); exact ⟨(HBW.out.cell (p := ⟨gA, 0, none⟩) hgA).trans HP0.out, (HBW.out.cell (p := ⟨gB, 1, none⟩) hgB).trans HQ1.out⟩)); (clear hK K); (try simp only [Act.put, List.getElem_toArray, List.getElem_cons_zero, List.getElem_cons_succ, List.setIfInBounds_toArray, List.set_cons_zero, List.set_cons_succ]))
          clear hsz
          refine wpAnyH_ready (rs := [8]) (by kernel_rfl) (by simp) ?_
          refine (AllReadyH.cons rfl (fun K hK => ?_) AllReadyH.nil)
          have hpi := HP.out.ints HPF.out
          refine step_append_srcI (by rfl) _ _ (by rfl) w1.heap.size _ xs (by rfl) HE.out (some ⟨_, 0, none⟩) 1 [(p : Int)] (by rfl) hpi (by intro h; cases h) (by have := HLX.out; simp; omega) HBW.out.size ?_
          intro v8 z5 hown8 hb8 hgr8 hat8
          obtain ⟨A8, c8, rfl⟩ := hown8.form
          have HBW := Lib.hid (HBW.out.trans hb8)
          have HD2 := Lib.hid (fun k hk => show k ≠ gX from (hat8 k hk).elim (fun h => HD.out k h) (fun h => by have := HX.out.2.2.2.2; omega))
          have HX := Lib.hid (HX.out.grown hgr8 (fun h => HD.out _ h.symm rfl))
          have HD := HD2
          have HE := Lib.hid hown8
          clear hown8 hb8 hgr8 hat8 hpi
          (refine hK.out _ _ ?_ (fun hHeld2 => ?_); (focus ((try dsimp only); exact ⟨(HBW.out.cell (p := ⟨gA, 0, none⟩) hgA).trans HP0.out, (HBW.out.cell (p := ⟨gB, 1, none⟩) hgB).trans HQ1.out⟩)); (clear hK K); (try simp only [Act.put, List.getElem_toArray, List.getElem_cons_zero, List.getElem_cons_succ, List.setIfInBounds_toArray, List.set_cons_zero, List.set_cons_succ]))
          (refine wpAnyH_take (i := 9) (v := ?_) rfl (by kernel_rfl) (by kernel_rfl) (by kernel_rfl) (fun _ _ _ h => h) (Or.inl ⟨by rfl, ?_⟩) (by assumption) ?_; rotate_left; (focus (intro wS hSw; (try dsimp only at hSw); go_simp; (try with_reducible rfl))); (try simp only [Act.put, List.getElem_toArray, List.getElem_cons_zero, List.getElem_cons_succ, List.setIfInBounds_toArray, List.set_cons_zero, List.set_cons_succ]))
          obtain ⟨x0, x1, xf0, xf1, _⟩ := HX.out
          have HN8 := Lib.hid (HE.out.newAt (by simp))
          have hl8 : (xs ++ [(p : Int)]).length = xs.length + 1 := by simp
          have HX9 := Lib.hid ((HX.out.set0 (.int .i64 N)).set1 (.slice A8 (xs.length + 1) c8))
          have HE9 := (HE.out.setFar (p := ⟨gX, 0, none⟩) HD.out (.int .i64 N)).setFar (p := ⟨gX, 1, none⟩) HD.out (.slice A8 (xs.length + 1) c8)
          have HI9 := Lib.hid (HE9.ints HPX.out)
          have HBW := Lib.hid ((HBW.out.setCell (p := ⟨gX, 0, none⟩) HGX.out (.int .i64 N)).setCell (p := ⟨gX, 1, none⟩) HGX.out (.slice A8 (xs.length + 1) c8))
          have HR9 := Lib.hid (show Hav ((z5.setCell ⟨gX, 0, none⟩ (.int .i64 N)).setCell ⟨gX, 1, none⟩ (.slice A8 (xs.length + 1) c8)) N gX A8 c8 (xs ++ [(p : Int)]) by unfold Hav; rw [hl8]; exact ⟨HX9.out, HI9.out⟩)
          clear HE9 hl8
          (refine wpAnyH_ready (rs := [11]) (by kernel_rfl) (by simp) ?_; refine AllReadyH.cons rfl (fun K hK => ?_) AllReadyH.nil; go_simp)
          (refine hK.out _ _ ?_ (fun hHeld2 => ?_); (focus ((try dsimp only); exact ⟨(HBW.out.cell (p := ⟨gA, 0, none⟩) hgA).trans HP0.out, (HBW.out.cell (p := ⟨gB, 1, none⟩) hgB).trans HQ1.out⟩)); (clear hK K); (try simp only [Act.put, List.getElem_toArray, List.getElem_cons_zero, List.getElem_cons_succ, List.setIfInBounds_toArray, List.set_cons_zero, List.set_cons_succ]))
          refine wpAnyH_done (by kernel_rfl) ?_ _
          go_wp2_with fail
          go_meet
          exact ⟨gX, A8, c8, rfl, HR9.out, HN8.out, HBW.out⟩
    · go_simp
      have hsz := HBW.out.size
      have hb := (Below.refl z0.heap.size z0).alloc (Nat.le_refl _) (.cells #[.int .i64 p] 3)
      have HBW := Lib.hid (HBW.out.trans (hb.mono hsz))
      have HP := Lib.hid (Cell1.new z0 (.int .i64 p) 3)
      clear hb
      generalize z0.alloc (.cells #[.int .i64 p] 3) = z1 at *
      (refine hK.out _ _ ?_ (fun hHeld2 => ?_); (focus ((try dsimp only); exact ⟨(HBW.out.cell (p := ⟨gA, 0, none⟩) hgA).trans HP0.out, (HBW.out.cell (p := ⟨gB, 1, none⟩) hgB).trans HQ1.out⟩)); (clear hK K); (try simp only [Act.put, List.getElem_toArray, List.getElem_cons_zero, List.getElem_cons_succ, List.setIfInBounds_toArray, List.set_cons_zero, List.set_cons_succ]))
      clear hsz
      refine wpAnyH_ready (rs := [2, 10]) (by kernel_rfl) (by simp) ?_
      refine (AllReadyH.cons rfl (fun K hK => ?_) (AllReadyH.cons rfl (fun K hK => ?_) AllReadyH.nil))
      · go_simp
        have hsz := HBW.out.size
        have hb := (Below.refl z1.heap.size z1).alloc (Nat.le_refl _) (.cells #[] 3)
        have HBW := Lib.hid (HBW.out.trans (hb.mono hsz))
        have HP := Lib.hid (HP.out.lift hb)
        have HE := Lib.hid (OwnI.empty_at z1 w1.heap.size _ rfl hsz)
        clear hb
        generalize z1.alloc (.cells #[] 3) = z2 at *
        (refine hK.out _ _ ?_ (fun hHeld2 => ?_); (focus ((try dsimp only); exact ⟨(HBW.out.cell (p := ⟨gA, 0, none⟩) hgA).trans HP0.out, (HBW.out.cell (p := ⟨gB, 1, none⟩) hgB).trans HQ1.out⟩)); (clear hK K); (try simp only [Act.put, List.getElem_toArray, List.getElem_cons_zero, List.getElem_cons_succ, List.setIfInBounds_toArray, List.set_cons_zero, List.set_cons_succ]))
        clear hsz
        refine wpAnyH_ready (rs := [5, 10]) (by kernel_rfl) (by simp) ?_
        refine (AllReadyH.cons rfl (fun K hK => ?_) (AllReadyH.cons rfl (fun K hK => ?_) AllReadyH.nil))
        · refine step_append_src0I (by rfl) _ _ (by rfl) w1.heap.size _ (by rfl) HE.out AB cB xs (by rfl) (HIB.out.lift HBW.out) HNB.out (by have := HLX.out; omega) HBW.out.size ?_
          intro v5 z3 hown5 hb5 hat5
          obtain ⟨A5, c5, rfl⟩ := hown5.form
          have hsz := HBW.out.size
          have HBW := Lib.hid (HBW.out.trans (hb5.mono hsz))
          have HP := Lib.hid (HP.out.lift hb5)
          have HE := Lib.hid hown5
          clear hown5 hb5 hat5
          (refine hK.out _ _ ?_ (fun hHeld2 => ?_); (focus ((try dsimp only); exact ⟨(HBW.out.cell (p := ⟨gA, 0, none⟩) hgA).trans HP0.out, (HBW.out.cell (p := ⟨gB, 1, none⟩) hgB).trans HQ1.out⟩)); (clear hK K); (try simp only [Act.put, List.getElem_toArray, List.getElem_cons_zero, List.getElem_cons_succ, List.setIfInBounds_toArray, List.set_cons_zero, List.set_cons_succ]))
          clear hsz
          refine wpAnyH_ready (rs := [8, 10]) (by kernel_rfl) (by simp) ?_
          refine (AllReadyH.cons rfl (fun K hK => ?_) (AllReadyH.cons rfl (fun K hK => ?_) AllReadyH.nil))
          · have hpi := HP.out.ints HPF.out
            refine step_append_srcI (by rfl) _ _ (by rfl) w1.heap.size _ xs (by rfl) HE.out (some ⟨_, 0, none⟩) 1 [(p : Int)] (by rfl) hpi (by intro h; cases h) (by have := HLX.out; simp; omega) HBW.out.size ?_
            intro v8 z4 hown8 hb8 hgr8 hat8
            obtain ⟨A8, c8, rfl⟩ := hown8.form
            have HBW := Lib.hid (HBW.out.trans hb8)
            have HE := Lib.hid hown8
            clear hown8 hb8 hgr8 hat8 hpi
            (refine hK.out _ _ ?_ (fun hHeld2 => ?_); (focus ((try dsimp only); exact ⟨(HBW.out.cell (p := ⟨gA, 0, none⟩) hgA).trans HP0.out, (HBW.out.cell (p := ⟨gB, 1, none⟩) hgB).trans HQ1.out⟩)); (clear hK K); (try simp only [Act.put, List.getElem_toArray, List.getElem_cons_zero, List.getElem_cons_succ, List.setIfInBounds_toArray, List.set_cons_zero, List.set_cons_succ]))
            (refine wpAnyH_take (i := 9) (v := ?_) rfl (by kernel_rfl) (by kernel_rfl) (by kernel_rfl) (fun _ _ _ h => h) (Or.inl ⟨by rfl, ?_⟩) (by assumption) ?_; rotate_left; (focus (intro wS hSw; (try dsimp only at hSw); go_simp; (try with_reducible rfl))); (try simp only [Act.put, List.getElem_toArray, List.getElem_cons_zero, List.getElem_cons_succ, List.setIfInBounds_toArray, List.set_cons_zero, List.set_cons_succ]))
            refine wpAnyH_ready (rs := [10]) (by kernel_rfl) (by simp) ?_
            refine AllReadyH.cons rfl (fun K hK => ?_) AllReadyH.nil
            go_simp
            have hsz := HBW.out.size
            have hb := (Below.refl z4.heap.size z4).alloc (Nat.le_refl _) (.cells #[.int .i64 0, .slice none 0 0] 27)
            have HBW := Lib.hid (HBW.out.trans (hb.mono hsz))
            have HGX := Lib.hid hsz
            have HD := Lib.hid (fun k (hk : _ = some k) => Nat.ne_of_lt (HE.out.lt k hk).2)
            have HE := Lib.hid (HE.out.grown hb)
            have HX := Lib.hid (Cells2.new z4 (.int .i64 0) (.slice none 0 0) 27)
            clear hb
            generalize z4.alloc (.cells #[.int .i64 0, .slice none 0 0] 27) = z5 at *
            obtain ⟨gX, hgX⟩ : ∃ g, z4.heap.size = g := ⟨_, rfl⟩
            rw [hgX] at HX HGX HD ⊢
            clear hgX
            (refine hK.out _ _ ?_ (fun hHeld2 => ?_); (focus ((try dsimp only); exact ⟨(HBW.out.cell (p := ⟨gA, 0, none⟩) hgA).trans HP0.out, (HBW.out.cell (p := ⟨gB, 1, none⟩) hgB).trans HQ1.out⟩)); (clear hK K); (try simp only [Act.put, List.getElem_toArray, List.getElem_cons_zero, List.getElem_cons_succ, List.setIfInBounds_toArray, List.set_cons_zero, List.set_cons_succ]))
            clear hsz
            obtain ⟨x0, x1, xf0, xf1, _⟩ := HX.out
            have HN8 := Lib.hid (HE.out.newAt (by simp))
            have hl8 : (xs ++ [(p : Int)]).length = xs.length + 1 := by simp
            have HX9 := Lib.hid ((HX.out.set0 (.int .i64 N)).set1 (.slice A8 (xs.length + 1) c8))
            have HE9 := (HE.out.setFar (p := ⟨gX, 0, none⟩) HD.out (.int .i64 N)).setFar (p := ⟨gX, 1, none⟩) HD.out (.slice A8 (xs.length + 1) c8)
            have HI9 := Lib.hid (HE9.ints HPX.out)
            have HBW := Lib.hid ((HBW.out.setCell (p := ⟨gX, 0, none⟩) HGX.out (.int .i64 N)).setCell (p := ⟨gX, 1, none⟩) HGX.out (.slice A8 (xs.length + 1) c8))
            have HR9 := Lib.hid (show Hav ((z5.setCell ⟨gX, 0, none⟩ (.int .i64 N)).setCell ⟨gX, 1, none⟩ (.slice A8 (xs.length + 1) c8)) N gX A8 c8 (xs ++ [(p : Int)]) by unfold Hav; rw [hl8]; exact ⟨HX9.out, HI9.out⟩)
            clear HE9 hl8
            (refine wpAnyH_ready (rs := [11]) (by kernel_rfl) (by simp) ?_; refine AllReadyH.cons rfl (fun K hK => ?_) AllReadyH.nil; go_simp)
            (refine hK.out _ _ ?_ (fun hHeld2 => ?_); (focus ((try dsimp only); exact ⟨(HBW.out.cell (p := ⟨gA, 0, none⟩) hgA).trans HP0.out, (HBW.out.cell (p := ⟨gB, 1, none⟩) hgB).trans HQ1.out⟩)); (clear hK K); (try simp only [Act.put, List.getElem_toArray, List.getElem_cons_zero, List.getElem_cons_succ, List.setIfInBounds_toArray, List.set_cons_zero, List.set_cons_succ]))
            refine wpAnyH_done (by kernel_rfl) ?_ _
            go_wp2_with fail
            go_meet
            exact ⟨gX, A8, c8, rfl, HR9.out, HN8.out, HBW.out⟩
          · go_simp
            have hsz := HBW.out.size
            have hb := (Below.refl z3.heap.size z3).alloc (Nat.le_refl _) (.cells #[.int .i64 0, .slice none 0 0] 27)
            have HBW := Lib.hid (HBW.out.trans (hb.mono hsz))
            have HGX := Lib.hid hsz
            have HD := Lib.hid (fun k (hk : _ = some k) => Nat.ne_of_lt (HE.out.lt k hk).2)
            have HE := Lib.hid (HE.out.grown hb)
            have HP := Lib.hid (HP.out.lift hb)
            have HX := Lib.hid (Cells2.new z3 (.int .i64 0) (.slice none 0 0) 27)
            clear hb
            generalize z3.alloc (.cells #[.int .i64 0, .slice none 0 0] 27) = z4 at *
            obtain ⟨gX, hgX⟩ : ∃ g, z3.heap.size = g := ⟨_, rfl⟩
            rw [hgX] at HX HGX HD ⊢
            clear hgX
            (refine hK.out _ _ ?_ (fun hHeld2 => ?_); (focus ((try dsimp only); exact ⟨(HBW.out.cell (p := ⟨gA, 0, none⟩) hgA).trans HP0.out, (HBW.out.cell (p := ⟨gB, 1, none⟩) hgB).trans HQ1.out⟩)); (clear hK K); (try simp only [Act.put, List.getElem_toArray, List.getElem_cons_zero, List.getElem_cons_succ, List.setIfInBounds_toArray, List.set_cons_zero, List.set_cons_succ]))
            clear hsz
            refine wpAnyH_ready (rs := [8]) (by kernel_rfl) (by simp) ?_
            refine (AllReadyH.cons rfl (fun K hK => ?_) AllReadyH.nil)
            have hpi := HP.out.ints HPF.out
            refine step_append_srcI (by rfl) _ _ (by rfl) w1.heap.size _ xs (by rfl) HE.out (some ⟨_, 0, none⟩) 1 [(p : Int)] (by rfl) hpi (by intro h; cases h) (by have := HLX.out; simp; omega) HBW.out.size ?_
            intro v8 z5 hown8 hb8 hgr8 hat8
            obtain ⟨A8, c8, rfl⟩ := hown8.form
            have HBW := Lib.hid (HBW.out.trans hb8)
            have HD2 := Lib.hid (fun k hk => show k ≠ gX from (hat8 k hk).elim (fun h => HD.out k h) (fun h => by have := HX.out.2.2.2.2; omega))
            have HX := Lib.hid (HX.out.grown hgr8 (fun h => HD.out _ h.symm rfl))
            have HD := HD2
            have HE := Lib.hid hown8
            clear hown8 hb8 hgr8 hat8 hpi
            (refine hK.out _ _ ?_ (fun hHeld2 => ?_); (focus ((try dsimp only); exact ⟨(HBW.out.cell (p := ⟨gA, 0, none⟩) hgA).trans HP0.out, (HBW.out.cell (p := ⟨gB, 1, none⟩) hgB).trans HQ1.out⟩)); (clear hK K); (try simp only [Act.put, List.getElem_toArray, List.getElem_cons_zero, List.getElem_cons_succ, List.setIfInBounds_toArray, List.set_cons_zero, List.set_cons_succ]))
            (refine wpAnyH_take (i := 9) (v := ?_) rfl (by kernel_rfl) (by kernel_rfl) (by kernel_rfl) (fun _ _ _ h => h) (Or.inl ⟨by rfl, ?_⟩) (by assumption) ?_; rotate_left; (focus (intro wS hSw; (try dsimp only at hSw); go_simp; (try with_reducible rfl))); (try simp only [Act.put, List.getElem_toArray, List.getElem_cons_zero, List.getElem_cons_succ, List.setIfInBounds_toArray, List.set_cons_zero, List.set_cons_succ]))
            obtain ⟨x0, x1, xf0, xf1, _⟩ := HX.out
            have HN8 := Lib.hid (HE.out.newAt (by simp))
            have hl8 : (xs ++ [(p : Int)]).length = xs.length + 1 := by simp
            have HX9 := Lib.hid ((HX.out.set0 (.int .i64 N)).set1 (.slice A8 (xs.length + 1) c8))
            have HE9 := (HE.out.setFar (p := ⟨gX, 0, none⟩) HD.out (.int .i64 N)).setFar (p := ⟨gX, 1, none⟩) HD.out (.slice A8 (xs.length + 1) c8)
            have HI9 := Lib.hid (HE9.ints HPX.out)
            have HBW := Lib.hid ((HBW.out.setCell (p := ⟨gX, 0, none⟩) HGX.out (.int .i64 N)).setCell (p := ⟨gX, 1, none⟩) HGX.out (.slice A8 (xs.length + 1) c8))
            have HR9 := Lib.hid (show Hav ((z5.setCell ⟨gX, 0, none⟩ (.int .i64 N)).setCell ⟨gX, 1, none⟩ (.slice A8 (xs.length + 1) c8)) N gX A8 c8 (xs ++ [(p : Int)]) by unfold Hav; rw [hl8]; exact ⟨HX9.out, HI9.out⟩)
            clear HE9 hl8
            (refine wpAnyH_ready (rs := [11]) (by kernel_rfl) (by simp) ?_; refine AllReadyH.cons rfl (fun K hK => ?_) AllReadyH.nil; go_simp)
            (refine hK.out _ _ ?_ (fun hHeld2 => ?_); (focus ((try dsimp only); exact ⟨(HBW.out.cell (p := ⟨gA, 0, none⟩) hgA).trans HP0.out, (HBW.out.cell (p := ⟨gB, 1, none⟩) hgB).trans HQ1.out⟩)); (clear hK K); (try simp only [Act.put, List.getElem_toArray, List.getElem_cons_zero, List.getElem_cons_succ, List.setIfInBounds_toArray, List.set_cons_zero, List.set_cons_succ]))
            refine wpAnyH_done (by kernel_rfl) ?_ _
            go_wp2_with fail
            go_meet
            exact ⟨gX, A8, c8, rfl, HR9.out, HN8.out, HBW.out⟩
        · go_simp
          have hsz := HBW.out.size
          have hb := (Below.refl z2.heap.size z2).alloc (Nat.le_refl _) (.cells #[.int .i64 0, .slice none 0 0] 27)
          have HBW := Lib.hid (HBW.out.trans (hb.mono hsz))
          have HGX := Lib.hid hsz
          have HD := Lib.hid (fun k (hk : _ = some k) => Nat.ne_of_lt (HE.out.lt k hk).2)
          have HE := Lib.hid (HE.out.grown hb)
          have HP := Lib.hid (HP.out.lift hb)
          have HX := Lib.hid (Cells2.new z2 (.int .i64 0) (.slice none 0 0) 27)
          clear hb
          generalize z2.alloc (.cells #[.int .i64 0, .slice none 0 0] 27) = z3 at *
          obtain ⟨gX, hgX⟩ : ∃ g, z2.heap.size = g := ⟨_, rfl⟩
          rw [hgX] at HX HGX HD ⊢
          clear hgX
          (refine hK.out _ _ ?_ (fun hHeld2 => ?_); (focus ((try dsimp only); exact ⟨(HBW.out.cell (p := ⟨gA, 0, none⟩) hgA).trans HP0.out, (HBW.out.cell (p := ⟨gB, 1, none⟩) hgB).trans HQ1.out⟩)); (clear hK K); (try simp only [Act.put, List.getElem_toArray, List.getElem_cons_zero, List.getElem_cons_succ, List.setIfInBounds_toArray, List.set_cons_zero, List.set_cons_succ]))
          clear hsz
          refine wpAnyH_ready (rs := [5]) (by kernel_rfl) (by simp) ?_
          refine (AllReadyH.cons rfl (fun K hK => ?_) AllReadyH.nil)
          refine step_append_src0I (by rfl) _ _ (by rfl) w1.heap.size _ (by rfl) HE.out AB cB xs (by rfl) (HIB.out.lift HBW.out) HNB.out (by have := HLX.out; omega) HBW.out.size ?_
          intro v5 z4 hown5 hb5 hat5
          obtain ⟨A5, c5, rfl⟩ := hown5.form
          have hsz := HBW.out.size
          have HBW := Lib.hid (HBW.out.trans (hb5.mono hsz))
          have HP := Lib.hid (HP.out.lift hb5)
          have HD2 := Lib.hid (fun k hk => show k ≠ gX from (hat5 k hk).elim (fun h => HD.out k h) (fun h => by have := HX.out.2.2.2.2; omega))
          have HX := Lib.hid (HX.out.below hb5 HX.out.2.2.2.2)
          have HD := HD2
          have HE := Lib.hid hown5
          clear hown5 hb5 hat5
          (refine hK.out _ _ ?_ (fun hHeld2 => ?_); (focus ((try dsimp only); exact ⟨(HBW.out.cell (p := ⟨gA, 0, none⟩) hgA).trans HP0.out, (HBW.out.cell (p := ⟨gB, 1, none⟩) hgB).trans HQ1.out⟩)); (clear hK K); (try simp only [Act.put, List.getElem_toArray, List.getElem_cons_zero, List.getElem_cons_succ, List.setIfInBounds_toArray, List.set_cons_zero, List.set_cons_succ]))
          clear hsz
          refine wpAnyH_ready (rs := [8]) (by kernel_rfl) (by simp) ?_
          refine (AllReadyH.cons rfl (fun K hK => ?_) AllReadyH.nil)
          have hpi := HP.out.ints HPF.out
          refine step_append_srcI (by rfl) _ _ (by rfl) w1.heap.size _ xs (by rfl) HE.out (some ⟨_, 0, none⟩) 1 [(p : Int)] (by rfl) hpi (by intro h; cases h) (by have := HLX.out; simp; omega) HBW.out.size ?_
          intro v8 z5 hown8 hb8 hgr8 hat8
          obtain ⟨A8, c8, rfl⟩ := hown8.form
          have HBW := Lib.hid (HBW.out.trans hb8)
          have HD2 := Lib.hid (fun k hk => show k ≠ gX from (hat8 k hk).elim (fun h => HD.out k h) (fun h => by have := HX.out.2.2.2.2; omega))
          have HX := Lib.hid (HX.out.grown hgr8 (fun h => HD.out _ h.symm rfl))
          have HD := HD2
          have HE := Lib.hid hown8
          clear hown8 hb8 hgr8 hat8 hpi
          (refine hK.out _ _ ?_ (fun hHeld2 => ?_); (focus ((try dsimp only); exact ⟨(HBW.out.cell (p := ⟨gA, 0, none⟩) hgA).trans HP0.out, (HBW.out.cell (p := ⟨gB, 1, none⟩) hgB).trans HQ1.out⟩)); (clear hK K); (try simp only [Act.put, List.getElem_toArray, List.getElem_cons_zero, List.getElem_cons_succ, List.setIfInBounds_toArray, List.set_cons_zero, List.set_cons_succ]))
          (refine wpAnyH_take (i := 9) (v := ?_) rfl (by kernel_rfl) (by kernel_rfl) (by kernel_rfl) (fun _ _ _ h => h) (Or.inl ⟨by rfl, ?_⟩) (by assumption) ?_; rotate_left; (focus (intro wS hSw; (try dsimp only at hSw); go_simp; (try with_reducible rfl))); (try simp only [Act.put, List.getElem_toArray, List.getElem_cons_zero, List.getElem_cons_succ, List.setIfInBounds_toArray, List.set_cons_zero, List.set_cons_succ]))
          obtain ⟨x0, x1, xf0, xf1, _⟩ := HX.out
          have HN8 := Lib.hid (HE.out.newAt (by simp))
          have hl8 : (xs ++ [(p : Int)]).length = xs.length + 1 := by simp
          have HX9 := Lib.hid ((HX.out.set0 (.int .i64 N)).set1 (.slice A8 (xs.length + 1) c8))
          have HE9 := (HE.out.setFar (p := ⟨gX, 0, none⟩) HD.out (.int .i64 N)).setFar (p := ⟨gX, 1, none⟩) HD.out (.slice A8 (xs.length + 1) c8)
          have HI9 := Lib.hid (HE9.ints HPX.out)
          have HBW := Lib.hid ((HBW.out.setCell (p := ⟨gX, 0, none⟩) HGX.out (.int .i64 N)).setCell (p := ⟨gX, 1, none⟩) HGX.out (.slice A8 (xs.length + 1) c8))
          have HR9 := Lib.hid (show Hav ((z5.setCell ⟨gX, 0, none⟩ (.int .i64 N)).setCell ⟨gX, 1, none⟩ (.slice A8 (xs.length + 1) c8)) N gX A8 c8 (xs ++ [(p : Int)]) by unfold Hav; rw [hl8]; exact ⟨HX9.out, HI9.out⟩)
          clear HE9 hl8
          (refine wpAnyH_ready (rs := [11]) (by kernel_rfl) (by simp) ?_; refine AllReadyH.cons rfl (fun K hK => ?_) AllReadyH.nil; go_simp)
          (refine hK.out _ _ ?_ (fun hHeld2 => ?_); (focus ((try dsimp only); exact ⟨(HBW.out.cell (p := ⟨gA, 0, none⟩) hgA).trans HP0.out, (HBW.out.cell (p := ⟨gB, 1, none⟩) hgB).trans HQ1.out⟩)); (clear hK K); (try simp only [Act.put, List.getElem_toArray, List.getElem_cons_zero, List.getElem_cons_succ, List.setIfInBounds_toArray, List.set_cons_zero, List.set_cons_succ]))
          refine wpAnyH_done (by kernel_rfl) ?_ _
          go_wp2_with fail
          go_meet
          exact ⟨gX, A8, c8, rfl, HR9.out, HN8.out, HBW.out⟩
      · go_simp
        have hsz := HBW.out.size
        have hb := (Below.refl z1.heap.size z1).alloc (Nat.le_refl _) (.cells #[.int .i64 0, .slice none 0 0] 27)
        have HBW := Lib.hid (HBW.out.trans (hb.mono hsz))
        have HGX := Lib.hid hsz
        have HP := Lib.hid (HP.out.lift hb)
        have HX := Lib.hid (Cells2.new z1 (.int .i64 0) (.slice none 0 0) 27)
        clear hb
        generalize z1.alloc (.cells #[.int .i64 0, .slice none 0 0] 27) = z2 at *
        obtain ⟨gX, hgX⟩ : ∃ g, z1.heap.size = g := ⟨_, rfl⟩
        rw [hgX] at HX HGX ⊢
        clear hgX
        (refine hK.out _ _ ?_ (fun hHeld2 => ?_); (focus ((try dsimp only); exact ⟨(HBW.out.cell (p := ⟨gA, 0, none⟩) hgA).trans HP0.out, (HBW.out.cell (p := ⟨gB, 1, none⟩) hgB).trans HQ1.out⟩)); (clear hK K); (try simp only [Act.put, List.getElem_toArray, List.getElem_cons_zero, List.getElem_cons_succ, List.setIfInBounds_toArray, List.set_cons_zero, List.set_cons_succ]))
        clear hsz
        refine wpAnyH_ready (rs := [2]) (by kernel_rfl) (by simp) ?_
        refine AllReadyH.cons rfl (fun K hK => ?_) AllReadyH.nil
        go_simp
        have hsz := HBW.out.size
        have hb := (Below.refl z2.heap.size z2).alloc (Nat.le_refl _) (.cells #[] 3)
        have HBW := Lib.hid (HBW.out.trans (hb.mono hsz))
        have HD := Lib.hid (fun k (hk : Value.ownBlock (.slice (some ⟨z2.heap.size, 0, none⟩) 0 0) = some k) => show k ≠ gX by (have h1 : z2.heap.size = k := by simpa [Value.ownBlock] using hk); (have h2 := HX.out.2.2.2.2); omega)
        have HP := Lib.hid (HP.out.lift hb)
        have HX := Lib.hid (HX.out.below hb HX.out.2.2.2.2)
        have HE := Lib.hid (OwnI.empty_at z2 w1.heap.size _ rfl hsz)
        clear hb
        generalize z2.alloc (.cells #[] 3) = z3 at *
        (refine hK.out _ _ ?_ (fun hHeld2 => ?_); (focus ((try dsimp only); exact ⟨(HBW.out.cell (p := ⟨gA, 0, none⟩) hgA).trans HP0.out, (HBW.out.cell (p := ⟨gB, 1, none⟩) hgB).trans HQ1.out⟩)); (clear hK K); (try simp only [Act.put, List.getElem_toArray, List.getElem_cons_zero, List.getElem_cons_succ, List.setIfInBounds_toArray, List.set_cons_zero, List.set_cons_succ]))
        clear hsz
        refine wpAnyH_ready (rs := [5]) (by kernel_rfl) (by simp) ?_
        refine (AllReadyH.cons rfl (fun K hK => ?_) AllReadyH.nil)
        refine step_append_src0I (by rfl) _ _ (by rfl) w1.heap.size _ (by rfl) HE.out AB cB xs (by rfl) (HIB.out.lift HBW.out) HNB.out (by have := HLX.out; omega) HBW.out.size ?_
        intro v5 z4 hown5 hb5 hat5
        obtain ⟨A5, c5, rfl⟩ := hown5.form
        have hsz := HBW.out.size
        have HBW := Lib.hid (HBW.out.trans (hb5.mono hsz))
        have HP := Lib.hid (HP.out.lift hb5)
        have HD2 := Lib.hid (fun k hk => show k ≠ gX from (hat5 k hk).elim (fun h => HD.out k h) (fun h => by have := HX.out.2.2.2.2; omega))
        have HX := Lib.hid (HX.out.below hb5 HX.out.2.2.2.2)
        have HD := HD2
        have HE := Lib.hid hown5
        clear hown5 hb5 hat5
        (refine hK.out _ _ ?_ (fun hHeld2 => ?_); (focus ((try dsimp only); exact ⟨(HBW.out.cell (p := ⟨gA, 0, none⟩) hgA).trans HP0.out, (HBW.out.cell (p := ⟨gB, 1, none⟩) hgB).trans HQ1.out⟩)); (clear hK K); (try simp only [Act.put, List.getElem_toArray, List.getElem_cons_zero, List.getElem_cons_succ, List.setIfInBounds_toArray, List.set_cons_zero, List.set_cons_succ]))
        clear hsz
        refine wpAnyH_ready (rs := [8]) (by kernel_rfl) (by simp) ?_
        refine (AllReadyH.cons rfl (fun K hK => ?_) AllReadyH.nil)
        have hpi := HP.out.ints HPF.out
        refine step_append_srcI (by rfl) _ _ (by rfl) w1.heap.size _ xs (by rfl) HE.out (some ⟨_, 0, none⟩) 1 [(p : Int)] (by rfl) hpi (by intro h; cases h) (by have := HLX.out; simp; omega) HBW.out.size ?_
        intro v8 z5 hown8 hb8 hgr8 hat8
        obtain ⟨A8, c8, rfl⟩ := hown8.form
        have HBW := Lib.hid (HBW.out.trans hb8)
        have HD2 := Lib.hid (fun k hk => show k ≠ gX from (hat8 k hk).elim (fun h => HD.out k h) (fun h => by have := HX.out.2.2.2.2; omega))
        have HX := Lib.hid (HX.out.grown hgr8 (fun h => HD.out _ h.symm rfl))
        have HD := HD2
        have HE := Lib.hid hown8
        clear hown8 hb8 hgr8 hat8 hpi
        (refine hK.out _ _ ?_ (fun hHeld2 => ?_); (focus ((try dsimp only); exact ⟨(HBW.out.cell (p := ⟨gA, 0, none⟩) hgA).trans HP0.out, (HBW.out.cell (p := ⟨gB, 1, none⟩) hgB).trans HQ1.out⟩)); (clear hK K); (try simp only [Act.put, List.getElem_toArray, List.getElem_cons_zero, List.getElem_cons_succ, List.setIfInBounds_toArray, List.set_cons_zero, List.set_cons_succ]))
        (refine wpAnyH_take (i := 9) (v := ?_) rfl (by kernel_rfl) (by kernel_rfl) (by kernel_rfl) (fun _ _ _ h => h) (Or.inl ⟨by rfl, ?_⟩) (by assumption) ?_; rotate_left; (focus (intro wS hSw; (try dsimp only at hSw); go_simp; (try with_reducible rfl))); (try simp only [Act.put, List.getElem_toArray, List.getElem_cons_zero, List.getElem_cons_succ, List.setIfInBounds_toArray, List.set_cons_zero, List.set_cons_succ]))
        obtain ⟨x0, x1, xf0, xf1, _⟩ := HX.out
        have HN8 := Lib.hid (HE.out.newAt (by simp))
        have hl8 : (xs ++ [(p : Int)]).length = xs.length + 1 := by simp
        have HX9 := Lib.hid ((HX.out.set0 (.int .i64 N)).set1 (.slice A8 (xs.length + 1) c8))
        have HE9 := (HE.out.setFar (p := ⟨gX, 0, none⟩) HD.out (.int .i64 N)).setFar (p := ⟨gX, 1, none⟩) HD.out (.slice A8 (xs.length + 1) c8)
        have HI9 := Lib.hid (HE9.ints HPX.out)
        have HBW := Lib.hid ((HBW.out.setCell (p := ⟨gX, 0, none⟩) HGX.out (.int .i64 N)).setCell (p := ⟨gX, 1, none⟩) HGX.out (.slice A8 (xs.length + 1) c8))
        have HR9 := Lib.hid (show Hav ((z5.setCell ⟨gX, 0, none⟩ (.int .i64 N)).setCell ⟨gX, 1, none⟩ (.slice A8 (xs.length + 1) c8)) N gX A8 c8 (xs ++ [(p : Int)]) by unfold Hav; rw [hl8]; exact ⟨HX9.out, HI9.out⟩)
        clear HE9 hl8
        (refine wpAnyH_ready (rs := [11]) (by kernel_rfl) (by simp) ?_; refine AllReadyH.cons rfl (fun K hK => ?_) AllReadyH.nil; go_simp)
        (refine hK.out _ _ ?_ (fun hHeld2 => ?_); (focus ((try dsimp only); exact ⟨(HBW.out.cell (p := ⟨gA, 0, none⟩) hgA).trans HP0.out, (HBW.out.cell (p := ⟨gB, 1, none⟩) hgB).trans HQ1.out⟩)); (clear hK K); (try simp only [Act.put, List.getElem_toArray, List.getElem_cons_zero, List.getElem_cons_succ, List.setIfInBounds_toArray, List.set_cons_zero, List.set_cons_succ]))
        refine wpAnyH_done (by kernel_rfl) ?_ _
        go_wp2_with fail
        go_meet
        exact ⟨gX, A8, c8, rfl, HR9.out, HN8.out, HBW.out⟩
    · go_simp
      have hsz := HBW.out.size
      have hb := (Below.refl z0.heap.size z0).alloc (Nat.le_refl _) (.cells #[.int .i64 0, .slice none 0 0] 27)
      have HBW := Lib.hid (HBW.out.trans (hb.mono hsz))
      have HGX := Lib.hid hsz
      have HX := Lib.hid (Cells2.new z0 (.int .i64 0) (.slice none 0 0) 27)
      clear hb
      generalize z0.alloc (.cells #[.int .i64 0, .slice none 0 0] 27) = z1 at *
      obtain ⟨gX, hgX⟩ : ∃ g, z0.heap.size = g := ⟨_, rfl⟩
      rw [hgX] at HX HGX ⊢
      clear hgX
      (refine hK.out _ _ ?_ (fun hHeld2 => ?_); (focus ((try dsimp only); exact ⟨(HBW.out.cell (p := ⟨gA, 0, none⟩) hgA).trans HP0.out, (HBW.out.cell (p := ⟨gB, 1, none⟩) hgB).trans HQ1.out⟩)); (clear hK K); (try simp only [Act.put, List.getElem_toArray, List.getElem_cons_zero, List.getElem_cons_succ, List.setIfInBounds_toArray, List.set_cons_zero, List.set_cons_succ]))
      clear hsz
      refine wpAnyH_ready (rs := [2, 7]) (by kernel_rfl) (by simp) ?_
      refine (AllReadyH.cons rfl (fun K hK => ?_) (AllReadyH.cons rfl (fun K hK => ?_) AllReadyH.nil))
      · go_simp
        have hsz := HBW.out.size
        have hb := (Below.refl z1.heap.size z1).alloc (Nat.le_refl _) (.cells #[] 3)
        have HBW := Lib.hid (HBW.out.trans (hb.mono hsz))
        have HD := Lib.hid (fun k (hk : Value.ownBlock (.slice (some ⟨z1.heap.size, 0, none⟩) 0 0) = some k) => show k ≠ gX by (have h1 : z1.heap.size = k := by simpa [Value.ownBlock] using hk); (have h2 := HX.out.2.2.2.2); omega)
        have HX := Lib.hid (HX.out.below hb HX.out.2.2.2.2)
        have HE := Lib.hid (OwnI.empty_at z1 w1.heap.size _ rfl hsz)
        clear hb
        generalize z1.alloc (.cells #[] 3) = z2 at *
        (refine hK.out _ _ ?_ (fun hHeld2 => ?_); (focus ((try dsimp only); exact ⟨(HBW.out.cell (p := ⟨gA, 0, none⟩) hgA).trans HP0.out, (HBW.out.cell (p := ⟨gB, 1, none⟩) hgB).trans HQ1.out⟩)); (clear hK K); (try simp only [Act.put, List.getElem_toArray, List.getElem_cons_zero, List.getElem_cons_succ, List.setIfInBounds_toArray, List.set_cons_zero, List.set_cons_succ]))
        clear hsz
        refine wpAnyH_ready (rs := [5, 7]) (by kernel_rfl) (by simp) ?_
        refine (AllReadyH.cons rfl (fun K hK => ?_) (AllReadyH.cons rfl (fun K hK => ?_) AllReadyH.nil))
        · refine step_append_src0I (by rfl) _ _ (by rfl) w1.heap.size _ (by rfl) HE.out AB cB xs (by rfl) (HIB.out.lift HBW.out) HNB.out (by have := HLX.out; omega) HBW.out.size ?_
          intro v5 z3 hown5 hb5 hat5
          obtain ⟨A5, c5, rfl⟩ := hown5.form
          have hsz := HBW.out.size
          have HBW := Lib.hid (HBW.out.trans (hb5.mono hsz))
          have HD2 := Lib.hid (fun k hk => show k ≠ gX from (hat5 k hk).elim (fun h => HD.out k h) (fun h => by have := HX.out.2.2.2.2; omega))
          have HX := Lib.hid (HX.out.below hb5 HX.out.2.2.2.2)
          have HD := HD2
          have HE := Lib.hid hown5
          clear hown5 hb5 hat5
          (refine hK.out _ _ ?_ (fun hHeld2 => ?_); (focus ((try dsimp only); exact ⟨(HBW.out.cell (p := ⟨gA, 0, none⟩) hgA).trans HP0.out, (HBW.out.cell (p := ⟨gB, 1, none⟩) hgB).trans HQ1.out⟩)); (clear hK K); (try simp only [Act.put, List.getElem_toArray, List.getElem_cons_zero, List.getElem_cons_succ, List.setIfInBounds_toArray, List.set_cons_zero, List.set_cons_succ]))
          clear hsz
          refine wpAnyH_ready (rs := [7]) (by kernel_rfl) (by simp) ?_
          refine AllReadyH.cons rfl (fun K hK => ?_) AllReadyH.nil
          go_simp
          have hsz := HBW.out.size
          have hb := (Below.refl z3.heap.size z3).alloc (Nat.le_refl _) (.cells #[.int .i64 p] 3)
          have HBW := Lib.hid (HBW.out.trans (hb.mono hsz))
          have HE := Lib.hid (HE.out.grown hb)
          have HX := Lib.hid (HX.out.below hb HX.out.2.2.2.2)
          have HP := Lib.hid (Cell1.new z3 (.int .i64 p) 3)
          clear hb
          generalize z3.alloc (.cells #[.int .i64 p] 3) = z4 at *
          (refine hK.out _ _ ?_ (fun hHeld2 => ?_); (focus ((try dsimp only); exact ⟨(HBW.out.cell (p := ⟨gA, 0, none⟩) hgA).trans HP0.out, (HBW.out.cell (p := ⟨gB, 1, none⟩) hgB).trans HQ1.out⟩)); (clear hK K); (try simp only [Act.put, List.getElem_toArray, List.getElem_cons_zero, List.getElem_cons_succ, List.setIfInBounds_toArray, List.set_cons_zero, List.set_cons_succ]))
          clear hsz
          refine wpAnyH_ready (rs := [8]) (by kernel_rfl) (by simp) ?_
          refine (AllReadyH.cons rfl (fun K hK => ?_) AllReadyH.nil)
          have hpi := HP.out.ints HPF.out
          refine step_append_srcI (by rfl) _ _ (by rfl) w1.heap.size _ xs (by rfl) HE.out (some ⟨_, 0, none⟩) 1 [(p : Int)] (by rfl) hpi (by intro h; cases h) (by have := HLX.out; simp; omega) HBW.out.size ?_
          intro v8 z5 hown8 hb8 hgr8 hat8
          obtain ⟨A8, c8, rfl⟩ := hown8.form
          have HBW := Lib.hid (HBW.out.trans hb8)
          have HD2 := Lib.hid (fun k hk => show k ≠ gX from (hat8 k hk).elim (fun h => HD.out k h) (fun h => by have := HX.out.2.2.2.2; omega))
          have HX := Lib.hid (HX.out.grown hgr8 (fun h => HD.out _ h.symm rfl))
          have HD := HD2
          have HE := Lib.hid hown8
          clear hown8 hb8 hgr8 hat8 hpi
          (refine hK.out _ _ ?_ (fun hHeld2 => ?_); (focus ((try dsimp only); exact ⟨(HBW.out.cell (p := ⟨gA, 0, none⟩) hgA).trans HP0.out, (HBW.out.cell (p := ⟨gB, 1, none⟩) hgB).trans HQ1.out⟩)); (clear hK K); (try simp only [Act.put, List.getElem_toArray, List.getElem_cons_zero, List.getElem_cons_succ, List.setIfInBounds_toArray, List.set_cons_zero, List.set_cons_succ]))
          (refine wpAnyH_take (i := 9) (v := ?_) rfl (by kernel_rfl) (by kernel_rfl) (by kernel_rfl) (fun _ _ _ h => h) (Or.inl ⟨by rfl, ?_⟩) (by assumption) ?_; rotate_left; (focus (intro wS hSw; (try dsimp only at hSw); go_simp; (try with_reducible rfl))); (try simp only [Act.put, List.getElem_toArray, List.getElem_cons_zero, List.getElem_cons_succ, List.setIfInBounds_toArray, List.set_cons_zero, List.set_cons_succ]))
          obtain ⟨x0, x1, xf0, xf1, _⟩ := HX.out
          have HN8 := Lib.hid (HE.out.newAt (by simp))
          have hl8 : (xs ++ [(p : Int)]).length = xs.length + 1 := by simp
          have HX9 := Lib.hid ((HX.out.set0 (.int .i64 N)).set1 (.slice A8 (xs.length + 1) c8))
          have HE9 := (HE.out.setFar (p := ⟨gX, 0, none⟩) HD.out (.int .i64 N)).setFar (p := ⟨gX, 1, none⟩) HD.out (.slice A8 (xs.length + 1) c8)
          have HI9 := Lib.hid (HE9.ints HPX.out)
          have HBW := Lib.hid ((HBW.out.setCell (p := ⟨gX, 0, none⟩) HGX.out (.int .i64 N)).setCell (p := ⟨gX, 1, none⟩) HGX.out (.slice A8 (xs.length + 1) c8))
          have HR9 := Lib.hid (show Hav ((z5.setCell ⟨gX, 0, none⟩ (.int .i64 N)).setCell ⟨gX, 1, none⟩ (.slice A8 (xs.length + 1) c8)) N gX A8 c8 (xs ++ [(p : Int)]) by unfold Hav; rw [hl8]; exact ⟨HX9.out, HI9.out⟩)
          clear HE9 hl8
          (refine wpAnyH_ready (rs := [11]) (by kernel_rfl) (by simp) ?_; refine AllReadyH.cons rfl (fun K hK => ?_) AllReadyH.nil; go_simp)
          (refine hK.out _ _ ?_ (fun hHeld2 => ?_); (focus ((try dsimp only); exact ⟨(HBW.out.cell (p := ⟨gA, 0, none⟩) hgA).trans HP0.out, (HBW.out.cell (p := ⟨gB, 1, none⟩) hgB).trans HQ1.out⟩)); (clear hK K); (try simp only [Act.put, List.getElem_toArray, List.getElem_cons_zero, List.getElem_cons_succ, List.setIfInBounds_toArray, List.set_cons_zero, List.set_cons_succ]))
          refine wpAnyH_done (by kernel_rfl) ?_ _
          go_wp2_with fail
          go_meet
          exact ⟨gX, A8, c8, rfl, HR9.out, HN8.out, HBW.out⟩
        · go_simp
          have hsz := HBW.out.size
          have hb := (Below.refl z2.heap.size z2).alloc (Nat.le_refl _) (.cells #[.int .i64 p] 3)
          have HBW := Lib.hid (HBW.out.trans (hb.mono hsz))
          have HE := Lib.hid (HE.out.grown hb)
          have HX := Lib.hid (HX.out.below hb HX.out.2.2.2.2)
          have HP := Lib.hid (Cell1.new z2 (.int .i64 p) 3)
          clear hb
          generalize z2.alloc (.cells #[.int .i64 p] 3) = z3 at *
          (refine hK.out _ _ ?_ (fun hHeld2 => ?_); (focus ((try dsimp only); exact ⟨(HBW.out.cell (p := ⟨gA, 0, none⟩) hgA).trans HP0.out, (HBW.out.cell (p := ⟨gB, 1, none⟩) hgB).trans HQ1.out⟩)); (clear hK K); (try simp only [Act.put, List.getElem_toArray, List.getElem_cons_zero, List.getElem_cons_succ, List.setIfInBounds_toArray, List.set_cons_zero, List.set_cons_succ]))
          clear hsz
          refine wpAnyH_ready (rs := [5]) (by kernel_rfl) (by simp) ?_
          refine (AllReadyH.cons rfl (fun K hK => ?_) AllReadyH.nil)
          refine step_append_src0I (by rfl) _ _ (by rfl) w1.heap.size _ (by rfl) HE.out AB cB xs (by rfl) (HIB.out.lift HBW.out) HNB.out (by have := HLX.out; omega) HBW.out.size ?_
          intro v5 z4 hown5 hb5 hat5
          obtain ⟨A5, c5, rfl⟩ := hown5.form
          have hsz := HBW.out.size
          have HBW := Lib.hid (HBW.out.trans (hb5.mono hsz))
          have HP := Lib.hid (HP.out.lift hb5)
          have HD2 := Lib.hid (fun k hk => show k ≠ gX from (hat5 k hk).elim (fun h => HD.out k h) (fun h => by have := HX.out.2.2.2.2; omega))
          have HX := Lib.hid (HX.out.below hb5 HX.out.2.2.2.2)
          have HD := HD2
          have HE := Lib.hid hown5
          clear hown5 hb5 hat5
          (refine hK.out _ _ ?_ (fun hHeld2 => ?_); (focus ((try dsimp only); exact ⟨(HBW.out.cell (p := ⟨gA, 0, none⟩) hgA).trans HP0.out, (HBW.out.cell (p := ⟨gB, 1, none⟩) hgB).trans HQ1.out⟩)); (clear hK K); (try simp only [Act.put, List.getElem_toArray, List.getElem_cons_zero, List.getElem_cons_succ, List.setIfInBounds_toArray, List.set_cons_zero, List.set_cons_succ]))
          clear hsz
          refine wpAnyH_ready (rs := [8]) (by kernel_rfl) (by simp) ?_
          refine (AllReadyH.cons rfl (fun K hK => ?_) AllReadyH.nil)
          have hpi := HP.out.ints HPF.out
          refine step_append_srcI (by rfl) _ _ (by rfl) w1.heap.size _ xs (by rfl) HE.out (some ⟨_, 0, none⟩) 1 [(p : Int)] (by rfl) hpi (by intro h; cases h) (by have := HLX.out; simp; omega) HBW.out.size ?_
          intro v8 z5 hown8 hb8 hgr8 hat8
          obtain ⟨A8, c8, rfl⟩ := hown8.form
          have HBW := Lib.hid (HBW.out.trans hb8)
          have HD2 := Lib.hid (fun k hk => show k ≠ gX from (hat8 k hk).elim (fun h => HD.out k h) (fun h => by have := HX.out.2.2.2.2; omega))
          have HX := Lib.hid (HX.out.grown hgr8 (fun h => HD.out _ h.symm rfl))
          have HD := HD2
          have HE := Lib.hid hown8
          clear hown8 hb8 hgr8 hat8 hpi
          (refine hK.out _ _ ?_ (fun hHeld2 => ?_); (focus ((try dsimp only); exact ⟨(HBW.out.cell (p := ⟨gA, 0, none⟩) hgA).trans HP0.out, (HBW.out.cell (p := ⟨gB, 1, none⟩) hgB).trans HQ1.out⟩)); (clear hK K); (try simp only [Act.put, List.getElem_toArray, List.getElem_cons_zero, List.getElem_cons_succ, List.setIfInBounds_toArray, List.set_cons_zero, List.set_cons_succ]))
          (refine wpAnyH_take (i := 9) (v := ?_) rfl (by kernel_rfl) (by kernel_rfl) (by kernel_rfl) (fun _ _ _ h => h) (Or.inl ⟨by rfl, ?_⟩) (by assumption) ?_; rotate_left; (focus (intro wS hSw; (try dsimp only at hSw); go_simp; (try with_reducible rfl))); (try simp only [Act.put, List.getElem_toArray, List.getElem_cons_zero, List.getElem_cons_succ, List.setIfInBounds_toArray, List.set_cons_zero, List.set_cons_succ]))
          obtain ⟨x0, x1, xf0, xf1, _⟩ := HX.out
          have HN8 := Lib.hid (HE.out.newAt (by simp))
          have hl8 : (xs ++ [(p : Int)]).length = xs.length + 1 := by simp
          have HX9 := Lib.hid ((HX.out.set0 (.int .i64 N)).set1 (.slice A8 (xs.length + 1) c8))
          have HE9 := (HE.out.setFar (p := ⟨gX, 0, none⟩) HD.out (.int .i64 N)).setFar (p := ⟨gX, 1, none⟩) HD.out (.slice A8 (xs.length + 1) c8)
          have HI9 := Lib.hid (HE9.ints HPX.out)
          have HBW := Lib.hid ((HBW.out.setCell (p := ⟨gX, 0, none⟩) HGX.out (.int .i64 N)).setCell (p := ⟨gX, 1, none⟩) HGX.out (.slice A8 (xs.length + 1) c8))
          have HR9 := Lib.hid (show Hav ((z5.setCell ⟨gX, 0, none⟩ (.int .i64 N)).setCell ⟨gX, 1, none⟩ (.slice A8 (xs.length + 1) c8)) N gX A8 c8 (xs ++ [(p : Int)]) by unfold Hav; rw [hl8]; exact ⟨HX9.out, HI9.out⟩)
          clear HE9 hl8
          (refine wpAnyH_ready (rs := [11]) (by kernel_rfl) (by simp) ?_; refine AllReadyH.cons rfl (fun K hK => ?_) AllReadyH.nil; go_simp)
          (refine hK.out _ _ ?_ (fun hHeld2 => ?_); (focus ((try dsimp only); exact ⟨(HBW.out.cell (p := ⟨gA, 0, none⟩) hgA).trans HP0.out, (HBW.out.cell (p := ⟨gB, 1, none⟩) hgB).trans HQ1.out⟩)); (clear hK K); (try simp only [Act.put, List.getElem_toArray, List.getElem_cons_zero, List.getElem_cons_succ, List.setIfInBounds_toArray, List.set_cons_zero, List.set_cons_succ]))
          refine wpAnyH_done (by kernel_rfl) ?_ _
          go_wp2_with fail
          go_meet
          exact ⟨gX, A8, c8, rfl, HR9.out, HN8.out, HBW.out⟩
      · go_simp
        have hsz := HBW.out.size
        have hb := (Below.refl z1.heap.size z1).alloc (Nat.le_refl _) (.cells #[.int .i64 p] 3)
        have HBW := Lib.hid (HBW.out.trans (hb.mono hsz))
        have HX := Lib.hid (HX.out.below hb HX.out.2.2.2.2)
        have HP := Lib.hid (Cell1.new z1 (.int .i64 p) 3)
        clear hb
        generalize z1.alloc (.cells #[.int .i64 p] 3) = z2 at *
        (refine hK.out _ _ ?_ (fun hHeld2 => ?_); (focus ((try dsimp only); exact ⟨(HBW.out.cell (p := ⟨gA, 0, none⟩) hgA).trans HP0.out, (HBW.out.cell (p := ⟨gB, 1, none⟩) hgB).trans HQ1.out⟩)); (clear hK K); (try simp only [Act.put, List.getElem_toArray, List.getElem_cons_zero, List.getElem_cons_succ, List.setIfInBounds_toArray, List.set_cons_zero, List.set_cons_succ]))
        clear hsz
        refine wpAnyH_ready (rs := [2]) (by kernel_rfl) (by simp) ?_
        refine AllReadyH.cons rfl (fun K hK => ?_) AllReadyH.nil
        go_simp
        have hsz := HBW.out.size
        have hb := (Below.refl z2.heap.size z2).alloc (Nat.le_refl _) (.cells #[] 3)
        have HBW := Lib.hid (HBW.out.trans (hb.mono hsz))
        have HD := Lib.hid (fun k (hk : Value.ownBlock (.slice (some ⟨z2.heap.size, 0, none⟩) 0 0) = some k) => show k ≠ gX by (have h1 : z2.heap.size = k := by simpa [Value.ownBlock] using hk); (have h2 := HX.out.2.2.2.2); omega)
        have HP := Lib.hid (HP.out.lift hb)
        have HX := Lib.hid (HX.out.below hb HX.out.2.2.2.2)
        have HE := Lib.hid (OwnI.empty_at z2 w1.heap.size _ rfl hsz)
        clear hb
        generalize z2.alloc (.cells #[] 3) = z3 at *
        (refine hK.out _ _ ?_ (fun hHeld2 => ?_); (focus ((try dsimp only); exact ⟨(HBW.out.cell (p := ⟨gA, 0, none⟩) hgA).trans HP0.out, (HBW.out.cell (p := ⟨gB, 1, none⟩) hgB).trans HQ1.out⟩)); (clear hK K); (try simp only [Act.put, List.getElem_toArray, List.getElem_cons_zero, List.getElem_cons_succ, List.setIfInBounds_toArray, List.set_cons_zero, List.set_cons_succ]))
        clear hsz
        refine wpAnyH_ready (rs := [5]) (by kernel_rfl) (by simp) ?_
        refine (AllReadyH.cons rfl (fun K hK => ?_) AllReadyH.nil)
        refine step_append_src0I (by rfl) _ _ (by rfl) w1.heap.size _ (by rfl) HE.out AB cB xs (by rfl) (HIB.out.lift HBW.out) HNB.out (by have := HLX.out; omega) HBW.out.size ?_
        intro v5 z4 hown5 hb5 hat5
        obtain ⟨A5, c5, rfl⟩ := hown5.form
        have hsz := HBW.out.size
        have HBW := Lib.hid (HBW.out.trans (hb5.mono hsz))
        have HP := Lib.hid (HP.out.lift hb5)
        have HD2 := Lib.hid (fun k hk => show k ≠ gX from (hat5 k hk).elim (fun h => HD.out k h) (fun h => by have := HX.out.2.2.2.2; omega))
        have HX := Lib.hid (HX.out.below hb5 HX.out.2.2.2.2)
        have HD := HD2
        have HE := Lib.hid hown5
        clear hown5 hb5 hat5
        (refine hK.out _ _ ?_ (fun hHeld2 => ?_); (focus ((try dsimp only); exact ⟨(HBW.out.cell (p := ⟨gA, 0, none⟩) hgA).trans HP0.out, (HBW.out.cell (p := ⟨gB, 1, none⟩) hgB).trans HQ1.out⟩)); (clear hK K); (try simp only [Act.put, List.getElem_toArray, List.getElem_cons_zero, List.getElem_cons_succ, List.setIfInBounds_toArray, List.set_cons_zero, List.set_cons_succ]))
        clear hsz
        refine wpAnyH_ready (rs := [8]) (by kernel_rfl) (by simp) ?_
        refine (AllReadyH.cons rfl (fun K hK => ?_) AllReadyH.nil)
        have hpi := HP.out.ints HPF.out
        refine step_append_srcI (by rfl) _ _ (by rfl) w1.heap.size _ xs (by rfl) HE.out (some ⟨_, 0, none⟩) 1 [(p : Int)] (by rfl) hpi (by intro h; cases h) (by have := HLX.out; simp; omega) HBW.out.size ?_
        intro v8 z5 hown8 hb8 hgr8 hat8
        obtain ⟨A8, c8, rfl⟩ := hown8.form
        have HBW := Lib.hid (HBW.out.trans hb8)
        have HD2 := Lib.hid (fun k hk => show k ≠ gX from (hat8 k hk).elim (fun h => HD.out k h) (fun h => by have := HX.out.2.2.2.2; omega))
        have HX := Lib.hid (HX.out.grown hgr8 (fun h => HD.out _ h.symm rfl))
        have HD := HD2
        have HE := Lib.hid hown8
        clear hown8 hb8 hgr8 hat8 hpi
        (refine hK.out _ _ ?_ (fun hHeld2 => ?_); (focus ((try dsimp only); exact ⟨(HBW.out.cell (p := ⟨gA, 0, none⟩) hgA).trans HP0.out, (HBW.out.cell (p := ⟨gB, 1, none⟩) hgB).trans HQ1.out⟩)); (clear hK K); (try simp only [Act.put, List.getElem_toArray, List.getElem_cons_zero, List.getElem_cons_succ, List.setIfInBounds_toArray, List.set_cons_zero, List.set_cons_succ]))
        (refine wpAnyH_take (i := 9) (v := ?_) rfl (by kernel_rfl) (by kernel_rfl) (by kernel_rfl) (fun _ _ _ h => h) (Or.inl ⟨by rfl, ?_⟩) (by assumption) ?_; rotate_left; (focus (intro wS hSw; (try dsimp only at hSw); go_simp; (try with_reducible rfl))); (try simp only [Act.put, List.getElem_toArray, List.getElem_cons_zero, List.getElem_cons_succ, List.setIfInBounds_toArray, List.set_cons_zero, List.set_cons_succ]))
        obtain ⟨x0, x1, xf0, xf1, _⟩ := HX.out
        have HN8 := Lib.hid (HE.out.newAt (by simp))
        have hl8 : (xs ++ [(p : Int)]).length = xs.length + 1 := by simp
        have HX9 := Lib.hid ((HX.out.set0 (.int .i64 N)).set1 (.slice A8 (xs.length + 1) c8))
        have HE9 := (HE.out.setFar (p := ⟨gX, 0, none⟩) HD.out (.int .i64 N)).setFar (p := ⟨gX, 1, none⟩) HD.out (.slice A8 (xs.length + 1) c8)
        have HI9 := Lib.hid (HE9.ints HPX.out)
        have HBW := Lib.hid ((HBW.out.setCell (p := ⟨gX, 0, none⟩) HGX.out (.int .i64 N)).setCell (p := ⟨gX, 1, none⟩) HGX.out (.slice A8 (xs.length + 1) c8))
        have HR9 := Lib.hid (show Hav ((z5.setCell ⟨gX, 0, none⟩ (.int .i64 N)).setCell ⟨gX, 1, none⟩ (.slice A8 (xs.length + 1) c8)) N gX A8 c8 (xs ++ [(p : Int)]) by unfold Hav; rw [hl8]; exact ⟨HX9.out, HI9.out⟩)
        clear HE9 hl8
        (refine wpAnyH_ready (rs := [11]) (by kernel_rfl) (by simp) ?_; refine AllReadyH.cons rfl (fun K hK => ?_) AllReadyH.nil; go_simp)
        (refine hK.out _ _ ?_ (fun hHeld2 => ?_); (focus ((try dsimp only); exact ⟨(HBW.out.cell (p := ⟨gA, 0, none⟩) hgA).trans HP0.out, (HBW.out.cell (p := ⟨gB, 1, none⟩) hgB).trans HQ1.out⟩)); (clear hK K); (try simp only [Act.put, List.getElem_toArray, List.getElem_cons_zero, List.getElem_cons_succ, List.setIfInBounds_toArray, List.set_cons_zero, List.set_cons_succ]))
        refine wpAnyH_done (by kernel_rfl) ?_ _
        go_wp2_with fail
        go_meet
        exact ⟨gX, A8, c8, rfl, HR9.out, HN8.out, HBW.out⟩
  case rest =>
    obtain ⟨gX, A8, c8, rfl, hvx8, ⟨k8, hk8, hk8l⟩, hb⟩ := hcut
    have HK8 := Lib.hid (show A8 = some ⟨k8, 0, none⟩ ∧ w.heap.size ≤ k8 from ⟨hk8, Nat.le_trans HBW.out.size hk8l⟩)
    clear hk8 hk8l
    obtain ⟨w2, rfl⟩ : ∃ x : World, x = wc := ⟨_, rfl⟩
    rw [HX1.out] at hvx8
    have HVP := Lib.hid hvx8
    have HVA := Lib.hid (HVA.out.lift hb)
    have HVX := Lib.hid (HVX.out.lift hb)
    have HBW := Lib.hid (HBW.out.trans (hb.mono HBW.out.size))
    obtain ⟨X, hX⟩ : ∃ X, [(0 : Int)] = X := ⟨_, rfl⟩
    rw [hX] at HBN HVP HIY
    clear hvx8 hb hX p0 p1 q0 q1 hgA hgB HPX
    obtain ⟨⟨p0, p1, _, _, _⟩, _⟩ := HVA.out
    obtain ⟨⟨q0, q1, _, _, _⟩, _⟩ := HVX.out
    obtain ⟨⟨x0, x1, _, _, _⟩, _⟩ := HVP.out
    have hpz : ((p : Int) == 0) = true := by rw [HPZ.out]; rfl
    have hwp : IntKind.i64.wrap ((p : Int) + 1) = 1 := by rw [HPZ.out]; decide
    go_wp2_with fail
    refine (HBN.out w2 HVA.out.2 A8 c8 HVP.out.2).mono ?_
    rintro e w3 ⟨rfl, hb⟩
    have HVA := Lib.hid (HVA.out.lift hb)
    have HVX := Lib.hid (HVX.out.lift hb)
    have HVP := Lib.hid (HVP.out.lift hb)
    have HBW := Lib.hid (HBW.out.trans (hb.mono HBW.out.size))
    clear hb p0 p1 q0 q1 x0 x1
    obtain ⟨⟨p0, p1, _, _, _⟩, _⟩ := HVA.out
    obtain ⟨⟨q0, q1, _, _, _⟩, _⟩ := HVX.out
    obtain ⟨⟨x0, x1, _, _, _⟩, _⟩ := HVP.out
    go_wp2_with fail
    have hs3 := HBW.out.size
    refine (HIY.out A8 c8 AO w3 HVA.out.2 HVP.out.2).mono ?_
    rintro e w4 ⟨h1, hb⟩
    have HBW := Lib.hid (HBW.out.trans (hb.mono HBW.out.size))
    clear p0 p1 q0 q1 x0 x1 hb
    cases he : gS N bs (N - 1) [0] 1 with
    | none =>
      rw [he] at h1
      obtain rfl : e = .returned (.slice AO 0 0) := h1
      have HGV := Lib.hid he
      clear he
      go_wp2_with fail
      go_ret
      rw [HGV.out]
      exact ⟨rfl, HBW.out⟩
    | some y =>
      rw [he] at h1
      have h1' : ∃ g c A' c', e = .returned (.slice (some ⟨g, 0, none⟩) 1 c) ∧ HavR w4 N g 0 A' c' (y.map Int.ofNat) ∧ (A' = _ ∨ ∃ k o, A' = some ⟨k, o, none⟩ ∧ _ ≤ k) := h1
      obtain ⟨g5, c5, A5, c5', rfl, hr, hat⟩ := h1'
      have HR := Lib.hid hr
      have HAT := Lib.hid (show A5 = none ∨ ∃ k o, A5 = some ⟨k, o, none⟩ ∧ w.heap.size ≤ k from .inr (hat.elim (fun h => ⟨k8, 0, h.trans HK8.out.1, HK8.out.2⟩) (fun ⟨k, o, h2, h3⟩ => ⟨k, o, h2, by omega⟩)))
      clear hat hs3
      have HGV := Lib.hid he
      clear he hr h1
      go_wp2_with fail
      go_ret
      rw [HGV.out]
      exact ⟨⟨g5, c5, A5, c5', rfl, HR.out, HAT.out⟩, HBW.out⟩

/-- What FirstPartner hands back: a rhythm that is only read. -/
def RetP2 (w : World) (N : Nat) (o : Option (List Int)) (e : Ending) (w' : World) : Prop :=
  (match o with
    | none => e = .returned (.tuple #[.agg #[.int .i64 0, .slice none 0 0], .bool false])
    | some y => ∃ A c, e = .returned (.tuple #[.agg #[.int .i64 N, .slice A y.length c], .bool true]) ∧ Ints w' w'.heap.size A y) ∧ Below w.heap.size w w'

set_option maxRecDepth 100000 in
set_option maxHeartbeats 1000000 in
theorem spec_FirstPartner_any (N : Nat) (A : Option Addr) (cap : Nat) (bs : List Int) (w : World) (hA : Ints w w.heap.size A bs) (hok : RhOk N bs) :
    Calls Tryz.prog 28 #[.agg #[.int .i64 N, .slice A bs.length cap]] w (RetP2 w N (parV N bs)) := by
  have hn1 : 1 ≤ N := by have := hok.1; omega
  have hn2 : N ≤ 24 := by have := hok.2.1; omega
  have hla : bs.length ≤ N := rhok_len hok
  have HRO := Lib.hid (fun V h => rhB_iff.2 hok ▸ spec_RhythmOk_any N A cap bs V h)
  have HFI := Lib.hid (fun hk hm AO V h => spec_l09Find_first N bs hok hk hm A cap 0 rfl AO V h)
  have HPV := Lib.hid (show parV N bs = if bs.length = 0 ∨ N % bs.length ≠ 0 then none else (gS N bs (N - 1) [0] 1).map (·.map Int.ofNat) from rfl)
  obtain ⟨W, hW⟩ : ∃ W, (w.alloc (.cells #[.int .i64 N, .slice A (bs).length cap] 27)).alloc (.cells #[.int .i64 0, .slice none 0 0] 27) = W := ⟨_, rfl⟩
  have hb0 := (Below.refl w.heap.size w).alloc (Nat.le_refl _) (.cells #[.int .i64 N, .slice A (bs).length cap] 27)
  have HBW := Lib.hid (hb0.alloc hb0.size (.cells #[.int .i64 0, .slice none 0 0] 27))
  have HVA := Lib.hid ((Hav.boxed hA N cap).alloc (.cells #[.int .i64 0, .slice none 0 0] 27))
  have HZ := Lib.hid (Cells2.new_at (w.alloc (.cells #[.int .i64 N, .slice A (bs).length cap] 27)) (.int .i64 0) (.slice none 0 0) 27 (w.heap.size + 1) (by simp))
  rw [hW] at HBW HVA HZ
  clear hA hok hb0
  obtain ⟨⟨p0, p1, _, _, _⟩, _⟩ := HVA.out
  obtain ⟨z0, z1, zf0, zf1, _⟩ := HZ.out
  have HRW := Lib.hid (HRO.out W HVA.out.2)
  have HZ1 := Lib.hid (fun V (h : Below W.heap.size W V) => show Cells2 V (w.heap.size + 1) (.int .i64 0) (.slice none 0 0) from HZ.out.below h HZ.out.2.2.2.2)
  have HFL := Lib.hid (fun V (h : Cells2 V (w.heap.size + 1) (.int .i64 0) (.slice none 0 0)) => (h.set0 (.int .i64 0)).set1 (.slice none 0 0))
  have HBZ := Lib.hid (fun V (h : Below w.heap.size w V) u v => (h.setCell (p := ⟨w.heap.size + 1, 0, none⟩) (Nat.le_succ _) u).setCell (p := ⟨w.heap.size + 1, 1, none⟩) (Nat.le_succ _) v)
  by_cases h0 : bs.length = 0
  · have hbe : bs = [] := List.eq_nil_of_length_eq_zero h0
    have HV := Lib.hid (show parV N bs = none by rw [HPV.out, if_pos (.inl h0)])
    rw [HV.out]
    have hlz : ((bs.length : Int) == 0) = true := by rw [h0]; rfl
    have hnz2 : (bs.length = 0) = True := eq_true h0
    have hnz3 : (bs = []) = True := eq_true hbe
    clear h0 hbe
    go_enter Tryz.func28, Tryz.ntmps28
    go_wp2_with fail
    refine HRW.out.mono ?_
    rintro e w1 ⟨rfl, hb⟩
    have HVA := Lib.hid (HVA.out.lift hb)
    have HZ := Lib.hid (HZ1.out w1 hb)
    have HBW := Lib.hid (HBW.out.trans (hb.mono HBW.out.size))
    clear p0 p1 z0 z1 zf0 zf1 hb
    obtain ⟨⟨p0, p1, _, _, _⟩, _⟩ := HVA.out
    obtain ⟨z0, z1, zf0, zf1, _⟩ := HZ.out
    go_wp2_with fail
    obtain ⟨f0, f1, _⟩ := HFL.out w1 HZ.out
    refine bodyPost_ret (v := .tuple #[.agg #[.int .i64 0, .slice none 0 0], .bool false]) (by simp [results, Tryz.results28, go_sem, f0, f1]) rfl ?_
    exact ⟨rfl, HBZ.out _ HBW.out _ _⟩
  have hlz : ((bs.length : Int) == 0) = false := beq_eq_false_iff_ne.2 (by omega)
  have hnz : ((bs.length : Int) = 0) = False := eq_false (by omega)
  have hnz2 : (bs.length = 0) = False := eq_false (by omega)
  have hnz3 : (bs = []) = False := eq_false (by intro h; rw [h] at h0; exact h0 rfl)
  obtain ⟨r, hr⟩ : ∃ r, N % bs.length = r := ⟨_, rfl⟩
  have hrl : r < bs.length := by rw [← hr]; exact Nat.mod_lt _ (by omega)
  have hrm : (N : Int).tmod (bs.length : Int) = (r : Int) := by rw [Int.tmod_eq_emod_of_nonneg (by omega), ← Int.natCast_emod, hr]
  have hwr : IntKind.i64.wrap (r : Int) = (r : Int) := i64w (by omega)
  by_cases hrz : r = 0
  rotate_left
  · have hq : ((r : Int) == 0) = false := beq_eq_false_iff_ne.2 (by omega)
    have HV := Lib.hid (show parV N bs = none by rw [HPV.out, if_pos (.inr (by rw [hr]; exact hrz))])
    rw [HV.out]
    clear hr hrz
    go_enter Tryz.func28, Tryz.ntmps28
    go_wp2_with fail
    refine HRW.out.mono ?_
    rintro e w1 ⟨rfl, hb⟩
    have HVA := Lib.hid (HVA.out.lift hb)
    have HZ := Lib.hid (HZ1.out w1 hb)
    have HBW := Lib.hid (HBW.out.trans (hb.mono HBW.out.size))
    clear p0 p1 z0 z1 zf0 zf1 hb
    obtain ⟨⟨p0, p1, _, _, _⟩, _⟩ := HVA.out
    obtain ⟨z0, z1, zf0, zf1, _⟩ := HZ.out
    go_wp2_with fail
    obtain ⟨f0, f1, _⟩ := HFL.out w1 HZ.out
    refine bodyPost_ret (v := .tuple #[.agg #[.int .i64 0, .slice none 0 0], .bool false]) (by simp [results, Tryz.results28, go_sem, f0, f1]) rfl ?_
    exact ⟨rfl, HBZ.out _ HBW.out _ _⟩
  · subst hrz
    have HV := Lib.hid (show parV N bs = (gS N bs (N - 1) [0] 1).map (·.map Int.ofNat) by rw [HPV.out, if_neg (by rw [hr]; simp; exact fun h => h0 (by rw [h]; rfl))])
    have HFI := Lib.hid (HFI.out (by omega) hr)
    clear hr hrl h0
    go_enter Tryz.func28, Tryz.ntmps28
    go_wp2_with fail
    refine HRW.out.mono ?_
    rintro e w1 ⟨rfl, hb⟩
    have HVA := Lib.hid (HVA.out.lift hb)
    have HZ := Lib.hid (HZ1.out w1 hb)
    have HBW := Lib.hid (HBW.out.trans (hb.mono HBW.out.size))
    clear p0 p1 z0 z1 zf0 zf1 hb
    obtain ⟨⟨p0, p1, _, _, _⟩, _⟩ := HVA.out
    obtain ⟨z0, z1, zf0, zf1, _⟩ := HZ.out
    go_wp2_with fail
    have hb := (Below.refl w1.heap.size w1).alloc (Nat.le_refl _) (.cells #[] 27)
    have HVA := Lib.hid (HVA.out.lift hb)
    have HZ := Lib.hid (HZ.out.below hb HZ.out.2.2.2.2)
    have HBW := Lib.hid (HBW.out.trans (hb.mono HBW.out.size))
    clear p0 p1 z0 z1 zf0 zf1 hb
    have hzl0 : w.heap.size + 1 < (w1.alloc (.cells #[] 27)).heap.size := HZ.out.2.2.2.2
    refine (HFI.out (some ⟨w1.heap.size, 0, none⟩) _ HVA.out.2).mono ?_
    rintro e w2 ⟨h1, hb⟩
    have HZ := Lib.hid (HZ.out.below hb HZ.out.2.2.2.2)
    have HBW := Lib.hid (HBW.out.trans (hb.mono HBW.out.size))
    clear hb
    obtain ⟨z0, z1, zf0, zf1, hzl⟩ := HZ.out
    cases he : gS N bs (N - 1) [0] 1 with
    | none =>
      rw [he] at h1
      obtain rfl : e = .returned (.slice (some ⟨w1.heap.size, 0, none⟩) 0 0) := h1
      have HV2 := Lib.hid (show parV N bs = none by rw [HV.out, he]; rfl)
      clear he
      go_wp2_with fail
      obtain ⟨f0, f1, _⟩ := HFL.out w2 HZ.out
      refine bodyPost_ret (v := .tuple #[.agg #[.int .i64 0, .slice none 0 0], .bool false]) (by simp [results, Tryz.results28, go_sem, f0, f1]) rfl ?_
      rw [HV2.out]
      exact ⟨rfl, HBZ.out _ HBW.out _ _⟩
    | some y =>
      rw [he] at h1
      have h1' : ∃ g c A' c', e = .returned (.slice (some ⟨g, 0, none⟩) 1 c) ∧ HavR w2 N g 0 A' c' (y.map Int.ofNat) ∧ (A' = _ ∨ ∃ k o, A' = some ⟨k, o, none⟩ ∧ _ ≤ k) := h1
      obtain ⟨g5, c5, A5, c5', rfl, hr, hat⟩ := h1'
      have HR := Lib.hid hr
      have HAT := Lib.hid (show ∀ k o, A5 = some ⟨k, o, none⟩ → k ≠ w.heap.size + 1 from fun k o h => by
        rcases hat with h2 | ⟨k2, o2, h2, h3⟩
        · rw [h2] at h; cases h
        · rw [h2] at h; injection h with h; injection h with h; omega)
      clear hat
      have HV2 := Lib.hid (show parV N bs = some (y.map Int.ofNat) by rw [HV.out, he]; rfl)
      clear he hr h1
      obtain ⟨Y, hY⟩ : ∃ Y, y.map Int.ofNat = Y := ⟨_, rfl⟩
      rw [hY] at HR HV2
      clear hY
      obtain ⟨⟨hgl, r0, r1⟩, _⟩ := HR.out
      go_wp2_with fail
      obtain ⟨f0, f1, _⟩ := ((HZ.out.set0 (.int .i64 N)).set1 (.slice A5 Y.length c5'))
      refine bodyPost_ret (v := .tuple #[.agg #[.int .i64 N, .slice A5 Y.length c5'], .bool true]) (by simp [results, Tryz.results28, go_sem, f0, f1]) rfl ?_
      rw [HV2.out]
      refine ⟨⟨A5, c5', rfl, ?_⟩, HBZ.out _ HBW.out _ _⟩
      exact (HR.out.2.setFarP (p := ⟨w.heap.size + 1, 0, none⟩) HAT.out _).setFarP (p := ⟨w.heap.size + 1, 1, none⟩) HAT.out _ |>.mono (by simp [World.setCell])

end Go.Proofs.YtjoeglekcnaebaaGreatDoor
