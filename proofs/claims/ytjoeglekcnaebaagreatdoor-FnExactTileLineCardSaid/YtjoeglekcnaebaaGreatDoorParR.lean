/-
  The search of a partner, by the reference: l09Find.
-/
import Derived.Test.YtjoeglekcnaebaaGreatDoorTkE
import Derived.Deep.CutRange
namespace Go.Proofs.YtjoeglekcnaebaaGreatDoor
open Go.RowKit
set_option linter.unusedVariables false
set_option linter.unusedSimpArgs false

def RetF (w : World) (N : Nat) (AO AB : Option Addr) (o : Option (List Nat)) (e : Ending) (w' : World) : Prop :=
  (match o with
    | none => e = .returned (.slice AO 0 0)
    | some y => ∃ g c A' c', e = .returned (.slice (some ⟨g, 0, none⟩) 1 c) ∧ HavR w' N g 0 A' c' (y.map Int.ofNat) ∧ (A' = AB ∨ ∃ k o, A' = some ⟨k, o, none⟩ ∧ w.heap.size ≤ k)) ∧ Below w.heap.size w w'

set_option maxRecDepth 100000 in
set_option maxHeartbeats 1000000 in
theorem spec_l09Find_full (N M : Nat) (AC AB : Option Addr) (cC cB : Nat) (bs xs : List Int) (g : Option Addr) (c : Nat) (p : Int) (w : World) :
    Calls Tryz.prog 54 #[.agg #[.int .i64 N, .slice AC bs.length cC], .agg #[.int .i64 M, .slice AB xs.length cB], .slice g 1 c, .int .i64 p, .bool true] w fun e w' => e = .returned (.slice g 1 c) ∧ Below w.heap.size w w' := by
  have HBW := Lib.hid (((Below.refl w.heap.size w).alloc (Nat.le_refl _) (.cells #[.int .i64 N, .slice AC bs.length cC] 27)).alloc ((Below.refl w.heap.size w).alloc (Nat.le_refl _) (.cells #[.int .i64 N, .slice AC bs.length cC] 27)).size (.cells #[.int .i64 M, .slice AB xs.length cB] 27))
  go_enter Tryz.func54, Tryz.ntmps54
  go_wp2_with fail
  go_ret
  exact ⟨rfl, HBW.out⟩

set_option maxRecDepth 100000 in
set_option maxHeartbeats 4000000 in
theorem spec_l09Find_any (N : Nat) (bs : List Int) (hok : RhOk N bs) (hk : 1 ≤ bs.length) (hmod : N % bs.length = 0) (AC : Option Addr) (cC : Nat) : ∀ (f p : Nat) (b : List Nat) (AB : Option Addr) (cB : Nat) (AO : Option Addr) (w : World), p + f = N → 1 ≤ p → 1 ≤ b.length → (∀ q ∈ b, q < p) → RhOk N (b.map Int.ofNat) → Dj N bs b → Ints w w.heap.size AC bs → Ints w w.heap.size AB (b.map Int.ofNat) →
    Calls Tryz.prog 54 #[.agg #[.int .i64 N, .slice AC bs.length cC], .agg #[.int .i64 N, .slice AB (b.map Int.ofNat).length cB], .slice AO 0 0, .int .i64 p, .bool true] w (RetF w N AO AB (gS N bs f b p)) := by
  have hn1 : 1 ≤ N := by have := hok.1; omega
  have hn2 : N ≤ 24 := by have := hok.2.1; omega
  have hla : bs.length ≤ N := rhok_len hok
  intro f
  induction f using Nat.strongRecOn with
  | ind f ih =>
  intro p b AB cB AO w hpf hp1 hb1 hbp hrb hdj hC hB
  have hlb : (b.map Int.ofNat).length ≤ N := rhok_len hrb
  have HIH := Lib.hid (fun f' (hf' : f' < f) b' AB' cB' AO' V h0 h1 h2 h3 h4 h5 h6 => ih f' hf' (p + 1) b' AB' cB' AO' V h0 (by omega) h1 h2 h3 h4 h5 h6)
  have HSN := Lib.hid (show (b ++ [p]).map Int.ofNat = b.map Int.ofNat ++ [(p : Int)] by simp)
  have HRX := Lib.hid (fun hpN : p < N => show RhOk N (b.map Int.ofNat ++ [(p : Int)]) from rhok_snoc hrb p hpN (fun x hx => by
    rw [List.mem_map] at hx
    obtain ⟨q, hq, rfl⟩ := hx
    have := hbp q hq
    show (q : Int) < (p : Int)
    omega))
  have HDB := Lib.hid (btw_dj hok hdj p)
  rw [HSN.out] at HDB
  have HDS := Lib.hid (fun h => (Dj_snoc hok hdj (k := p)).2 h)
  have HBN := Lib.hid (fun hpN V h1 A2 c2 h2 => spec_l09Between_any N AC A2 cC c2 bs (b.map Int.ofNat ++ [(p : Int)]) V h1 h2 hok (HRX.out hpN))
  have HLN := Lib.hid (show (b.map Int.ofNat).length = b.length by simp)
  have HCE := Lib.hid (cpl_eq hok hdj)
  have HGD := Lib.hid (fun h => gS_done (N := N) (bs := bs) (m := f) (b := b) (p := p) h)
  have HGS := Lib.hid (fun h => gS_short hok (m := f) (b := b) (p := p) hdj hk h)
  have HGR := Lib.hid (fun h => gS_rest hok hdj hk hmod h)
  have HGN := Lib.hid (fun m h h2 => gS_no (N := N) (bs := bs) (m := m) (b := b) (p := p) h h2)
  have HGY := Lib.hid (fun m h h2 => gS_yes (N := N) (bs := bs) (m := m) (b := b) (p := p) h h2)
  have HRB := Lib.hid hrb
  have HBP := Lib.hid hbp
  have HDJ := Lib.hid hdj
  clear ih hbp hrb hdj hok hmod
  obtain ⟨xs, hxs⟩ : ∃ xs, b.map Int.ofNat = xs := ⟨_, rfl⟩
  rw [hxs] at HSN HRX HDB HBN HLN HRB hB hlb ⊢
  have HXS := Lib.hid hxs
  clear hxs
  have hb1' := (Below.refl w.heap.size w).alloc (Nat.le_refl _) (.cells #[.int .i64 N, .slice AC (bs).length cC] 27)
  have HVA := Lib.hid ((Hav.boxed hC N cC).alloc (.cells #[.int .i64 N, .slice AB (xs).length cB] 27))
  have HVX := Lib.hid (Hav.boxed (hB.lift hb1') N cB)
  have HBW := Lib.hid (hb1'.alloc hb1'.size (.cells #[.int .i64 N, .slice AB (xs).length cB] 27))
  have hzW : (w.alloc (.cells #[.int .i64 N, .slice AC (bs).length cC] 27)).heap.size = w.heap.size + 1 := by simp
  rw [hzW] at HVX
  clear hC hB hb1' hzW
  obtain ⟨⟨p0, p1, _, _, _⟩, _⟩ := HVA.out
  obtain ⟨⟨q0, q1, _, _, _⟩, _⟩ := HVX.out
  obtain ⟨P, hP⟩ : ∃ P, bs.length * xs.length = P := ⟨_, rfl⟩
  have hPl : P ≤ 576 := by rw [← hP]; exact Nat.le_trans (Nat.mul_le_mul (show bs.length ≤ 24 by omega) (show xs.length ≤ 24 by omega)) (by decide)
  have hw1 : IntKind.i64.wrap ((bs.length : Int) * (xs.length : Int)) = (P : Int) := by rw [← Int.natCast_mul, hP]; exact i64w (by omega)
  have HCP := Lib.hid (show cplB N bs b = true ↔ P = N by rw [HCE.out, ← hP, HLN.out])
  clear hP
  by_cases hc : P = N
  · have HV := Lib.hid (HGD.out (HCP.out.2 hc))
    have HXS2 := HXS
    subst hc
    have hq : ((P : Int) == (P : Int)) = true := by simp
    have HN9 := Lib.hid (fun V : World => Cells2.new V (.int .i64 P) (.slice AB xs.length cB) 27)
    obtain ⟨W, hW⟩ : ∃ W, (w.alloc (.cells #[.int .i64 P, .slice AC (bs).length cC] 27)).alloc (.cells #[.int .i64 P, .slice AB (xs).length cB] 27) = W := ⟨_, rfl⟩
    rw [hW] at HVA HVX HBW p0 p1 q0 q1
    go_enter Tryz.func54, Tryz.ntmps54
    go_wp2_with (at_builtin; refine wpList_append_rh0 rfl (.tmp 29) (.tmp 31) rfl AO rfl W.heap.size (.int .i64 P) (.slice AB xs.length cB) (by rfl) ⟨(HN9.out W).1, (HN9.out W).2.1⟩ ⟨rfl, rfl⟩ ?_; intro b9 c9 w9 hb9 h90 h91 hbl9)
    go_ret
    rw [HV.out]
    have hbl := (HBW.out.trans (((Below.refl W.heap.size W).alloc (Nat.le_refl _) (.cells #[.int .i64 P, .slice AB (xs).length cB] 27)).mono HBW.out.size)).trans (hbl9.mono (by have := HBW.out.size; simp; omega))
    exact ⟨⟨b9, c9, AB, cB, rfl, by unfold HavR; rw [HXS.out]; exact ⟨⟨hb9, h90, h91⟩, HVX.out.2.lift (((Below.refl W.heap.size W).alloc (Nat.le_refl _) (.cells #[.int .i64 P, .slice AB (xs).length cB] 27)).trans (hbl9.mono (by simp)))⟩, .inl rfl⟩, hbl⟩
  have hq : ((P : Int) == (N : Int)) = false := beq_eq_false_iff_ne.2 (by omega)
  have HNC := Lib.hid (show cplB N bs b = false by
    cases e : cplB N bs b with
    | false => rfl
    | true => exact absurd (HCP.out.1 e) hc)
  clear hc
  obtain ⟨D, hD⟩ : ∃ D, N / bs.length = D := ⟨_, rfl⟩
  have hDl : D ≤ 24 := by rw [← hD]; exact Nat.le_trans (Nat.div_le_self _ _) hn2
  have hw2 : IntKind.i64.wrap ((xs.length : Int) + (N : Int)) = (xs.length : Int) + (N : Int) := i64w (by omega)
  obtain ⟨S, hS⟩ : ∃ S, xs.length + f = S := ⟨_, rfl⟩
  have hw3 : IntKind.i64.wrap ((xs.length : Int) + (N : Int) - (p : Int)) = (S : Int) := by rw [i64w (by omega)]; omega
  have hdv : Int.tdiv (N : Int) (bs.length : Int) = (D : Int) := by rw [Int.tdiv_eq_ediv_of_nonneg (by omega), ← hD, Int.natCast_ediv]
  have hw4 : IntKind.i64.wrap (D : Int) = (D : Int) := i64w (by omega)
  have hnz : ((bs.length : Int) = 0) = False := eq_false (by omega)
  have hnz2 : (bs.length = 0) = False := eq_false (by omega)
  have hnz3 : (bs = []) = False := eq_false (by intro h; rw [h] at hk; exact absurd hk (by decide))
  have HGS2 := Lib.hid (fun (h : S < D) => HGS.out (by rw [hD, ← HLN.out, hS]; exact h))
  have HGR2 := Lib.hid (show xs.length < D by rw [HLN.out, ← hD]; exact HGR.out HNC.out)
  by_cases hs : S < D
  · have HV := Lib.hid (HGS2.out hs)
    have hsi : (S : Int) < (D : Int) := by omega
    have HBW := Lib.hid (fun nq => show Below w.heap.size w (((w.alloc (.cells #[.int .i64 N, .slice AC (bs).length cC] 27)).alloc (.cells #[.int .i64 N, .slice AB (xs).length cB] 27)).drewN nq) from ⟨HBW.out.os, HBW.out.tape, HBW.out.output, HBW.out.size, HBW.out.block⟩)
    clear hS hD hPl hDl
    go_enter Tryz.func54, Tryz.ntmps54
    go_wp2_with fail
    go_quiet (fail)
    go_wp2_with fail
    go_ret
    rw [HV.out]
    exact ⟨rfl, HBW.out _⟩
  have hsi : ¬ (S : Int) < (D : Int) := by omega
  have hpN : p < N := by have := HGR2.out; omega
  obtain ⟨m, rfl⟩ : ∃ m, f = m + 1 := ⟨f - 1, by omega⟩
  have HPF := Lib.hid (show Fits (p : Int) by unfold Fits; omega)
  have HLX := Lib.hid (show xs.length ≤ 24 by omega)
  have HNB := Lib.hid (show xs.length = 0 → AB = none ∧ cB = 0 from fun h => by have := HLN.out; omega)
  have HPM := Lib.hid (show p + 1 + m = N by omega)
  have HPX := Lib.hid (fun x (hx : x ∈ xs ++ [(p : Int)]) => show Fits x by
    have := rhok_range (HRX.out hpN) x hx
    unfold Fits; omega)
  have HPL := Lib.hid hpN
  clear hS hD hPl hDl
  obtain ⟨W, hW⟩ : ∃ W, (w.alloc (.cells #[.int .i64 N, .slice AC (bs).length cC] 27)).alloc (.cells #[.int .i64 N, .slice AB (xs).length cB] 27) = W := ⟨_, rfl⟩
  rw [hW] at HVA HVX HBW p0 p1 q0 q1
  go_enter Tryz.func54, Tryz.ntmps54
  go_wp2_with fail
  clear hW
  go_quiet (fail)
  have HVA := Lib.hid (show Hav (W.drewN nq) N w.heap.size AC cC bs from HVA.out)
  have HVX := Lib.hid (show Hav (W.drewN nq) N (w.heap.size + 1) AB cB xs from HVX.out)
  have HBW := Lib.hid (show Below w.heap.size w (W.drewN nq) from ⟨HBW.out.os, HBW.out.tape, HBW.out.output, HBW.out.size, HBW.out.block⟩)
  clear p0 p1 q0 q1
  generalize W.drewN nq = w1 at *
  obtain ⟨gB, hgB⟩ : ∃ g, w.heap.size + 1 = g := ⟨_, rfl⟩
  rw [hgB] at HVX ⊢
  obtain ⟨gA, hgA⟩ : ∃ g, w.heap.size = g := ⟨_, rfl⟩
  rw [hgA] at HVA ⊢
  clear hgA hgB hs
  obtain ⟨⟨p0, p1, _, _, hgA⟩, _⟩ := HVA.out
  obtain ⟨⟨q0, q1, _, _, hgB⟩, _⟩ := HVX.out
  go_wp2_with fail
  go_cut [11] from 49 to 58 (fun s11 wx => ∃ (gX : Nat) (A8 : Option Addr) (c8 : Nat), s11 = .pointer (some ⟨gX, 0, none⟩) ∧ Hav wx N gX A8 c8 (xs ++ [(p : Int)]) ∧ (∃ k8, A8 = some ⟨k8, 0, none⟩ ∧ w1.heap.size ≤ k8) ∧ Below w1.heap.size w1 wx)
  case first =>
    have HP0 := Lib.hid p0
    have HQ1 := Lib.hid q1
    have HIB := Lib.hid HVX.out.2
    have HBW := Lib.hid (show Below w1.heap.size w1 w1.drew from Below.drewH_ (Below.refl _ _))
    (refine wp_region_held_drew (S := (fun w' => w'.cell? ⟨gA, 0, none⟩ = some (.int .i64 N) ∧ w'.cell? ⟨gB, 1, none⟩ = some (.slice AB xs.length cB))) (by kernel_rfl) ?_ (fun hHeld => ?_); (focus ((try dsimp only); exact ⟨p0, q1⟩)))
    clear p0 p1 q0 q1
    generalize w1.drew = z0 at *
    ((refine wpAnyH_take (i := 0) (v := ?_) rfl (by kernel_rfl) (by kernel_rfl) (by kernel_rfl) (fun _ _ _ h => h) (Or.inl ⟨by rfl, ?_⟩) (by assumption) ?_; rotate_left; (focus (intro wS hSw; (try dsimp only at hSw); go_simp; (try with_reducible rfl))); (try simp only [Act.put, List.getElem_toArray, List.getElem_cons_zero, List.getElem_cons_succ, List.setIfInBounds_toArray, List.set_cons_zero, List.set_cons_succ])); (refine wpAnyH_take (i := 1) (v := ?_) rfl (by kernel_rfl) (by kernel_rfl) (by kernel_rfl) (fun _ _ _ h => h) (Or.inl ⟨by rfl, ?_⟩) (by assumption) ?_; rotate_left; (focus (intro wS hSw; (try dsimp only at hSw); go_simp; (try with_reducible rfl))); (try simp only [Act.put, List.getElem_toArray, List.getElem_cons_zero, List.getElem_cons_succ, List.setIfInBounds_toArray, List.set_cons_zero, List.set_cons_succ])); (refine wpAnyH_take (i := 3) (v := ?_) rfl (by kernel_rfl) (by kernel_rfl) (by kernel_rfl) (fun _ _ _ h => h) (Or.inl ⟨by rfl, ?_⟩) (by assumption) ?_; rotate_left; (focus (intro wS hSw; (try dsimp only at hSw); go_simp; (try with_reducible rfl))); (try simp only [Act.put, List.getElem_toArray, List.getElem_cons_zero, List.getElem_cons_succ, List.setIfInBounds_toArray, List.set_cons_zero, List.set_cons_succ])); (refine wpAnyH_take (i := 4) (v := ?_) rfl (by kernel_rfl) (by kernel_rfl) (by kernel_rfl) (fun _ _ _ h => h) (Or.inl ⟨by rfl, ?_⟩) (by assumption) ?_; rotate_left; (focus (intro wS hSw; (try dsimp only at hSw); go_simp; (try with_reducible rfl))); (try simp only [Act.put, List.getElem_toArray, List.getElem_cons_zero, List.getElem_cons_succ, List.setIfInBounds_toArray, List.set_cons_zero, List.set_cons_succ])); (refine wpAnyH_take (i := 6) (v := ?_) rfl (by kernel_rfl) (by kernel_rfl) (by kernel_rfl) (fun _ _ _ h => h) (Or.inl ⟨by rfl, ?_⟩) (by assumption) ?_; rotate_left; (focus (intro wS hSw; (try dsimp only at hSw); go_simp; (try with_reducible rfl))); (try simp only [Act.put, List.getElem_toArray, List.getElem_cons_zero, List.getElem_cons_succ, List.setIfInBounds_toArray, List.set_cons_zero, List.set_cons_succ])))
    refine wpAnyH_ready (rs := [2, 7, 10]) (by kernel_rfl) (by simp) ?_
    refine (AllReadyH.cons rfl (fun K hK => ?_) (AllReadyH.cons rfl (fun K hK => ?_) (AllReadyH.cons rfl (fun K hK => ?_) AllReadyH.nil)))
    · go_simp
      have hsz := HBW.out.size
      have hb := (Below.refl z0.heap.size z0).alloc (Nat.le_refl _) (.cells #[] 3)
      have HBW := Lib.hid (HBW.out.trans (hb.mono hsz))
      have HE := Lib.hid (OwnI.empty_at z0 w1.heap.size _ rfl hsz)
      clear hb
      generalize z0.alloc (.cells #[] 3) = z1 at *
      (refine hK.out _ _ ?_ (fun hHeld2 => ?_); (focus ((try dsimp only); exact ⟨(HBW.out.cell (p := ⟨gA, 0, none⟩) hgA).trans HP0.out, (HBW.out.cell (p := ⟨gB, 1, none⟩) hgB).trans HQ1.out⟩)); (clear hK K); (try simp only [Act.put, List.getElem_toArray, List.getElem_cons_zero, List.getElem_cons_succ, List.setIfInBounds_toArray, List.set_cons_zero, List.set_cons_succ]))
      clear hsz
      refine wpAnyH_ready (rs := [5, 7, 10]) (by kernel_rfl) (by simp) ?_
      refine (AllReadyH.cons rfl (fun K hK => ?_) (AllReadyH.cons rfl (fun K hK => ?_) (AllReadyH.cons rfl (fun K hK => ?_) AllReadyH.nil)))
      · refine step_append_src0I (by rfl) _ _ (by rfl) w1.heap.size _ (by rfl) HE.out AB cB xs (by rfl) (HIB.out.lift HBW.out) HNB.out (by have := HLX.out; omega) HBW.out.size ?_
        intro v5 z2 hown5 hb5 hat5
        obtain ⟨A5, c5, rfl⟩ := hown5.form
        have hsz := HBW.out.size
        have HBW := Lib.hid (HBW.out.trans (hb5.mono hsz))
        have HE := Lib.hid hown5
        clear hown5 hb5 hat5
        (refine hK.out _ _ ?_ (fun hHeld2 => ?_); (focus ((try dsimp only); exact ⟨(HBW.out.cell (p := ⟨gA, 0, none⟩) hgA).trans HP0.out, (HBW.out.cell (p := ⟨gB, 1, none⟩) hgB).trans HQ1.out⟩)); (clear hK K); (try simp only [Act.put, List.getElem_toArray, List.getElem_cons_zero, List.getElem_cons_succ, List.setIfInBounds_toArray, List.set_cons_zero, List.set_cons_succ]))
        clear hsz
        refine wpAnyH_ready (rs := [7, 10]) (by kernel_rfl) (by simp) ?_
        refine (AllReadyH.cons rfl (fun K hK => ?_) (AllReadyH.cons rfl (fun K hK => ?_) AllReadyH.nil))
        · go_simp
          have hsz := HBW.out.size
          have hb := (Below.refl z2.heap.size z2).alloc (Nat.le_refl _) (.cells #[.int .i64 p] 3)
          have HBW := Lib.hid (HBW.out.trans (hb.mono hsz))
          have HE := Lib.hid (HE.out.grown hb)
          have HP := Lib.hid (Cell1.new z2 (.int .i64 p) 3)
          clear hb
          generalize z2.alloc (.cells #[.int .i64 p] 3) = z3 at *
          (refine hK.out _ _ ?_ (fun hHeld2 => ?_); (focus ((try dsimp only); exact ⟨(HBW.out.cell (p := ⟨gA, 0, none⟩) hgA).trans HP0.out, (HBW.out.cell (p := ⟨gB, 1, none⟩) hgB).trans HQ1.out⟩)); (clear hK K); (try simp only [Act.put, List.getElem_toArray, List.getElem_cons_zero, List.getElem_cons_succ, List.setIfInBounds_toArray, List.set_cons_zero, List.set_cons_succ]))
          clear hsz
          refine wpAnyH_ready (rs := [8, 10]) (by kernel_rfl) (by simp) ?_
          refine (AllReadyH.cons rfl (fun K hK => ?_) (AllReadyH.cons rfl (fun K hK => ?_) AllReadyH.nil))
          · have hpi := HP.out.ints HPF.out
            refine step_append_srcI (by rfl) _ _ (by rfl) w1.heap.size _ xs (by rfl) HE.out (some ⟨_, 0, none⟩) 1 [(p : Int)] (by rfl) hpi (by intro h; cases h) (by have := HLX.out; simp; omega) HBW.out.size ?_
            intro v8 z4 hown8 hb8 hgr8 hat8
            obtain ⟨A8, c8, rfl⟩ := hown8.form
            have HBW := Lib.hid (HBW.out.trans hb8)
            have HE := Lib.hid hown8
            clear hown8 hb8 hgr8 hat8 hpi
            (refine hK.out _ _ ?_ (fun hHeld2 => ?_); (focus ((try dsimp only); exact ⟨(HBW.out.cell (p := ⟨gA, 0, none⟩) hgA).trans HP0.out, (HBW.out.cell (p := ⟨gB, 1, none⟩) hgB).trans HQ1.out⟩)); (clear hK K); (try simp only [Act.put, List.getElem_toArray, List.getElem_cons_zero, List.getElem_cons_succ, List.setIfInBounds_toArray, List.set_cons_zero, List.set_cons_succ]))
            (refine wpAnyH_take (i := 9) (v := ?_) rfl (by kernel_rfl) (by kernel_rfl) (by kernel_rfl) (fun _ _ _ h => h) (Or.inl ⟨by rfl, ?_⟩) (by assumption) ?_; rotate_left; (focus (intro wS hSw; (try dsimp only at hSw); go_simp; (try with_reducible rfl))); (try simp only [Act.put, List.getElem_toArray, List.getElem_cons_zero, List.getElem_cons_succ, List.setIfInBounds_toArray, List.set_cons_zero, List.set_cons_succ]))
            refine wpAnyH_ready (rs := [10]) (by kernel_rfl) (by simp) ?_
            refine AllReadyH.cons rfl (fun K hK => ?_) AllReadyH.nil
            go_simp
            have hsz := HBW.out.size
            have hb := (Below.refl z4.heap.size z4).alloc (Nat.le_refl _) (.cells #[.int .i64 0, .slice none 0 0] 27)
            have HBW := Lib.hid (HBW.out.trans (hb.mono hsz))
            have HGX := Lib.hid hsz
            have HD := Lib.hid (fun k (hk : _ = some k) => Nat.ne_of_lt (HE.out.lt k hk).2)
            have HE := Lib.hid (HE.out.grown hb)
            have HX := Lib.hid (Cells2.new z4 (.int .i64 0) (.slice none 0 0) 27)
            clear hb
            generalize z4.alloc (.cells #[.int .i64 0, .slice none 0 0] 27) = z5 at *
            obtain ⟨gX, hgX⟩ : ∃ g, z4.heap.size = g := ⟨_, rfl⟩
            rw [hgX] at HX HGX HD ⊢
            clear hgX
            (refine hK.out _ _ ?_ (fun hHeld2 => ?_); (focus ((try dsimp only); exact ⟨(HBW.out.cell (p := ⟨gA, 0, none⟩) hgA).trans HP0.out, (HBW.out.cell (p := ⟨gB, 1, none⟩) hgB).trans HQ1.out⟩)); (clear hK K); (try simp only [Act.put, List.getElem_toArray, List.getElem_cons_zero, List.getElem_cons_succ, List.setIfInBounds_toArray, List.set_cons_zero, List.set_cons_succ]))
            clear hsz
            obtain ⟨x0, x1, xf0, xf1, _⟩ := HX.out
            have HN8 := Lib.hid (HE.out.newAt (by simp))
            have hl8 : (xs ++ [(p : Int)]).length = xs.length + 1 := by simp
            have HX9 := Lib.hid ((HX.out.set0 (.int .i64 N)).set1 (.slice A8 (xs.length + 1) c8))
            have HE9 := (HE.out.setFar (p := ⟨gX, 0, none⟩) HD.out (.int .i64 N)).setFar (p := ⟨gX, 1, none⟩) HD.out (.slice A8 (xs.length + 1) c8)
            have HI9 := Lib.hid (HE9.ints HPX.out)
            have HBW := Lib.hid ((HBW.out.setCell (p := ⟨gX, 0, none⟩) HGX.out (.int .i64 N)).setCell (p := ⟨gX, 1, none⟩) HGX.out (.slice A8 (xs.length + 1) c8))
            have HR9 := Lib.hid (show Hav ((z5.setCell ⟨gX, 0, none⟩ (.int .i64 N)).setCell ⟨gX, 1, none⟩ (.slice A8 (xs.length + 1) c8)) N gX A8 c8 (xs ++ [(p : Int)]) by unfold Hav; rw [hl8]; exact ⟨HX9.out, HI9.out⟩)
            clear HE9 hl8
            (refine wpAnyH_ready (rs := [11]) (by kernel_rfl) (by simp) ?_; refine AllReadyH.cons rfl (fun K hK => ?_) AllReadyH.nil; go_simp)
            (refine hK.out _ _ ?_ (fun hHeld2 => ?_); (focus ((try dsimp only); exact ⟨(HBW.out.cell (p := ⟨gA, 0, none⟩) hgA).trans HP0.out, (HBW.out.cell (p := ⟨gB, 1, none⟩) hgB).trans HQ1.out⟩)); (clear hK K); (try simp only [Act.put, List.getElem_toArray, List.getElem_cons_zero, List.getElem_cons_succ, List.setIfInBounds_toArray, List.set_cons_zero, List.set_cons_succ]))
            refine wpAnyH_done (by kernel_rfl) ?_ _
            go_wp2_with fail
            go_meet
            exact ⟨gX, A8, c8, rfl, HR9.out, HN8.out, HBW.out⟩
          · go_simp
            have hsz := HBW.out.size
            have hb := (Below.refl z3.heap.size z3).alloc (Nat.le_refl _) (.cells #[.int .i64 0, .slice none 0 0] 27)
            have HBW := Lib.hid (HBW.out.trans (hb.mono hsz))
            have HGX := Lib.hid hsz
            have HD := Lib.hid (fun k (hk : _ = some k) => Nat.ne_of_lt (HE.out.lt k hk).2)
            have HE := Lib.hid (HE.out.grown hb)
            have HP := Lib.hid (HP.out.lift hb)
            have HX := Lib.hid (Cells2.new z3 (.int .i64 0) (.slice none 0 0) 27)
            clear hb
            generalize z3.alloc (.cells #[.int .i64 0, .slice none 0 0] 27) = z4 at *
            obtain ⟨gX, hgX⟩ : ∃ g, z3.heap.size = g := ⟨_, rfl⟩
            rw [hgX] at HX HGX HD ⊢
            clear hgX
            (refine hK.out _ _ ?_ (fun hHeld2 => ?_); (focus ((try dsimp only); exact ⟨(HBW.out.cell (p := ⟨gA, 0, none⟩) hgA).trans HP0.out, (HBW.out.cell (p := ⟨gB, 1, none⟩) hgB).trans HQ1.out⟩)); (clear hK K); (try simp only [Act.put, List.getElem_toArray, List.getElem_cons_zero, List.getElem_cons_succ, List.setIfInBounds_toArray, List.set_cons_zero, List.set_cons_succ]))
            clear hsz
            refine wpAnyH_ready (rs := [8]) (by kernel_rfl) (by simp) ?_
            refine (AllReadyH.cons rfl (fun K hK => ?_) AllReadyH.nil)
            have hpi := HP.out.ints HPF.out
            refine step_append_srcI (by rfl) _ _ (by rfl) w1.heap.size _ xs (by rfl) HE.out (some ⟨_, 0, none⟩) 1 [(p : Int)] (by rfl) hpi (by intro h; cases h) (by have := HLX.out; simp; omega) HBW.out.size ?_
            intro v8 z5 hown8 hb8 hgr8 hat8
            obtain ⟨A8, c8, rfl⟩ := hown8.form
            have HBW := Lib.hid (HBW.out.trans hb8)
            have HD2 := Lib.hid (fun k hk => show k ≠ gX from (hat8 k hk).elim (fun h => HD.out k h) (fun h => by have := HX.out.2.2.2.2; omega))
            have HX := Lib.hid (HX.out.grown hgr8 (fun h => HD.out _ h.symm rfl))
            have HD := HD2
            have HE := Lib.hid hown8
            clear hown8 hb8 hgr8 hat8 hpi
            (refine hK.out _ _ ?_ (fun hHeld2 => ?_); (focus ((try dsimp only); exact ⟨(HBW.out.cell (p := ⟨gA, 0, none⟩) hgA).trans HP0.out, (HBW.out.cell (p := ⟨gB, 1, none⟩) hgB).trans HQ1.out⟩)); (clear hK K); (try simp only [Act.put, List.getElem_toArray, List.getElem_cons_zero, List.getElem_cons_succ, List.setIfInBounds_toArray, List.set_cons_zero, List.set_cons_succ]))
            (refine wpAnyH_take (i := 9) (v := ?_) rfl (by kernel_rfl) (by kernel_rfl) (by kernel_rfl) (fun _ _ _ h => h) (Or.inl ⟨by rfl, ?_⟩) (by assumption) ?_; rotate_left; (focus (intro wS hSw; (try dsimp only at hSw); go_simp; (try with_reducible rfl))); (try simp only [Act.put, List.getElem_toArray, List.getElem_cons_zero, List.getElem_cons_succ, List.setIfInBounds_toArray, List.set_cons_zero, List.set_cons_succ]))
            obtain ⟨x0, x1, xf0, xf1, _⟩ := HX.out
            have HN8 := Lib.hid (HE.out.newAt (by simp))
            have hl8 : (xs ++ [(p : Int)]).length = xs.length + 1 := by simp
            have HX9 := Lib.hid ((HX.out.set0 (.int .i64 N)).set1 (.slice A8 (xs.length + 1) c8))
            have HE9 := (HE.out.setFar (p := ⟨gX, 0, none⟩) HD.out (.int .i64 N)).setFar (p := ⟨gX, 1, none⟩) HD.out (.slice A8 (xs.length + 1) c8)
            have HI9 := Lib.hid (HE9.ints HPX.out)
            have HBW := Lib.hid ((HBW.out.setCell (p := ⟨gX, 0, none⟩) HGX.out (.int .i64 N)).setCell (p := ⟨gX, 1, none⟩) HGX.out (.slice A8 (xs.length + 1) c8))
            have HR9 := Lib.hid (show Hav ((z5.setCell ⟨gX, 0, none⟩ (.int .i64 N)).setCell ⟨gX, 1, none⟩ (.slice A8 (xs.length + 1) c8)) N gX A8 c8 (xs ++ [(p : Int)]) by unfold Hav; rw [hl8]; exact ⟨HX9.out, HI9.out⟩)
            clear HE9 hl8
            (refine wpAnyH_ready (rs := [11]) (by kernel_rfl) (by simp) ?_; refine AllReadyH.cons rfl (fun K hK => ?_) AllReadyH.nil; go_simp)
            (refine hK.out _ _ ?_ (fun hHeld2 => ?_); (focus ((try dsimp only); exact ⟨(HBW.out.cell (p := ⟨gA, 0, none⟩) hgA).trans HP0.out, (HBW.out.cell (p := ⟨gB, 1, none⟩) hgB).trans HQ1.out⟩)); (clear hK K); (try simp only [Act.put, List.getElem_toArray, List.getElem_cons_zero, List.getElem_cons_succ, List.setIfInBounds_toArray, List.set_cons_zero, List.set_cons_succ]))
            refine wpAnyH_done (by kernel_rfl) ?_ _
            go_wp2_with fail
            go_meet
            exact ⟨gX, A8, c8, rfl, HR9.out, HN8.out, HBW.out⟩
        · go_simp
          have hsz := HBW.out.size
          have hb := (Below.refl z2.heap.size z2).alloc (Nat.le_refl _) (.cells #[.int .i64 0, .slice none 0 0] 27)
          have HBW := Lib.hid (HBW.out.trans (hb.mono hsz))
          have HGX := Lib.hid hsz
          have HD := Lib.hid (fun k (hk : _ = some k) => Nat.ne_of_lt (HE.out.lt k hk).2)
          have HE := Lib.hid (HE.out.grown hb)
          have HX := Lib.hid (Cells2.new z2 (.int .i64 0) (.slice none 0 0) 27)
          clear hb
          generalize z2.alloc (.cells #[.int .i64 0, .slice none 0 0] 27) = z3 at *
          obtain ⟨gX, hgX⟩ : ∃ g, z2.heap.size = g := ⟨_, rfl⟩
          rw [hgX] at HX HGX HD ⊢
          clear hgX
          (refine hK.out _ _ ?_ (fun hHeld2 => ?_); (focus ((try dsimp only); exact ⟨(HBW.out.cell (p := ⟨gA, 0, none⟩) hgA).trans HP0.out, (HBW.out.cell (p := ⟨gB, 1, none⟩) hgB).trans HQ1.out⟩)); (clear hK K); (try simp only [Act.put, List.getElem_toArray, List.getElem_cons_zero, List.getElem_cons_succ, List.setIfInBounds_toArray, List.set_cons_zero, List.set_cons_succ]))
          clear hsz
          refine wpAnyH_ready (rs := [7]) (by kernel_rfl) (by simp) ?_
          refine AllReadyH.cons rfl (fun K hK => ?_) AllReadyH.nil
          go_simp
          have hsz := HBW.out.size
          have hb := (Below.refl z3.heap.size z3).alloc (Nat.le_refl _) (.cells #[.int .i64 p] 3)
          have HBW := Lib.hid (HBW.out.trans (hb.mono hsz))
          have HE := Lib.hid (HE.out.grown hb)
          have HX := Lib.hid (HX.out.below hb HX.out.2.2.2.2)
          have HP := Lib.hid (Cell1.new z3 (.int .i64 p) 3)
          clear hb
          generalize z3.alloc (.cells #[.int .i64 p] 3) = z4 at *
          (refine hK.out _ _ ?_ (fun hHeld2 => ?_); (focus ((try dsimp only); exact ⟨(HBW.out.cell (p := ⟨gA, 0, none⟩) hgA).trans HP0.out, (HBW.out.cell (p := ⟨gB, 1, none⟩) hgB).trans HQ1.out⟩)); (clear hK K); (try simp only [Act.put, List.getElem_toArray, List.getElem_cons_zero, List.getElem_cons_succ, List.setIfInBounds_toArray, List.set_cons_zero, List.set_cons_succ]))
          clear hsz
          refine wpAnyH_ready (rs := [8]) (by kernel_rfl) (by simp) ?_
          refine (AllReadyH.cons rfl (fun K hK => ?_) AllReadyH.nil)
          have hpi := HP.out.ints HPF.out
          refine step_append_srcI (by rfl) _ _ (by rfl) w1.heap.size _ xs (by rfl) HE.out (some ⟨_, 0, none⟩) 1 [(p : Int)] (by rfl) hpi (by intro h; cases h) (by have := HLX.out; simp; omega) HBW.out.size ?_
          intro v8 z5 hown8 hb8 hgr8 hat8
          obtain ⟨A8, c8, rfl⟩ := hown8.form
          have HBW := Lib.hid (HBW.out.trans hb8)
          have HD2 := Lib.hid (fun k hk => show k ≠ gX from (hat8 k hk).elim (fun h => HD.out k h) (fun h => by have := HX.out.2.2.2.2; omega))
          have HX := Lib.hid (HX.out.grown hgr8 (fun h => HD.out _ h.symm rfl))
          have HD := HD2
          have HE := Lib.hid hown8
          clear hown8 hb8 hgr8 hat8 hpi
          (refine hK.out _ _ ?_ (fun hHeld2 => ?_); (focus ((try dsimp only); exact ⟨(HBW.out.cell (p := ⟨gA, 0, none⟩) hgA).trans HP0.out, (HBW.out.cell (p := ⟨gB, 1, none⟩) hgB).trans HQ1.out⟩)); (clear hK K); (try simp only [Act.put, List.getElem_toArray, List.getElem_cons_zero, List.getElem_cons_succ, List.setIfInBounds_toArray, List.set_cons_zero, List.set_cons_succ]))
          (refine wpAnyH_take (i := 9) (v := ?_) rfl (by kernel_rfl) (by kernel_rfl) (by kernel_rfl) (fun _ _ _ h => h) (Or.inl ⟨by rfl, ?_⟩) (by assumption) ?_; rotate_left; (focus (intro wS hSw; (try dsimp only at hSw); go_simp; (try with_reducible rfl))); (try simp only [Act.put, List.getElem_toArray, List.getElem_cons_zero, List.getElem_cons_succ, List.setIfInBounds_toArray, List.set_cons_zero, List.set_cons_succ]))
          obtain ⟨x0, x1, xf0, xf1, _⟩ := HX.out
          have HN8 := Lib.hid (HE.out.newAt (by simp))
          have hl8 : (xs ++ [(p : Int)]).length = xs.length + 1 := by simp
          have HX9 := Lib.hid ((HX.out.set0 (.int .i64 N)).set1 (.slice A8 (xs.length + 1) c8))
          have HE9 := (HE.out.setFar (p := ⟨gX, 0, none⟩) HD.out (.int .i64 N)).setFar (p := ⟨gX, 1, none⟩) HD.out (.slice A8 (xs.length + 1) c8)
          have HI9 := Lib.hid (HE9.ints HPX.out)
          have HBW := Lib.hid ((HBW.out.setCell (p := ⟨gX, 0, none⟩) HGX.out (.int .i64 N)).setCell (p := ⟨gX, 1, none⟩) HGX.out (.slice A8 (xs.length + 1) c8))
          have HR9 := Lib.hid (show Hav ((z5.setCell ⟨gX, 0, none⟩ (.int .i64 N)).setCell ⟨gX, 1, none⟩ (.slice A8 (xs.length + 1) c8)) N gX A8 c8 (xs ++ [(p : Int)]) by unfold Hav; rw [hl8]; exact ⟨HX9.out, HI9.out⟩)
          clear HE9 hl8
          (refine wpAnyH_ready (rs := [11]) (by kernel_rfl) (by simp) ?_; refine AllReadyH.cons rfl (fun K hK => ?_) AllReadyH.nil; go_simp)
          (refine hK.out _ _ ?_ (fun hHeld2 => ?_); (focus ((try dsimp only); exact ⟨(HBW.out.cell (p := ⟨gA, 0, none⟩) hgA).trans HP0.out, (HBW.out.cell (p := ⟨gB, 1, none⟩) hgB).trans HQ1.out⟩)); (clear hK K); (try simp only [Act.put, List.getElem_toArray, List.getElem_cons_zero, List.getElem_cons_succ, List.setIfInBounds_toArray, List.set_cons_zero, List.set_cons_succ]))
          refine wpAnyH_done (by kernel_rfl) ?_ _
          go_wp2_with fail
          go_meet
          exact ⟨gX, A8, c8, rfl, HR9.out, HN8.out, HBW.out⟩
      · go_simp
        have hsz := HBW.out.size
        have hb := (Below.refl z1.heap.size z1).alloc (Nat.le_refl _) (.cells #[.int .i64 p] 3)
        have HBW := Lib.hid (HBW.out.trans (hb.mono hsz))
        have HE := Lib.hid (HE.out.grown hb)
        have HP := Lib.hid (Cell1.new z1 (.int .i64 p) 3)
        clear hb
        generalize z1.alloc (.cells #[.int .i64 p] 3) = z2 at *
        (refine hK.out _ _ ?_ (fun hHeld2 => ?_); (focus ((try dsimp only); exact ⟨(HBW.out.cell (p := ⟨gA, 0, none⟩) hgA).trans HP0.out, (HBW.out.cell (p := ⟨gB, 1, none⟩) hgB).trans HQ1.out⟩)); (clear hK K); (try simp only [Act.put, List.getElem_toArray, List.getElem_cons_zero, List.getElem_cons_succ, List.setIfInBounds_toArray, List.set_cons_zero, List.set_cons_succ]))
        clear hsz
        refine wpAnyH_ready (rs := [5, 10]) (by kernel_rfl) (by simp) ?_
        refine (AllReadyH.cons rfl (fun K hK => ?_) (AllReadyH.cons rfl (fun K hK => ?_) AllReadyH.nil))
        · refine step_append_src0I (by rfl) _ _ (by rfl) w1.heap.size _ (by rfl) HE.out AB cB xs (by rfl) (HIB.out.lift HBW.out) HNB.out (by have := HLX.out; omega) HBW.out.size ?_
          intro v5 z3 hown5 hb5 hat5
          obtain ⟨A5, c5, rfl⟩ := hown5.form
          have hsz := HBW.out.size
          have HBW := Lib.hid (HBW.out.trans (hb5.mono hsz))
          have HP := Lib.hid (HP.out.lift hb5)
          have HE := Lib.hid hown5
          clear hown5 hb5 hat5
          (refine hK.out _ _ ?_ (fun hHeld2 => ?_); (focus ((try dsimp only); exact ⟨(HBW.out.cell (p := ⟨gA, 0, none⟩) hgA).trans HP0.out, (HBW.out.cell (p := ⟨gB, 1, none⟩) hgB).trans HQ1.out⟩)); (clear hK K); (try simp only [Act.put, List.getElem_toArray, List.getElem_cons_zero, List.getElem_cons_succ, List.setIfInBounds_toArray, List.set_cons_zero, List.set_cons_succ]))
          clear hsz
          refine wpAnyH_ready (rs := [8, 10]) (by kernel_rfl) (by simp) ?_
          refine (AllReadyH.cons rfl (fun K hK => ?_) (AllReadyH.cons rfl (fun K hK => ?_) AllReadyH.nil))
          · have hpi := HP.out.ints HPF.out
            refine step_append_srcI (by rfl) _ _ (by rfl) w1.heap.size _ xs (by rfl) HE.out (some ⟨_, 0, none⟩) 1 [(p : Int)] (by rfl) hpi (by intro h; cases h) (by have := HLX.out; simp; omega) HBW.out.size ?_
            intro v8 z4 hown8 hb8 hgr8 hat8
            obtain ⟨A8, c8, rfl⟩ := hown8.form
            have HBW := Lib.hid (HBW.out.trans hb8)
            have HE := Lib.hid hown8
            clear hown8 hb8 hgr8 hat8 hpi
            (refine hK.out _ _ ?_ (fun hHeld2 => ?_); (focus ((try dsimp only); exact ⟨(HBW.out.cell (p := ⟨gA, 0, none⟩) hgA).trans HP0.out, (HBW.out.cell (p := ⟨gB, 1, none⟩) hgB).trans HQ1.out⟩)); (clear hK K); (try simp only [Act.put, List.getElem_toArray, List.getElem_cons_zero, List.getElem_cons_succ, List.setIfInBounds_toArray, List.set_cons_zero, List.set_cons_succ]))
            (refine wpAnyH_take (i := 9) (v := ?_) rfl (by kernel_rfl) (by kernel_rfl) (by kernel_rfl) (fun _ _ _ h => h) (Or.inl ⟨by rfl, ?_⟩) (by assumption) ?_; rotate_left; (focus (intro wS hSw; (try dsimp only at hSw); go_simp; (try with_reducible rfl))); (try simp only [Act.put, List.getElem_toArray, List.getElem_cons_zero, List.getElem_cons_succ, List.setIfInBounds_toArray, List.set_cons_zero, List.set_cons_succ]))
            refine wpAnyH_ready (rs := [10]) (by kernel_rfl) (by simp) ?_
            refine AllReadyH.cons rfl (fun K hK => ?_) AllReadyH.nil
            go_simp
            have hsz := HBW.out.size
            have hb := (Below.refl z4.heap.size z4).alloc (Nat.le_refl _) (.cells #[.int .i64 0, .slice none 0 0] 27)
            have HBW := Lib.hid (HBW.out.trans (hb.mono hsz))
            have HGX := Lib.hid hsz
            have HD := Lib.hid (fun k (hk : _ = some k) => Nat.ne_of_lt (HE.out.lt k hk).2)
            have HE := Lib.hid (HE.out.grown hb)
            have HX := Lib.hid (Cells2.new z4 (.int .i64 0) (.slice none 0 0) 27)
            clear hb
            generalize z4.alloc (.cells #[.int .i64 0, .slice none 0 0] 27) = z5 at *
            obtain ⟨gX, hgX⟩ : ∃ g, z4.heap.size = g := ⟨_, rfl⟩
            rw [hgX] at HX HGX HD ⊢
            clear hgX
            (refine hK.out _ _ ?_ (fun hHeld2 => ?_); (focus ((try dsimp only); exact ⟨(HBW.out.cell (p := ⟨gA, 0, none⟩) hgA).trans HP0.out, (HBW.out.cell (p := ⟨gB, 1, none⟩) hgB).trans HQ1.out⟩)); (clear hK K); (try simp only [Act.put, List.getElem_toArray, List.getElem_cons_zero, List.getElem_cons_succ, List.setIfInBounds_toArray, List.set_cons_zero, List.set_cons_succ]))
            clear hsz
            obtain ⟨x0, x1, xf0, xf1, _⟩ := HX.out
            have HN8 := Lib.hid (HE.out.newAt (by simp))
            have hl8 : (xs ++ [(p : Int)]).length = xs.length + 1 := by simp
            have HX9 := Lib.hid ((HX.out.set0 (.int .i64 N)).set1 (.slice A8 (xs.length + 1) c8))
            have HE9 := (HE.out.setFar (p := ⟨gX, 0, none⟩) HD.out (.int .i64 N)).setFar (p := ⟨gX, 1, none⟩) HD.out (.slice A8 (xs.length + 1) c8)
            have HI9 := Lib.hid (HE9.ints HPX.out)
            have HBW := Lib.hid ((HBW.out.setCell (p := ⟨gX, 0, none⟩) HGX.out (.int .i64 N)).setCell (p := ⟨gX, 1, none⟩) HGX.out (.slice A8 (xs.length + 1) c8))
            have HR9 := Lib.hid (show Hav ((z5.setCell ⟨gX, 0, none⟩ (.int .i64 N)).setCell ⟨gX, 1, none⟩ (.slice A8 (xs.length + 1) c8)) N gX A8 c8 (xs ++ [(p : Int)]) by unfold Hav; rw [hl8]; exact ⟨HX9.out, HI9.out⟩)
            clear HE9 hl8
            (refine wpAnyH_ready (rs := [11]) (by kernel_rfl) (by simp) ?_; refine AllReadyH.cons rfl (fun K hK => ?_) AllReadyH.nil; go_simp)
            (refine hK.out _ _ ?_ (fun hHeld2 => ?_); (focus ((try dsimp only); exact ⟨(HBW.out.cell (p := ⟨gA, 0, none⟩) hgA).trans HP0.out, (HBW.out.cell (p := ⟨gB, 1, none⟩) hgB).trans HQ1.out⟩)); (clear hK K); (try simp only [Act.put, List.getElem_toArray, List.getElem_cons_zero, List.getElem_cons_succ, List.setIfInBounds_toArray, List.set_cons_zero, List.set_cons_succ]))
            refine wpAnyH_done (by kernel_rfl) ?_ _
            go_wp2_with fail
            go_meet
            exact ⟨gX, A8, c8, rfl, HR9.out, HN8.out, HBW.out⟩
          · go_simp
            have hsz := HBW.out.size
            have hb := (Below.refl z3.heap.size z3).alloc (Nat.le_refl _) (.cells #[.int .i64 0, .slice none 0 0] 27)
            have HBW := Lib.hid (HBW.out.trans (hb.mono hsz))
            have HGX := Lib.hid hsz
            have HD := Lib.hid (fun k (hk : _ = some k) => Nat.ne_of_lt (HE.out.lt k hk).2)
            have HE := Lib.hid (HE.out.grown hb)
            have HP := Lib.hid (HP.out.lift hb)
            have HX := Lib.hid (Cells2.new z3 (.int .i64 0) (.slice none 0 0) 27)
            clear hb
            generalize z3.alloc (.cells #[.int .i64 0, .slice none 0 0] 27) = z4 at *
            obtain ⟨gX, hgX⟩ : ∃ g, z3.heap.size = g := ⟨_, rfl⟩
            rw [hgX] at HX HGX HD ⊢
            clear hgX
            (refine hK.out _ _ ?_ (fun hHeld2 => ?_); (focus ((try dsimp only); exact ⟨(HBW.out.cell (p := ⟨gA, 0, none⟩) hgA).trans HP0.out, (HBW.out.cell (p := ⟨gB, 1, none⟩) hgB).trans HQ1.out⟩)); (clear hK K); (try simp only [Act.put, List.getElem_toArray, List.getElem_cons_zero, List.getElem_cons_succ, List.setIfInBounds_toArray, List.set_cons_zero, List.set_cons_succ]))
            clear hsz
            refine wpAnyH_ready (rs := [8]) (by kernel_rfl) (by simp) ?_
            refine (AllReadyH.cons rfl (fun K hK => ?_) AllReadyH.nil)
            have hpi := HP.out.ints HPF.out
            refine step_append_srcI (by rfl) _ _ (by rfl) w1.heap.size _ xs (by rfl) HE.out (some ⟨_, 0, none⟩) 1 [(p : Int)] (by rfl) hpi (by intro h; cases h) (by have := HLX.out; simp; omega) HBW.out.size ?_
            intro v8 z5 hown8 hb8 hgr8 hat8
            obtain ⟨A8, c8, rfl⟩ := hown8.form
            have HBW := Lib.hid (HBW.out.trans hb8)
            have HD2 := Lib.hid (fun k hk => show k ≠ gX from (hat8 k hk).elim (fun h => HD.out k h) (fun h => by have := HX.out.2.2.2.2; omega))
            have HX := Lib.hid (HX.out.grown hgr8 (fun h => HD.out _ h.symm rfl))
            have HD := HD2
            have HE := Lib.hid hown8
            clear hown8 hb8 hgr8 hat8 hpi
            (refine hK.out _ _ ?_ (fun hHeld2 => ?_); (focus ((try dsimp only); exact ⟨(HBW.out.cell (p := ⟨gA, 0, none⟩) hgA).trans HP0.out, (HBW.out.cell (p := ⟨gB, 1, none⟩) hgB).trans HQ1.out⟩)); (clear hK K); (try simp only [Act.put, List.getElem_toArray, List.getElem_cons_zero, List.getElem_cons_succ, List.setIfInBounds_toArray, List.set_cons_zero, List.set_cons_succ]))
            (refine wpAnyH_take (i := 9) (v := ?_) rfl (by kernel_rfl) (by kernel_rfl) (by kernel_rfl) (fun _ _ _ h => h) (Or.inl ⟨by rfl, ?_⟩) (by assumption) ?_; rotate_left; (focus (intro wS hSw; (try dsimp only at hSw); go_simp; (try with_reducible rfl))); (try simp only [Act.put, List.getElem_toArray, List.getElem_cons_zero, List.getElem_cons_succ, List.setIfInBounds_toArray, List.set_cons_zero, List.set_cons_succ]))
            obtain ⟨x0, x1, xf0, xf1, _⟩ := HX.out
            have HN8 := Lib.hid (HE.out.newAt (by simp))
            have hl8 : (xs ++ [(p : Int)]).length = xs.length + 1 := by simp
            have HX9 := Lib.hid ((HX.out.set0 (.int .i64 N)).set1 (.slice A8 (xs.length + 1) c8))
            have HE9 := (HE.out.setFar (p := ⟨gX, 0, none⟩) HD.out (.int .i64 N)).setFar (p := ⟨gX, 1, none⟩) HD.out (.slice A8 (xs.length + 1) c8)
            have HI9 := Lib.hid (HE9.ints HPX.out)
            have HBW := Lib.hid ((HBW.out.setCell (p := ⟨gX, 0, none⟩) HGX.out (.int .i64 N)).setCell (p := ⟨gX, 1, none⟩) HGX.out (.slice A8 (xs.length + 1) c8))
            have HR9 := Lib.hid (show Hav ((z5.setCell ⟨gX, 0, none⟩ (.int .i64 N)).setCell ⟨gX, 1, none⟩ (.slice A8 (xs.length + 1) c8)) N gX A8 c8 (xs ++ [(p : Int)]) by unfold Hav; rw [hl8]; exact ⟨HX9.out, HI9.out⟩)
            clear HE9 hl8
            (refine wpAnyH_ready (rs := [11]) (by kernel_rfl) (by simp) ?_; refine AllReadyH.cons rfl (fun K hK => ?_) AllReadyH.nil; go_simp)
            (refine hK.out _ _ ?_ (fun hHeld2 => ?_); (focus ((try dsimp only); exact ⟨(HBW.out.cell (p := ⟨gA, 0, none⟩) hgA).trans HP0.out, (HBW.out.cell (p := ⟨gB, 1, none⟩) hgB).trans HQ1.out⟩)); (clear hK K); (try simp only [Act.put, List.getElem_toArray, List.getElem_cons_zero, List.getElem_cons_succ, List.setIfInBounds_toArray, List.set_cons_zero, List.set_cons_succ]))
            refine wpAnyH_done (by kernel_rfl) ?_ _
            go_wp2_with fail
            go_meet
            exact ⟨gX, A8, c8, rfl, HR9.out, HN8.out, HBW.out⟩
        · go_simp
          have hsz := HBW.out.size
          have hb := (Below.refl z2.heap.size z2).alloc (Nat.le_refl _) (.cells #[.int .i64 0, .slice none 0 0] 27)
          have HBW := Lib.hid (HBW.out.trans (hb.mono hsz))
          have HGX := Lib.hid hsz
          have HD := Lib.hid (fun k (hk : _ = some k) => Nat.ne_of_lt (HE.out.lt k hk).2)
          have HE := Lib.hid (HE.out.grown hb)
          have HP := Lib.hid (HP.out.lift hb)
          have HX := Lib.hid (Cells2.new z2 (.int .i64 0) (.slice none 0 0) 27)
          clear hb
          generalize z2.alloc (.cells #[.int .i64 0, .slice none 0 0] 27) = z3 at *
          obtain ⟨gX, hgX⟩ : ∃ g, z2.heap.size = g := ⟨_, rfl⟩
          rw [hgX] at HX HGX HD ⊢
          clear hgX
          (refine hK.out _ _ ?_ (fun hHeld2 => ?_); (focus ((try dsimp only); exact ⟨(HBW.out.cell (p := ⟨gA, 0, none⟩) hgA).trans HP0.out, (HBW.out.cell (p := ⟨gB, 1, none⟩) hgB).trans HQ1.out⟩)); (clear hK K); (try simp only [Act.put, List.getElem_toArray, List.getElem_cons_zero, List.getElem_cons_succ, List.setIfInBounds_toArray, List.set_cons_zero, List.set_cons_succ]))
          clear hsz
          refine wpAnyH_ready (rs := [5]) (by kernel_rfl) (by simp) ?_
          refine (AllReadyH.cons rfl (fun K hK => ?_) AllReadyH.nil)
          refine step_append_src0I (by rfl) _ _ (by rfl) w1.heap.size _ (by rfl) HE.out AB cB xs (by rfl) (HIB.out.lift HBW.out) HNB.out (by have := HLX.out; omega) HBW.out.size ?_
          intro v5 z4 hown5 hb5 hat5
          obtain ⟨A5, c5, rfl⟩ := hown5.form
          have hsz := HBW.out.size
          have HBW := Lib.hid (HBW.out.trans (hb5.mono hsz))
          have HP := Lib.hid (HP.out.lift hb5)
          have HD2 := Lib.hid (fun k hk => show k ≠ gX from (hat5 k hk).elim (fun h => HD.out k h) (fun h => by have := HX.out.2.2.2.2; omega))
          have HX := Lib.hid (HX.out.below hb5 HX.out.2.2.2.2)
          have HD := HD2
          have HE := Lib.hid hown5
          clear hown5 hb5 hat5
          (refine hK.out _ _ ?_ (fun hHeld2 => ?_); (focus ((try dsimp only); exact ⟨(HBW.out.cell (p := ⟨gA, 0, none⟩) hgA).trans HP0.out, (HBW.out.cell (p := ⟨gB, 1, none⟩) hgB).trans HQ1.out⟩)); (clear hK K); (try simp only [Act.put, List.getElem_toArray, List.getElem_cons_zero, List.getElem_cons_succ, List.setIfInBounds_toArray, List.set_cons_zero, List.set_cons_succ]))
          clear hsz
          refine wpAnyH_ready (rs := [8]) (by kernel_rfl) (by simp) ?_
          refine (AllReadyH.cons rfl (fun K hK => ?_) AllReadyH.nil)
          have hpi := HP.out.ints HPF.out
          refine step_append_srcI (by rfl) _ _ (by rfl) w1.heap.size _ xs (by rfl) HE.out (some ⟨_, 0, none⟩) 1 [(p : Int)] (by rfl) hpi (by intro h; cases h) (by have := HLX.out; simp; omega) HBW.out.size ?_
          intro v8 z5 hown8 hb8 hgr8 hat8
          obtain ⟨A8, c8, rfl⟩ := hown8.form
          have HBW := Lib.hid (HBW.out.trans hb8)
          have HD2 := Lib.hid (fun k hk => show k ≠ gX from (hat8 k hk).elim (fun h => HD.out k h) (fun h => by have := HX.out.2.2.2.2; omega))
          have HX := Lib.hid (HX.out.grown hgr8 (fun h => HD.out _ h.symm rfl))
          have HD := HD2
          have HE := Lib.hid hown8
          clear hown8 hb8 hgr8 hat8 hpi
          (refine hK.out _ _ ?_ (fun hHeld2 => ?_); (focus ((try dsimp only); exact ⟨(HBW.out.cell (p := ⟨gA, 0, none⟩) hgA).trans HP0.out, (HBW.out.cell (p := ⟨gB, 1, none⟩) hgB).trans HQ1.out⟩)); (clear hK K); (try simp only [Act.put, List.getElem_toArray, List.getElem_cons_zero, List.getElem_cons_succ, List.setIfInBounds_toArray, List.set_cons_zero, List.set_cons_succ]))
          (refine wpAnyH_take (i := 9) (v := ?_) rfl (by kernel_rfl) (by kernel_rfl) (by kernel_rfl) (fun _ _ _ h => h) (Or.inl ⟨by rfl, ?_⟩) (by assumption) ?_; rotate_left; (focus (intro wS hSw; (try dsimp only at hSw); go_simp; (try with_reducible rfl))); (try simp only [Act.put, List.getElem_toArray, List.getElem_cons_zero, List.getElem_cons_succ, List.setIfInBounds_toArray, List.set_cons_zero, List.set_cons_succ]))
          obtain ⟨x0, x1, xf0, xf1, _⟩ := HX.out
          have HN8 := Lib.hid (HE.out.newAt (by simp))
          have hl8 : (xs ++ [(p : Int)]).length = xs.length + 1 := by simp
          have HX9 := Lib.hid ((HX.out.set0 (.int .i64 N)).set1 (.slice A8 (xs.length + 1) c8))
          have HE9 := (HE.out.setFar (p := ⟨gX, 0, none⟩) HD.out (.int .i64 N)).setFar (p := ⟨gX, 1, none⟩) HD.out (.slice A8 (xs.length + 1) c8)
          have HI9 := Lib.hid (HE9.ints HPX.out)
          have HBW := Lib.hid ((HBW.out.setCell (p := ⟨gX, 0, none⟩) HGX.out (.int .i64 N)).setCell (p := ⟨gX, 1, none⟩) HGX.out (.slice A8 (xs.length + 1) c8))
          have HR9 := Lib.hid (show Hav ((z5.setCell ⟨gX, 0, none⟩ (.int .i64 N)).setCell ⟨gX, 1, none⟩ (.slice A8 (xs.length + 1) c8)) N gX A8 c8 (xs ++ [(p : Int)]) by unfold Hav; rw [hl8]; exact ⟨HX9.out, HI9.out⟩)
          clear HE9 hl8
          (refine wpAnyH_ready (rs := [11]) (by kernel_rfl) (by simp) ?_; refine AllReadyH.cons rfl (fun K hK => ?_) AllReadyH.nil; go_simp)
          (refine hK.out _ _ ?_ (fun hHeld2 => ?_); (focus ((try dsimp only); exact ⟨(HBW.out.cell (p := ⟨gA, 0, none⟩) hgA).trans HP0.out, (HBW.out.cell (p := ⟨gB, 1, none⟩) hgB).trans HQ1.out⟩)); (clear hK K); (try simp only [Act.put, List.getElem_toArray, List.getElem_cons_zero, List.getElem_cons_succ, List.setIfInBounds_toArray, List.set_cons_zero, List.set_cons_succ]))
          refine wpAnyH_done (by kernel_rfl) ?_ _
          go_wp2_with fail
          go_meet
          exact ⟨gX, A8, c8, rfl, HR9.out, HN8.out, HBW.out⟩
      · go_simp
        have hsz := HBW.out.size
        have hb := (Below.refl z1.heap.size z1).alloc (Nat.le_refl _) (.cells #[.int .i64 0, .slice none 0 0] 27)
        have HBW := Lib.hid (HBW.out.trans (hb.mono hsz))
        have HGX := Lib.hid hsz
        have HD := Lib.hid (fun k (hk : _ = some k) => Nat.ne_of_lt (HE.out.lt k hk).2)
        have HE := Lib.hid (HE.out.grown hb)
        have HX := Lib.hid (Cells2.new z1 (.int .i64 0) (.slice none 0 0) 27)
        clear hb
        generalize z1.alloc (.cells #[.int .i64 0, .slice none 0 0] 27) = z2 at *
        obtain ⟨gX, hgX⟩ : ∃ g, z1.heap.size = g := ⟨_, rfl⟩
        rw [hgX] at HX HGX HD ⊢
        clear hgX
        (refine hK.out _ _ ?_ (fun hHeld2 => ?_); (focus ((try dsimp only); exact ⟨(HBW.out.cell (p := ⟨gA, 0, none⟩) hgA).trans HP0.out, (HBW.out.cell (p := ⟨gB, 1, none⟩) hgB).trans HQ1.out⟩)); (clear hK K); (try simp only [Act.put, List.getElem_toArray, List.getElem_cons_zero, List.getElem_cons_succ, List.setIfInBounds_toArray, List.set_cons_zero, List.set_cons_succ]))
        clear hsz
        refine wpAnyH_ready (rs := [5, 7]) (by kernel_rfl) (by simp) ?_
        refine (AllReadyH.cons rfl (fun K hK => ?_) (AllReadyH.cons rfl (fun K hK => ?_) AllReadyH.nil))
        · refine step_append_src0I (by rfl) _ _ (by rfl) w1.heap.size _ (by rfl) HE.out AB cB xs (by rfl) (HIB.out.lift HBW.out) HNB.out (by have := HLX.out; omega) HBW.out.size ?_
          intro v5 z3 hown5 hb5 hat5
          obtain ⟨A5, c5, rfl⟩ := hown5.form
          have hsz := HBW.out.size
          have HBW := Lib.hid (HBW.out.trans (hb5.mono hsz))
          have HD2 := Lib.hid (fun k hk => show k ≠ gX from (hat5 k hk).elim (fun h => HD.out k h) (fun h => by have := HX.out.2.2.2.2; omega))
          have HX := Lib.hid (HX.out.below hb5 HX.out.2.2.2.2)
          have HD := HD2
          have HE := Lib.hid hown5
          clear hown5 hb5 hat5
          (refine hK.out _ _ ?_ (fun hHeld2 => ?_); (focus ((try dsimp only); exact ⟨(HBW.out.cell (p := ⟨gA, 0, none⟩) hgA).trans HP0.out, (HBW.out.cell (p := ⟨gB, 1, none⟩) hgB).trans HQ1.out⟩)); (clear hK K); (try simp only [Act.put, List.getElem_toArray, List.getElem_cons_zero, List.getElem_cons_succ, List.setIfInBounds_toArray, List.set_cons_zero, List.set_cons_succ]))
          clear hsz
          refine wpAnyH_ready (rs := [7]) (by kernel_rfl) (by simp) ?_
          refine AllReadyH.cons rfl (fun K hK => ?_) AllReadyH.nil
          go_simp
          have hsz := HBW.out.size
          have hb := (Below.refl z3.heap.size z3).alloc (Nat.le_refl _) (.cells #[.int .i64 p] 3)
          have HBW := Lib.hid (HBW.out.trans (hb.mono hsz))
          have HE := Lib.hid (HE.out.grown hb)
          have HX := Lib.hid (HX.out.below hb HX.out.2.2.2.2)
          have HP := Lib.hid (Cell1.new z3 (.int .i64 p) 3)
          clear hb
          generalize z3.alloc (.cells #[.int .i64 p] 3) = z4 at *
          (refine hK.out _ _ ?_ (fun hHeld2 => ?_); (focus ((try dsimp only); exact ⟨(HBW.out.cell (p := ⟨gA, 0, none⟩) hgA).trans HP0.out, (HBW.out.cell (p := ⟨gB, 1, none⟩) hgB).trans HQ1.out⟩)); (clear hK K); (try simp only [Act.put, List.getElem_toArray, List.getElem_cons_zero, List.getElem_cons_succ, List.setIfInBounds_toArray, List.set_cons_zero, List.set_cons_succ]))
          clear hsz
          refine wpAnyH_ready (rs := [8]) (by kernel_rfl) (by simp) ?_
          refine (AllReadyH.cons rfl (fun K hK => ?_) AllReadyH.nil)
          have hpi := HP.out.ints HPF.out
          refine step_append_srcI (by rfl) _ _ (by rfl) w1.heap.size _ xs (by rfl) HE.out (some ⟨_, 0, none⟩) 1 [(p : Int)] (by rfl) hpi (by intro h; cases h) (by have := HLX.out; simp; omega) HBW.out.size ?_
          intro v8 z5 hown8 hb8 hgr8 hat8
          obtain ⟨A8, c8, rfl⟩ := hown8.form
          have HBW := Lib.hid (HBW.out.trans hb8)
          have HD2 := Lib.hid (fun k hk => show k ≠ gX from (hat8 k hk).elim (fun h => HD.out k h) (fun h => by have := HX.out.2.2.2.2; omega))
          have HX := Lib.hid (HX.out.grown hgr8 (fun h => HD.out _ h.symm rfl))
          have HD := HD2
          have HE := Lib.hid hown8
          clear hown8 hb8 hgr8 hat8 hpi
          (refine hK.out _ _ ?_ (fun hHeld2 => ?_); (focus ((try dsimp only); exact ⟨(HBW.out.cell (p := ⟨gA, 0, none⟩) hgA).trans HP0.out, (HBW.out.cell (p := ⟨gB, 1, none⟩) hgB).trans HQ1.out⟩)); (clear hK K); (try simp only [Act.put, List.getElem_toArray, List.getElem_cons_zero, List.getElem_cons_succ, List.setIfInBounds_toArray, List.set_cons_zero, List.set_cons_succ]))
          (refine wpAnyH_take (i := 9) (v := ?_) rfl (by kernel_rfl) (by kernel_rfl) (by kernel_rfl) (fun _ _ _ h => h) (Or.inl ⟨by rfl, ?_⟩) (by assumption) ?_; rotate_left; (focus (intro wS hSw; (try dsimp only at hSw); go_simp; (try with_reducible rfl))); (try simp only [Act.put, List.getElem_toArray, List.getElem_cons_zero, List.getElem_cons_succ, List.setIfInBounds_toArray, List.set_cons_zero, List.set_cons_succ]))
          obtain ⟨x0, x1, xf0, xf1, _⟩ := HX.out
          have HN8 := Lib.hid (HE.out.newAt (by simp))
          have hl8 : (xs ++ [(p : Int)]).length = xs.length + 1 := by simp
          have HX9 := Lib.hid ((HX.out.set0 (.int .i64 N)).set1 (.slice A8 (xs.length + 1) c8))
          have HE9 := (HE.out.setFar (p := ⟨gX, 0, none⟩) HD.out (.int .i64 N)).setFar (p := ⟨gX, 1, none⟩) HD.out (.slice A8 (xs.length + 1) c8)
          have HI9 := Lib.hid (HE9.ints HPX.out)
          have HBW := Lib.hid ((HBW.out.setCell (p := ⟨gX, 0, none⟩) HGX.out (.int .i64 N)).setCell (p := ⟨gX, 1, none⟩) HGX.out (.slice A8 (xs.length + 1) c8))
          have HR9 := Lib.hid (show Hav ((z5.setCell ⟨gX, 0, none⟩ (.int .i64 N)).setCell ⟨gX, 1, none⟩ (.slice A8 (xs.length + 1) c8)) N gX A8 c8 (xs ++ [(p : Int)]) by unfold Hav; rw [hl8]; exact ⟨HX9.out, HI9.out⟩)
          clear HE9 hl8
          (refine wpAnyH_ready (rs := [11]) (by kernel_rfl) (by simp) ?_; refine AllReadyH.cons rfl (fun K hK => ?_) AllReadyH.nil; go_simp)
          (refine hK.out _ _ ?_ (fun hHeld2 => ?_); (focus ((try dsimp only); exact ⟨(HBW.out.cell (p := ⟨gA, 0, none⟩) hgA).trans HP0.out, (HBW.out.cell (p := ⟨gB, 1, none⟩) hgB).trans HQ1.out⟩)); (clear hK K); (try simp only [Act.put, List.getElem_toArray, List.getElem_cons_zero, List.getElem_cons_succ, List.setIfInBounds_toArray, List.set_cons_zero, List.set_cons_succ]))
          refine wpAnyH_done (by kernel_rfl) ?_ _
          go_wp2_with fail
          go_meet
          exact ⟨gX, A8, c8, rfl, HR9.out, HN8.out, HBW.out⟩
        · go_simp
          have hsz := HBW.out.size
          have hb := (Below.refl z2.heap.size z2).alloc (Nat.le_refl _) (.cells #[.int .i64 p] 3)
          have HBW := Lib.hid (HBW.out.trans (hb.mono hsz))
          have HE := Lib.hid (HE.out.grown hb)
          have HX := Lib.hid (HX.out.below hb HX.out.2.2.2.2)
          have HP := Lib.hid (Cell1.new z2 (.int .i64 p) 3)
          clear hb
          generalize z2.alloc (.cells #[.int .i64 p] 3) = z3 at *
          (refine hK.out _ _ ?_ (fun hHeld2 => ?_); (focus ((try dsimp only); exact ⟨(HBW.out.cell (p := ⟨gA, 0, none⟩) hgA).trans HP0.out, (HBW.out.cell (p := ⟨gB, 1, none⟩) hgB).trans HQ1.out⟩)); (clear hK K); (try simp only [Act.put, List.getElem_toArray, List.getElem_cons_zero, List.getElem_cons_succ, List.setIfInBounds_toArray, List.set_cons_zero, List.set_cons_succ]))
          clear hsz
          refine wpAnyH_ready (rs := [5]) (by kernel_rfl) (by simp) ?_
          refine (AllReadyH.cons rfl (fun K hK => ?_) AllReadyH.nil)
          refine step_append_src0I (by rfl) _ _ (by rfl) w1.heap.size _ (by rfl) HE.out AB cB xs (by rfl) (HIB.out.lift HBW.out) HNB.out (by have := HLX.out; omega) HBW.out.size ?_
          intro v5 z4 hown5 hb5 hat5
          obtain ⟨A5, c5, rfl⟩ := hown5.form
          have hsz := HBW.out.size
          have HBW := Lib.hid (HBW.out.trans (hb5.mono hsz))
          have HP := Lib.hid (HP.out.lift hb5)
          have HD2 := Lib.hid (fun k hk => show k ≠ gX from (hat5 k hk).elim (fun h => HD.out k h) (fun h => by have := HX.out.2.2.2.2; omega))
          have HX := Lib.hid (HX.out.below hb5 HX.out.2.2.2.2)
          have HD := HD2
          have HE := Lib.hid hown5
          clear hown5 hb5 hat5
          (refine hK.out _ _ ?_ (fun hHeld2 => ?_); (focus ((try dsimp only); exact ⟨(HBW.out.cell (p := ⟨gA, 0, none⟩) hgA).trans HP0.out, (HBW.out.cell (p := ⟨gB, 1, none⟩) hgB).trans HQ1.out⟩)); (clear hK K); (try simp only [Act.put, List.getElem_toArray, List.getElem_cons_zero, List.getElem_cons_succ, List.setIfInBounds_toArray, List.set_cons_zero, List.set_cons_succ]))
          clear hsz
          refine wpAnyH_ready (rs := [8]) (by kernel_rfl) (by simp) ?_
          refine (AllReadyH.cons rfl (fun K hK => ?_) AllReadyH.nil)
          have hpi := HP.out.ints HPF.out
          refine step_append_srcI (by rfl) _ _ (by rfl) w1.heap.size _ xs (by rfl) HE.out (some ⟨_, 0, none⟩) 1 [(p : Int)] (by rfl) hpi (by intro h; cases h) (by have := HLX.out; simp; omega) HBW.out.size ?_
          intro v8 z5 hown8 hb8 hgr8 hat8
          obtain ⟨A8, c8, rfl⟩ := hown8.form
          have HBW := Lib.hid (HBW.out.trans hb8)
          have HD2 := Lib.hid (fun k hk => show k ≠ gX from (hat8 k hk).elim (fun h => HD.out k h) (fun h => by have := HX.out.2.2.2.2; omega))
          have HX := Lib.hid (HX.out.grown hgr8 (fun h => HD.out _ h.symm rfl))
          have HD := HD2
          have HE := Lib.hid hown8
          clear hown8 hb8 hgr8 hat8 hpi
          (refine hK.out _ _ ?_ (fun hHeld2 => ?_); (focus ((try dsimp only); exact ⟨(HBW.out.cell (p := ⟨gA, 0, none⟩) hgA).trans HP0.out, (HBW.out.cell (p := ⟨gB, 1, none⟩) hgB).trans HQ1.out⟩)); (clear hK K); (try simp only [Act.put, List.getElem_toArray, List.getElem_cons_zero, List.getElem_cons_succ, List.setIfInBounds_toArray, List.set_cons_zero, List.set_cons_succ]))
          (refine wpAnyH_take (i := 9) (v := ?_) rfl (by kernel_rfl) (by kernel_rfl) (by kernel_rfl) (fun _ _ _ h => h) (Or.inl ⟨by rfl, ?_⟩) (by assumption) ?_; rotate_left; (focus (intro wS hSw; (try dsimp only at hSw); go_simp; (try with_reducible rfl))); (try simp only [Act.put, List.getElem_toArray, List.getElem_cons_zero, List.getElem_cons_succ, List.setIfInBounds_toArray, List.set_cons_zero, List.set_cons_succ]))
          obtain ⟨x0, x1, xf0, xf1, _⟩ := HX.out
          have HN8 := Lib.hid (HE.out.newAt (by simp))
          have hl8 : (xs ++ [(p : Int)]).length = xs.length + 1 := by simp
          have HX9 := Lib.hid ((HX.out.set0 (.int .i64 N)).set1 (.slice A8 (xs.length + 1) c8))
          have HE9 := (HE.out.setFar (p := ⟨gX, 0, none⟩) HD.out (.int .i64 N)).setFar (p := ⟨gX, 1, none⟩) HD.out (.slice A8 (xs.length + 1) c8)
          have HI9 := Lib.hid (HE9.ints HPX.out)
          have HBW := Lib.hid ((HBW.out.setCell (p := ⟨gX, 0, none⟩) HGX.out (.int .i64 N)).setCell (p := ⟨gX, 1, none⟩) HGX.out (.slice A8 (xs.length + 1) c8))
          have HR9 := Lib.hid (show Hav ((z5.setCell ⟨gX, 0, none⟩ (.int .i64 N)).setCell ⟨gX, 1, none⟩ (.slice A8 (xs.length + 1) c8)) N gX A8 c8 (xs ++ [(p : Int)]) by unfold Hav; rw [hl8]; exact ⟨HX9.out, HI9.out⟩)
          clear HE9 hl8
          (refine wpAnyH_ready (rs := [11]) (by kernel_rfl) (by simp) ?_; refine AllReadyH.cons rfl (fun K hK => ?_) AllReadyH.nil; go_simp)
          (refine hK.out _ _ ?_ (fun hHeld2 => ?_); (focus ((try dsimp only); exact ⟨(HBW.out.cell (p := ⟨gA, 0, none⟩) hgA).trans HP0.out, (HBW.out.cell (p := ⟨gB, 1, none⟩) hgB).trans HQ1.out⟩)); (clear hK K); (try simp only [Act.put, List.getElem_toArray, List.getElem_cons_zero, List.getElem_cons_succ, List.setIfInBounds_toArray, List.set_cons_zero, List.set_cons_succ]))
          refine wpAnyH_done (by kernel_rfl) ?_ _
          go_wp2_with fail
          go_meet
          exact ⟨gX, A8, c8, rfl, HR9.out, HN8.out, HBW.out⟩
    · go_simp
      have hsz := HBW.out.size
      have hb := (Below.refl z0.heap.size z0).alloc (Nat.le_refl _) (.cells #[.int .i64 p] 3)
      have HBW := Lib.hid (HBW.out.trans (hb.mono hsz))
      have HP := Lib.hid (Cell1.new z0 (.int .i64 p) 3)
      clear hb
      generalize z0.alloc (.cells #[.int .i64 p] 3) = z1 at *
      (refine hK.out _ _ ?_ (fun hHeld2 => ?_); (focus ((try dsimp only); exact ⟨(HBW.out.cell (p := ⟨gA, 0, none⟩) hgA).trans HP0.out, (HBW.out.cell (p := ⟨gB, 1, none⟩) hgB).trans HQ1.out⟩)); (clear hK K); (try simp only [Act.put, List.getElem_toArray, List.getElem_cons_zero, List.getElem_cons_succ, List.setIfInBounds_toArray, List.set_cons_zero, List.set_cons_succ]))
      clear hsz
      refine wpAnyH_ready (rs := [2, 10]) (by kernel_rfl) (by simp) ?_
      refine (AllReadyH.cons rfl (fun K hK => ?_) (AllReadyH.cons rfl (fun K hK => ?_) AllReadyH.nil))
      · go_simp
        have hsz := HBW.out.size
        have hb := (Below.refl z1.heap.size z1).alloc (Nat.le_refl _) (.cells #[] 3)
        have HBW := Lib.hid (HBW.out.trans (hb.mono hsz))
        have HP := Lib.hid (HP.out.lift hb)
        have HE := Lib.hid (OwnI.empty_at z1 w1.heap.size _ rfl hsz)
        clear hb
        generalize z1.alloc (.cells #[] 3) = z2 at *
        (refine hK.out _ _ ?_ (fun hHeld2 => ?_); (focus ((try dsimp only); exact ⟨(HBW.out.cell (p := ⟨gA, 0, none⟩) hgA).trans HP0.out, (HBW.out.cell (p := ⟨gB, 1, none⟩) hgB).trans HQ1.out⟩)); (clear hK K); (try simp only [Act.put, List.getElem_toArray, List.getElem_cons_zero, List.getElem_cons_succ, List.setIfInBounds_toArray, List.set_cons_zero, List.set_cons_succ]))
        clear hsz
        refine wpAnyH_ready (rs := [5, 10]) (by kernel_rfl) (by simp) ?_
        refine (AllReadyH.cons rfl (fun K hK => ?_) (AllReadyH.cons rfl (fun K hK => ?_) AllReadyH.nil))
        · refine step_append_src0I (by rfl) _ _ (by rfl) w1.heap.size _ (by rfl) HE.out AB cB xs (by rfl) (HIB.out.lift HBW.out) HNB.out (by have := HLX.out; omega) HBW.out.size ?_
          intro v5 z3 hown5 hb5 hat5
          obtain ⟨A5, c5, rfl⟩ := hown5.form
          have hsz := HBW.out.size
          have HBW := Lib.hid (HBW.out.trans (hb5.mono hsz))
          have HP := Lib.hid (HP.out.lift hb5)
          have HE := Lib.hid hown5
          clear hown5 hb5 hat5
          (refine hK.out _ _ ?_ (fun hHeld2 => ?_); (focus ((try dsimp only); exact ⟨(HBW.out.cell (p := ⟨gA, 0, none⟩) hgA).trans HP0.out, (HBW.out.cell (p := ⟨gB, 1, none⟩) hgB).trans HQ1.out⟩)); (clear hK K); (try simp only [Act.put, List.getElem_toArray, List.getElem_cons_zero, List.getElem_cons_succ, List.setIfInBounds_toArray, List.set_cons_zero, List.set_cons_succ]))
          clear hsz
          refine wpAnyH_ready (rs := [8, 10]) (by kernel_rfl) (by simp) ?_
          refine (AllReadyH.cons rfl (fun K hK => ?_) (AllReadyH.cons rfl (fun K hK => ?_) AllReadyH.nil))
          · have hpi := HP.out.ints HPF.out
            refine step_append_srcI (by rfl) _ _ (by rfl) w1.heap.size _ xs (by rfl) HE.out (some ⟨_, 0, none⟩) 1 [(p : Int)] (by rfl) hpi (by intro h; cases h) (by have := HLX.out; simp; omega) HBW.out.size ?_
            intro v8 z4 hown8 hb8 hgr8 hat8
            obtain ⟨A8, c8, rfl⟩ := hown8.form
            have HBW := Lib.hid (HBW.out.trans hb8)
            have HE := Lib.hid hown8
            clear hown8 hb8 hgr8 hat8 hpi
            (refine hK.out _ _ ?_ (fun hHeld2 => ?_); (focus ((try dsimp only); exact ⟨(HBW.out.cell (p := ⟨gA, 0, none⟩) hgA).trans HP0.out, (HBW.out.cell (p := ⟨gB, 1, none⟩) hgB).trans HQ1.out⟩)); (clear hK K); (try simp only [Act.put, List.getElem_toArray, List.getElem_cons_zero, List.getElem_cons_succ, List.setIfInBounds_toArray, List.set_cons_zero, List.set_cons_succ]))
            (refine wpAnyH_take (i := 9) (v := ?_) rfl (by kernel_rfl) (by kernel_rfl) (by kernel_rfl) (fun _ _ _ h => h) (Or.inl ⟨by rfl, ?_⟩) (by assumption) ?_; rotate_left; (focus (intro wS hSw; (try dsimp only at hSw); go_simp; (try with_reducible rfl))); (try simp only [Act.put, List.getElem_toArray, List.getElem_cons_zero, List.getElem_cons_succ, List.setIfInBounds_toArray, List.set_cons_zero, List.set_cons_succ]))
            refine wpAnyH_ready (rs := [10]) (by kernel_rfl) (by simp) ?_
            refine AllReadyH.cons rfl (fun K hK => ?_) AllReadyH.nil
            go_simp
            have hsz := HBW.out.size
            have hb := (Below.refl z4.heap.size z4).alloc (Nat.le_refl _) (.cells #[.int .i64 0, .slice none 0 0] 27)
            have HBW := Lib.hid (HBW.out.trans (hb.mono hsz))
            have HGX := Lib.hid hsz
            have HD := Lib.hid (fun k (hk : _ = some k) => Nat.ne_of_lt (HE.out.lt k hk).2)
            have HE := Lib.hid (HE.out.grown hb)
            have HX := Lib.hid (Cells2.new z4 (.int .i64 0) (.slice none 0 0) 27)
            clear hb
            generalize z4.alloc (.cells #[.int .i64 0, .slice none 0 0] 27) = z5 at *
            obtain ⟨gX, hgX⟩ : ∃ g, z4.heap.size = g := ⟨_, rfl⟩
            rw [hgX] at HX HGX HD ⊢
            clear hgX
            (refine hK.out _ _ ?_ (fun hHeld2 => ?_); (focus ((try dsimp only); exact ⟨(HBW.out.cell (p := ⟨gA, 0, none⟩) hgA).trans HP0.out, (HBW.out.cell (p := ⟨gB, 1, none⟩) hgB).trans HQ1.out⟩)); (clear hK K); (try simp only [Act.put, List.getElem_toArray, List.getElem_cons_zero, List.getElem_cons_succ, List.setIfInBounds_toArray, List.set_cons_zero, List.set_cons_succ]))
            clear hsz
            obtain ⟨x0, x1, xf0, xf1, _⟩ := HX.out
            have HN8 := Lib.hid (HE.out.newAt (by simp))
            have hl8 : (xs ++ [(p : Int)]).length = xs.length + 1 := by simp
            have HX9 := Lib.hid ((HX.out.set0 (.int .i64 N)).set1 (.slice A8 (xs.length + 1) c8))
            have HE9 := (HE.out.setFar (p := ⟨gX, 0, none⟩) HD.out (.int .i64 N)).setFar (p := ⟨gX, 1, none⟩) HD.out (.slice A8 (xs.length + 1) c8)
            have HI9 := Lib.hid (HE9.ints HPX.out)
            have HBW := Lib.hid ((HBW.out.setCell (p := ⟨gX, 0, none⟩) HGX.out (.int .i64 N)).setCell (p := ⟨gX, 1, none⟩) HGX.out (.slice A8 (xs.length + 1) c8))
            have HR9 := Lib.hid (show Hav ((z5.setCell ⟨gX, 0, none⟩ (.int .i64 N)).setCell ⟨gX, 1, none⟩ (.slice A8 (xs.length + 1) c8)) N gX A8 c8 (xs ++ [(p : Int)]) by unfold Hav; rw [hl8]; exact ⟨HX9.out, HI9.out⟩)
            clear HE9 hl8
            (refine wpAnyH_ready (rs := [11]) (by kernel_rfl) (by simp) ?_; refine AllReadyH.cons rfl (fun K hK => ?_) AllReadyH.nil; go_simp)
            (refine hK.out _ _ ?_ (fun hHeld2 => ?_); (focus ((try dsimp only); exact ⟨(HBW.out.cell (p := ⟨gA, 0, none⟩) hgA).trans HP0.out, (HBW.out.cell (p := ⟨gB, 1, none⟩) hgB).trans HQ1.out⟩)); (clear hK K); (try simp only [Act.put, List.getElem_toArray, List.getElem_cons_zero, List.getElem_cons_succ, List.setIfInBounds_toArray, List.set_cons_zero, List.set_cons_succ]))
            refine wpAnyH_done (by kernel_rfl) ?_ _
            go_wp2_with fail
            go_meet
            exact ⟨gX, A8, c8, rfl, HR9.out, HN8.out, HBW.out⟩
          · go_simp
            have hsz := HBW.out.size
            have hb := (Below.refl z3.heap.size z3).alloc (Nat.le_refl _) (.cells #[.int .i64 0, .slice none 0 0] 27)
            have HBW := Lib.hid (HBW.out.trans (hb.mono hsz))
            have HGX := Lib.hid hsz
            have HD := Lib.hid (fun k (hk : _ = some k) => Nat.ne_of_lt (HE.out.lt k hk).2)
            have HE := Lib.hid (HE.out.grown hb)
            have HP := Lib.hid (HP.out.lift hb)
            have HX := Lib.hid (Cells2.new z3 (.int .i64 0) (.slice none 0 0) 27)
            clear hb
            generalize z3.alloc (.cells #[.int .i64 0, .slice none 0 0] 27) = z4 at *
            obtain ⟨gX, hgX⟩ : ∃ g, z3.heap.size = g := ⟨_, rfl⟩
            rw [hgX] at HX HGX HD ⊢
            clear hgX
            (refine hK.out _ _ ?_ (fun hHeld2 => ?_); (focus ((try dsimp only); exact ⟨(HBW.out.cell (p := ⟨gA, 0, none⟩) hgA).trans HP0.out, (HBW.out.cell (p := ⟨gB, 1, none⟩) hgB).trans HQ1.out⟩)); (clear hK K); (try simp only [Act.put, List.getElem_toArray, List.getElem_cons_zero, List.getElem_cons_succ, List.setIfInBounds_toArray, List.set_cons_zero, List.set_cons_succ]))
            clear hsz
            refine wpAnyH_ready (rs := [8]) (by kernel_rfl) (by simp) ?_
            refine (AllReadyH.cons rfl (fun K hK => ?_) AllReadyH.nil)
            have hpi := HP.out.ints HPF.out
            refine step_append_srcI (by rfl) _ _ (by rfl) w1.heap.size _ xs (by rfl) HE.out (some ⟨_, 0, none⟩) 1 [(p : Int)] (by rfl) hpi (by intro h; cases h) (by have := HLX.out; simp; omega) HBW.out.size ?_
            intro v8 z5 hown8 hb8 hgr8 hat8
            obtain ⟨A8, c8, rfl⟩ := hown8.form
            have HBW := Lib.hid (HBW.out.trans hb8)
            have HD2 := Lib.hid (fun k hk => show k ≠ gX from (hat8 k hk).elim (fun h => HD.out k h) (fun h => by have := HX.out.2.2.2.2; omega))
            have HX := Lib.hid (HX.out.grown hgr8 (fun h => HD.out _ h.symm rfl))
            have HD := HD2
            have HE := Lib.hid hown8
            clear hown8 hb8 hgr8 hat8 hpi
            (refine hK.out _ _ ?_ (fun hHeld2 => ?_); (focus ((try dsimp only); exact ⟨(HBW.out.cell (p := ⟨gA, 0, none⟩) hgA).trans HP0.out, (HBW.out.cell (p := ⟨gB, 1, none⟩) hgB).trans HQ1.out⟩)); (clear hK K); (try simp only [Act.put, List.getElem_toArray, List.getElem_cons_zero, List.getElem_cons_succ, List.setIfInBounds_toArray, List.set_cons_zero, List.set_cons_succ]))
            (refine wpAnyH_take (i := 9) (v := ?_) rfl (by kernel_rfl) (by kernel_rfl) (by kernel_rfl) (fun _ _ _ h => h) (Or.inl ⟨by rfl, ?_⟩) (by assumption) ?_; rotate_left; (focus (intro wS hSw; (try dsimp only at hSw); go_simp; (try with_reducible rfl))); (try simp only [Act.put, List.getElem_toArray, List.getElem_cons_zero, List.getElem_cons_succ, List.setIfInBounds_toArray, List.set_cons_zero, List.set_cons_succ]))
            obtain ⟨x0, x1, xf0, xf1, _⟩ := HX.out
            have HN8 := Lib.hid (HE.out.newAt (by simp))
            have hl8 : (xs ++ [(p : Int)]).length = xs.length + 1 := by simp
            have HX9 := Lib.hid ((HX.out.set0 (.int .i64 N)).set1 (.slice A8 (xs.length + 1) c8))
            have HE9 := (HE.out.setFar (p := ⟨gX, 0, none⟩) HD.out (.int .i64 N)).setFar (p := ⟨gX, 1, none⟩) HD.out (.slice A8 (xs.length + 1) c8)
            have HI9 := Lib.hid (HE9.ints HPX.out)
            have HBW := Lib.hid ((HBW.out.setCell (p := ⟨gX, 0, none⟩) HGX.out (.int .i64 N)).setCell (p := ⟨gX, 1, none⟩) HGX.out (.slice A8 (xs.length + 1) c8))
            have HR9 := Lib.hid (show Hav ((z5.setCell ⟨gX, 0, none⟩ (.int .i64 N)).setCell ⟨gX, 1, none⟩ (.slice A8 (xs.length + 1) c8)) N gX A8 c8 (xs ++ [(p : Int)]) by unfold Hav; rw [hl8]; exact ⟨HX9.out, HI9.out⟩)
            clear HE9 hl8
            (refine wpAnyH_ready (rs := [11]) (by kernel_rfl) (by simp) ?_; refine AllReadyH.cons rfl (fun K hK => ?_) AllReadyH.nil; go_simp)
            (refine hK.out _ _ ?_ (fun hHeld2 => ?_); (focus ((try dsimp only); exact ⟨(HBW.out.cell (p := ⟨gA, 0, none⟩) hgA).trans HP0.out, (HBW.out.cell (p := ⟨gB, 1, none⟩) hgB).trans HQ1.out⟩)); (clear hK K); (try simp only [Act.put, List.getElem_toArray, List.getElem_cons_zero, List.getElem_cons_succ, List.setIfInBounds_toArray, List.set_cons_zero, List.set_cons_succ]))
            refine wpAnyH_done (by kernel_rfl) ?_ _
            go_wp2_with fail
            go_meet
            exact ⟨gX, A8, c8, rfl, HR9.out, HN8.out, HBW.out⟩
        · go_simp
          have hsz := HBW.out.size
          have hb := (Below.refl z2.heap.size z2).alloc (Nat.le_refl _) (.cells #[.int .i64 0, .slice none 0 0] 27)
          have HBW := Lib.hid (HBW.out.trans (hb.mono hsz))
          have HGX := Lib.hid hsz
          have HD := Lib.hid (fun k (hk : _ = some k) => Nat.ne_of_lt (HE.out.lt k hk).2)
          have HE := Lib.hid (HE.out.grown hb)
          have HP := Lib.hid (HP.out.lift hb)
          have HX := Lib.hid (Cells2.new z2 (.int .i64 0) (.slice none 0 0) 27)
          clear hb
          generalize z2.alloc (.cells #[.int .i64 0, .slice none 0 0] 27) = z3 at *
          obtain ⟨gX, hgX⟩ : ∃ g, z2.heap.size = g := ⟨_, rfl⟩
          rw [hgX] at HX HGX HD ⊢
          clear hgX
          (refine hK.out _ _ ?_ (fun hHeld2 => ?_); (focus ((try dsimp only); exact ⟨(HBW.out.cell (p := ⟨gA, 0, none⟩) hgA).trans HP0.out, (HBW.out.cell (p := ⟨gB, 1, none⟩) hgB).trans HQ1.out⟩)); (clear hK K); (try simp only [Act.put, List.getElem_toArray, List.getElem_cons_zero, List.getElem_cons_succ, List.setIfInBounds_toArray, List.set_cons_zero, List.set_cons_succ]))
          clear hsz
          refine wpAnyH_ready (rs := [5]) (by kernel_rfl) (by simp) ?_
          refine (AllReadyH.cons rfl (fun K hK => ?_) AllReadyH.nil)
          refine step_append_src0I (by rfl) _ _ (by rfl) w1.heap.size _ (by rfl) HE.out AB cB xs (by rfl) (HIB.out.lift HBW.out) HNB.out (by have := HLX.out; omega) HBW.out.size ?_
          intro v5 z4 hown5 hb5 hat5
          obtain ⟨A5, c5, rfl⟩ := hown5.form
          have hsz := HBW.out.size
          have HBW := Lib.hid (HBW.out.trans (hb5.mono hsz))
          have HP := Lib.hid (HP.out.lift hb5)
          have HD2 := Lib.hid (fun k hk => show k ≠ gX from (hat5 k hk).elim (fun h => HD.out k h) (fun h => by have := HX.out.2.2.2.2; omega))
          have HX := Lib.hid (HX.out.below hb5 HX.out.2.2.2.2)
          have HD := HD2
          have HE := Lib.hid hown5
          clear hown5 hb5 hat5
          (refine hK.out _ _ ?_ (fun hHeld2 => ?_); (focus ((try dsimp only); exact ⟨(HBW.out.cell (p := ⟨gA, 0, none⟩) hgA).trans HP0.out, (HBW.out.cell (p := ⟨gB, 1, none⟩) hgB).trans HQ1.out⟩)); (clear hK K); (try simp only [Act.put, List.getElem_toArray, List.getElem_cons_zero, List.getElem_cons_succ, List.setIfInBounds_toArray, List.set_cons_zero, List.set_cons_succ]))
          clear hsz
          refine wpAnyH_ready (rs := [8]) (by kernel_rfl) (by simp) ?_
          refine (AllReadyH.cons rfl (fun K hK => ?_) AllReadyH.nil)
          have hpi := HP.out.ints HPF.out
          refine step_append_srcI (by rfl) _ _ (by rfl) w1.heap.size _ xs (by rfl) HE.out (some ⟨_, 0, none⟩) 1 [(p : Int)] (by rfl) hpi (by intro h; cases h) (by have := HLX.out; simp; omega) HBW.out.size ?_
          intro v8 z5 hown8 hb8 hgr8 hat8
          obtain ⟨A8, c8, rfl⟩ := hown8.form
          have HBW := Lib.hid (HBW.out.trans hb8)
          have HD2 := Lib.hid (fun k hk => show k ≠ gX from (hat8 k hk).elim (fun h => HD.out k h) (fun h => by have := HX.out.2.2.2.2; omega))
          have HX := Lib.hid (HX.out.grown hgr8 (fun h => HD.out _ h.symm rfl))
          have HD := HD2
          have HE := Lib.hid hown8
          clear hown8 hb8 hgr8 hat8 hpi
          (refine hK.out _ _ ?_ (fun hHeld2 => ?_); (focus ((try dsimp only); exact ⟨(HBW.out.cell (p := ⟨gA, 0, none⟩) hgA).trans HP0.out, (HBW.out.cell (p := ⟨gB, 1, none⟩) hgB).trans HQ1.out⟩)); (clear hK K); (try simp only [Act.put, List.getElem_toArray, List.getElem_cons_zero, List.getElem_cons_succ, List.setIfInBounds_toArray, List.set_cons_zero, List.set_cons_succ]))
          (refine wpAnyH_take (i := 9) (v := ?_) rfl (by kernel_rfl) (by kernel_rfl) (by kernel_rfl) (fun _ _ _ h => h) (Or.inl ⟨by rfl, ?_⟩) (by assumption) ?_; rotate_left; (focus (intro wS hSw; (try dsimp only at hSw); go_simp; (try with_reducible rfl))); (try simp only [Act.put, List.getElem_toArray, List.getElem_cons_zero, List.getElem_cons_succ, List.setIfInBounds_toArray, List.set_cons_zero, List.set_cons_succ]))
          obtain ⟨x0, x1, xf0, xf1, _⟩ := HX.out
          have HN8 := Lib.hid (HE.out.newAt (by simp))
          have hl8 : (xs ++ [(p : Int)]).length = xs.length + 1 := by simp
          have HX9 := Lib.hid ((HX.out.set0 (.int .i64 N)).set1 (.slice A8 (xs.length + 1) c8))
          have HE9 := (HE.out.setFar (p := ⟨gX, 0, none⟩) HD.out (.int .i64 N)).setFar (p := ⟨gX, 1, none⟩) HD.out (.slice A8 (xs.length + 1) c8)
          have HI9 := Lib.hid (HE9.ints HPX.out)
          have HBW := Lib.hid ((HBW.out.setCell (p := ⟨gX, 0, none⟩) HGX.out (.int .i64 N)).setCell (p := ⟨gX, 1, none⟩) HGX.out (.slice A8 (xs.length + 1) c8))
          have HR9 := Lib.hid (show Hav ((z5.setCell ⟨gX, 0, none⟩ (.int .i64 N)).setCell ⟨gX, 1, none⟩ (.slice A8 (xs.length + 1) c8)) N gX A8 c8 (xs ++ [(p : Int)]) by unfold Hav; rw [hl8]; exact ⟨HX9.out, HI9.out⟩)
          clear HE9 hl8
          (refine wpAnyH_ready (rs := [11]) (by kernel_rfl) (by simp) ?_; refine AllReadyH.cons rfl (fun K hK => ?_) AllReadyH.nil; go_simp)
          (refine hK.out _ _ ?_ (fun hHeld2 => ?_); (focus ((try dsimp only); exact ⟨(HBW.out.cell (p := ⟨gA, 0, none⟩) hgA).trans HP0.out, (HBW.out.cell (p := ⟨gB, 1, none⟩) hgB).trans HQ1.out⟩)); (clear hK K); (try simp only [Act.put, List.getElem_toArray, List.getElem_cons_zero, List.getElem_cons_succ, List.setIfInBounds_toArray, List.set_cons_zero, List.set_cons_succ]))
          refine wpAnyH_done (by kernel_rfl) ?_ _
          go_wp2_with fail
          go_meet
          exact ⟨gX, A8, c8, rfl, HR9.out, HN8.out, HBW.out⟩
      · go_simp
        have hsz := HBW.out.size
        have hb := (Below.refl z1.heap.size z1).alloc (Nat.le_refl _) (.cells #[.int .i64 0, .slice none 0 0] 27)
        have HBW := Lib.hid (HBW.out.trans (hb.mono hsz))
        have HGX := Lib.hid hsz
        have HP := Lib.hid (HP.out.lift hb)
        have HX := Lib.hid (Cells2.new z1 (.int .i64 0) (.slice none 0 0) 27)
        clear hb
        generalize z1.alloc (.cells #[.int .i64 0, .slice none 0 0] 27) = z2 at *
        obtain ⟨gX, hgX⟩ : ∃ g, z1.heap.size = g := ⟨_, rfl⟩
        rw [hgX] at HX HGX ⊢
        clear hgX
        (refine hK.out _ _ ?_ (fun hHeld2 => ?_); (focus ((try dsimp only); exact ⟨(HBW.out.cell (p := ⟨gA, 0, none⟩) hgA).trans HP0.out, (HBW.out.cell (p := ⟨gB, 1, none⟩) hgB).trans HQ1.out⟩)); (clear hK K); (try simp only [Act.put, List.getElem_toArray, List.getElem_cons_zero, List.getElem_cons_succ, List.setIfInBounds_toArray, List.set_cons_zero, List.set_cons_succ]))
        clear hsz
        refine wpAnyH_ready (rs := [2]) (by kernel_rfl) (by simp) ?_
        refine AllReadyH.cons rfl (fun K hK => ?_) AllReadyH.nil
        go_simp
        have hsz := HBW.out.size
        have hb := (Below.refl z2.heap.size z2).alloc (Nat.le_refl _) (.cells #[] 3)
        have HBW := Lib.hid (HBW.out.trans (hb.mono hsz))
        have HD := Lib.hid (fun k (hk : Value.ownBlock (.slice (some ⟨z2.heap.size, 0, none⟩) 0 0) = some k) => show k ≠ gX by (have h1 : z2.heap.size = k := by simpa [Value.ownBlock] using hk); (have h2 := HX.out.2.2.2.2); omega)
        have HP := Lib.hid (HP.out.lift hb)
        have HX := Lib.hid (HX.out.below hb HX.out.2.2.2.2)
        have HE := Lib.hid (OwnI.empty_at z2 w1.heap.size _ rfl hsz)
        clear hb
        generalize z2.alloc (.cells #[] 3) = z3 at *
        (refine hK.out _ _ ?_ (fun hHeld2 => ?_); (focus ((try dsimp only); exact ⟨(HBW.out.cell (p := ⟨gA, 0, none⟩) hgA).trans HP0.out, (HBW.out.cell (p := ⟨gB, 1, none⟩) hgB).trans HQ1.out⟩)); (clear hK K); (try simp only [Act.put, List.getElem_toArray, List.getElem_cons_zero, List.getElem_cons_succ, List.setIfInBounds_toArray, List.set_cons_zero, List.set_cons_succ]))
        clear hsz
        refine wpAnyH_ready (rs := [5]) (by kernel_rfl) (by simp) ?_
        refine (AllReadyH.cons rfl (fun K hK => ?_) AllReadyH.nil)
        refine step_append_src0I (by rfl) _ _ (by rfl) w1.heap.size _ (by rfl) HE.out AB cB xs (by rfl) (HIB.out.lift HBW.out) HNB.out (by have := HLX.out; omega) HBW.out.size ?_
        intro v5 z4 hown5 hb5 hat5
        obtain ⟨A5, c5, rfl⟩ := hown5.form
        have hsz := HBW.out.size
        have HBW := Lib.hid (HBW.out.trans (hb5.mono hsz))
        have HP := Lib.hid (HP.out.lift hb5)
        have HD2 := Lib.hid (fun k hk => show k ≠ gX from (hat5 k hk).elim (fun h => HD.out k h) (fun h => by have := HX.out.2.2.2.2; omega))
        have HX := Lib.hid (HX.out.below hb5 HX.out.2.2.2.2)
        have HD := HD2
        have HE := Lib.hid hown5
        clear hown5 hb5 hat5
        (refine hK.out _ _ ?_ (fun hHeld2 => ?_); (focus ((try dsimp only); exact ⟨(HBW.out.cell (p := ⟨gA, 0, none⟩) hgA).trans HP0.out, (HBW.out.cell (p := ⟨gB, 1, none⟩) hgB).trans HQ1.out⟩)); (clear hK K); (try simp only [Act.put, List.getElem_toArray, List.getElem_cons_zero, List.getElem_cons_succ, List.setIfInBounds_toArray, List.set_cons_zero, List.set_cons_succ]))
        clear hsz
        refine wpAnyH_ready (rs := [8]) (by kernel_rfl) (by simp) ?_
        refine (AllReadyH.cons rfl (fun K hK => ?_) AllReadyH.nil)
        have hpi := HP.out.ints HPF.out
        refine step_append_srcI (by rfl) _ _ (by rfl) w1.heap.size _ xs (by rfl) HE.out (some ⟨_, 0, none⟩) 1 [(p : Int)] (by rfl) hpi (by intro h; cases h) (by have := HLX.out; simp; omega) HBW.out.size ?_
        intro v8 z5 hown8 hb8 hgr8 hat8
        obtain ⟨A8, c8, rfl⟩ := hown8.form
        have HBW := Lib.hid (HBW.out.trans hb8)
        have HD2 := Lib.hid (fun k hk => show k ≠ gX from (hat8 k hk).elim (fun h => HD.out k h) (fun h => by have := HX.out.2.2.2.2; omega))
        have HX := Lib.hid (HX.out.grown hgr8 (fun h => HD.out _ h.symm rfl))
        have HD := HD2
        have HE := Lib.hid hown8
        clear hown8 hb8 hgr8 hat8 hpi
        (refine hK.out _ _ ?_ (fun hHeld2 => ?_); (focus ((try dsimp only); exact ⟨(HBW.out.cell (p := ⟨gA, 0, none⟩) hgA).trans HP0.out, (HBW.out.cell (p := ⟨gB, 1, none⟩) hgB).trans HQ1.out⟩)); (clear hK K); (try simp only [Act.put, List.getElem_toArray, List.getElem_cons_zero, List.getElem_cons_succ, List.setIfInBounds_toArray, List.set_cons_zero, List.set_cons_succ]))
        (refine wpAnyH_take (i := 9) (v := ?_) rfl (by kernel_rfl) (by kernel_rfl) (by kernel_rfl) (fun _ _ _ h => h) (Or.inl ⟨by rfl, ?_⟩) (by assumption) ?_; rotate_left; (focus (intro wS hSw; (try dsimp only at hSw); go_simp; (try with_reducible rfl))); (try simp only [Act.put, List.getElem_toArray, List.getElem_cons_zero, List.getElem_cons_succ, List.setIfInBounds_toArray, List.set_cons_zero, List.set_cons_succ]))
        obtain ⟨x0, x1, xf0, xf1, _⟩ := HX.out
        have HN8 := Lib.hid (HE.out.newAt (by simp))
        have hl8 : (xs ++ [(p : Int)]).length = xs.length + 1 := by simp
        have HX9 := Lib.hid ((HX.out.set0 (.int .i64 N)).set1 (.slice A8 (xs.length + 1) c8))
        have HE9 := (HE.out.setFar (p := ⟨gX, 0, none⟩) HD.out (.int .i64 N)).setFar (p := ⟨gX, 1, none⟩) HD.out (.slice A8 (xs.length + 1) c8)
        have HI9 := Lib.hid (HE9.ints HPX.out)
        have HBW := Lib.hid ((HBW.out.setCell (p := ⟨gX, 0, none⟩) HGX.out (.int .i64 N)).setCell (p := ⟨gX, 1, none⟩) HGX.out (.slice A8 (xs.length + 1) c8))
        have HR9 := Lib.hid (show Hav ((z5.setCell ⟨gX, 0, none⟩ (.int .i64 N)).setCell ⟨gX, 1, none⟩ (.slice A8 (xs.length + 1) c8)) N gX A8 c8 (xs ++ [(p : Int)]) by unfold Hav; rw [hl8]; exact ⟨HX9.out, HI9.out⟩)
        clear HE9 hl8
        (refine wpAnyH_ready (rs := [11]) (by kernel_rfl) (by simp) ?_; refine AllReadyH.cons rfl (fun K hK => ?_) AllReadyH.nil; go_simp)
        (refine hK.out _ _ ?_ (fun hHeld2 => ?_); (focus ((try dsimp only); exact ⟨(HBW.out.cell (p := ⟨gA, 0, none⟩) hgA).trans HP0.out, (HBW.out.cell (p := ⟨gB, 1, none⟩) hgB).trans HQ1.out⟩)); (clear hK K); (try simp only [Act.put, List.getElem_toArray, List.getElem_cons_zero, List.getElem_cons_succ, List.setIfInBounds_toArray, List.set_cons_zero, List.set_cons_succ]))
        refine wpAnyH_done (by kernel_rfl) ?_ _
        go_wp2_with fail
        go_meet
        exact ⟨gX, A8, c8, rfl, HR9.out, HN8.out, HBW.out⟩
    · go_simp
      have hsz := HBW.out.size
      have hb := (Below.refl z0.heap.size z0).alloc (Nat.le_refl _) (.cells #[.int .i64 0, .slice none 0 0] 27)
      have HBW := Lib.hid (HBW.out.trans (hb.mono hsz))
      have HGX := Lib.hid hsz
      have HX := Lib.hid (Cells2.new z0 (.int .i64 0) (.slice none 0 0) 27)
      clear hb
      generalize z0.alloc (.cells #[.int .i64 0, .slice none 0 0] 27) = z1 at *
      obtain ⟨gX, hgX⟩ : ∃ g, z0.heap.size = g := ⟨_, rfl⟩
      rw [hgX] at HX HGX ⊢
      clear hgX
      (refine hK.out _ _ ?_ (fun hHeld2 => ?_); (focus ((try dsimp only); exact ⟨(HBW.out.cell (p := ⟨gA, 0, none⟩) hgA).trans HP0.out, (HBW.out.cell (p := ⟨gB, 1, none⟩) hgB).trans HQ1.out⟩)); (clear hK K); (try simp only [Act.put, List.getElem_toArray, List.getElem_cons_zero, List.getElem_cons_succ, List.setIfInBounds_toArray, List.set_cons_zero, List.set_cons_succ]))
      clear hsz
      refine wpAnyH_ready (rs := [2, 7]) (by kernel_rfl) (by simp) ?_
      refine (AllReadyH.cons rfl (fun K hK => ?_) (AllReadyH.cons rfl (fun K hK => ?_) AllReadyH.nil))
      · go_simp
        have hsz := HBW.out.size
        have hb := (Below.refl z1.heap.size z1).alloc (Nat.le_refl _) (.cells #[] 3)
        have HBW := Lib.hid (HBW.out.trans (hb.mono hsz))
        have HD := Lib.hid (fun k (hk : Value.ownBlock (.slice (some ⟨z1.heap.size, 0, none⟩) 0 0) = some k) => show k ≠ gX by (have h1 : z1.heap.size = k := by simpa [Value.ownBlock] using hk); (have h2 := HX.out.2.2.2.2); omega)
        have HX := Lib.hid (HX.out.below hb HX.out.2.2.2.2)
        have HE := Lib.hid (OwnI.empty_at z1 w1.heap.size _ rfl hsz)
        clear hb
        generalize z1.alloc (.cells #[] 3) = z2 at *
        (refine hK.out _ _ ?_ (fun hHeld2 => ?_); (focus ((try dsimp only); exact ⟨(HBW.out.cell (p := ⟨gA, 0, none⟩) hgA).trans HP0.out, (HBW.out.cell (p := ⟨gB, 1, none⟩) hgB).trans HQ1.out⟩)); (clear hK K); (try simp only [Act.put, List.getElem_toArray, List.getElem_cons_zero, List.getElem_cons_succ, List.setIfInBounds_toArray, List.set_cons_zero, List.set_cons_succ]))
        clear hsz
        refine wpAnyH_ready (rs := [5, 7]) (by kernel_rfl) (by simp) ?_
        refine (AllReadyH.cons rfl (fun K hK => ?_) (AllReadyH.cons rfl (fun K hK => ?_) AllReadyH.nil))
        · refine step_append_src0I (by rfl) _ _ (by rfl) w1.heap.size _ (by rfl) HE.out AB cB xs (by rfl) (HIB.out.lift HBW.out) HNB.out (by have := HLX.out; omega) HBW.out.size ?_
          intro v5 z3 hown5 hb5 hat5
          obtain ⟨A5, c5, rfl⟩ := hown5.form
          have hsz := HBW.out.size
          have HBW := Lib.hid (HBW.out.trans (hb5.mono hsz))
          have HD2 := Lib.hid (fun k hk => show k ≠ gX from (hat5 k hk).elim (fun h => HD.out k h) (fun h => by have := HX.out.2.2.2.2; omega))
          have HX := Lib.hid (HX.out.below hb5 HX.out.2.2.2.2)
          have HD := HD2
          have HE := Lib.hid hown5
          clear hown5 hb5 hat5
          (refine hK.out _ _ ?_ (fun hHeld2 => ?_); (focus ((try dsimp only); exact ⟨(HBW.out.cell (p := ⟨gA, 0, none⟩) hgA).trans HP0.out, (HBW.out.cell (p := ⟨gB, 1, none⟩) hgB).trans HQ1.out⟩)); (clear hK K); (try simp only [Act.put, List.getElem_toArray, List.getElem_cons_zero, List.getElem_cons_succ, List.setIfInBounds_toArray, List.set_cons_zero, List.set_cons_succ]))
          clear hsz
          refine wpAnyH_ready (rs := [7]) (by kernel_rfl) (by simp) ?_
          refine AllReadyH.cons rfl (fun K hK => ?_) AllReadyH.nil
          go_simp
          have hsz := HBW.out.size
          have hb := (Below.refl z3.heap.size z3).alloc (Nat.le_refl _) (.cells #[.int .i64 p] 3)
          have HBW := Lib.hid (HBW.out.trans (hb.mono hsz))
          have HE := Lib.hid (HE.out.grown hb)
          have HX := Lib.hid (HX.out.below hb HX.out.2.2.2.2)
          have HP := Lib.hid (Cell1.new z3 (.int .i64 p) 3)
          clear hb
          generalize z3.alloc (.cells #[.int .i64 p] 3) = z4 at *
          (refine hK.out _ _ ?_ (fun hHeld2 => ?_); (focus ((try dsimp only); exact ⟨(HBW.out.cell (p := ⟨gA, 0, none⟩) hgA).trans HP0.out, (HBW.out.cell (p := ⟨gB, 1, none⟩) hgB).trans HQ1.out⟩)); (clear hK K); (try simp only [Act.put, List.getElem_toArray, List.getElem_cons_zero, List.getElem_cons_succ, List.setIfInBounds_toArray, List.set_cons_zero, List.set_cons_succ]))
          clear hsz
          refine wpAnyH_ready (rs := [8]) (by kernel_rfl) (by simp) ?_
          refine (AllReadyH.cons rfl (fun K hK => ?_) AllReadyH.nil)
          have hpi := HP.out.ints HPF.out
          refine step_append_srcI (by rfl) _ _ (by rfl) w1.heap.size _ xs (by rfl) HE.out (some ⟨_, 0, none⟩) 1 [(p : Int)] (by rfl) hpi (by intro h; cases h) (by have := HLX.out; simp; omega) HBW.out.size ?_
          intro v8 z5 hown8 hb8 hgr8 hat8
          obtain ⟨A8, c8, rfl⟩ := hown8.form
          have HBW := Lib.hid (HBW.out.trans hb8)
          have HD2 := Lib.hid (fun k hk => show k ≠ gX from (hat8 k hk).elim (fun h => HD.out k h) (fun h => by have := HX.out.2.2.2.2; omega))
          have HX := Lib.hid (HX.out.grown hgr8 (fun h => HD.out _ h.symm rfl))
          have HD := HD2
          have HE := Lib.hid hown8
          clear hown8 hb8 hgr8 hat8 hpi
          (refine hK.out _ _ ?_ (fun hHeld2 => ?_); (focus ((try dsimp only); exact ⟨(HBW.out.cell (p := ⟨gA, 0, none⟩) hgA).trans HP0.out, (HBW.out.cell (p := ⟨gB, 1, none⟩) hgB).trans HQ1.out⟩)); (clear hK K); (try simp only [Act.put, List.getElem_toArray, List.getElem_cons_zero, List.getElem_cons_succ, List.setIfInBounds_toArray, List.set_cons_zero, List.set_cons_succ]))
          (refine wpAnyH_take (i := 9) (v := ?_) rfl (by kernel_rfl) (by kernel_rfl) (by kernel_rfl) (fun _ _ _ h => h) (Or.inl ⟨by rfl, ?_⟩) (by assumption) ?_; rotate_left; (focus (intro wS hSw; (try dsimp only at hSw); go_simp; (try with_reducible rfl))); (try simp only [Act.put, List.getElem_toArray, List.getElem_cons_zero, List.getElem_cons_succ, List.setIfInBounds_toArray, List.set_cons_zero, List.set_cons_succ]))
          obtain ⟨x0, x1, xf0, xf1, _⟩ := HX.out
          have HN8 := Lib.hid (HE.out.newAt (by simp))
          have hl8 : (xs ++ [(p : Int)]).length = xs.length + 1 := by simp
          have HX9 := Lib.hid ((HX.out.set0 (.int .i64 N)).set1 (.slice A8 (xs.length + 1) c8))
          have HE9 := (HE.out.setFar (p := ⟨gX, 0, none⟩) HD.out (.int .i64 N)).setFar (p := ⟨gX, 1, none⟩) HD.out (.slice A8 (xs.length + 1) c8)
          have HI9 := Lib.hid (HE9.ints HPX.out)
          have HBW := Lib.hid ((HBW.out.setCell (p := ⟨gX, 0, none⟩) HGX.out (.int .i64 N)).setCell (p := ⟨gX, 1, none⟩) HGX.out (.slice A8 (xs.length + 1) c8))
          have HR9 := Lib.hid (show Hav ((z5.setCell ⟨gX, 0, none⟩ (.int .i64 N)).setCell ⟨gX, 1, none⟩ (.slice A8 (xs.length + 1) c8)) N gX A8 c8 (xs ++ [(p : Int)]) by unfold Hav; rw [hl8]; exact ⟨HX9.out, HI9.out⟩)
          clear HE9 hl8
          (refine wpAnyH_ready (rs := [11]) (by kernel_rfl) (by simp) ?_; refine AllReadyH.cons rfl (fun K hK => ?_) AllReadyH.nil; go_simp)
          (refine hK.out _ _ ?_ (fun hHeld2 => ?_); (focus ((try dsimp only); exact ⟨(HBW.out.cell (p := ⟨gA, 0, none⟩) hgA).trans HP0.out, (HBW.out.cell (p := ⟨gB, 1, none⟩) hgB).trans HQ1.out⟩)); (clear hK K); (try simp only [Act.put, List.getElem_toArray, List.getElem_cons_zero, List.getElem_cons_succ, List.setIfInBounds_toArray, List.set_cons_zero, List.set_cons_succ]))
          refine wpAnyH_done (by kernel_rfl) ?_ _
          go_wp2_with fail
          go_meet
          exact ⟨gX, A8, c8, rfl, HR9.out, HN8.out, HBW.out⟩
        · go_simp
          have hsz := HBW.out.size
          have hb := (Below.refl z2.heap.size z2).alloc (Nat.le_refl _) (.cells #[.int .i64 p] 3)
          have HBW := Lib.hid (HBW.out.trans (hb.mono hsz))
          have HE := Lib.hid (HE.out.grown hb)
          have HX := Lib.hid (HX.out.below hb HX.out.2.2.2.2)
          have HP := Lib.hid (Cell1.new z2 (.int .i64 p) 3)
          clear hb
          generalize z2.alloc (.cells #[.int .i64 p] 3) = z3 at *
          (refine hK.out _ _ ?_ (fun hHeld2 => ?_); (focus ((try dsimp only); exact ⟨(HBW.out.cell (p := ⟨gA, 0, none⟩) hgA).trans HP0.out, (HBW.out.cell (p := ⟨gB, 1, none⟩) hgB).trans HQ1.out⟩)); (clear hK K); (try simp only [Act.put, List.getElem_toArray, List.getElem_cons_zero, List.getElem_cons_succ, List.setIfInBounds_toArray, List.set_cons_zero, List.set_cons_succ]))
          clear hsz
          refine wpAnyH_ready (rs := [5]) (by kernel_rfl) (by simp) ?_
          refine (AllReadyH.cons rfl (fun K hK => ?_) AllReadyH.nil)
          refine step_append_src0I (by rfl) _ _ (by rfl) w1.heap.size _ (by rfl) HE.out AB cB xs (by rfl) (HIB.out.lift HBW.out) HNB.out (by have := HLX.out; omega) HBW.out.size ?_
          intro v5 z4 hown5 hb5 hat5
          obtain ⟨A5, c5, rfl⟩ := hown5.form
          have hsz := HBW.out.size
          have HBW := Lib.hid (HBW.out.trans (hb5.mono hsz))
          have HP := Lib.hid (HP.out.lift hb5)
          have HD2 := Lib.hid (fun k hk => show k ≠ gX from (hat5 k hk).elim (fun h => HD.out k h) (fun h => by have := HX.out.2.2.2.2; omega))
          have HX := Lib.hid (HX.out.below hb5 HX.out.2.2.2.2)
          have HD := HD2
          have HE := Lib.hid hown5
          clear hown5 hb5 hat5
          (refine hK.out _ _ ?_ (fun hHeld2 => ?_); (focus ((try dsimp only); exact ⟨(HBW.out.cell (p := ⟨gA, 0, none⟩) hgA).trans HP0.out, (HBW.out.cell (p := ⟨gB, 1, none⟩) hgB).trans HQ1.out⟩)); (clear hK K); (try simp only [Act.put, List.getElem_toArray, List.getElem_cons_zero, List.getElem_cons_succ, List.setIfInBounds_toArray, List.set_cons_zero, List.set_cons_succ]))
          clear hsz
          refine wpAnyH_ready (rs := [8]) (by kernel_rfl) (by simp) ?_
          refine (AllReadyH.cons rfl (fun K hK => ?_) AllReadyH.nil)
          have hpi := HP.out.ints HPF.out
          refine step_append_srcI (by rfl) _ _ (by rfl) w1.heap.size _ xs (by rfl) HE.out (some ⟨_, 0, none⟩) 1 [(p : Int)] (by rfl) hpi (by intro h; cases h) (by have := HLX.out; simp; omega) HBW.out.size ?_
          intro v8 z5 hown8 hb8 hgr8 hat8
          obtain ⟨A8, c8, rfl⟩ := hown8.form
          have HBW := Lib.hid (HBW.out.trans hb8)
          have HD2 := Lib.hid (fun k hk => show k ≠ gX from (hat8 k hk).elim (fun h => HD.out k h) (fun h => by have := HX.out.2.2.2.2; omega))
          have HX := Lib.hid (HX.out.grown hgr8 (fun h => HD.out _ h.symm rfl))
          have HD := HD2
          have HE := Lib.hid hown8
          clear hown8 hb8 hgr8 hat8 hpi
          (refine hK.out _ _ ?_ (fun hHeld2 => ?_); (focus ((try dsimp only); exact ⟨(HBW.out.cell (p := ⟨gA, 0, none⟩) hgA).trans HP0.out, (HBW.out.cell (p := ⟨gB, 1, none⟩) hgB).trans HQ1.out⟩)); (clear hK K); (try simp only [Act.put, List.getElem_toArray, List.getElem_cons_zero, List.getElem_cons_succ, List.setIfInBounds_toArray, List.set_cons_zero, List.set_cons_succ]))
          (refine wpAnyH_take (i := 9) (v := ?_) rfl (by kernel_rfl) (by kernel_rfl) (by kernel_rfl) (fun _ _ _ h => h) (Or.inl ⟨by rfl, ?_⟩) (by assumption) ?_; rotate_left; (focus (intro wS hSw; (try dsimp only at hSw); go_simp; (try with_reducible rfl))); (try simp only [Act.put, List.getElem_toArray, List.getElem_cons_zero, List.getElem_cons_succ, List.setIfInBounds_toArray, List.set_cons_zero, List.set_cons_succ]))
          obtain ⟨x0, x1, xf0, xf1, _⟩ := HX.out
          have HN8 := Lib.hid (HE.out.newAt (by simp))
          have hl8 : (xs ++ [(p : Int)]).length = xs.length + 1 := by simp
          have HX9 := Lib.hid ((HX.out.set0 (.int .i64 N)).set1 (.slice A8 (xs.length + 1) c8))
          have HE9 := (HE.out.setFar (p := ⟨gX, 0, none⟩) HD.out (.int .i64 N)).setFar (p := ⟨gX, 1, none⟩) HD.out (.slice A8 (xs.length + 1) c8)
          have HI9 := Lib.hid (HE9.ints HPX.out)
          have HBW := Lib.hid ((HBW.out.setCell (p := ⟨gX, 0, none⟩) HGX.out (.int .i64 N)).setCell (p := ⟨gX, 1, none⟩) HGX.out (.slice A8 (xs.length + 1) c8))
          have HR9 := Lib.hid (show Hav ((z5.setCell ⟨gX, 0, none⟩ (.int .i64 N)).setCell ⟨gX, 1, none⟩ (.slice A8 (xs.length + 1) c8)) N gX A8 c8 (xs ++ [(p : Int)]) by unfold Hav; rw [hl8]; exact ⟨HX9.out, HI9.out⟩)
          clear HE9 hl8
          (refine wpAnyH_ready (rs := [11]) (by kernel_rfl) (by simp) ?_; refine AllReadyH.cons rfl (fun K hK => ?_) AllReadyH.nil; go_simp)
          (refine hK.out _ _ ?_ (fun hHeld2 => ?_); (focus ((try dsimp only); exact ⟨(HBW.out.cell (p := ⟨gA, 0, none⟩) hgA).trans HP0.out, (HBW.out.cell (p := ⟨gB, 1, none⟩) hgB).trans HQ1.out⟩)); (clear hK K); (try simp only [Act.put, List.getElem_toArray, List.getElem_cons_zero, List.getElem_cons_succ, List.setIfInBounds_toArray, List.set_cons_zero, List.set_cons_succ]))
          refine wpAnyH_done (by kernel_rfl) ?_ _
          go_wp2_with fail
          go_meet
          exact ⟨gX, A8, c8, rfl, HR9.out, HN8.out, HBW.out⟩
      · go_simp
        have hsz := HBW.out.size
        have hb := (Below.refl z1.heap.size z1).alloc (Nat.le_refl _) (.cells #[.int .i64 p] 3)
        have HBW := Lib.hid (HBW.out.trans (hb.mono hsz))
        have HX := Lib.hid (HX.out.below hb HX.out.2.2.2.2)
        have HP := Lib.hid (Cell1.new z1 (.int .i64 p) 3)
        clear hb
        generalize z1.alloc (.cells #[.int .i64 p] 3) = z2 at *
        (refine hK.out _ _ ?_ (fun hHeld2 => ?_); (focus ((try dsimp only); exact ⟨(HBW.out.cell (p := ⟨gA, 0, none⟩) hgA).trans HP0.out, (HBW.out.cell (p := ⟨gB, 1, none⟩) hgB).trans HQ1.out⟩)); (clear hK K); (try simp only [Act.put, List.getElem_toArray, List.getElem_cons_zero, List.getElem_cons_succ, List.setIfInBounds_toArray, List.set_cons_zero, List.set_cons_succ]))
        clear hsz
        refine wpAnyH_ready (rs := [2]) (by kernel_rfl) (by simp) ?_
        refine AllReadyH.cons rfl (fun K hK => ?_) AllReadyH.nil
        go_simp
        have hsz := HBW.out.size
        have hb := (Below.refl z2.heap.size z2).alloc (Nat.le_refl _) (.cells #[] 3)
        have HBW := Lib.hid (HBW.out.trans (hb.mono hsz))
        have HD := Lib.hid (fun k (hk : Value.ownBlock (.slice (some ⟨z2.heap.size, 0, none⟩) 0 0) = some k) => show k ≠ gX by (have h1 : z2.heap.size = k := by simpa [Value.ownBlock] using hk); (have h2 := HX.out.2.2.2.2); omega)
        have HP := Lib.hid (HP.out.lift hb)
        have HX := Lib.hid (HX.out.below hb HX.out.2.2.2.2)
        have HE := Lib.hid (OwnI.empty_at z2 w1.heap.size _ rfl hsz)
        clear hb
        generalize z2.alloc (.cells #[] 3) = z3 at *
        (refine hK.out _ _ ?_ (fun hHeld2 => ?_); (focus ((try dsimp only); exact ⟨(HBW.out.cell (p := ⟨gA, 0, none⟩) hgA).trans HP0.out, (HBW.out.cell (p := ⟨gB, 1, none⟩) hgB).trans HQ1.out⟩)); (clear hK K); (try simp only [Act.put, List.getElem_toArray, List.getElem_cons_zero, List.getElem_cons_succ, List.setIfInBounds_toArray, List.set_cons_zero, List.set_cons_succ]))
        clear hsz
        refine wpAnyH_ready (rs := [5]) (by kernel_rfl) (by simp) ?_
        refine (AllReadyH.cons rfl (fun K hK => ?_) AllReadyH.nil)
        refine step_append_src0I (by rfl) _ _ (by rfl) w1.heap.size _ (by rfl) HE.out AB cB xs (by rfl) (HIB.out.lift HBW.out) HNB.out (by have := HLX.out; omega) HBW.out.size ?_
        intro v5 z4 hown5 hb5 hat5
        obtain ⟨A5, c5, rfl⟩ := hown5.form
        have hsz := HBW.out.size
        have HBW := Lib.hid (HBW.out.trans (hb5.mono hsz))
        have HP := Lib.hid (HP.out.lift hb5)
        have HD2 := Lib.hid (fun k hk => show k ≠ gX from (hat5 k hk).elim (fun h => HD.out k h) (fun h => by have := HX.out.2.2.2.2; omega))
        have HX := Lib.hid (HX.out.below hb5 HX.out.2.2.2.2)
        have HD := HD2
        have HE := Lib.hid hown5
        clear hown5 hb5 hat5
        (refine hK.out _ _ ?_ (fun hHeld2 => ?_); (focus ((try dsimp only); exact ⟨(HBW.out.cell (p := ⟨gA, 0, none⟩) hgA).trans HP0.out, (HBW.out.cell (p := ⟨gB, 1, none⟩) hgB).trans HQ1.out⟩)); (clear hK K); (try simp only [Act.put, List.getElem_toArray, List.getElem_cons_zero, List.getElem_cons_succ, List.setIfInBounds_toArray, List.set_cons_zero, List.set_cons_succ]))
        clear hsz
        refine wpAnyH_ready (rs := [8]) (by kernel_rfl) (by simp) ?_
        refine (AllReadyH.cons rfl (fun K hK => ?_) AllReadyH.nil)
        have hpi := HP.out.ints HPF.out
        refine step_append_srcI (by rfl) _ _ (by rfl) w1.heap.size _ xs (by rfl) HE.out (some ⟨_, 0, none⟩) 1 [(p : Int)] (by rfl) hpi (by intro h; cases h) (by have := HLX.out; simp; omega) HBW.out.size ?_
        intro v8 z5 hown8 hb8 hgr8 hat8
        obtain ⟨A8, c8, rfl⟩ := hown8.form
        have HBW := Lib.hid (HBW.out.trans hb8)
        have HD2 := Lib.hid (fun k hk => show k ≠ gX from (hat8 k hk).elim (fun h => HD.out k h) (fun h => by have := HX.out.2.2.2.2; omega))
        have HX := Lib.hid (HX.out.grown hgr8 (fun h => HD.out _ h.symm rfl))
        have HD := HD2
        have HE := Lib.hid hown8
        clear hown8 hb8 hgr8 hat8 hpi
        (refine hK.out _ _ ?_ (fun hHeld2 => ?_); (focus ((try dsimp only); exact ⟨(HBW.out.cell (p := ⟨gA, 0, none⟩) hgA).trans HP0.out, (HBW.out.cell (p := ⟨gB, 1, none⟩) hgB).trans HQ1.out⟩)); (clear hK K); (try simp only [Act.put, List.getElem_toArray, List.getElem_cons_zero, List.getElem_cons_succ, List.setIfInBounds_toArray, List.set_cons_zero, List.set_cons_succ]))
        (refine wpAnyH_take (i := 9) (v := ?_) rfl (by kernel_rfl) (by kernel_rfl) (by kernel_rfl) (fun _ _ _ h => h) (Or.inl ⟨by rfl, ?_⟩) (by assumption) ?_; rotate_left; (focus (intro wS hSw; (try dsimp only at hSw); go_simp; (try with_reducible rfl))); (try simp only [Act.put, List.getElem_toArray, List.getElem_cons_zero, List.getElem_cons_succ, List.setIfInBounds_toArray, List.set_cons_zero, List.set_cons_succ]))
        obtain ⟨x0, x1, xf0, xf1, _⟩ := HX.out
        have HN8 := Lib.hid (HE.out.newAt (by simp))
        have hl8 : (xs ++ [(p : Int)]).length = xs.length + 1 := by simp
        have HX9 := Lib.hid ((HX.out.set0 (.int .i64 N)).set1 (.slice A8 (xs.length + 1) c8))
        have HE9 := (HE.out.setFar (p := ⟨gX, 0, none⟩) HD.out (.int .i64 N)).setFar (p := ⟨gX, 1, none⟩) HD.out (.slice A8 (xs.length + 1) c8)
        have HI9 := Lib.hid (HE9.ints HPX.out)
        have HBW := Lib.hid ((HBW.out.setCell (p := ⟨gX, 0, none⟩) HGX.out (.int .i64 N)).setCell (p := ⟨gX, 1, none⟩) HGX.out (.slice A8 (xs.length + 1) c8))
        have HR9 := Lib.hid (show Hav ((z5.setCell ⟨gX, 0, none⟩ (.int .i64 N)).setCell ⟨gX, 1, none⟩ (.slice A8 (xs.length + 1) c8)) N gX A8 c8 (xs ++ [(p : Int)]) by unfold Hav; rw [hl8]; exact ⟨HX9.out, HI9.out⟩)
        clear HE9 hl8
        (refine wpAnyH_ready (rs := [11]) (by kernel_rfl) (by simp) ?_; refine AllReadyH.cons rfl (fun K hK => ?_) AllReadyH.nil; go_simp)
        (refine hK.out _ _ ?_ (fun hHeld2 => ?_); (focus ((try dsimp only); exact ⟨(HBW.out.cell (p := ⟨gA, 0, none⟩) hgA).trans HP0.out, (HBW.out.cell (p := ⟨gB, 1, none⟩) hgB).trans HQ1.out⟩)); (clear hK K); (try simp only [Act.put, List.getElem_toArray, List.getElem_cons_zero, List.getElem_cons_succ, List.setIfInBounds_toArray, List.set_cons_zero, List.set_cons_succ]))
        refine wpAnyH_done (by kernel_rfl) ?_ _
        go_wp2_with fail
        go_meet
        exact ⟨gX, A8, c8, rfl, HR9.out, HN8.out, HBW.out⟩
  case rest =>
    obtain ⟨gX, A8, c8, rfl, hvx8, ⟨k8, hk8, hk8l⟩, hb⟩ := hcut
    have HK8 := Lib.hid (show A8 = some ⟨k8, 0, none⟩ ∧ w.heap.size ≤ k8 from ⟨hk8, Nat.le_trans HBW.out.size hk8l⟩)
    clear hk8 hk8l
    obtain ⟨w2, rfl⟩ : ∃ x : World, x = wc := ⟨_, rfl⟩
    have HVP := Lib.hid hvx8
    have HVA := Lib.hid (HVA.out.lift hb)
    have HVX := Lib.hid (HVX.out.lift hb)
    have HBW := Lib.hid (HBW.out.trans (hb.mono HBW.out.size))
    have HBN := Lib.hid (HBN.out HPL.out)
    have HRX := Lib.hid (HRX.out HPL.out)
    have HIY := Lib.hid (fun AB' cB' AO' V h0 h1 h2 h3 h4 h5 h6 => HIH.out m (by omega) (b ++ [p]) AB' cB' AO' V h0 h1 h2 h3 h4 h5 h6)
    rw [HSN.out] at HIY
    have HIZ := Lib.hid (fun AB' cB' AO' V h0 h1 h2 h3 h4 h5 h6 => HIH.out m (by omega) b AB' cB' AO' V h0 h1 h2 h3 h4 h5 h6)
    rw [HXS.out] at HIZ
    have HGN := Lib.hid (HGN.out m HNC.out)
    have HGY := Lib.hid (HGY.out m HNC.out)
    obtain ⟨X, hX⟩ : ∃ X, xs ++ [(p : Int)] = X := ⟨_, rfl⟩
    rw [hX] at HSN HRX HDB HBN HVP HIY
    clear hvx8 hb hX p0 p1 q0 q1 hgA hgB HIH HPX
    obtain ⟨⟨p0, p1, _, _, _⟩, _⟩ := HVA.out
    obtain ⟨⟨q0, q1, _, _, _⟩, _⟩ := HVX.out
    obtain ⟨⟨x0, x1, _, _, _⟩, _⟩ := HVP.out
    have hpz : ((p : Int) == 0) = false := beq_eq_false_iff_ne.2 (by omega)
    have hwp : IntKind.i64.wrap ((p : Int) + 1) = ((p + 1 : Nat) : Int) := by rw [i64w (by omega)]; omega
    have HWP := Lib.hid hwp
    cases hd : djB N bs b p
    · have HG := Lib.hid (HGN.out hd)
      rw [HDB.out, hd] at HBN
      clear hd
      go_wp2_with fail
      refine (HBN.out w2 HVA.out.2 A8 c8 HVP.out.2).mono ?_
      rintro e w3 ⟨rfl, hb⟩
      have HVA := Lib.hid (HVA.out.lift hb)
      have HVX := Lib.hid (HVX.out.lift hb)
      have HBW := Lib.hid (HBW.out.trans (hb.mono HBW.out.size))
      clear hb p0 p1 q0 q1 x0 x1
      obtain ⟨⟨p0, p1, _, _, _⟩, _⟩ := HVA.out
      obtain ⟨⟨q0, q1, _, _, _⟩, _⟩ := HVX.out
      go_wp2_with fail
      refine (HIZ.out AB cB AO w3 HPM.out hb1 (fun q hq => by have := HBP.out q hq; omega) HRB.out HDJ.out HVA.out.2 HVX.out.2).mono ?_
      rintro e w4 ⟨h1, hb⟩
      have hs3 := HBW.out.size
      have HB4 := Lib.hid (HBW.out.trans (hb.mono HBW.out.size))
      clear p0 p1 q0 q1 hb
      cases he : gS N bs m b (p + 1) with
      | none =>
        rw [he] at h1
        obtain rfl : e = .returned (.slice AO 0 0) := h1
        have HGV := Lib.hid (HG.out.trans he)
        clear he
        go_wp2_with fail
        go_ret
        rw [HGV.out]
        exact ⟨rfl, HB4.out⟩
      | some y =>
        rw [he] at h1
        have h1' : ∃ g c A' c', e = .returned (.slice (some ⟨g, 0, none⟩) 1 c) ∧ HavR w4 N g 0 A' c' (y.map Int.ofNat) ∧ (A' = _ ∨ ∃ k o, A' = some ⟨k, o, none⟩ ∧ _ ≤ k) := h1
        obtain ⟨g5, c5, A5, c5', rfl, hr, hat⟩ := h1'
        have HR := Lib.hid hr
        have HAT := Lib.hid (show A5 = AB ∨ ∃ k o, A5 = some ⟨k, o, none⟩ ∧ w.heap.size ≤ k from hat.imp id (fun ⟨k, o, h2, h3⟩ => ⟨k, o, h2, by omega⟩))
        clear hat
        have HGV := Lib.hid (HG.out.trans he)
        clear he hr h1 hs3
        go_wp2_with fail
        go_ret
        rw [HGV.out]
        exact ⟨⟨g5, c5, A5, c5', rfl, HR.out, HAT.out⟩, HB4.out⟩
    · have HG := Lib.hid (HGY.out hd)
      have HDJ2 := Lib.hid (HDS.out hd)
      rw [HDB.out, hd] at HBN
      clear hd
      go_wp2_with fail
      refine (HBN.out w2 HVA.out.2 A8 c8 HVP.out.2).mono ?_
      rintro e w3 ⟨rfl, hb⟩
      have HVA := Lib.hid (HVA.out.lift hb)
      have HVX := Lib.hid (HVX.out.lift hb)
      have HVP := Lib.hid (HVP.out.lift hb)
      have HBW := Lib.hid (HBW.out.trans (hb.mono HBW.out.size))
      clear hb p0 p1 q0 q1 x0 x1
      obtain ⟨⟨p0, p1, _, _, _⟩, _⟩ := HVA.out
      obtain ⟨⟨q0, q1, _, _, _⟩, _⟩ := HVX.out
      obtain ⟨⟨x0, x1, _, _, _⟩, _⟩ := HVP.out
      go_wp2_with fail
      have hs3 := HBW.out.size
      refine (HIY.out A8 c8 AO w3 HPM.out (by simp) (fun q hq => by
        rw [List.mem_append, List.mem_singleton] at hq
        rcases hq with hq | rfl
        · have := HBP.out q hq; omega
        · omega) HRX.out HDJ2.out HVA.out.2 HVP.out.2).mono ?_
      rintro e w4 ⟨h1, hb⟩
      have HVA := Lib.hid (HVA.out.lift hb)
      have HVX := Lib.hid (HVX.out.lift hb)
      have HBW := Lib.hid (HBW.out.trans (hb.mono HBW.out.size))
      clear p0 p1 q0 q1 x0 x1 hb
      obtain ⟨⟨p0, p1, _, _, _⟩, _⟩ := HVA.out
      obtain ⟨⟨q0, q1, _, _, _⟩, _⟩ := HVX.out
      cases he : gS N bs m (b ++ [p]) (p + 1) with
      | none =>
        rw [he] at h1
        obtain rfl : e = .returned (.slice AO 0 0) := h1
        have hg := HG.out
        rw [he] at hg
        have HG2 := Lib.hid (show gS N bs (m + 1) b p = gS N bs m b (p + 1) from hg)
        clear he hg
        go_wp2_with fail
        have hs3 := HBW.out.size
        refine (HIZ.out AB cB AO w4 HPM.out hb1 (fun q hq => by have := HBP.out q hq; omega) HRB.out HDJ.out HVA.out.2 HVX.out.2).mono ?_
        rintro e w5 ⟨h1, hb⟩
        have HB4 := Lib.hid (HBW.out.trans (hb.mono HBW.out.size))
        clear p0 p1 q0 q1 hb
        cases he : gS N bs m b (p + 1) with
        | none =>
          rw [he] at h1
          obtain rfl : e = .returned (.slice AO 0 0) := h1
          have HGV := Lib.hid (HG2.out.trans he)
          clear he
          go_wp2_with fail
          go_ret
          rw [HGV.out]
          exact ⟨rfl, HB4.out⟩
        | some y =>
          rw [he] at h1
          have h1' : ∃ g c A' c', e = .returned (.slice (some ⟨g, 0, none⟩) 1 c) ∧ HavR w5 N g 0 A' c' (y.map Int.ofNat) ∧ (A' = _ ∨ ∃ k o, A' = some ⟨k, o, none⟩ ∧ _ ≤ k) := h1
          obtain ⟨g5, c5, A5, c5', rfl, hr, hat⟩ := h1'
          have HR := Lib.hid hr
          have HAT := Lib.hid (show A5 = AB ∨ ∃ k o, A5 = some ⟨k, o, none⟩ ∧ w.heap.size ≤ k from hat.imp id (fun ⟨k, o, h2, h3⟩ => ⟨k, o, h2, by omega⟩))
          clear hat
          have HGV := Lib.hid (HG2.out.trans he)
          clear he hr h1
          go_wp2_with fail
          go_ret
          rw [HGV.out]
          exact ⟨⟨g5, c5, A5, c5', rfl, HR.out, HAT.out⟩, HB4.out⟩
      | some y =>
        rw [he] at h1
        have h1' : ∃ g c A' c', e = .returned (.slice (some ⟨g, 0, none⟩) 1 c) ∧ HavR w4 N g 0 A' c' (y.map Int.ofNat) ∧ (A' = _ ∨ ∃ k o, A' = some ⟨k, o, none⟩ ∧ _ ≤ k) := h1
        obtain ⟨g5, c5, A5, c5', rfl, hr, hat⟩ := h1'
        have HR := Lib.hid hr
        have HAT := Lib.hid (show A5 = AB ∨ ∃ k o, A5 = some ⟨k, o, none⟩ ∧ w.heap.size ≤ k from .inr (hat.elim (fun h => ⟨k8, 0, h.trans HK8.out.1, HK8.out.2⟩) (fun ⟨k, o, h2, h3⟩ => ⟨k, o, h2, by omega⟩)))
        clear hat hs3
        have hg := HG.out
        rw [he] at hg
        have HG2 := Lib.hid (show gS N bs (m + 1) b p = some y from hg)
        have HGV := Lib.hid HG2.out
        clear he hr h1 hg
        go_wp2_with fail
        refine (spec_l09Find_full N N AC AB cC cB bs xs (some ⟨g5, 0, none⟩) c5 ((p + 1 : Nat) : Int) w4).mono ?_
        rintro e w5 ⟨rfl, hb⟩
        have HR5 := Lib.hid (HR.out.lift hb)
        have HB4 := Lib.hid (HBW.out.trans (hb.mono HBW.out.size))
        clear p0 p1 q0 q1 hb
        go_wp2_with fail
        go_ret
        rw [HGV.out]
        exact ⟨⟨g5, c5, A5, c5', rfl, HR5.out, HAT.out⟩, HB4.out⟩

end Go.Proofs.YtjoeglekcnaebaaGreatDoor
