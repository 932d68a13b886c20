/-
  The forms of a rhythm and the size of its orbit, by the program.
-/
import Derived.Test.YtjoeglekcnaebaaGreatDoorLst
import Derived.Test.YtjoeglekcnaebaaGreatDoorRhs
namespace Go.Proofs.YtjoeglekcnaebaaGreatDoor
open Go.RowKit
set_option linter.unusedVariables false
set_option linter.unusedSimpArgs false

/-- v is a slice of rhythms of the call's own that holds the list. -/
def OwnQ (w : World) (base : Nat) (v : Value) (rs : List RV) : Prop :=
  w.ownsRow base 27 2 v rs.length (cellsR rs) ∧ (∀ r ∈ rs, r.Lies w base) ∧ ∀ g, v.ownBlock = some g → ∀ r ∈ rs, g ≠ r.b
section
variable {w w' : World} {base : Nat} {v : Value} {rs : List RV}
theorem OwnQ.nil (w : World) (base : Nat) : OwnQ w base (.slice none 0 0) [] := ⟨World.ownsRow_nil _ _ _ _, by simp, by simp⟩
theorem OwnQ.form (h : OwnQ w base v rs) : ∃ A cap, v = .slice A rs.length cap := by
  rcases h.1.2 with ⟨rfl, h0⟩ | ⟨g, cap, cur, rfl, _⟩
  · exact ⟨none, 0, by rw [h0]⟩
  · exact ⟨some ⟨g, 0, none⟩, cap, rfl⟩
theorem OwnQ.lift (h : OwnQ w base v rs) (hb : Below w.heap.size w w') : OwnQ w' base v rs := by
  refine ⟨⟨h.1.1, ?_⟩, fun r hr => (h.2.1 r hr).lift hb, h.2.2⟩
  rcases h.1.2 with h0 | ⟨g, cap, cur, e, hg, hh, rest⟩
  · exact .inl h0
  · have hlt : g < w.heap.size := (Array.getElem?_eq_some_iff.1 hh).1
    exact .inr ⟨g, cap, cur, e, hg, by rw [hb.block g hlt]; exact hh, rest⟩
theorem OwnQ.drew (h : OwnQ w base v rs) : OwnQ w.drew base v rs := h
theorem OwnQ.lt (h : OwnQ w base v rs) : ∀ g, v.ownBlock = some g → base ≤ g ∧ g < w.heap.size := h.1.lt
theorem OwnQ.rd {A : Option Addr} {cap : Nat} (h : OwnQ w base (.slice A rs.length cap) rs) (hl : rs.length ≤ 1048576) (hf : ∀ r ∈ rs, ∀ x ∈ r.xs, Fits x) : RdR w w.heap.size A rs := by
  refine ⟨hl, fun r hr => (h.2.1 r hr).ints (hf r hr), fun hn => ?_⟩
  rcases h.1.2 with ⟨hv, h0⟩ | ⟨g, cap', cur, hv, hge, hh, hnc, hm, hsz, hxs⟩
  · omega
  · have hA : A = some ⟨g, 0, none⟩ := by injection hv
    subst hA
    refine ⟨g, rfl, (h.1.lt g rfl).2, fun i hi => ?_⟩
    have h0 := World.ownsRow.cells h.1 (g := g) rfl (i * 2) _ (cellsR_get rs i hi).1
    have h1 := World.ownsRow.cells h.1 (g := g) rfl (i * 2 + 1) _ (cellsR_get rs i hi).2
    rw [Go.WideShapes.add_plain, Nat.zero_add] at h0 h1
    exact ⟨h0, h1⟩
end

/-- 'append(s, r1, r2)' at a step of a region that draws its order. -/
theorem step_append_rh2 {w : World} {ops : Array Oper} {o : Oper} {a : Act} {K : Act → World → Prop} {Q : Exit → Act → World → Prop} {E : Prop} (hgd : o.guard = none) (s x : Operand)
    (ho : o.op = .call { callee := .builtin .append, args := #[s, x], argTypes := #[53, 53] })
    (base : Nat) (v : Value) (rs : List RV) (hs : a.eval s = v) (hown : OwnQ w base v rs) (g : Nat) (r1 r2 : RV) (hx : a.eval x = .slice (some ⟨g, 0, none⟩) 2 2)
    (hc : w.cell? ⟨g, 0, none⟩ = some (.int .i64 r1.n) ∧ w.cell? ⟨g, 1, none⟩ = some r1.slc ∧ w.cell? ⟨g, 2, none⟩ = some (.int .i64 r2.n) ∧ w.cell? ⟨g, 3, none⟩ = some r2.slc)
    (hr1 : r1.Lies w base) (hr2 : r2.Lies w base) (hne1 : ∀ g, v.ownBlock = some g → g ≠ r1.b) (hne2 : ∀ g, v.ownBlock = some g → g ≠ r2.b)
    (hlen : rs.length ≤ 1048576) (hbase : base ≤ w.heap.size)
    (h : ∀ v' w', OwnQ w' base v' (rs ++ [r1, r2]) → Below base w w' → K (a.put o.dst v') w') : if Region.wanted o (yielded ops a.tmps) = true then Oper.wp Tryz.prog o a w K Q else E := by
  obtain ⟨i, hi, hz, hsz, hby⟩ := info_parts Tryz.infoRhythm
  refine step_append_lies w hgd s x _ ho base 27 i _ 2 32 Tryz.underlying53 hi hz hsz hby rfl (by omega) v rs.length _ hs hown.1 ⟨g, 0, none⟩ 2 2 (r1.cells ++ r2.cells) hx rfl ?_ ?_ (by omega) (by unfold maxLen; omega) (by omega) hbase _ rfl ?_
  · intro j u hj
    match j, hj with
    | 0, hj => simp [RV.cells] at hj; subst hj; exact hc.1
    | 1, hj => simp [RV.cells] at hj; subst hj; exact hc.2.1
    | 2, hj => simp [RV.cells] at hj; subst hj; exact hc.2.2.1
    | 3, hj => simp [RV.cells] at hj; subst hj; exact hc.2.2.2
  · intro u hu
    simp [RV.cells] at hu
    rcases hu with rfl | rfl | rfl | rfl <;> rfl
  · intro g' cap w' hown' hgrow hat hlt'
    have hsame : ∀ r' ∈ rs ++ [r1, r2], r'.Lies w' base ∧ g' ≠ r'.b := by
      intro r' hr'
      have hl : r'.Lies w base ∧ ∀ g, v.ownBlock = some g → g ≠ r'.b := by
        rcases List.mem_append.1 hr' with h1 | h1
        · exact ⟨hown.2.1 r' h1, fun g hg => hown.2.2 g hg r' h1⟩
        · rw [List.mem_cons, List.mem_singleton] at h1
          rcases h1 with rfl | rfl
          · exact ⟨hr1, hne1⟩
          · exact ⟨hr2, hne2⟩
      have hblk : w'.heap[r'.b]? = w.heap[r'.b]? := hgrow.block _ hl.1.2.2.1 (fun e => hl.2 _ e.symm rfl)
      refine ⟨⟨hl.1.1, hl.1.2.1, Nat.lt_of_lt_of_le hl.1.2.2.1 hgrow.size, fun hn => ⟨(hl.1.2.2.2 hn).1, ?_⟩⟩, ?_⟩
      · have ht := (hl.1.2.2.2 hn).2
        exact ⟨Nat.lt_of_lt_of_le ht.1 hgrow.size, fun t h => ⟨(World.cell?_of_block (a := ⟨r'.b, t, none⟩) hblk).trans (ht.2 t h).1, (World.frozen?_of_block (a := ⟨r'.b, t, none⟩) hblk).trans (ht.2 t h).2⟩⟩
      · rcases hat with h1 | h1
        · exact hl.2 g' h1
        · have := hl.1.2.2.1; omega
    refine h _ w' ⟨?_, fun r' hr' => (hsame r' hr').1, ?_⟩ ((Below.refl base w).grown hgrow hbase (fun k hk => (hown.1.lt k hk).1))
    · rw [cellsR_app, List.length_append]; exact hown'
    · intro g2 hg2 r' hr'
      have : g' = g2 := by simpa [Value.ownBlock] using hg2
      subst this
      exact (hsame r' hr').2

def frmK (N : Nat) (L : List (List Int)) : List (Int × List Int) := L.map fun x => ((N : Int), x)

set_option maxRecDepth 100000 in
set_option maxHeartbeats 4000000 in
theorem impl_formsOf_any (N : Nat) (A : Option Addr) (cap : Nat) (bs : List Int) (w : World) (hA : Ints w w.heap.size A bs) (hok : RhOk N bs) :
    Calls Tryz.prog 49 #[.agg #[.int .i64 N, .slice A bs.length cap]] w fun e w' => ∃ A' c rs, e = .returned (.slice A' rs.length c) ∧ keyR rs = frmK N (formL N bs N) ∧ RdR w' w'.heap.size A' rs ∧ Below w.heap.size w w' := by
  have hn1 : 1 ≤ N := by have := hok.1; omega
  have hn2 : N ≤ 24 := by have := hok.2.1; omega
  have hfN : Fits (N : Int) := by unfold Fits; omega
  have hmo : RhOk N (mirV N bs) := affL_ok hn1 hn2
  have hr : rhB N bs = true := rhB_iff.2 hok
  have HRO := Lib.hid (fun V h => hr ▸ impl_RhythmOk_any N A cap bs V hfN h)
  have HRT := Lib.hid (fun (k : Nat) (hk : k ≤ 1000) V h => impl_rotated_any N A cap bs k V h hok hk)
  have HMR := Lib.hid (fun V h => impl_mirrored_any N A cap bs V h hok)
  have HMT := Lib.hid (fun (k : Nat) (hk : k ≤ 1000) B c V h => impl_rotated_any N B c (mirV N bs) k V h hmo hk)
  have HFS := Lib.hid (fun m => show formL N bs (m + 1) = formL N bs m ++ [rotL N bs (m : Nat), rotL N (mirV N bs) (m : Nat)] from rfl)
  have HFL := Lib.hid (fun m => formL_len N bs m)
  have HFO := Lib.hid (fun m => formL_ok hok m)
  have HRK := Lib.hid (fun (k : Nat) => (rotL_ok hok (k : Int)).1)
  have HMK := Lib.hid (fun (k : Nat) => (rotL_ok hmo (k : Int)).1)
  have HMO := Lib.hid hmo
  have HA := Lib.hid hA
  have HBW := Lib.hid ((Below.refl (w.heap.size + 1) (w.alloc (.cells #[.int .i64 N, .slice A (bs).length cap] 27))))
  have HB0 := Lib.hid ((Below.refl w.heap.size w).alloc (Nat.le_refl _) (.cells #[.int .i64 N, .slice A (bs).length cap] 27))
  have HVA := Lib.hid (Hav.boxed hA N cap)
  clear hA hok hmo hr
  obtain ⟨⟨p0, p1, _, _, _⟩, _⟩ := HVA.out
  go_enter Tryz.func49, Tryz.ntmps49
  go_wp2_with fail
  generalize w.alloc (.cells #[.int .i64 N, .slice A (bs).length cap] 27) = W at *
  have HV0 := HVA
  refine (HRO.out _ HVA.out.2).mono ?_
  rintro e w1 ⟨rfl, hb⟩
  have hqw : w.heap.size + 1 ≤ W.heap.size := HVA.out.1.2.2.2.2
  have HBW := Lib.hid (HBW.out.trans (hb.mono hqw))
  have HVA := Lib.hid (HVA.out.lift hb)
  clear hb p0 p1
  obtain ⟨⟨p0, p1, _, _, _⟩, _⟩ := HVA.out
  go_wp2_with fail
  clear p0 p1
  go_loopw [3, 10] (fun so i wr => ∃ (j : Nat) (rs : List RV), j ≤ N ∧ i = .int .i64 j ∧ OwnQ wr (w.heap.size + 1) so rs ∧ keyR rs = frmK N (formL N bs j) ∧ Below (w.heap.size + 1) W wr) (fun _ i _ => N - (intOf i).toNat)
  case atStart => exact ⟨0, [], Nat.zero_le _, rfl, OwnQ.nil _ _, rfl, HBW.out⟩
  case round =>
    obtain ⟨j, rs, hj, rfl, hown, hkey, hbel⟩ := hrel
    obtain ⟨wo, rfl⟩ : ∃ wo : World, wo = wr := ⟨_, rfl⟩
    obtain ⟨So, cso, rfl⟩ := hown.form
    have HKY := Lib.hid hkey
    have hrl : rs.length = 2 * j := by
      have := congrArg List.length hkey
      rw [keyR_len, frmK, List.length_map, HFL.out] at this
      exact this
    have hrl2 : rs.length ≤ 48 := by omega
    clear hrl
    clear HBW HVA
    have HVA := Lib.hid (show Hav wo N w.heap.size A cap bs from ⟨HV0.out.1.below hbel (Nat.lt_succ_self _), ((HA.out.below HB0.out).below (hbel.mono (Nat.le_succ _))).mono (by have := hbel.size; omega)⟩)
    have HBW := Lib.hid hbel
    have HLA := Lib.hid hown
    have hlto := Lib.hid (fun g hg => (hown.lt g hg).2)
    have hwz : W.heap.size ≤ wo.heap.size := hbel.size
    clear hown hkey hbel
    obtain ⟨⟨p0, p1, _, _, _⟩, _⟩ := HVA.out
    by_cases hlt : j < N
    · have hji : (j : Int) < (N : Int) := by omega
      have HSU := Lib.hid (HFS.out j)
      have HRJ := Lib.hid (HRT.out j (by omega))
      have HMJ := Lib.hid (HMT.out j (by omega))
      have HYO := Lib.hid (HRK.out j)
      have HZO := Lib.hid (HMK.out j)
      generalize rotL N bs ((j : Nat) : Int) = Y at *
      generalize rotL N (mirV N bs) ((j : Nat) : Int) = Z at *
      generalize mirV N bs = M at *
      go_wp2_with fail
      have HBO := HBW
      clear HBW
      have HBW := Lib.hid (Below.refl wo.heap.size wo)
      have HBW := Lib.hid (Below.drewH_ HBW.out)
      try have HRB := Lib.hid (Below.drewH_ HRB.out)
      try have HWW := Lib.hid (Below.drewH_ HWW.out)
      try have HVA := Lib.hid HVA.out.drew
      try have HVB := Lib.hid HVB.out.drew
      try have HVC := Lib.hid HVC.out.drew
      try have HVT := Lib.hid HVT.out.drew
      try have HVX := Lib.hid HVX.out.drew
      try have HVM := Lib.hid HVM.out.drew
      try have HVF := Lib.hid HVF.out.drew
      try have HVP := Lib.hid HVP.out.drew
      try have HVQ := Lib.hid HVQ.out.drew
      try have HLA := Lib.hid HLA.out.drewR_
      try have HLW := Lib.hid HLW.out.drewR_
      have HLA := Lib.hid (HLA.out.drew)
      (refine wp_region_held_drew (S := (fun w' => w'.cell? ⟨w.heap.size, 0, none⟩ = some (.int .i64 N) ∧ w'.cell? ⟨w.heap.size, 1, none⟩ = some (.slice A bs.length cap))) (by kernel_rfl) ?_ (fun hHeld => ?_); (focus ((try dsimp only); exact ⟨p0, p1⟩)))
      ((refine wpAnyH_take (i := 0) (v := ?_) rfl (by kernel_rfl) (by kernel_rfl) (by kernel_rfl) (fun _ _ _ h => h) (Or.inl ⟨by rfl, ?_⟩) (by assumption) ?_; rotate_left; (focus (intro wS hSw; (try dsimp only at hSw); go_simp; (try with_reducible rfl))); (try simp only [Act.put, List.getElem_toArray, List.getElem_cons_zero, List.getElem_cons_succ, List.setIfInBounds_toArray, List.set_cons_zero, List.set_cons_succ])); (refine wpAnyH_take (i := 1) (v := ?_) rfl (by kernel_rfl) (by kernel_rfl) (by kernel_rfl) (fun _ _ _ h => h) (Or.inl ⟨by rfl, ?_⟩) (by assumption) ?_; rotate_left; (focus (intro wS hSw; (try dsimp only at hSw); go_simp; (try with_reducible rfl))); (try simp only [Act.put, List.getElem_toArray, List.getElem_cons_zero, List.getElem_cons_succ, List.setIfInBounds_toArray, List.set_cons_zero, List.set_cons_succ])); (refine wpAnyH_take (i := 2) (v := ?_) rfl (by kernel_rfl) (by kernel_rfl) (by kernel_rfl) (fun _ _ _ h => h) (Or.inl ⟨by rfl, ?_⟩) (by assumption) ?_; rotate_left; (focus (intro wS hSw; (try dsimp only at hSw); go_simp; (try with_reducible rfl))); (try simp only [Act.put, List.getElem_toArray, List.getElem_cons_zero, List.getElem_cons_succ, List.setIfInBounds_toArray, List.set_cons_zero, List.set_cons_succ])); (refine wpAnyH_take (i := 4) (v := ?_) rfl (by kernel_rfl) (by kernel_rfl) (by kernel_rfl) (fun _ _ _ h => h) (Or.inl ⟨by rfl, ?_⟩) (by assumption) ?_; rotate_left; (focus (intro wS hSw; (try dsimp only at hSw); go_simp; (try with_reducible rfl))); (try simp only [Act.put, List.getElem_toArray, List.getElem_cons_zero, List.getElem_cons_succ, List.setIfInBounds_toArray, List.set_cons_zero, List.set_cons_succ])); (refine wpAnyH_take (i := 6) (v := ?_) rfl (by kernel_rfl) (by kernel_rfl) (by kernel_rfl) (fun _ _ _ h => h) (Or.inl ⟨by rfl, ?_⟩) (by assumption) ?_; rotate_left; (focus (intro wS hSw; (try dsimp only at hSw); go_simp; (try with_reducible rfl))); (try simp only [Act.put, List.getElem_toArray, List.getElem_cons_zero, List.getElem_cons_succ, List.setIfInBounds_toArray, List.set_cons_zero, List.set_cons_succ])))
      (refine wpAnyH_ready (rs := [3]) (by kernel_rfl) (by simp) ?_; refine AllReadyH.cons rfl (fun K hK => ?_) AllReadyH.nil; go_simp)
      go_at_call 57
      refine (HRJ.out _ HVA.out.2).mono ?_
      rintro e w2 ⟨A1, c1, rfl, hrw, hb⟩
      have hzz : wo.heap.size ≤ wo.drew.heap.size := Nat.le_refl _
      have hz2 := hb.size
      have HBW := Lib.hid (HBW.out.trans (hb.mono HBW.out.size))
      try have HVA := Lib.hid (HVA.out.lift hb)
      try have HVB := Lib.hid (HVB.out.lift hb)
      try have HVC := Lib.hid (HVC.out.lift hb)
      try have HVT := Lib.hid (HVT.out.lift hb)
      try have HVX := Lib.hid (HVX.out.lift hb)
      try have HVM := Lib.hid (HVM.out.lift hb)
      try have HVF := Lib.hid (HVF.out.lift hb)
      try have HVP := Lib.hid (HVP.out.lift hb)
      try have HVQ := Lib.hid (HVQ.out.lift hb)
      try have HLA := Lib.hid (HLA.out.lift hb)
      try have HLW := Lib.hid (HLW.out.lift hb)
      try have HI := Lib.hid (HI.out.lift hb)
      try have HRB := Lib.hid (HRB.out.trans (hb.mono HRB.out.size))
      try have HWW := Lib.hid (HWW.out.trans (hb.mono HWW.out.size))
      clear hb
      have HVX := Lib.hid (hrw.mono hzz)
      clear hrw p0 p1
      obtain ⟨⟨p0, p1, _, _, _⟩, _⟩ := HVA.out
      go_wp2_with fail
      (refine hK.out _ _ ?_ (fun hHeld2 => ?_); (focus ((try dsimp only); exact ⟨p0, p1⟩)); (clear hK K); (try simp only [Act.put, List.getElem_toArray, List.getElem_cons_zero, List.getElem_cons_succ, List.setIfInBounds_toArray, List.set_cons_zero, List.set_cons_succ]))
      (refine wpAnyH_ready (rs := [5]) (by kernel_rfl) (by simp) ?_; refine AllReadyH.cons rfl (fun K hK => ?_) AllReadyH.nil; go_simp)
      go_at_call 46
      refine (HMR.out _ HVA.out.2).mono ?_
      rintro e w3 ⟨A2, c2, rfl, hrw, hb⟩
      have hz3 := hb.size
      have HBW := Lib.hid (HBW.out.trans (hb.mono HBW.out.size))
      try have HVA := Lib.hid (HVA.out.lift hb)
      try have HVB := Lib.hid (HVB.out.lift hb)
      try have HVC := Lib.hid (HVC.out.lift hb)
      try have HVT := Lib.hid (HVT.out.lift hb)
      try have HVX := Lib.hid (HVX.out.lift hb)
      try have HVM := Lib.hid (HVM.out.lift hb)
      try have HVF := Lib.hid (HVF.out.lift hb)
      try have HVP := Lib.hid (HVP.out.lift hb)
      try have HVQ := Lib.hid (HVQ.out.lift hb)
      try have HLA := Lib.hid (HLA.out.lift hb)
      try have HLW := Lib.hid (HLW.out.lift hb)
      try have HI := Lib.hid (HI.out.lift hb)
      try have HRB := Lib.hid (HRB.out.trans (hb.mono HRB.out.size))
      try have HWW := Lib.hid (HWW.out.trans (hb.mono HWW.out.size))
      clear hb
      have HVM := Lib.hid hrw
      clear hrw p0 p1
      obtain ⟨⟨p0, p1, _, _, _⟩, _⟩ := HVA.out
      go_wp2_with fail
      (refine hK.out _ _ ?_ (fun hHeld2 => ?_); (focus ((try dsimp only); exact ⟨p0, p1⟩)); (clear hK K); (try simp only [Act.put, List.getElem_toArray, List.getElem_cons_zero, List.getElem_cons_succ, List.setIfInBounds_toArray, List.set_cons_zero, List.set_cons_succ]))
      (refine wpAnyH_ready (rs := [7]) (by kernel_rfl) (by simp) ?_; refine AllReadyH.cons rfl (fun K hK => ?_) AllReadyH.nil; go_simp)
      go_at_call 57
      refine (HMJ.out _ _ _ (HVM.out.ints (rh_fitsL HMO.out))).mono ?_
      rintro e w4 ⟨A3, c3, rfl, hrw, hb⟩
      have hz4 := hb.size
      clear HVM
      have HBW := Lib.hid (HBW.out.trans (hb.mono HBW.out.size))
      try have HVA := Lib.hid (HVA.out.lift hb)
      try have HVB := Lib.hid (HVB.out.lift hb)
      try have HVC := Lib.hid (HVC.out.lift hb)
      try have HVT := Lib.hid (HVT.out.lift hb)
      try have HVX := Lib.hid (HVX.out.lift hb)
      try have HVM := Lib.hid (HVM.out.lift hb)
      try have HVF := Lib.hid (HVF.out.lift hb)
      try have HVP := Lib.hid (HVP.out.lift hb)
      try have HVQ := Lib.hid (HVQ.out.lift hb)
      try have HLA := Lib.hid (HLA.out.lift hb)
      try have HLW := Lib.hid (HLW.out.lift hb)
      try have HI := Lib.hid (HI.out.lift hb)
      try have HRB := Lib.hid (HRB.out.trans (hb.mono HRB.out.size))
      try have HWW := Lib.hid (HWW.out.trans (hb.mono HWW.out.size))
      clear hb
      have HVT := Lib.hid hrw
      clear hrw p0 p1
      obtain ⟨⟨p0, p1, _, _, _⟩, _⟩ := HVA.out
      go_wp2_with fail
      (refine hK.out _ _ ?_ (fun hHeld2 => ?_); (focus ((try dsimp only); exact ⟨p0, p1⟩)); (clear hK K); (try simp only [Act.put, List.getElem_toArray, List.getElem_cons_zero, List.getElem_cons_succ, List.setIfInBounds_toArray, List.set_cons_zero, List.set_cons_succ]))
      (refine wpAnyH_ready (rs := [8]) (by kernel_rfl) (by simp) ?_; refine AllReadyH.cons rfl (fun K hK => ?_) AllReadyH.nil; go_simp)
      have hb := (Below.refl w4.heap.size w4).alloc (Nat.le_refl _) (.cells #[.int .i64 N, .slice A1 Y.length c1, .int .i64 N, .slice A3 Z.length c3] 27)
      have HBW := Lib.hid (HBW.out.trans (hb.mono HBW.out.size))
      try have HVA := Lib.hid (HVA.out.lift hb)
      try have HVB := Lib.hid (HVB.out.lift hb)
      try have HVC := Lib.hid (HVC.out.lift hb)
      try have HVT := Lib.hid (HVT.out.lift hb)
      try have HVX := Lib.hid (HVX.out.lift hb)
      try have HVM := Lib.hid (HVM.out.lift hb)
      try have HVF := Lib.hid (HVF.out.lift hb)
      try have HVP := Lib.hid (HVP.out.lift hb)
      try have HVQ := Lib.hid (HVQ.out.lift hb)
      try have HLA := Lib.hid (HLA.out.lift hb)
      try have HLW := Lib.hid (HLW.out.lift hb)
      try have HI := Lib.hid (HI.out.lift hb)
      try have HRB := Lib.hid (HRB.out.trans (hb.mono HRB.out.size))
      try have HWW := Lib.hid (HWW.out.trans (hb.mono HWW.out.size))
      clear hb
      clear p0 p1
      obtain ⟨⟨p0, p1, _, _, _⟩, _⟩ := HVA.out
      (refine hK.out _ _ ?_ (fun hHeld2 => ?_); (focus ((try dsimp only); exact ⟨p0, p1⟩)); (clear hK K); (try simp only [Act.put, List.getElem_toArray, List.getElem_cons_zero, List.getElem_cons_succ, List.setIfInBounds_toArray, List.set_cons_zero, List.set_cons_succ]))
      have hcells : ∀ w5 : World, w5 = w4.alloc (.cells #[.int .i64 N, .slice A1 Y.length c1, .int .i64 N, .slice A3 Z.length c3] 27) → w5.cell? ⟨w4.heap.size, 0, none⟩ = some (.int .i64 N) ∧ w5.cell? ⟨w4.heap.size, 1, none⟩ = some (.slice A1 Y.length c1) ∧ w5.cell? ⟨w4.heap.size, 2, none⟩ = some (.int .i64 N) ∧ w5.cell? ⟨w4.heap.size, 3, none⟩ = some (.slice A3 Z.length c3) := by
        rintro _ rfl
        simp
      have hc5 := hcells _ rfl
      have hs5 : w4.heap.size < (w4.alloc (.cells #[.int .i64 N, .slice A1 Y.length c1, .int .i64 N, .slice A3 Z.length c3] 27)).heap.size := by simp
      clear hcells
      generalize w4.alloc (.cells #[.int .i64 N, .slice A1 Y.length c1, .int .i64 N, .slice A3 Z.length c3] 27) = w5 at *
      generalize w4.heap.size = g4 at *
      have hzd : wo.drew.heap.size = wo.heap.size := rfl
      rw [hzd] at hz2
      clear hzd
      obtain ⟨b1, hl1⟩ := HVX.out.rv (by omega) (N : Int) c1
      obtain ⟨b3, hl3⟩ := HVT.out.rv (by omega) (N : Int) c3
      have hb1 : wo.heap.size ≤ b1 := hl1.2.1
      have hb3 : w3.heap.size ≤ b3 := hl3.2.1
      have hol : ∀ g, (Value.slice So rs.length cso).ownBlock = some g → g < wo.heap.size := hlto.out
      refine wpAnyH_ready (rs := [9]) (by kernel_rfl) (by simp) ?_
      refine AllReadyH.cons rfl (fun K hK => ?_) AllReadyH.nil
      refine step_append_rh2 (by rfl) _ _ (by rfl) (w.heap.size + 1) _ rs (by rfl) HLA.out g4 ⟨N, Y, A1, c1, b1⟩ ⟨N, Z, A3, c3, b3⟩ (by rfl) hc5 (hl1.mono (by omega)) (hl3.mono (by omega)) (fun g hg => by have := hol g hg; show g ≠ b1; omega) (fun g hg => by have := hol g hg; show g ≠ b3; omega) (by omega) (by omega) ?_
      intro v6 w6 hown6 hb6
      obtain ⟨S6, c6, rfl⟩ := hown6.form
      have hk6 : keyR (rs ++ [⟨N, Y, A1, c1, b1⟩, ⟨N, Z, A3, c3, b3⟩]) = frmK N (formL N bs (j + 1)) := by
        rw [HSU.out, keyR, List.map_append, frmK, List.map_append, ← keyR, ← frmK, HKY.out]
        rfl
      generalize rs ++ [⟨N, Y, A1, c1, b1⟩, ⟨N, Z, A3, c3, b3⟩] = rs6 at *
      have HLA := Lib.hid hown6
      have HK6 := Lib.hid hk6
      have HB6 := Lib.hid ((HBO.out.trans (HBW.out.mono (by omega))).trans hb6)
      have HRC6 := Lib.hid (HVA.out.1.below hb6 (Nat.lt_succ_self _))
      clear hown6 hb6 hk6 p0 p1
      obtain ⟨p0, p1, _, _, _⟩ := HRC6.out
      (try simp only [Act.put, List.getElem_toArray, List.getElem_cons_zero, List.getElem_cons_succ, List.setIfInBounds_toArray, List.set_cons_zero, List.set_cons_succ])
      (refine hK.out _ _ ?_ (fun hHeld2 => ?_); (focus ((try dsimp only); exact ⟨p0, p1⟩)); (clear hK K); (try simp only [Act.put, List.getElem_toArray, List.getElem_cons_zero, List.getElem_cons_succ, List.setIfInBounds_toArray, List.set_cons_zero, List.set_cons_succ]))
      (refine wpAnyH_take (i := 10) (v := ?_) rfl (by kernel_rfl) (by kernel_rfl) (by kernel_rfl) (fun _ _ _ h => h) (Or.inl ⟨by rfl, ?_⟩) (by assumption) ?_; rotate_left; (focus (intro wS hSw; (try dsimp only at hSw); go_simp; (try with_reducible rfl))); (try simp only [Act.put, List.getElem_toArray, List.getElem_cons_zero, List.getElem_cons_succ, List.setIfInBounds_toArray, List.set_cons_zero, List.set_cons_succ]))
      refine wpAnyH_done (by kernel_rfl) ?_ _
      go_wp2_with fail
      go_roundw
      case rel => exact ⟨j + 1, rs6, by omega, by go_num, HLA.out, HK6.out, HB6.out⟩
      case measure => simp [intOf]; omega
    · have hjN : j = N := by omega
      subst hjN
      have hfo := HFO.out j
      have HRD := Lib.hid (HLA.out.rd (by omega) (keyR_fit HKY.out (fun p hp x hx => by
        unfold frmK at hp
        rw [List.mem_map] at hp
        obtain ⟨y, hy, rfl⟩ := hp
        exact rh_fitsL (hfo y hy) x hx)))
      clear hfo
      go_wp2_with fail
      go_ret
      exact ⟨So, cso, rs, rfl, HKY.out, HRD.out, HB0.out.trans (HBW.out.mono (Nat.le_succ _))⟩

def codS (N : Nat) (rs : List RV) (j : Nat) : List Int := (rs.take j).map fun r => (codI N r.xs : Int)
theorem codS_succ (N : Nat) {rs : List RV} {j : Nat} (hj : j < rs.length) : codS N rs (j + 1) = codS N rs j ++ [(codI N rs[j].xs : Int)] := by
  unfold codS
  rw [List.take_succ_eq_append_getElem hj, List.map_append, List.map_singleton]
theorem codS_len (N : Nat) (rs : List RV) (j : Nat) : (codS N rs j).length ≤ j := by
  unfold codS; rw [List.length_map, List.length_take]; omega
theorem codS_all {N : Nat} {rs : List RV} {L : List (List Int)} (h : keyR rs = frmK N L) : codS N rs rs.length = L.map fun x => (codI N x : Int) := by
  unfold codS
  rw [List.take_length]
  have := congrArg (List.map fun p : Int × List Int => (codI N p.2 : Int)) h
  unfold keyR frmK at this
  rw [List.map_map, List.map_map] at this
  exact this

set_option maxRecDepth 100000 in
set_option maxHeartbeats 4000000 in
theorem impl_OrbitSize_any (N : Nat) (A : Option Addr) (cap : Nat) (bs : List Int) (w : World) (hA : Ints w w.heap.size A bs) (hok : RhOk N bs) :
    Calls Tryz.prog 25 #[.agg #[.int .i64 N, .slice A bs.length cap]] w fun e w' => e = .returned (.int .i64 (orbV N bs : Nat)) ∧ Below w.heap.size w w' := by
  have hn1 : 1 ≤ N := by have := hok.1; omega
  have hn2 : N ≤ 24 := by have := hok.2.1; omega
  have HFM := Lib.hid (fun V h => impl_formsOf_any N A cap bs V h hok)
  have HOE := Lib.hid (orb_eq hok)
  have HOL := Lib.hid (show orbL N bs = collL ((formL N bs N).map fun x => (codI N x : Int)) from rfl)
  have HFO := Lib.hid (formL_ok hok N)
  have HFL := Lib.hid (formL_len N bs N)
  have HB0 := Lib.hid ((Below.refl w.heap.size w).alloc (Nat.le_refl _) (.cells #[.int .i64 N, .slice A (bs).length cap] 27))
  have HVA := Lib.hid (Hav.boxed hA N cap)
  clear hA hok
  obtain ⟨⟨p0, p1, _, _, _⟩, _⟩ := HVA.out
  go_enter Tryz.func25, Tryz.ntmps25
  go_wp2_with fail
  generalize w.alloc (.cells #[.int .i64 N, .slice A (bs).length cap] 27) = W at *
  refine (HFM.out _ HVA.out.2).mono ?_
  rintro e w1 ⟨Af, cf, rs, rfl, hkey, hrd, hb⟩
  have hrl : rs.length ≤ 48 := by
    have := congrArg List.length hkey
    rw [keyR_len, frmK, List.length_map, HFL.out] at this
    omega
  have HRD := Lib.hid hrd
  have HKY := Lib.hid hkey
  have hqw : w.heap.size < W.heap.size := HVA.out.1.2.2.2.2
  have HB1 := Lib.hid (HB0.out.trans (hb.mono HB0.out.size))
  have hok1 : ∀ (i : Nat) (hi : i < rs.length), rs[i].n = N ∧ RhOk N rs[i].xs := by
    intro i hi
    have h1 : (rs[i].n, rs[i].xs) ∈ frmK N (formL N bs N) := by
      rw [← hkey]
      exact List.mem_map.2 ⟨rs[i], List.getElem_mem hi, rfl⟩
    unfold frmK at h1
    rw [List.mem_map] at h1
    obtain ⟨y, hy, e⟩ := h1
    injection e with e1 e2
    exact ⟨e1.symm, e2 ▸ HFO.out y hy⟩
  have HO1 := Lib.hid hok1
  clear p0 p1 hb hkey hrd hok1
  have hz1 : w.heap.size ≤ w1.heap.size := HB1.out.size
  go_wp2_with fail
  go_loopw [3, 9] (fun so i wr => ∃ j : Nat, j ≤ rs.length ∧ i = .int .i64 j ∧ OwnI wr w1.heap.size so (codS N rs j) ∧ Below w1.heap.size w1 wr) (fun _ i _ => rs.length - (intOf i).toNat)
  case atStart => exact ⟨0, Nat.zero_le _, rfl, OwnI.nil _ _, Below.refl _ _⟩
  case round =>
    obtain ⟨j, hj, rfl, hown, hbel⟩ := hrel
    obtain ⟨wo, rfl⟩ : ∃ wo : World, wo = wr := ⟨_, rfl⟩
    obtain ⟨So, cso, rfl⟩ := hown.form
    have hws := hbel.size
    have hcl := codS_len N rs j
    have HO := Lib.hid hown
    have HBE := Lib.hid hbel
    clear hown hbel
    by_cases hlt : j < rs.length
    · have hji : (j : Int) < (rs.length : Int) := by omega
      have HSU := Lib.hid (codS_succ N hlt)
      obtain ⟨hn, hxo⟩ := HO1.out j hlt
      obtain ⟨gf, hAf, hgf, hcf⟩ := HRD.out.2.2 (by omega)
      obtain ⟨k0, k1⟩ := hcf j hlt
      have k0 := (HBE.out.cell (p := ⟨gf, j * 2, none⟩) hgf).trans k0
      have k1 := (HBE.out.cell (p := ⟨gf, j * 2 + 1, none⟩) hgf).trans k1
      have hxi := (HRD.out.2.1 _ (List.getElem_mem hlt)).below HBE.out
      generalize rs[j] = r at *
      obtain ⟨rn, X, AX, cX, bX⟩ := r
      change rn = (N : Int) at hn
      subst hn
      change RhOk N X at hxo
      change wo.cell? ⟨gf, j * 2, none⟩ = some (.int .i64 N) at k0
      change wo.cell? ⟨gf, j * 2 + 1, none⟩ = some (.slice AX X.length cX) at k1
      change Ints wo w1.heap.size AX X at hxi
      change Hid (codS N rs (j + 1) = codS N rs j ++ [(codI N X : Int)]) at HSU
      have HXI := Lib.hid (hxi.mono hws)
      have HXO := Lib.hid hxo
      have HCD := Lib.hid (fun V h => show Calls Tryz.prog 50 #[.agg #[.int .i64 N, .slice AX X.length cX]] V fun e w' => e = .returned (.int .i64 (codI N X : Nat)) ∧ Below V.heap.size V w' from impl_code_any N AX cX X V h hxo)
      subst hAf
      obtain ⟨L2, hL2⟩ : ∃ L2, codS N rs (j + 1) = L2 := ⟨_, rfl⟩
      have HL2 := Lib.hid hL2
      rw [hL2] at HSU
      clear hL2
      generalize codS N rs j = L at *
      generalize codI N X = kx at *
      clear hxi hxo hcf
      go_wp2_with fail
      refine (HCD.out _ (HXI.out.lift ((Below.refl _ _).alloc (Nat.le_refl _) _))).mono ?_
      rintro e w4 ⟨rfl, hb⟩
      have hz4 : wo.heap.size + 1 ≤ w4.heap.size := by have := hb.size; simpa using this
      have HO2 := Lib.hid ((HO.out.alloc _).grown hb)
      have HB2 := Lib.hid ((HBE.out.alloc hws _).trans (hb.mono (by simp; omega)))
      clear hb k0 k1
      go_wp2_with (at_builtin; refine wpList_append_int rfl (.tmp 13) (.tmp 16) rfl w1.heap.size _ L rfl (HO2.out.alloc _) _ _ rfl (cell_new1 _ _ _) (by omega) (by simp; omega) ?_; intro v5 w5 hown5 hb5)
      have HO3 := Lib.hid hown5
      have HB3 := Lib.hid ((HB2.out.alloc (by omega) _).trans hb5)
      clear hown5 hb5
      go_wp2_with fail
      go_roundw
      case rel => exact ⟨j + 1, by omega, by go_num, by rw [show codS N rs (j + 1) = L2 from HL2.out, HSU.out]; exact HO3.out, HB3.out⟩
      case measure => simp [intOf]; omega
    · have hjN : j = rs.length := by omega
      subst hjN
      have hfit : ∀ x ∈ codS N rs rs.length, Fits x := fun x hx => by
        rw [codS_all HKY.out, List.mem_map] at hx
        obtain ⟨y, hy, rfl⟩ := hx
        have := codI_small (HFO.out y hy)
        unfold Fits; omega
      have HI := Lib.hid (HO.out.ints hfit)
      have HCO := Lib.hid (fun V h => impl_collected_any So cso (codS N rs rs.length) V h (by omega))
      have hcv : collL (codS N rs rs.length) = orbL N bs := by rw [HOL.out, codS_all HKY.out]
      rw [hcv] at HCO
      have hol := HOE.out
      have HOV := Lib.hid hol
      have hbnd : (orbL N bs).length ≤ 48 := by
        have := collL_len (codS N rs rs.length)
        rw [hcv] at this
        omega
      generalize codS N rs rs.length = L at *
      generalize orbL N bs = OL at *
      clear hcv hfit hol
      go_wp2_with fail
      refine (HCO.out _ HI.out).mono ?_
      rintro e w4 ⟨v4, rfl, hown4, hb4⟩
      obtain ⟨A4, c4, rfl⟩ := hown4.form
      have HB4 := Lib.hid (HB1.out.trans ((HBE.out.trans (hb4.mono hws)).mono hz1))
      clear hown4 hb4
      go_wp2_with fail
      go_ret
      exact ⟨ret_int (by rw [HOV.out]), HB4.out⟩

end Go.Proofs.YtjoeglekcnaebaaGreatDoor
