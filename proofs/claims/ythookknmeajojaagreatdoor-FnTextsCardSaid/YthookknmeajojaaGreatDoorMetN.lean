/-
  The list of meters, by the reference.
-/
import Derived.Test.YthookknmeajojaaGreatDoorTyD
namespace Go.Proofs.YthookknmeajojaaGreatDoor
open Go.RowKit Go.Shelf
set_option linter.unusedVariables false
set_option linter.unusedSimpArgs false

theorem frm_chain {S T : Nat → Prop} {w w1 w2 : World} (h : Frm S w w1) (k : Frm T w1 w2) (hT : ∀ c, c < w.heap.size → T c → S c) : Frm S w w2 :=
  ⟨k.os.trans h.os, k.tape.trans h.tape, k.output.trans h.output, Nat.le_trans h.size k.size, fun c hc hS => (k.block c (Nat.lt_of_lt_of_le hc h.size) (fun ht => hS (hT c hc ht))).trans (h.block c hc hS)⟩

/-- New rows that hold the lists, in blocks from base on. -/
def NewK (base : Nat) (new : List SV) (L : List (List Int)) : Prop := new.map SV.xs = L ∧ ∀ r ∈ new, 0 < r.xs.length → ∃ bb off t, r.A = some ⟨bb, off, t⟩ ∧ base ≤ bb

set_option maxRecDepth 100000 in
set_option maxHeartbeats 2000000 in
theorem spec_l18Meters_any : ∀ (f n : Nat) (b : List Int) (A : Option Addr) (c base : Nat) (v : Value) (rs : List SV) (w : World), f + b.length = 6 → 1 ≤ f → 1 ≤ n → n ≤ 24 → b.length ≤ c → Ints w w.heap.size A b →
    (0 < b.length → ∀ bb off t, A = some ⟨bb, off, t⟩ → v.ownBlock ≠ some bb) → (∃ bb off, A = some ⟨bb, off, none⟩ ∧ (0 < b.length → base ≤ bb)) → OwnW w base v rs → base ≤ w.heap.size → rs.length + 6 ^ f ≤ 900000 →
    Calls Tryz.prog 135 #[.int .i64 n, .slice A b.length c, v] w fun e w' => ∃ v' new, e = .returned v' ∧ OwnW w' base v' (rs ++ new) ∧ NewK base new (metL f n b) ∧ Frm (fun c => v.ownBlock = some c) w w' ∧ (∀ g, v'.ownBlock = some g → v.ownBlock = some g ∨ w.heap.size ≤ g) := by
  intro f
  induction f with
  | zero => intro n b A c base v rs w _ h; omega
  | succ f ih =>
    intro n b A c base v rs w hfl _ hn1 hn2 hcap hA hsep hsome hown hbase hbig
    have HIH := Lib.hid (fun n b A c base v rs w h1 h2 h3 h4 h5 h6 h7 h8 h9 h10 h11 => ih n b A c base v rs w h1 h2 h3 h4 h5 h6 h7 h8 h9 h10 h11)
    clear ih
    have hb5 : b.length ≤ 5 := by omega
    have HRD := Lib.hid (show (⟨b, A, c⟩ : SV).Rd w v.ownBlock from ⟨hcap, hA, hsep⟩)
    have HO := Lib.hid hown
    have HF := Lib.hid hA.2.1
    obtain ⟨Av, cv, rfl⟩ := hown.form
    clear hA hsep hown
    by_cases h1 : n = 1
    · subst h1
      rw [metL_one]
      have HO2 := Lib.hid (HO.out.lift ((Below.refl w.heap.size w).alloc (Nat.le_refl _) (.cells #[(⟨b, A, c⟩ : SV).slc] 24)))
      have HRD2 := Lib.hid (HRD.out.lift ((Below.refl w.heap.size w).alloc (Nat.le_refl _) (.cells #[(⟨b, A, c⟩ : SV).slc] 24)))
      have hlen9 : rs.length + 1 ≤ 1000000 := by have := Nat.pow_pos (n := f + 1) (show 0 < 6 by omega); omega
      go_enter Tryz.func135, Tryz.ntmps135
      go_wp2_with (at_builtin; refine wpList_append_rowsW rfl (.tmp 10) (.tmp 12) rfl base _ rs rfl HO2.out w.heap.size 0 1 [⟨b, A, c⟩] rfl (fun i hi => by
        have h0 : i = 0 := by simp at hi; omega
        subst h0
        simp [SV.slc]) (fun r hr => by rw [List.mem_singleton] at hr; subst hr; exact HRD2.out) (by simp) hlen9 (by simp; omega) ?_; intro v2 w2 hown2 hgr2 hat2)
      have HO3 := Lib.hid hown2
      have HF3 := Lib.hid (frm_chain (Frm.pure ((Below.refl w.heap.size w).alloc (Nat.le_refl _) (.cells #[(⟨b, A, c⟩ : SV).slc] 24)) (fun c => (Value.slice Av rs.length cv).ownBlock = some c)) (T := fun c => (Value.slice Av rs.length cv).ownBlock = some c) ⟨hgr2.os, hgr2.tape, hgr2.output, hgr2.size, fun c hc hS => hgr2.block c hc (fun e => hS e.symm)⟩ (fun _ _ h => h))
      have HT3 := Lib.hid (fun g (hg : v2.ownBlock = some g) => show (Value.slice Av rs.length cv).ownBlock = some g ∨ w.heap.size ≤ g by
        rcases hat2 g hg with h | h
        · exact .inl h
        · exact .inr (Nat.le_trans (by simp) h))
      clear hown2 hgr2 hat2
      go_wp2_with fail
      go_ret
      exact ⟨v2, [⟨b, A, c⟩], rfl, HO3.out, ⟨rfl, fun r hr hn => by
        rw [List.mem_singleton] at hr
        subst hr
        obtain ⟨bb, ob, e, hb⟩ := hsome
        exact ⟨bb, ob, none, e, hb hn⟩⟩, HF3.out, HT3.out⟩
    · have hne : ((n : Int) == 1) = false := beq_eq_false_iff_ne.2 (by omega)
      by_cases h5 : b.length = 5
      · rw [metL_five h1 h5]
        have h5e : ((b.length : Int) == 5) = true := by rw [h5]; rfl
        go_enter Tryz.func135, Tryz.ntmps135
        go_wp2_with fail
        go_ret
        exact ⟨_, [], rfl, by rw [List.append_nil]; exact HO.out, ⟨rfl, fun r hr => by cases hr⟩, Frm.refl _ _, fun g hg => .inl hg⟩
      · have h5e : ((b.length : Int) == 5) = false := beq_eq_false_iff_ne.2 (by omega)
        have HGO := Lib.hid (metL_go h1 h5 : metL (f + 1) n b = metP f n b 6)
        have HPB := Lib.hid (fun j => show (metP f n b j).length ≤ j * 6 ^ f by
          induction j with
          | zero => show (0 : Nat) ≤ _; omega
          | succ j ih =>
            by_cases h : n % (j + 2) = 0
            · rw [metP_yes h, List.length_append, Nat.succ_mul]
              have := metL_bnd f (n / (j + 2)) (b ++ [((j + 2 : Nat) : Int)])
              omega
            · rw [metP_no h, Nat.succ_mul]; exact Nat.le_trans ih (Nat.le_add_right _ _))
        have hf1 : 1 ≤ f := by omega
        obtain ⟨bb, ob, hAs, _⟩ := hsome
        subst hAs
        obtain ⟨v, hv⟩ : ∃ v, Value.slice Av rs.length cv = v := ⟨_, rfl⟩
        have HVV := Lib.hid hv
        have hpw : 6 ^ (f + 1) = 6 * 6 ^ f := by rw [Nat.pow_succ, Nat.mul_comm]
        rw [hpw] at hbig
        obtain ⟨pw, hpwe⟩ : ∃ p, 6 ^ f = p := ⟨_, rfl⟩
        rw [hpwe] at hbig HPB HIH
        clear hpw hpwe
        go_enter Tryz.func135, Tryz.ntmps135
        go_wp2_with fail
        go_loopw [2, 7] (fun so k wr => ∃ (j : Nat) (new : List SV), j ≤ 6 ∧ k = .int .i64 ((j + 2 : Nat) : Int) ∧ OwnW wr base so (rs ++ new) ∧ NewK base new (metP f n b j) ∧ Frm (fun c => v.ownBlock = some c) w wr ∧ (∀ g, so.ownBlock = some g → v.ownBlock = some g ∨ w.heap.size ≤ g)) (fun _ k _ => 8 - (intOf k).toNat)
        case atStart => exact ⟨0, [], by omega, rfl, by rw [List.append_nil]; exact HO.out, ⟨rfl, fun r hr => by cases hr⟩, Frm.refl _ _, fun g hg => .inl (HVV.out ▸ hg)⟩
        case round =>
          obtain ⟨j, new, hj, rfl, hown, hkey, hfr, hat⟩ := hrel
          obtain ⟨wo, rfl⟩ : ∃ wo : World, wo = wr := ⟨_, rfl⟩
          obtain ⟨ra, hra⟩ : ∃ ra, rs ++ new = ra := ⟨_, rfl⟩
          rw [hra] at hown
          obtain ⟨So, cso, rfl⟩ := hown.form
          have hws : w.heap.size ≤ wo.heap.size := hfr.size
          have hrn : ra.length = rs.length + new.length := by rw [← hra, List.length_append]
          have HRA := Lib.hid hra
          clear hra
          have hnl : new.length ≤ j * pw := by
            have := congrArg List.length hkey.1
            rw [List.length_map] at this
            have := HPB.out j
            omega
          have hral : ra.length ≤ rs.length + j * pw := by omega
          clear hrn hnl
          have HRO := Lib.hid (show (⟨b, some ⟨bb, ob, none⟩, c⟩ : SV).Rd wo (Value.slice So ra.length cso).ownBlock from HRD.out.frm hfr (fun c hc => HVV.out ▸ hc) (fun g hg => HVV.out ▸ hat g hg))
          have HLA := Lib.hid hown
          have HKY := Lib.hid hkey
          have HFR := Lib.hid hfr
          have HAT := Lib.hid hat
          clear hown hkey hfr hat
          by_cases hlt : j < 6
          · have hk7 : ((j + 2 : Nat) : Int) ≤ 7 := by omega
            have hnz : (((j + 2 : Nat) : Int) = 0) = False := eq_false (by omega)
            have hnz2 : (j + 2 = 0) = False := eq_false (by omega)
            have hrm : (n : Int).tmod ((j + 2 : Nat) : Int) = ((n % (j + 2) : Nat) : Int) := by rw [Int.tmod_eq_emod_of_nonneg (by omega)]; omega
            have hmb : n % (j + 2) < j + 2 := Nat.mod_lt _ (by omega)
            have hw1 : IntKind.i64.wrap ((n % (j + 2) : Nat) : Int) = ((n % (j + 2) : Nat) : Int) := i64w (by omega)
            by_cases hd : n % (j + 2) = 0
            · have HSU := Lib.hid (metP_yes (f := f) (b := b) hd)
              have hdv : (n : Int).tdiv ((j + 2 : Nat) : Int) = ((n / (j + 2) : Nat) : Int) := by rw [Int.tdiv_eq_ediv_of_nonneg (by omega)]; omega
              have hql : n / (j + 2) ≤ n := Nat.div_le_self _ _
              have hq1 : 1 ≤ n / (j + 2) := by
                have := Nat.div_add_mod n (j + 2)
                rw [hd, Nat.add_zero] at this
                rcases Nat.eq_zero_or_pos (n / (j + 2)) with h0 | h0
                · rw [h0, Nat.mul_zero] at this; omega
                · exact h0
              have hw2 : IntKind.i64.wrap ((n / (j + 2) : Nat) : Int) = ((n / (j + 2) : Nat) : Int) := i64w (by omega)
              have hb1 : f + (b ++ [((j + 2 : Nat) : Int)]).length = 6 := by rw [List.length_append, List.length_singleton]; omega
              have HIJ := Lib.hid (fun A c base v rs w h5 h6 h7 h8 h9 h10 h11 => HIH.out (n / (j + 2)) (b ++ [((j + 2 : Nat) : Int)]) A c base v rs w hb1 hf1 hq1 (by omega) h5 h6 h7 h8 h9 h10 h11)
              have hjp : j * pw + pw ≤ 6 * pw := by rw [← Nat.succ_mul]; exact Nat.mul_le_mul_right _ (by omega)
              rw [hd] at hrm hw1
              generalize n / (j + 2) = q at *
              clear hb1 hmb
              generalize hk : j + 2 = k at *
              have HK := Lib.hid hk
              clear hk
              have HCB := Lib.hid (ints_cellsM HRO.out.2.1)
              have hbbl : 0 < b.length → bb < wo.heap.size := fun h0 => by
                obtain ⟨b', o', e', hb', _⟩ := HRO.out.2.1.2.2 h0
                injection e' with e'
                injection e' with e1 e2
                omega
              have HBL := Lib.hid hbbl
              clear hbbl
              go_wp2_with fail
              have HBX := Lib.hid (Below.refl wo.heap.size wo.drew)
              (refine wp_region_held_drew (S := (fun _ => True)) (by kernel_rfl) ?_ (fun hHeld => ?_); (focus ((try dsimp only); all_goals trivial)))
              ((refine wpAnyH_take (i := 0) (v := ?_) rfl (by kernel_rfl) (by kernel_rfl) (by kernel_rfl) (fun _ _ _ h => h) (Or.inl ⟨by rfl, ?_⟩) (by assumption) ?_; rotate_left; (focus (intro wS hSw; (try dsimp only at hSw); go_simp; (try with_reducible rfl))); (try simp only [Act.put, List.getElem_toArray, List.getElem_cons_zero, List.getElem_cons_succ, List.setIfInBounds_toArray, List.set_cons_zero, List.set_cons_succ])); (refine wpAnyH_take (i := 1) (v := ?_) rfl (by kernel_rfl) (by kernel_rfl) (by kernel_rfl) (fun _ _ _ h => h) (Or.inl ⟨by rfl, ?_⟩) (by assumption) ?_; rotate_left; (focus (intro wS hSw; (try dsimp only at hSw); go_simp; (try with_reducible rfl))); (try simp only [Act.put, List.getElem_toArray, List.getElem_cons_zero, List.getElem_cons_succ, List.setIfInBounds_toArray, List.set_cons_zero, List.set_cons_succ])); (refine wpAnyH_take (i := 2) (v := ?_) rfl (by kernel_rfl) (by kernel_rfl) (by kernel_rfl) (fun _ _ _ h => h) (Or.inl ⟨by rfl, ?_⟩) (by assumption) ?_; rotate_left; (focus (intro wS hSw; (try dsimp only at hSw); go_simp; (try with_reducible rfl))); (try simp only [Act.put, List.getElem_toArray, List.getElem_cons_zero, List.getElem_cons_succ, List.setIfInBounds_toArray, List.set_cons_zero, List.set_cons_succ])); (refine wpAnyH_take (i := 4) (v := ?_) rfl (by kernel_rfl) (by kernel_rfl) (by kernel_rfl) (fun _ _ _ h => h) (Or.inl ⟨by rfl, ?_⟩) (by assumption) ?_; rotate_left; (focus (intro wS hSw; (try dsimp only at hSw); go_simp; (try with_reducible rfl))); (try simp only [Act.put, List.getElem_toArray, List.getElem_cons_zero, List.getElem_cons_succ, List.setIfInBounds_toArray, List.set_cons_zero, List.set_cons_succ])); (refine wpAnyH_take (i := 6) (v := ?_) rfl (by kernel_rfl) (by kernel_rfl) (by kernel_rfl) (fun _ _ _ h => h) (Or.inl ⟨by rfl, ?_⟩) (by assumption) ?_; rotate_left; (focus (intro wS hSw; (try dsimp only at hSw); go_simp; (try with_reducible rfl))); (try simp only [Act.put, List.getElem_toArray, List.getElem_cons_zero, List.getElem_cons_succ, List.setIfInBounds_toArray, List.set_cons_zero, List.set_cons_succ])); (refine wpAnyH_take (i := 9) (v := ?_) rfl (by kernel_rfl) (by kernel_rfl) (by kernel_rfl) (fun _ _ _ h => h) (Or.inl ⟨by rfl, ?_⟩) (by assumption) ?_; rotate_left; (focus (intro wS hSw; (try dsimp only at hSw); go_simp; (try with_reducible rfl))); (try simp only [Act.put, List.getElem_toArray, List.getElem_cons_zero, List.getElem_cons_succ, List.setIfInBounds_toArray, List.set_cons_zero, List.set_cons_succ])))
              refine wpAnyH_ready (rs := [3, 7]) (by kernel_rfl) (by simp) ?_
              refine AllReadyH.cons rfl (fun K hK => ?_) (AllReadyH.cons rfl (fun K hK => ?_) AllReadyH.nil)
              · go_simp
                have HOE := Lib.hid (show OwnI (wo.alloc (.cells #[] 3)).drew wo.heap.size (.slice (some ⟨wo.heap.size, 0, none⟩) 0 0) [] from OwnI.empty_at wo wo.heap.size wo.heap.size rfl (Nat.le_refl _))
                have HBX := Lib.hid (show Below wo.heap.size wo.drew (wo.alloc (.cells #[] 3)).drew from HBX.out.alloc HBX.out.size (.cells #[] 3))
                (refine hK.out _ _ ?_ (fun hHeld2 => ?_); (focus ((try dsimp only); all_goals trivial)); (clear hK K); (try simp only [Act.put, List.getElem_toArray, List.getElem_cons_zero, List.getElem_cons_succ, List.setIfInBounds_toArray, List.set_cons_zero, List.set_cons_succ]))
                generalize (wo.alloc (.cells #[] 3)).drew = w1 at *
                refine wpAnyH_ready (rs := [5, 7]) (by kernel_rfl) (by simp) ?_
                refine AllReadyH.cons rfl (fun K hK => ?_) (AllReadyH.cons rfl (fun K hK => ?_) AllReadyH.nil)
                · as_aux_lemma =>
                  refine step_append_ints (by rfl) _ _ (by rfl) wo.heap.size _ [] (by rfl) HOE.out bb ob c b (by rfl) (fun i hi => (HBX.out.cell (p := ⟨bb, ob + i, none⟩) (HBL.out (by omega))).trans (HCB.out i hi)) (by simp; omega) HBX.out.size ?_
                  intro v2 w2 hown2 hb2 hgr2
                  rw [List.nil_append] at hown2
                  obtain ⟨A2, c2, rfl⟩ := hown2.form
                  have HOI := Lib.hid hown2
                  have HBX := Lib.hid (HBX.out.trans hb2)
                  (try simp only [Act.put, List.getElem_toArray, List.getElem_cons_zero, List.getElem_cons_succ, List.setIfInBounds_toArray, List.set_cons_zero, List.set_cons_succ])
                  clear hown2 hb2 hgr2
                  (refine hK.out _ _ ?_ (fun hHeld2 => ?_); (focus ((try dsimp only); all_goals trivial)); (clear hK K); (try simp only [Act.put, List.getElem_toArray, List.getElem_cons_zero, List.getElem_cons_succ, List.setIfInBounds_toArray, List.set_cons_zero, List.set_cons_succ]))
                  (refine wpAnyH_ready (rs := [7]) (by kernel_rfl) (by simp) ?_; refine AllReadyH.cons rfl (fun K hK => ?_) AllReadyH.nil; go_simp)
                  have HKC := Lib.hid (cell_new1 w2 (.int .i64 k) 3)
                  have HOI := Lib.hid (HOI.out.alloc (.cells #[.int .i64 k] 3))
                  have HBX := Lib.hid (HBX.out.alloc HBX.out.size (.cells #[.int .i64 k] 3))
                  (refine hK.out _ _ ?_ (fun hHeld2 => ?_); (focus ((try dsimp only); all_goals trivial)); (clear hK K); (try simp only [Act.put, List.getElem_toArray, List.getElem_cons_zero, List.getElem_cons_succ, List.setIfInBounds_toArray, List.set_cons_zero, List.set_cons_succ]))
                  generalize w2.alloc (.cells #[.int .i64 k] 3) = w3 at *
                  refine wpAnyH_ready (rs := [8]) (by kernel_rfl) (by simp) ?_
                  refine AllReadyH.cons rfl (fun K hK => ?_) AllReadyH.nil
                  refine step_append_int (by rfl) _ _ (by rfl) wo.heap.size _ b (by rfl) HOI.out _ (k : Int) (by rfl) HKC.out (by omega) HBX.out.size ?_
                  intro v4 w4 hown4 hb4
                  obtain ⟨A4, c4, rfl⟩ := hown4.form
                  have HB4 := Lib.hid (HBX.out.trans hb4)
                  have HI4 := Lib.hid (hown4.ints (fun x hx => by
                    rcases List.mem_append.1 hx with h | h
                    · exact HF.out x h
                    · rw [List.mem_singleton] at h; subst h; unfold Fits; omega))
                  have HC4 := Lib.hid (OwnI.capM hown4)
                  have HL4 := Lib.hid (fun g hg => (hown4.lt g hg).1)
                  have hsome4 : ∃ g, A4 = some ⟨g, 0, none⟩ := by
                    rcases hown4.2 with ⟨hv, h0⟩ | ⟨g, cap', cur, hv, _⟩
                    · rw [List.length_append, List.length_singleton] at h0; omega
                    · injection hv with h1; exact ⟨g, h1⟩
                  obtain ⟨g4, hA4⟩ := hsome4
                  subst hA4
                  clear hown4 hb4
                  generalize b ++ [(k : Int)] = bk at *
                  have hz4 : wo.heap.size ≤ w4.heap.size := HB4.out.size
                  have HLA4 := Lib.hid (HLA.out.drew.lift (show Below wo.drew.heap.size wo.drew w4 from HB4.out))
                  (try simp only [Act.put, List.getElem_toArray, List.getElem_cons_zero, List.getElem_cons_succ, List.setIfInBounds_toArray, List.set_cons_zero, List.set_cons_succ])
                  (refine hK.out _ _ ?_ (fun hHeld2 => ?_); (focus ((try dsimp only); all_goals trivial)); (clear hK K); (try simp only [Act.put, List.getElem_toArray, List.getElem_cons_zero, List.getElem_cons_succ, List.setIfInBounds_toArray, List.set_cons_zero, List.set_cons_succ]))
                  (refine wpAnyH_ready (rs := [10]) (by kernel_rfl) (by simp) ?_; refine AllReadyH.cons rfl (fun K hK => ?_) AllReadyH.nil; go_simp)
                  go_at_call 135
                  refine (HIJ.out (some ⟨g4, 0, none⟩) c4 base _ ra w4 HC4.out HI4.out (fun hn bb off t e he => by
                    have h1 := HL4.out bb (by rw [e]; rfl)
                    have h2 : bb < wo.heap.size := (HLA.out.lt bb he).2
                    omega) ⟨g4, 0, rfl, fun _ => by have h1 := HL4.out g4 rfl; omega⟩ HLA4.out (by omega) (by omega)).mono ?_
                  rintro e w5 ⟨v5, new5, rfl, hown5, hkey5, hfr5, hat5⟩
                  have HO5 := Lib.hid (show OwnW w5 base v5 (rs ++ (new ++ new5)) by rw [← List.append_assoc, HRA.out]; exact hown5)
                  have HK5 := Lib.hid (show NewK base (new ++ new5) (metP f n b (j + 1)) from ⟨by rw [List.map_append, HKY.out.1, hkey5.1, HSU.out], fun r hr => (List.mem_append.1 hr).elim (HKY.out.2 r) (hkey5.2 r)⟩)
                  have HF5 := Lib.hid (frm_chain (frm_chain HFR.out (T := fun _ => False) (Frm.pure (show Below wo.heap.size wo w4 from ⟨HB4.out.os, HB4.out.tape, HB4.out.output, HB4.out.size, HB4.out.block⟩) (fun _ => False)) (fun _ _ h => h.elim)) hfr5 (fun g hg hs => by
                    rcases HAT.out g hs with h1 | h1
                    · exact h1
                    · omega))
                  have HT5 := Lib.hid (fun g (hg : v5.ownBlock = some g) => show v.ownBlock = some g ∨ w.heap.size ≤ g by
                    rcases hat5 g hg with h1 | h1
                    · exact HAT.out g h1
                    · exact .inr (by omega))
                  clear hown5 hkey5 hfr5 hat5
                  go_wp2_with fail
                  (refine hK.out _ _ ?_ (fun hHeld2 => ?_); (focus ((try dsimp only); all_goals trivial)); (clear hK K); (try simp only [Act.put, List.getElem_toArray, List.getElem_cons_zero, List.getElem_cons_succ, List.setIfInBounds_toArray, List.set_cons_zero, List.set_cons_succ]))
                  (refine wpAnyH_take (i := 11) (v := ?_) rfl (by kernel_rfl) (by kernel_rfl) (by kernel_rfl) (fun _ _ _ h => h) (Or.inl ⟨by rfl, ?_⟩) (by assumption) ?_; rotate_left; (focus (intro wS hSw; (try dsimp only at hSw); go_simp; (try with_reducible rfl))); (try simp only [Act.put, List.getElem_toArray, List.getElem_cons_zero, List.getElem_cons_succ, List.setIfInBounds_toArray, List.set_cons_zero, List.set_cons_succ]))
                  refine wpAnyH_done (by kernel_rfl) ?_ _
                  go_wp2_with fail
                  go_roundw
                  case rel => exact ⟨j + 1, new ++ new5, by omega, by rw [← HK.out]; go_num, HO5.out, HK5.out, HF5.out, HT5.out⟩
                  case measure => simp [intOf]; omega
                · as_aux_lemma =>
                  go_simp
                  have HKC0 := Lib.hid (cell_new1 w1 (.int .i64 k) 3)
                  have HOE0 := HOE
                  have HOE := Lib.hid (HOE.out.alloc (.cells #[.int .i64 k] 3))
                  have HBX := Lib.hid (HBX.out.alloc HBX.out.size (.cells #[.int .i64 k] 3))
                  have hgl : w1.heap.size < (w1.alloc (.cells #[.int .i64 k] 3)).heap.size := by simp
                  have hgo : wo.heap.size < w1.heap.size := (HOE0.out.lt wo.heap.size rfl).2
                  (refine hK.out _ _ ?_ (fun hHeld2 => ?_); (focus ((try dsimp only); all_goals trivial)); (clear hK K); (try simp only [Act.put, List.getElem_toArray, List.getElem_cons_zero, List.getElem_cons_succ, List.setIfInBounds_toArray, List.set_cons_zero, List.set_cons_succ]))
                  generalize w1.alloc (.cells #[.int .i64 k] 3) = w2 at *
                  refine wpAnyH_ready (rs := [5]) (by kernel_rfl) (by simp) ?_
                  refine AllReadyH.cons rfl (fun K hK => ?_) AllReadyH.nil
                  refine step_append_ints (by rfl) _ _ (by rfl) wo.heap.size _ [] (by rfl) HOE.out bb ob c b (by rfl) (fun i hi => (HBX.out.cell (p := ⟨bb, ob + i, none⟩) (HBL.out (by omega))).trans (HCB.out i hi)) (by simp; omega) HBX.out.size ?_
                  intro v2 w3 hown2 hb2 hgr2
                  rw [List.nil_append] at hown2
                  obtain ⟨A2, c2, rfl⟩ := hown2.form
                  have HOI := Lib.hid hown2
                  have HBX := Lib.hid (HBX.out.trans hb2)
                  (try simp only [Act.put, List.getElem_toArray, List.getElem_cons_zero, List.getElem_cons_succ, List.setIfInBounds_toArray, List.set_cons_zero, List.set_cons_succ])
                  have HKC := Lib.hid ((hgr2.cell_far ⟨w1.heap.size, 0, none⟩ hgl (fun h => by have h2 : w1.heap.size = wo.heap.size := Option.some.inj h; omega)).trans HKC0.out)
                  clear hown2 hb2 hgr2
                  (refine hK.out _ _ ?_ (fun hHeld2 => ?_); (focus ((try dsimp only); all_goals trivial)); (clear hK K); (try simp only [Act.put, List.getElem_toArray, List.getElem_cons_zero, List.getElem_cons_succ, List.setIfInBounds_toArray, List.set_cons_zero, List.set_cons_succ]))
                  refine wpAnyH_ready (rs := [8]) (by kernel_rfl) (by simp) ?_
                  refine AllReadyH.cons rfl (fun K hK => ?_) AllReadyH.nil
                  refine step_append_int (by rfl) _ _ (by rfl) wo.heap.size _ b (by rfl) HOI.out _ (k : Int) (by rfl) HKC.out (by omega) HBX.out.size ?_
                  intro v4 w4 hown4 hb4
                  obtain ⟨A4, c4, rfl⟩ := hown4.form
                  have HB4 := Lib.hid (HBX.out.trans hb4)
                  have HI4 := Lib.hid (hown4.ints (fun x hx => by
                    rcases List.mem_append.1 hx with h | h
                    · exact HF.out x h
                    · rw [List.mem_singleton] at h; subst h; unfold Fits; omega))
                  have HC4 := Lib.hid (OwnI.capM hown4)
                  have HL4 := Lib.hid (fun g hg => (hown4.lt g hg).1)
                  have hsome4 : ∃ g, A4 = some ⟨g, 0, none⟩ := by
                    rcases hown4.2 with ⟨hv, h0⟩ | ⟨g, cap', cur, hv, _⟩
                    · rw [List.length_append, List.length_singleton] at h0; omega
                    · injection hv with h1; exact ⟨g, h1⟩
                  obtain ⟨g4, hA4⟩ := hsome4
                  subst hA4
                  clear hown4 hb4
                  generalize b ++ [(k : Int)] = bk at *
                  have hz4 : wo.heap.size ≤ w4.heap.size := HB4.out.size
                  have HLA4 := Lib.hid (HLA.out.drew.lift (show Below wo.drew.heap.size wo.drew w4 from HB4.out))
                  (try simp only [Act.put, List.getElem_toArray, List.getElem_cons_zero, List.getElem_cons_succ, List.setIfInBounds_toArray, List.set_cons_zero, List.set_cons_succ])
                  (refine hK.out _ _ ?_ (fun hHeld2 => ?_); (focus ((try dsimp only); all_goals trivial)); (clear hK K); (try simp only [Act.put, List.getElem_toArray, List.getElem_cons_zero, List.getElem_cons_succ, List.setIfInBounds_toArray, List.set_cons_zero, List.set_cons_succ]))
                  (refine wpAnyH_ready (rs := [10]) (by kernel_rfl) (by simp) ?_; refine AllReadyH.cons rfl (fun K hK => ?_) AllReadyH.nil; go_simp)
                  go_at_call 135
                  refine (HIJ.out (some ⟨g4, 0, none⟩) c4 base _ ra w4 HC4.out HI4.out (fun hn bb off t e he => by
                    have h1 := HL4.out bb (by rw [e]; rfl)
                    have h2 : bb < wo.heap.size := (HLA.out.lt bb he).2
                    omega) ⟨g4, 0, rfl, fun _ => by have h1 := HL4.out g4 rfl; omega⟩ HLA4.out (by omega) (by omega)).mono ?_
                  rintro e w5 ⟨v5, new5, rfl, hown5, hkey5, hfr5, hat5⟩
                  have HO5 := Lib.hid (show OwnW w5 base v5 (rs ++ (new ++ new5)) by rw [← List.append_assoc, HRA.out]; exact hown5)
                  have HK5 := Lib.hid (show NewK base (new ++ new5) (metP f n b (j + 1)) from ⟨by rw [List.map_append, HKY.out.1, hkey5.1, HSU.out], fun r hr => (List.mem_append.1 hr).elim (HKY.out.2 r) (hkey5.2 r)⟩)
                  have HF5 := Lib.hid (frm_chain (frm_chain HFR.out (T := fun _ => False) (Frm.pure (show Below wo.heap.size wo w4 from ⟨HB4.out.os, HB4.out.tape, HB4.out.output, HB4.out.size, HB4.out.block⟩) (fun _ => False)) (fun _ _ h => h.elim)) hfr5 (fun g hg hs => by
                    rcases HAT.out g hs with h1 | h1
                    · exact h1
                    · omega))
                  have HT5 := Lib.hid (fun g (hg : v5.ownBlock = some g) => show v.ownBlock = some g ∨ w.heap.size ≤ g by
                    rcases hat5 g hg with h1 | h1
                    · exact HAT.out g h1
                    · exact .inr (by omega))
                  clear hown5 hkey5 hfr5 hat5
                  go_wp2_with fail
                  (refine hK.out _ _ ?_ (fun hHeld2 => ?_); (focus ((try dsimp only); all_goals trivial)); (clear hK K); (try simp only [Act.put, List.getElem_toArray, List.getElem_cons_zero, List.getElem_cons_succ, List.setIfInBounds_toArray, List.set_cons_zero, List.set_cons_succ]))
                  (refine wpAnyH_take (i := 11) (v := ?_) rfl (by kernel_rfl) (by kernel_rfl) (by kernel_rfl) (fun _ _ _ h => h) (Or.inl ⟨by rfl, ?_⟩) (by assumption) ?_; rotate_left; (focus (intro wS hSw; (try dsimp only at hSw); go_simp; (try with_reducible rfl))); (try simp only [Act.put, List.getElem_toArray, List.getElem_cons_zero, List.getElem_cons_succ, List.setIfInBounds_toArray, List.set_cons_zero, List.set_cons_succ]))
                  refine wpAnyH_done (by kernel_rfl) ?_ _
                  go_wp2_with fail
                  go_roundw
                  case rel => exact ⟨j + 1, new ++ new5, by omega, by rw [← HK.out]; go_num, HO5.out, HK5.out, HF5.out, HT5.out⟩
                  case measure => simp [intOf]; omega
              · as_aux_lemma =>
                go_simp
                have HKC0 := Lib.hid (show (wo.alloc (.cells #[.int .i64 k] 3)).drew.cell? ⟨wo.heap.size, 0, none⟩ = some (.int .i64 k) from cell_new1 wo (.int .i64 k) 3)
                have HBX := Lib.hid (show Below wo.heap.size wo.drew (wo.alloc (.cells #[.int .i64 k] 3)).drew from HBX.out.alloc HBX.out.size (.cells #[.int .i64 k] 3))
                have hgl : wo.heap.size < (wo.alloc (.cells #[.int .i64 k] 3)).drew.heap.size := by show wo.heap.size < (wo.alloc _).heap.size; simp
                (refine hK.out _ _ ?_ (fun hHeld2 => ?_); (focus ((try dsimp only); all_goals trivial)); (clear hK K); (try simp only [Act.put, List.getElem_toArray, List.getElem_cons_zero, List.getElem_cons_succ, List.setIfInBounds_toArray, List.set_cons_zero, List.set_cons_succ]))
                generalize (wo.alloc (.cells #[.int .i64 k] 3)).drew = w1 at *
                (refine wpAnyH_ready (rs := [3]) (by kernel_rfl) (by simp) ?_; refine AllReadyH.cons rfl (fun K hK => ?_) AllReadyH.nil; go_simp)
                have HOE := Lib.hid (OwnI.empty_at w1 wo.heap.size w1.heap.size rfl (by omega))
                have HKC1 := Lib.hid ((((Below.refl w1.heap.size w1).alloc (Nat.le_refl _) (.cells #[] 3)).cell (p := ⟨wo.heap.size, 0, none⟩) hgl).trans HKC0.out)
                have HBX := Lib.hid (HBX.out.alloc HBX.out.size (.cells #[] 3))
                have hgl2 : wo.heap.size < (w1.alloc (.cells #[] 3)).heap.size := by simp; omega
                (refine hK.out _ _ ?_ (fun hHeld2 => ?_); (focus ((try dsimp only); all_goals trivial)); (clear hK K); (try simp only [Act.put, List.getElem_toArray, List.getElem_cons_zero, List.getElem_cons_succ, List.setIfInBounds_toArray, List.set_cons_zero, List.set_cons_succ]))
                generalize w1.alloc (.cells #[] 3) = w2 at *
                refine wpAnyH_ready (rs := [5]) (by kernel_rfl) (by simp) ?_
                refine AllReadyH.cons rfl (fun K hK => ?_) AllReadyH.nil
                refine step_append_ints (by rfl) _ _ (by rfl) wo.heap.size _ [] (by rfl) HOE.out bb ob c b (by rfl) (fun i hi => (HBX.out.cell (p := ⟨bb, ob + i, none⟩) (HBL.out (by omega))).trans (HCB.out i hi)) (by simp; omega) HBX.out.size ?_
                intro v2 w3 hown2 hb2 hgr2
                rw [List.nil_append] at hown2
                obtain ⟨A2, c2, rfl⟩ := hown2.form
                have HOI := Lib.hid hown2
                have HBX := Lib.hid (HBX.out.trans hb2)
                (try simp only [Act.put, List.getElem_toArray, List.getElem_cons_zero, List.getElem_cons_succ, List.setIfInBounds_toArray, List.set_cons_zero, List.set_cons_succ])
                have HKC := Lib.hid ((hgr2.cell_far ⟨wo.heap.size, 0, none⟩ hgl2 (fun h => by have h2 : wo.heap.size = w1.heap.size := Option.some.inj h; omega)).trans HKC1.out)
                clear hown2 hb2 hgr2
                (refine hK.out _ _ ?_ (fun hHeld2 => ?_); (focus ((try dsimp only); all_goals trivial)); (clear hK K); (try simp only [Act.put, List.getElem_toArray, List.getElem_cons_zero, List.getElem_cons_succ, List.setIfInBounds_toArray, List.set_cons_zero, List.set_cons_succ]))
                refine wpAnyH_ready (rs := [8]) (by kernel_rfl) (by simp) ?_
                refine AllReadyH.cons rfl (fun K hK => ?_) AllReadyH.nil
                refine step_append_int (by rfl) _ _ (by rfl) wo.heap.size _ b (by rfl) HOI.out _ (k : Int) (by rfl) HKC.out (by omega) HBX.out.size ?_
                intro v4 w4 hown4 hb4
                obtain ⟨A4, c4, rfl⟩ := hown4.form
                have HB4 := Lib.hid (HBX.out.trans hb4)
                have HI4 := Lib.hid (hown4.ints (fun x hx => by
                  rcases List.mem_append.1 hx with h | h
                  · exact HF.out x h
                  · rw [List.mem_singleton] at h; subst h; unfold Fits; omega))
                have HC4 := Lib.hid (OwnI.capM hown4)
                have HL4 := Lib.hid (fun g hg => (hown4.lt g hg).1)
                have hsome4 : ∃ g, A4 = some ⟨g, 0, none⟩ := by
                  rcases hown4.2 with ⟨hv, h0⟩ | ⟨g, cap', cur, hv, _⟩
                  · rw [List.length_append, List.length_singleton] at h0; omega
                  · injection hv with h1; exact ⟨g, h1⟩
                obtain ⟨g4, hA4⟩ := hsome4
                subst hA4
                clear hown4 hb4
                generalize b ++ [(k : Int)] = bk at *
                have hz4 : wo.heap.size ≤ w4.heap.size := HB4.out.size
                have HLA4 := Lib.hid (HLA.out.drew.lift (show Below wo.drew.heap.size wo.drew w4 from HB4.out))
                (try simp only [Act.put, List.getElem_toArray, List.getElem_cons_zero, List.getElem_cons_succ, List.setIfInBounds_toArray, List.set_cons_zero, List.set_cons_succ])
                (refine hK.out _ _ ?_ (fun hHeld2 => ?_); (focus ((try dsimp only); all_goals trivial)); (clear hK K); (try simp only [Act.put, List.getElem_toArray, List.getElem_cons_zero, List.getElem_cons_succ, List.setIfInBounds_toArray, List.set_cons_zero, List.set_cons_succ]))
                (refine wpAnyH_ready (rs := [10]) (by kernel_rfl) (by simp) ?_; refine AllReadyH.cons rfl (fun K hK => ?_) AllReadyH.nil; go_simp)
                go_at_call 135
                refine (HIJ.out (some ⟨g4, 0, none⟩) c4 base _ ra w4 HC4.out HI4.out (fun hn bb off t e he => by
                  have h1 := HL4.out bb (by rw [e]; rfl)
                  have h2 : bb < wo.heap.size := (HLA.out.lt bb he).2
                  omega) ⟨g4, 0, rfl, fun _ => by have h1 := HL4.out g4 rfl; omega⟩ HLA4.out (by omega) (by omega)).mono ?_
                rintro e w5 ⟨v5, new5, rfl, hown5, hkey5, hfr5, hat5⟩
                have HO5 := Lib.hid (show OwnW w5 base v5 (rs ++ (new ++ new5)) by rw [← List.append_assoc, HRA.out]; exact hown5)
                have HK5 := Lib.hid (show NewK base (new ++ new5) (metP f n b (j + 1)) from ⟨by rw [List.map_append, HKY.out.1, hkey5.1, HSU.out], fun r hr => (List.mem_append.1 hr).elim (HKY.out.2 r) (hkey5.2 r)⟩)
                have HF5 := Lib.hid (frm_chain (frm_chain HFR.out (T := fun _ => False) (Frm.pure (show Below wo.heap.size wo w4 from ⟨HB4.out.os, HB4.out.tape, HB4.out.output, HB4.out.size, HB4.out.block⟩) (fun _ => False)) (fun _ _ h => h.elim)) hfr5 (fun g hg hs => by
                  rcases HAT.out g hs with h1 | h1
                  · exact h1
                  · omega))
                have HT5 := Lib.hid (fun g (hg : v5.ownBlock = some g) => show v.ownBlock = some g ∨ w.heap.size ≤ g by
                  rcases hat5 g hg with h1 | h1
                  · exact HAT.out g h1
                  · exact .inr (by omega))
                clear hown5 hkey5 hfr5 hat5
                go_wp2_with fail
                (refine hK.out _ _ ?_ (fun hHeld2 => ?_); (focus ((try dsimp only); all_goals trivial)); (clear hK K); (try simp only [Act.put, List.getElem_toArray, List.getElem_cons_zero, List.getElem_cons_succ, List.setIfInBounds_toArray, List.set_cons_zero, List.set_cons_succ]))
                (refine wpAnyH_take (i := 11) (v := ?_) rfl (by kernel_rfl) (by kernel_rfl) (by kernel_rfl) (fun _ _ _ h => h) (Or.inl ⟨by rfl, ?_⟩) (by assumption) ?_; rotate_left; (focus (intro wS hSw; (try dsimp only at hSw); go_simp; (try with_reducible rfl))); (try simp only [Act.put, List.getElem_toArray, List.getElem_cons_zero, List.getElem_cons_succ, List.setIfInBounds_toArray, List.set_cons_zero, List.set_cons_succ]))
                refine wpAnyH_done (by kernel_rfl) ?_ _
                go_wp2_with fail
                go_roundw
                case rel => exact ⟨j + 1, new ++ new5, by omega, by rw [← HK.out]; go_num, HO5.out, HK5.out, HF5.out, HT5.out⟩
                case measure => simp [intOf]; omega
            · have HSU := Lib.hid (metP_no (f := f) (b := b) hd)
              have hmz : ((n % (j + 2) : Nat) : Int) ≠ 0 := by omega
              generalize n % (j + 2) = m at *
              have hme : ((m : Int) == 0) = false := beq_eq_false_iff_ne.2 hmz
              generalize hk : j + 2 = k at *
              have HK := Lib.hid hk
              clear hk
              go_wp2_with fail
              go_roundw
              case rel => exact ⟨j + 1, new, by omega, by rw [← HK.out]; go_num, by rw [HRA.out]; exact HLA.out, ⟨HKY.out.1.trans HSU.out.symm, HKY.out.2⟩, HFR.out, HAT.out⟩
              case measure => simp [intOf]; omega
          · have hje : j = 6 := by omega
            subst hje
            go_wp2_with fail
            go_ret
            rw [HGO.out]
            exact ⟨_, new, rfl, by rw [HRA.out]; exact HLA.out, HKY.out, HVV.out ▸ HFR.out, HVV.out ▸ HAT.out⟩

end Go.Proofs.YthookknmeajojaaGreatDoor
