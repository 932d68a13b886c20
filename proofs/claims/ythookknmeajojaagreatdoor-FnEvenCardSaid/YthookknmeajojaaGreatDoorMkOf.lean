/-
  MakeOf of the reference: a rhythm of a given size.
-/
import Derived.Test.YthookknmeajojaaGreatDoorDraw
namespace Go.Proofs.YthookknmeajojaaGreatDoor
open Go.RowKit
set_option linter.unusedVariables false
set_option linter.unusedSimpArgs false

theorem OwnI.capD_ {w : World} {base : Nat} {A : Option Addr} {cap : Nat} {xs : List Int} (h : OwnI w base (.slice A xs.length cap) xs) : xs.length ≤ cap := by
  rcases h.2 with ⟨hv, h0⟩ | ⟨g, cap', cur, hv, _, hh, hnc, hm, hsz, hxs⟩
  · omega
  · injection hv with _ _ h3; omega

set_option maxRecDepth 100000 in
set_option maxHeartbeats 2000000 in
theorem spec_MakeOf_twoC (A : Option Addr) (cap : Nat) (xs : List Int) (n N : Nat) (w : World) (hB : Byt w w.heap.size A xs) (hn : n ≤ 1000) (hN : 2 ≤ N) (hN2 : N ≤ 24) :
    Calls Tryz.prog 16 #[.slice A xs.length cap, .int .i64 n, .int .i64 N] w fun e w' => (∃ bs A' c, e = .returned (.agg #[.int .i64 N, .slice A' bs.length c]) ∧ RhOk N bs ∧ bs.length ≤ c ∧ RW w' (w.heap.size + 1) A' bs) ∧ Below w.heap.size w w' := by
  have HN := Lib.hid (fun V hV => spec_l31New_any A cap xs n V hV hn)
  have HBL := Lib.hid (hB.lift ((Below.refl w.heap.size w).alloc (Nat.le_refl _) (.cells #[.int .i64 0, .slice none 0 0] 26)))
  have HR0 := Lib.hid (Cells2.new w (.int .i64 0) (.slice none 0 0) 26)
  have hmn : min (N : Int) 24 = N := by omega
  have hmx : max 1 (N : Int) = N := by omega
  have hN1 : 1 ≤ N := by omega
  have hm1 : (1 : Int) < (N : Int) := by omega
  have hm2 : ¬ (N : Int) < 1 := by omega
  have hm4 : 1 < N := by omega
  have hm3 : ¬ (24 : Int) < (N : Int) := by omega
  clear hB
  go_enter Tryz.func16, Tryz.ntmps16
  go_wp2_with fail
  refine (HN.out _ HBL.out).mono ?_
  rintro e w1 ⟨g, rfl, hg, hc, hb⟩
  simp only [World.size_alloc] at hg
  have HB1 := Lib.hid (((Below.refl w.heap.size w).alloc (Nat.le_refl _) (.cells #[.int .i64 0, .slice none 0 0] 26)).trans (hb.mono (by simp)))
  have HR1 := Lib.hid (HR0.out.below hb (by simp))
  have HC1 := Lib.hid hc
  have hgw : g < w1.heap.size := hc.2.1
  clear hc hb
  have HQ := Lib.hid (Cells2.new w1 (.int .i64 N) (.slice none 0 0) 26)
  have HB2 := Lib.hid (HB1.out.alloc HB1.out.size (.cells #[.int .i64 N, .slice none 0 0] 26))
  have HR2 := Lib.hid (HR1.out.alloc (.cells #[.int .i64 N, .slice none 0 0] 26))
  have HC2 := Lib.hid (HC1.out.frm (Frm.pure ((Below.refl w1.heap.size w1).alloc (Nat.le_refl _) (.cells #[.int .i64 N, .slice none 0 0] 26)) (fun _ => False)) (fun _ h => h.elim))
  go_wp2_with fail
  go_loopw [9] (fun p wr => ∃ (k : Nat) (v : Value) (bs : List Int), k ≤ N ∧ p = .int .i64 k ∧ Upto bs k ∧ OwnI wr (w1.heap.size + 1) v bs ∧ Cells2 wr w1.heap.size (.int .i64 N) v ∧ Cells2 wr w.heap.size (.int .i64 0) (.slice none 0 0) ∧ Cur wr g A cap xs ∧ Below w.heap.size w wr ∧ w1.heap.size < wr.heap.size) (fun p _ => N - (intOf p).toNat)
  case atStart => exact ⟨0, _, [], Nat.zero_le _, rfl, ⟨Nat.zero_le _, (fun i h => absurd h (Nat.not_lt_zero _)), (fun i h => absurd h (Nat.not_lt_zero _))⟩, OwnI.nil _ _, HQ.out, HR2.out, HC2.out, HB2.out, by simp⟩
  case round =>
    obtain ⟨k, v, bs, hk, rfl, hup, hown, hq2, hr2, hcur, hbel, hqs⟩ := hrel
    obtain ⟨wo, rfl⟩ : ∃ wo : World, wo = wr := ⟨_, rfl⟩
    have HUP := Lib.hid hup
    have HOW := Lib.hid hown
    have HQ2 := Lib.hid hq2
    have HRR := Lib.hid hr2
    have HCU := Lib.hid hcur
    have HBR := Lib.hid hbel
    obtain ⟨A5, c5, rfl⟩ := hown.form
    obtain ⟨q, hq⟩ : ∃ q, w1.heap.size = q := ⟨_, rfl⟩
    obtain ⟨s0, s1, s2, s3, s4⟩ := HQ2.out
    clear hown hq2 hr2 hcur hbel hq
    by_cases hlt : k < N
    · go_wp2_with fail
      refine (spec_l01Once_any g A cap xs 2 _ HCU.out (by decide) (by decide)).mono ?_
      rintro e w2 ⟨⟨b, rfl⟩, hc2, hf2⟩
      have HC3 := Lib.hid hc2
      have HB3 := Lib.hid (HBR.out.trans (hf2.below (fun c hc => by subst hc; omega) HBR.out.size))
      have HQ3 := Lib.hid (HQ2.out.frm hf2 (by omega))
      have HR3 := Lib.hid (HRR.out.frm hf2 (by omega))
      have HO3 := Lib.hid (HOW.out.frm hf2 (fun c hc e => by omega))
      have hz2 := hf2.size
      clear hc2 hf2 s0 s1 s2 s3 s4
      cases b
      · obtain ⟨s0, s1, s2, s3, s4⟩ := HQ3.out
        go_wp2_with fail
        go_roundw
        case rel => exact ⟨k + 1, _, bs, by omega, by go_num, HUP.out.step, HO3.out, HQ3.out, HR3.out, HC3.out, HB3.out, by omega⟩
        case measure => simp [intOf]; omega
      · obtain ⟨s0, s1, s2, s3, s4⟩ := HQ3.out
        have hbl : bs.length ≤ 24 := by have := HUP.out.1; omega
        go_wp2_with (at_builtin; refine wpList_append_int rfl (.tmp 26) (.tmp 28) rfl (w1.heap.size + 1) _ bs rfl (HO3.out.alloc _) w2.heap.size k (by rfl) (cell_new1 _ _ _) (by omega) (by simp only [World.size_alloc]; omega) ?_; intro v' w4 hown4 hb4; obtain ⟨bs', hbs'⟩ : ∃ bs', bs ++ [(k : Int)] = bs' := ⟨_, rfl⟩; rw [hbs'] at hown4; have HBS := Lib.hid hbs'; clear hbs'; obtain ⟨A6, c6, rfl⟩ := hown4.form; have hz4 := hb4.size; simp only [World.size_alloc] at hz4; obtain ⟨s0, s1, s2, s3, s4⟩ := (HQ3.out.alloc (.cells #[.int .i64 k] 3)).below hb4 (Nat.lt_succ_self _))
        have HO4 := Lib.hid (hown4.far (p := ⟨w1.heap.size, 1, none⟩) (Nat.lt_succ_self _) (.slice A6 bs'.length c6))
        have HQ4 := Lib.hid (((HQ3.out.alloc (.cells #[.int .i64 k] 3)).below hb4 (Nat.lt_succ_self _)).set1 (.slice A6 bs'.length c6))
        have HR4 := Lib.hid (((HR3.out.alloc (.cells #[.int .i64 k] 3)).below hb4 (by omega)).far (p := ⟨w1.heap.size, 1, none⟩) (by simp; omega) (.slice A6 bs'.length c6))
        have HF4 := Lib.hid ((Frm.of_below (S := fun c => w1.heap.size ≤ c) (((Below.refl w1.heap.size w2).alloc (by omega) (.cells #[.int .i64 k] 3)).trans (hb4.mono (by omega))) (fun c h1 h2 => h2)).setCell (p := ⟨w1.heap.size, 1, none⟩) (Nat.le_refl _) (.slice A6 bs'.length c6))
        have HC4 := Lib.hid (HC3.out.frm HF4.out (fun c hc => by omega))
        have HBB := Lib.hid ((((HB3.out.alloc (by omega) (.cells #[.int .i64 k] 3)).trans (hb4.mono (by omega)))).setCell (p := ⟨w1.heap.size, 1, none⟩) (by show w.heap.size ≤ w1.heap.size; omega) (.slice A6 bs'.length c6))
        clear hown4 hb4
        go_wp2_with fail
        go_roundw
        case rel =>
          exact ⟨k + 1, .slice A6 bs'.length c6, bs', by omega, by go_num, by rw [← HBS.out]; exact HUP.out.snoc, HO4.out, HQ4.out, HR4.out, HC4.out, HBB.out, by simp [World.setCell]; omega⟩
        case measure => simp [intOf]; omega
    · have hke : k = N := by omega
      subst hke
      obtain ⟨t0, t1, t2, t3, t4⟩ := HRR.out
      go_wp2_with fail
      refine bodyPost_ret (v := .agg #[.int .i64 k, .slice A5 bs.length c5]) (by simp [results, Tryz.results16, go_sem, t0, t1]) rfl ⟨⟨bs, A5, c5, rfl, HUP.out.rh hN1 (by omega), HOW.out.capD_, ?_⟩, ?_⟩
      · exact (OwnI.rw_ ((HOW.out.far (p := ⟨w.heap.size, 0, none⟩) (by show w.heap.size < _; omega) _).far (p := ⟨w.heap.size, 1, none⟩) (by show w.heap.size < _; omega) _) (by have := HUP.out.1; omega)).mono (by omega)
      · exact (HBR.out.setCell (Nat.le_refl _) _).setCell (Nat.le_refl _) _

set_option maxRecDepth 100000 in
set_option maxHeartbeats 2000000 in
theorem spec_MakeOf_oneC (A : Option Addr) (cap : Nat) (xs : List Int) (n : Nat) (w : World) (hB : Byt w w.heap.size A xs) (hn : n ≤ 1000) :
    Calls Tryz.prog 16 #[.slice A xs.length cap, .int .i64 n, .int .i64 1] w fun e w' => (∃ bs A' c, e = .returned (.agg #[.int .i64 1, .slice A' bs.length c]) ∧ RhOk 1 bs ∧ bs.length ≤ c ∧ RW w' (w.heap.size + 1) A' bs) ∧ Below w.heap.size w w' := by
  have HN := Lib.hid (fun V hV => spec_l31New_any A cap xs n V hV hn)
  have HBL := Lib.hid (hB.lift ((Below.refl w.heap.size w).alloc (Nat.le_refl _) (.cells #[.int .i64 0, .slice none 0 0] 26)))
  have HR0 := Lib.hid (Cells2.new w (.int .i64 0) (.slice none 0 0) 26)
  clear hB
  go_enter Tryz.func16, Tryz.ntmps16
  go_wp2_with fail
  refine (HN.out _ HBL.out).mono ?_
  rintro e w1 ⟨g, rfl, hg, hc, hb⟩
  simp only [World.size_alloc] at hg
  have HB1 := Lib.hid (((Below.refl w.heap.size w).alloc (Nat.le_refl _) (.cells #[.int .i64 0, .slice none 0 0] 26)).trans (hb.mono (by simp)))
  have HR1 := Lib.hid (HR0.out.below hb (by simp))
  have HC1 := Lib.hid hc
  have hgw : g < w1.heap.size := hc.2.1
  clear hc hb
  have HQ := Lib.hid (Cells2.new w1 (.int .i64 1) (.slice none 0 0) 26)
  have HB2 := Lib.hid (HB1.out.alloc HB1.out.size (.cells #[.int .i64 1, .slice none 0 0] 26))
  have HR2 := Lib.hid (HR1.out.alloc (.cells #[.int .i64 1, .slice none 0 0] 26))
  have HC2 := Lib.hid (HC1.out.frm (Frm.pure ((Below.refl w1.heap.size w1).alloc (Nat.le_refl _) (.cells #[.int .i64 1, .slice none 0 0] 26)) (fun _ => False)) (fun _ h => h.elim))
  go_wp2_with fail
  go_loopw [9] (fun p wr => ∃ (k : Nat) (v : Value) (bs : List Int), k ≤ 1 ∧ p = .int .i64 k ∧ Upto bs k ∧ OwnI wr (w1.heap.size + 1) v bs ∧ Cells2 wr w1.heap.size (.int .i64 1) v ∧ Cells2 wr w.heap.size (.int .i64 0) (.slice none 0 0) ∧ Cur wr g A cap xs ∧ Below w.heap.size w wr ∧ w1.heap.size < wr.heap.size) (fun p _ => 1 - (intOf p).toNat)
  case atStart => exact ⟨0, _, [], Nat.zero_le _, rfl, ⟨Nat.zero_le _, (fun i h => absurd h (Nat.not_lt_zero _)), (fun i h => absurd h (Nat.not_lt_zero _))⟩, OwnI.nil _ _, HQ.out, HR2.out, HC2.out, HB2.out, by simp⟩
  case round =>
    obtain ⟨k, v, bs, hk, rfl, hup, hown, hq2, hr2, hcur, hbel, hqs⟩ := hrel
    obtain ⟨wo, rfl⟩ : ∃ wo : World, wo = wr := ⟨_, rfl⟩
    have HUP := Lib.hid hup
    have HOW := Lib.hid hown
    have HQ2 := Lib.hid hq2
    have HRR := Lib.hid hr2
    have HCU := Lib.hid hcur
    have HBR := Lib.hid hbel
    obtain ⟨A5, c5, rfl⟩ := hown.form
    obtain ⟨q, hq⟩ : ∃ q, w1.heap.size = q := ⟨_, rfl⟩
    obtain ⟨s0, s1, s2, s3, s4⟩ := HQ2.out
    clear hown hq2 hr2 hcur hbel hq
    by_cases hlt : k < 1
    · go_wp2_with fail
      refine (spec_l01Once_any g A cap xs 2 _ HCU.out (by decide) (by decide)).mono ?_
      rintro e w2 ⟨⟨b, rfl⟩, hc2, hf2⟩
      have HC3 := Lib.hid hc2
      have HB3 := Lib.hid (HBR.out.trans (hf2.below (fun c hc => by subst hc; omega) HBR.out.size))
      have HQ3 := Lib.hid (HQ2.out.frm hf2 (by omega))
      have HR3 := Lib.hid (HRR.out.frm hf2 (by omega))
      have HO3 := Lib.hid (HOW.out.frm hf2 (fun c hc e => by omega))
      have hz2 := hf2.size
      clear hc2 hf2 s0 s1 s2 s3 s4
      cases b
      · obtain ⟨s0, s1, s2, s3, s4⟩ := HQ3.out
        go_wp2_with fail
        go_roundw
        case rel => exact ⟨k + 1, _, bs, by omega, by go_num, HUP.out.step, HO3.out, HQ3.out, HR3.out, HC3.out, HB3.out, by omega⟩
        case measure => simp [intOf]; omega
      · obtain ⟨s0, s1, s2, s3, s4⟩ := HQ3.out
        have hbl : bs.length ≤ 24 := by have := HUP.out.1; omega
        go_wp2_with (at_builtin; refine wpList_append_int rfl (.tmp 26) (.tmp 28) rfl (w1.heap.size + 1) _ bs rfl (HO3.out.alloc _) w2.heap.size k (by rfl) (cell_new1 _ _ _) (by omega) (by simp only [World.size_alloc]; omega) ?_; intro v' w4 hown4 hb4; obtain ⟨bs', hbs'⟩ : ∃ bs', bs ++ [(k : Int)] = bs' := ⟨_, rfl⟩; rw [hbs'] at hown4; have HBS := Lib.hid hbs'; clear hbs'; obtain ⟨A6, c6, rfl⟩ := hown4.form; have hz4 := hb4.size; simp only [World.size_alloc] at hz4; obtain ⟨s0, s1, s2, s3, s4⟩ := (HQ3.out.alloc (.cells #[.int .i64 k] 3)).below hb4 (Nat.lt_succ_self _))
        have HO4 := Lib.hid (hown4.far (p := ⟨w1.heap.size, 1, none⟩) (Nat.lt_succ_self _) (.slice A6 bs'.length c6))
        have HQ4 := Lib.hid (((HQ3.out.alloc (.cells #[.int .i64 k] 3)).below hb4 (Nat.lt_succ_self _)).set1 (.slice A6 bs'.length c6))
        have HR4 := Lib.hid (((HR3.out.alloc (.cells #[.int .i64 k] 3)).below hb4 (by omega)).far (p := ⟨w1.heap.size, 1, none⟩) (by simp; omega) (.slice A6 bs'.length c6))
        have HF4 := Lib.hid ((Frm.of_below (S := fun c => w1.heap.size ≤ c) (((Below.refl w1.heap.size w2).alloc (by omega) (.cells #[.int .i64 k] 3)).trans (hb4.mono (by omega))) (fun c h1 h2 => h2)).setCell (p := ⟨w1.heap.size, 1, none⟩) (Nat.le_refl _) (.slice A6 bs'.length c6))
        have HC4 := Lib.hid (HC3.out.frm HF4.out (fun c hc => by omega))
        have HBB := Lib.hid ((((HB3.out.alloc (by omega) (.cells #[.int .i64 k] 3)).trans (hb4.mono (by omega)))).setCell (p := ⟨w1.heap.size, 1, none⟩) (by show w.heap.size ≤ w1.heap.size; omega) (.slice A6 bs'.length c6))
        clear hown4 hb4
        go_wp2_with fail
        go_roundw
        case rel =>
          exact ⟨k + 1, .slice A6 bs'.length c6, bs', by omega, by go_num, by rw [← HBS.out]; exact HUP.out.snoc, HO4.out, HQ4.out, HR4.out, HC4.out, HBB.out, by simp [World.setCell]; omega⟩
        case measure => simp [intOf]; omega
    · have hke : k = 1 := by omega
      subst hke
      obtain ⟨t0, t1, t2, t3, t4⟩ := HRR.out
      go_wp2_with fail
      refine bodyPost_ret (v := .agg #[.int .i64 1, .slice A5 bs.length c5]) (by simp [results, Tryz.results16, go_sem, t0, t1]) rfl ⟨⟨bs, A5, c5, rfl, HUP.out.rh (by omega) (by omega), HOW.out.capD_, ?_⟩, ?_⟩
      · exact (OwnI.rw_ ((HOW.out.far (p := ⟨w.heap.size, 0, none⟩) (by show w.heap.size < _; omega) _).far (p := ⟨w.heap.size, 1, none⟩) (by show w.heap.size < _; omega) _) (by have := HUP.out.1; omega)).mono (by omega)
      · exact (HBR.out.setCell (Nat.le_refl _) _).setCell (Nat.le_refl _) _

theorem spec_MakeOf_cap (A : Option Addr) (cap : Nat) (xs : List Int) (n N : Nat) (w : World) (hB : Byt w w.heap.size A xs) (hn : n ≤ 1000) (hN1 : 1 ≤ N) (hN2 : N ≤ 24) :
    Calls Tryz.prog 16 #[.slice A xs.length cap, .int .i64 n, .int .i64 N] w fun e w' => (∃ bs A' c, e = .returned (.agg #[.int .i64 N, .slice A' bs.length c]) ∧ RhOk N bs ∧ bs.length ≤ c ∧ RW w' (w.heap.size + 1) A' bs) ∧ Below w.heap.size w w' := by
  by_cases h : N = 1
  · subst h
    exact spec_MakeOf_oneC A cap xs n w hB hn
  · exact spec_MakeOf_twoC A cap xs n N w hB hn (by omega) hN2

theorem spec_MakeOf_any (A : Option Addr) (cap : Nat) (xs : List Int) (n N : Nat) (w : World) (hB : Byt w w.heap.size A xs) (hn : n ≤ 1000) (hN1 : 1 ≤ N) (hN2 : N ≤ 24) :
    Calls Tryz.prog 16 #[.slice A xs.length cap, .int .i64 n, .int .i64 N] w fun e w' => (∃ bs A' c, e = .returned (.agg #[.int .i64 N, .slice A' bs.length c]) ∧ RhOk N bs ∧ RW w' (w.heap.size + 1) A' bs) ∧ Below w.heap.size w w' :=
  (spec_MakeOf_cap A cap xs n N w hB hn hN1 hN2).mono fun _ _ h => by
    obtain ⟨⟨bs, A2, c2, h1, h2, _, h4⟩, h5⟩ := h
    exact ⟨⟨bs, A2, c2, h1, h2, h4⟩, h5⟩

end Go.Proofs.YthookknmeajojaaGreatDoor
