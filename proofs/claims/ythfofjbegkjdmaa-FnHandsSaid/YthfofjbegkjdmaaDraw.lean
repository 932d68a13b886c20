/-
  The reference's drawn rhythms: MakeRhythm hands back a rhythm that is one.
-/
import Derived.Test.YthfofjbegkjdmaaCur
import Derived.Test.YthfofjbegkjdmaaCells
import Derived.Test.YthfofjbegkjdmaaRw
namespace Go.Proofs.Ythfofjbegkjdmaa
open Go.RowKit
set_option linter.unusedVariables false
set_option linter.unusedSimpArgs false

set_option maxHeartbeats 1000000 in
theorem spec_l01Below_any (g : Nat) (A : Option Addr) (cap : Nat) (xs : List Int) (n : Nat) (w : World) (hC : Cur w g A cap xs) (h1 : 1 ≤ n) (h2 : n ≤ 256) :
    Calls Try.prog 53 #[.pointer (some ⟨g, 0, none⟩), .int .i64 n] w fun e w' => (∃ x : Nat, e = .returned (.int .i64 x) ∧ x < n) ∧ Cur w' g A cap xs ∧ Frm (fun c => c = g) w w' := by
  have HB := Lib.hid (spec_l01Byte_any g A cap xs w hC)
  have hn0 : ¬ (n : Int) ≤ 0 := by omega
  have hn2 : (n : Int) ≤ 256 := by omega
  have hnz : ((n : Int) = 0) = False := by rw [eq_iff_iff, iff_false]; omega
  have hnn : ¬ n = 0 := by omega
  clear hC
  go_enter Try.func53, Try.ntmps53
  go_wp2_with fail
  refine HB.out.mono ?_
  rintro e w1 ⟨⟨x, rfl, hx0, hx1⟩, hc1, hf1⟩
  obtain ⟨x, rfl⟩ := Int.eq_ofNat_of_zero_le hx0
  have hr : x % n < n := Nat.mod_lt _ (by omega)
  go_wp2_with fail
  go_ret
  exact ⟨⟨x % n, by rw [Int.natCast_emod]; rfl, hr⟩, hc1, hf1⟩

set_option maxHeartbeats 1000000 in
theorem spec_l01Once_any (g : Nat) (A : Option Addr) (cap : Nat) (xs : List Int) (n : Nat) (w : World) (hC : Cur w g A cap xs) (h1 : 1 ≤ n) (h2 : n ≤ 256) :
    Calls Try.prog 42 #[.pointer (some ⟨g, 0, none⟩), .int .i64 n] w fun e w' => (∃ b : Bool, e = .returned (.bool b)) ∧ Cur w' g A cap xs ∧ Frm (fun c => c = g) w w' := by
  have HB := Lib.hid (spec_l01Below_any g A cap xs n w hC h1 h2)
  clear hC
  go_enter Try.func42, Try.ntmps42
  go_wp2_with fail
  refine HB.out.mono ?_
  rintro e w1 ⟨⟨x, rfl, hx⟩, hc1, hf1⟩
  go_wp2_with fail
  go_ret
  exact ⟨⟨_, rfl⟩, hc1, hf1⟩

theorem OwnI.frm {w w' : World} {base : Nat} {v : Value} {xs : List Int} {S : Nat → Prop} (h : OwnI w base v xs) (hf : Frm S w w') (hS : ∀ c, base ≤ c → ¬ S c) : OwnI w' base v xs := by
  refine ⟨h.1, ?_⟩
  rcases h.2 with h0 | ⟨g, cap, cur, e, hg, hh, rest⟩
  · exact .inl h0
  · have hlt : g < w.heap.size := (Array.getElem?_eq_some_iff.1 hh).1
    exact .inr ⟨g, cap, cur, e, hg, by rw [hf.block g hlt (hS g hg)]; exact hh, rest⟩
theorem Cells2.frm {w w' : World} {g : Nat} {u v : Value} {S : Nat → Prop} (h : Cells2 w g u v) (hf : Frm S w w') (hS : ¬ S g) : Cells2 w' g u v :=
  ⟨(hf.cell h.2.2.2.2 hS).trans h.1, (hf.cell h.2.2.2.2 hS).trans h.2.1, (hf.frozen h.2.2.2.2 hS).trans h.2.2.1, (hf.frozen h.2.2.2.2 hS).trans h.2.2.2.1, Nat.lt_of_lt_of_le h.2.2.2.2 hf.size⟩

/-- What lies from q on was not there at first. -/
theorem frm_below_new {S : Nat → Prop} {w w1 w2 : World} {q : Nat} (h : Frm S w w1) (hb : Below q w1 w2) (hq : w.heap.size ≤ q) : Frm S w w2 :=
  ⟨hb.os.trans h.os, hb.tape.trans h.tape, hb.output.trans h.output, Nat.le_trans h.size hb.size, fun c hc hS => (hb.block c (by omega)).trans (h.block c hc hS)⟩

/-- Pulses below k, one after another. -/
def Upto (bs : List Int) (k : Nat) : Prop := bs.length ≤ k ∧ (∀ i, i < bs.length → 0 ≤ bs.getD i 0 ∧ bs.getD i 0 < k) ∧ ∀ i, i + 1 < bs.length → bs.getD i 0 < bs.getD (i + 1) 0
theorem Upto.step {bs : List Int} {k : Nat} (h : Upto bs k) : Upto bs (k + 1) := ⟨by have := h.1; omega, fun i hi => by have := h.2.1 i hi; omega, h.2.2⟩
theorem Upto.snoc {bs : List Int} {k : Nat} (h : Upto bs k) : Upto (bs ++ [(k : Int)]) (k + 1) := by
  have e1 : ∀ i, i < bs.length → (bs ++ [(k : Int)]).getD i 0 = bs.getD i 0 := fun i hi => by
    rw [List.getD_eq_getElem?_getD, List.getD_eq_getElem?_getD, List.getElem?_append_left hi]
  have e2 : (bs ++ [(k : Int)]).getD bs.length 0 = k := by rw [List.getD_eq_getElem?_getD, List.getElem?_append_right (Nat.le_refl _)]; simp
  refine ⟨by have := h.1; simp; omega, fun i hi => ?_, fun i hi => ?_⟩
  · rw [List.length_append] at hi
    by_cases e : i < bs.length
    · rw [e1 i e]; have := h.2.1 i e; omega
    · have : i = bs.length := by simp at hi; omega
      subst this; rw [e2]; omega
  · rw [List.length_append] at hi
    by_cases e : i + 1 < bs.length
    · rw [e1 i (by omega), e1 (i + 1) e]; exact h.2.2 i e
    · have : i + 1 = bs.length := by simp at hi; omega
      rw [this, e2, e1 i (by omega)]
      have := h.2.1 i (by omega); omega
theorem Upto.rh {bs : List Int} {k : Nat} (h : Upto bs k) (h1 : 1 ≤ k) (h2 : k ≤ 24) : RhOk k bs := ⟨by omega, by omega, h.2.1, h.2.2⟩

/-- A rhythm of at most 'most' pulses. -/
def RhA (most : Nat) (w : World) (base : Nat) (v : Value) : Prop :=
  ∃ (N : Nat) (bs : List Int) (A : Option Addr) (c : Nat), v = .agg #[.int .i64 N, .slice A bs.length c] ∧ RhOk N bs ∧ N ≤ most ∧ RW w base A bs ∧ bs.length ≤ c
theorem OwnI.cap_le {w : World} {base : Nat} {A : Option Addr} {cap : Nat} {xs : List Int} (h : OwnI w base (.slice A xs.length cap) xs) : xs.length ≤ cap := by
  rcases h.2 with ⟨hv, h0⟩ | ⟨g, cap', cur, hv, _, hh, hnc, hm, hsz, hxs⟩
  · omega
  · have hc : cap = cap' := by injection hv
    omega

set_option maxRecDepth 100000 in
set_option maxHeartbeats 2000000 in
theorem spec_l02Draw_any (g : Nat) (A : Option Addr) (cap : Nat) (xs : List Int) (most : Nat) (w : World) (hC : Cur w g A cap xs) (h1 : 1 ≤ most) (h2 : most ≤ 24) :
    Calls Try.prog 43 #[.pointer (some ⟨g, 0, none⟩), .int .i64 most] w fun e w' => (∃ v, e = .returned v ∧ RhA most w' (w.heap.size + 1) v) ∧ Frm (fun c => c = g) w w' := by
  have hgw : g < w.heap.size := hC.2.1
  have HB := Lib.hid (fun V (hV : Cur V g A cap xs) => spec_l01Below_any g A cap xs most V hV h1 (by omega))
  have HC := Lib.hid (hC.frm (Frm.pure ((Below.refl w.heap.size w).alloc (Nat.le_refl _) (.cells #[.int .i64 0, .slice none 0 0] 29)) (fun _ => False)) (fun _ h => h.elim))
  have HR0 := Lib.hid (Cells2.new w (.int .i64 0) (.slice none 0 0) 29)
  clear hC
  go_enter Try.func43, Try.ntmps43
  go_wp2_with fail
  refine (HB.out _ HC.out).mono ?_
  rintro e w1 ⟨⟨x, rfl, hx⟩, hc1, hf1⟩
  have hz1 := hf1.size
  simp only [World.size_alloc] at hz1
  have HF1 := Lib.hid (((Frm.refl (fun c => c = g) w).alloc (.cells #[.int .i64 0, .slice none 0 0] 29)).trans hf1)
  have HR1 := Lib.hid (HR0.out.frm hf1 (by omega))
  have HC1 := Lib.hid hc1
  obtain ⟨N, hN⟩ : ∃ N, 1 + x = N := ⟨_, rfl⟩
  have hwx : IntKind.i64.wrap (1 + (x : Int)) = (N : Int) := by rw [← hN, Int.natCast_add]; exact i64w (by omega)
  have hN24 : N ≤ most := by omega
  have hN1 : 1 ≤ N := by omega
  clear hc1 hf1 hN
  go_wp2_with fail
  have HQ := Lib.hid (Cells2.new w1 (.int .i64 N) (.slice none 0 0) 29)
  obtain ⟨W1, hW1⟩ : ∃ W1, w1.alloc (.cells #[.int .i64 N, .slice none 0 0] 29) = W1 := ⟨_, rfl⟩
  have HF2 := Lib.hid (HF1.out.alloc (.cells #[.int .i64 N, .slice none 0 0] 29))
  have HR2 := Lib.hid (HR1.out.alloc (.cells #[.int .i64 N, .slice none 0 0] 29))
  have HC2 := Lib.hid (HC1.out.frm (Frm.pure ((Below.refl w1.heap.size w1).alloc (Nat.le_refl _) (.cells #[.int .i64 N, .slice none 0 0] 29)) (fun _ => False)) (fun _ h => h.elim))
  have hsz : w1.heap.size + 1 = W1.heap.size := by rw [← hW1]; simp
  rw [hW1] at HQ HF2 HR2 HC2
  obtain ⟨q, hq⟩ : ∃ q, w1.heap.size = q := ⟨_, rfl⟩
  rw [hq] at HQ hz1 hsz
  try simp only [hW1, hq]
  have HZ := Lib.hid hsz
  clear hW1 hsz
  go_loopw [7] (fun p wr => ∃ (k : Nat) (v : Value) (bs : List Int), k ≤ N ∧ p = .int .i64 k ∧ Upto bs k ∧ OwnI wr (q + 1) v bs ∧ Cells2 wr q (.int .i64 N) v ∧ Cells2 wr w.heap.size (.int .i64 0) (.slice none 0 0) ∧ Cur wr g A cap xs ∧ Frm (fun c => c = g) w wr ∧ q < wr.heap.size) (fun p _ => N - (intOf p).toNat)
  case atStart => exact ⟨0, _, [], Nat.zero_le _, rfl, ⟨Nat.zero_le _, (fun i h => absurd h (Nat.not_lt_zero _)), (fun i h => absurd h (Nat.not_lt_zero _))⟩, OwnI.nil _ _, HQ.out, HR2.out, HC2.out, HF2.out, by have := HZ.out; omega⟩
  case round =>
    obtain ⟨k, v, bs, hk, rfl, hup, hown, hq2, hr2, hcur, hfrm, hqs⟩ := hrel
    obtain ⟨wo, rfl⟩ : ∃ wo : World, wo = wr := ⟨_, rfl⟩
    have HUP := Lib.hid hup
    have HOW := Lib.hid hown
    have HQ2 := Lib.hid hq2
    have HRR := Lib.hid hr2
    have HCU := Lib.hid hcur
    have HFR := Lib.hid hfrm
    obtain ⟨A5, c5, rfl⟩ := hown.form
    clear hown hq2 hr2 hcur hfrm
    by_cases hlt : k < N
    · go_wp2_with fail
      refine (spec_l01Once_any g A cap xs 2 _ HCU.out (by decide) (by decide)).mono ?_
      rintro e w2 ⟨⟨b, rfl⟩, hc2, hf2⟩
      have HC3 := Lib.hid hc2
      have HF3 := Lib.hid (HFR.out.trans hf2)
      have HQ3 := Lib.hid (HQ2.out.frm hf2 (by omega))
      have HR3 := Lib.hid (HRR.out.frm hf2 (by omega))
      have HO3 := Lib.hid (HOW.out.frm hf2 (fun c hc e => by omega))
      have hz2 := hf2.size
      clear hc2 hf2
      cases b
      · go_wp2_with fail
        go_roundw
        case rel => exact ⟨k + 1, _, bs, by omega, by go_num, HUP.out.step, HO3.out, HQ3.out, HR3.out, HC3.out, HF3.out, by omega⟩
        case measure => simp [intOf]; omega
      · obtain ⟨s0, s1, s2, s3, s4⟩ := HQ3.out
        have hbl : bs.length ≤ 24 := by have := HUP.out.1; omega
        go_wp2_with (at_builtin; refine wpList_append_int rfl (.tmp 22) (.tmp 24) rfl (q + 1) _ bs rfl (HO3.out.alloc _) w2.heap.size k (by rfl) (cell_new1 _ _ _) (by omega) (by simp only [World.size_alloc]; omega) ?_; intro v' w4 hown4 hb4; obtain ⟨bs', hbs'⟩ : ∃ bs', bs ++ [(k : Int)] = bs' := ⟨_, rfl⟩; rw [hbs'] at hown4; have HBS := Lib.hid hbs'; clear hbs'; obtain ⟨A6, c6, rfl⟩ := hown4.form; have hz4 := hb4.size; simp only [World.size_alloc] at hz4; obtain ⟨s0, s1, s2, s3, s4⟩ := (HQ3.out.alloc (.cells #[.int .i64 k] 3)).below hb4 (Nat.lt_succ_self _))
        have HO4 := Lib.hid (hown4.far (p := ⟨q, 1, none⟩) (Nat.lt_succ_self _) (.slice A6 bs'.length c6))
        have HQ4 := Lib.hid (((HQ3.out.alloc (.cells #[.int .i64 k] 3)).below hb4 (Nat.lt_succ_self _)).set1 (.slice A6 bs'.length c6))
        have HR4 := Lib.hid (((HR3.out.alloc (.cells #[.int .i64 k] 3)).below hb4 (by omega)).far (p := ⟨q, 1, none⟩) (by simp; omega) (.slice A6 bs'.length c6))
        have HF4 := Lib.hid ((Frm.of_below (S := fun c => q ≤ c) (((Below.refl q w2).alloc (by omega) (.cells #[.int .i64 k] 3)).trans (hb4.mono (by omega))) (fun c h1 h2 => h2)).setCell (p := ⟨q, 1, none⟩) (Nat.le_refl _) (.slice A6 bs'.length c6))
        have HC4 := Lib.hid (HC3.out.frm HF4.out (fun c hc => by omega))
        have HBB := Lib.hid ((((Below.refl q w2).alloc (by omega) (.cells #[.int .i64 k] 3)).trans (hb4.mono (by omega))).setCell (p := ⟨q, 1, none⟩) (Nat.le_refl _) (.slice A6 bs'.length c6))
        clear hown4 hb4
        go_wp2_with fail
        go_roundw
        case rel =>
          refine ⟨k + 1, .slice A6 bs'.length c6, bs', by omega, by go_num, by rw [← HBS.out]; exact HUP.out.snoc, HO4.out, HQ4.out, HR4.out, HC4.out, ?_, by simp [World.setCell]; omega⟩
          exact frm_below_new HF3.out HBB.out (by omega)
        case measure => simp [intOf]; omega
    · have hke : k = N := by omega
      subst hke
      obtain ⟨s0, s1, s2, s3, s4⟩ := HQ2.out
      obtain ⟨t0, t1, t2, t3, t4⟩ := HRR.out
      go_wp2_with fail
      refine bodyPost_ret (v := .agg #[.int .i64 k, .slice A5 bs.length c5]) (by simp [results, Try.results43, go_sem, t0, t1]) rfl ⟨⟨_, rfl, k, bs, A5, c5, rfl, HUP.out.rh hN1 (by omega), hN24, ?_, OwnI.cap_le HOW.out⟩, ?_⟩
      · exact (OwnI.rw_ ((HOW.out.far (p := ⟨w.heap.size, 0, none⟩) (by show w.heap.size < q + 1; omega) _).far (p := ⟨w.heap.size, 1, none⟩) (by show w.heap.size < q + 1; omega) _) (by have := HUP.out.1; omega)).mono (by omega)
      · exact frm_below_new HFR.out (((Below.refl w.heap.size wo).setCell (Nat.le_refl _) _).setCell (Nat.le_refl _) _) (Nat.le_refl _)

theorem rh_fits {N : Nat} {bs : List Int} (hok : RhOk N bs) : ∀ x ∈ bs, Fits x := fun x hx => by
  obtain ⟨i, hi, rfl⟩ := List.getElem_of_mem hx
  have := hok.2.2.1 i hi
  have := hok.2.1
  rw [List.getD_eq_getElem?_getD, List.getElem?_eq_getElem hi, Option.getD_some] at *
  unfold Fits; omega

set_option maxRecDepth 100000 in
set_option maxHeartbeats 1000000 in
theorem spec_MakeRhythm_any (A : Option Addr) (cap : Nat) (xs : List Int) (n most : Nat) (w : World) (hB : Byt w w.heap.size A xs) (hn : n ≤ 1000) (h1 : 2 ≤ most) (h2 : most ≤ 24) :
    Calls Try.prog 21 #[.slice A xs.length cap, .int .i64 n, .int .i64 most] w fun e w' => (∃ v, e = .returned v ∧ RhA most w' (w.heap.size + 1) v) ∧ Below w.heap.size w w' := by
  have HN := Lib.hid (fun V hV => spec_l31New_any A cap xs n V hV hn)
  have hBL := hB.lift ((Below.refl w.heap.size w).alloc (Nat.le_refl _) (.cells #[.int .i64 0, .slice none 0 0] 29))
  have HBL := Lib.hid hBL
  have HR0 := Lib.hid (Cells2.new w (.int .i64 0) (.slice none 0 0) 29)
  have hmn : min (most : Int) 24 = most := by omega
  have hmx : max 1 (most : Int) = most := by omega
  have hm1 : (1 : Int) < (most : Int) := by omega
  have hm2 : ¬ (most : Int) < 1 := by omega
  have hm3 : 1 < most := by omega
  clear hB hBL
  go_enter Try.func21, Try.ntmps21
  go_wp2_with fail
  refine (HN.out _ HBL.out).mono ?_
  rintro e w1 ⟨g, rfl, hg, hc, hb⟩
  simp only [World.size_alloc] at hg
  have HC := Lib.hid hc
  have HB := Lib.hid (((Below.refl w.heap.size w).alloc (Nat.le_refl _) (.cells #[.int .i64 0, .slice none 0 0] 29)).trans (hb.mono (by simp)))
  have HR1 := Lib.hid (HR0.out.below hb (by simp))
  clear hc hb
  go_wp2_with fail
  refine (spec_l02Draw_any g A cap xs most _ HC.out (by omega) h2).mono ?_
  rintro e w2 ⟨⟨v, rfl, N, bs, A2, c2, rfl, hok, hNm, hI, hcp⟩, hf2⟩
  have HB2 := Lib.hid (HB.out.trans (hf2.below (fun c hc => by subst hc; omega) HB.out.size))
  obtain ⟨t0, t1, t2, t3, t4⟩ := HR1.out.frm hf2 (by omega)
  go_wp2_with fail
  refine bodyPost_ret (v := .agg #[.int .i64 N, .slice A2 bs.length c2]) (by simp [results, Try.results21, go_sem, t0, t1]) rfl ⟨⟨_, rfl, N, bs, A2, c2, rfl, hok, hNm, ?_, hcp⟩, ?_⟩
  · exact ((hI.far (p := ⟨w.heap.size, 0, none⟩) (by show w.heap.size < _; have := HB.out.size; omega) _).far (p := ⟨w.heap.size, 1, none⟩) (by show w.heap.size < _; have := HB.out.size; omega) _).mono (by have := HB.out.size; omega)
  · exact (HB2.out.setCell (Nat.le_refl _) _).setCell (Nat.le_refl _) _

end Go.Proofs.Ythfofjbegkjdmaa
