/-
  The reference's drawn rhythms: MakeRhythm hands back a rhythm that is one.
-/
import Derived.Test.YthfjfhgeiggljaaDoorCur
import Derived.Test.YthfjfhgeiggljaaDoorCells
import Derived.Test.YthfjfhgeiggljaaDoorRw
namespace Go.Proofs.YthfjfhgeiggljaaDoor
open Go.RowKit
set_option linter.unusedVariables false
set_option linter.unusedSimpArgs false

set_option maxHeartbeats 1000000 in
theorem spec_l01Below_any (g : Nat) (A : Option Addr) (cap : Nat) (xs : List Int) (n : Nat) (w : World) (hC : Cur w g A cap xs) (h1 : 1 ≤ n) (h2 : n ≤ 256) :
    Calls Tryd.prog 50 #[.pointer (some ⟨g, 0, none⟩), .int .i64 n] w fun e w' => (∃ x : Nat, e = .returned (.int .i64 x) ∧ x < n) ∧ Cur w' g A cap xs ∧ Frm (fun c => c = g) w w' := by
  have HB := Lib.hid (spec_l01Byte_any g A cap xs w hC)
  have hn0 : ¬ (n : Int) ≤ 0 := by omega
  have hn2 : (n : Int) ≤ 256 := by omega
  have hnz : ((n : Int) = 0) = False := by rw [eq_iff_iff, iff_false]; omega
  have hnn : ¬ n = 0 := by omega
  clear hC
  go_enter Tryd.func50, Tryd.ntmps50
  go_wp2_with fail
  refine HB.out.mono ?_
  rintro e w1 ⟨⟨x, rfl, hx0, hx1⟩, hc1, hf1⟩
  obtain ⟨x, rfl⟩ := Int.eq_ofNat_of_zero_le hx0
  have hr : x % n < n := Nat.mod_lt _ (by omega)
  go_wp2_with fail
  go_ret
  exact ⟨⟨x % n, by rw [Int.natCast_emod]; rfl, hr⟩, hc1, hf1⟩

set_option maxHeartbeats 1000000 in
theorem spec_l01Once_any (g : Nat) (A : Option Addr) (cap : Nat) (xs : List Int) (n : Nat) (w : World) (hC : Cur w g A cap xs) (h1 : 1 ≤ n) (h2 : n ≤ 256) :
    Calls Tryd.prog 52 #[.pointer (some ⟨g, 0, none⟩), .int .i64 n] w fun e w' => (∃ b : Bool, e = .returned (.bool b)) ∧ Cur w' g A cap xs ∧ Frm (fun c => c = g) w w' := by
  have HB := Lib.hid (spec_l01Below_any g A cap xs n w hC h1 h2)
  clear hC
  go_enter Tryd.func52, Tryd.ntmps52
  go_wp2_with fail
  refine HB.out.mono ?_
  rintro e w1 ⟨⟨x, rfl, hx⟩, hc1, hf1⟩
  go_wp2_with fail
  go_ret
  exact ⟨⟨_, rfl⟩, hc1, hf1⟩

theorem OwnI.frm {w w' : World} {base : Nat} {v : Value} {xs : List Int} {S : Nat → Prop} (h : OwnI w base v xs) (hf : Frm S w w') (hS : ∀ c, base ≤ c → ¬ S c) : OwnI w' base v xs := by
  refine ⟨h.1, ?_⟩
  rcases h.2 with h0 | ⟨g, cap, cur, e, hg, hh, rest⟩
  · exact .inl h0
  · have hlt : g < w.heap.size := (Array.getElem?_eq_some_iff.1 hh).1
    exact .inr ⟨g, cap, cur, e, hg, by rw [hf.block g hlt (hS g hg)]; exact hh, rest⟩
theorem Cells2.frm {w w' : World} {g : Nat} {u v : Value} {S : Nat → Prop} (h : Cells2 w g u v) (hf : Frm S w w') (hS : ¬ S g) : Cells2 w' g u v :=
  ⟨(hf.cell h.2.2.2.2 hS).trans h.1, (hf.cell h.2.2.2.2 hS).trans h.2.1, (hf.frozen h.2.2.2.2 hS).trans h.2.2.1, (hf.frozen h.2.2.2.2 hS).trans h.2.2.2.1, Nat.lt_of_lt_of_le h.2.2.2.2 hf.size⟩

/-- What lies from q on was not there at first. -/
theorem frm_below_new {S : Nat → Prop} {w w1 w2 : World} {q : Nat} (h : Frm S w w1) (hb : Below q w1 w2) (hq : w.heap.size ≤ q) : Frm S w w2 :=
  ⟨hb.os.trans h.os, hb.tape.trans h.tape, hb.output.trans h.output, Nat.le_trans h.size hb.size, fun c hc hS => (hb.block c (by omega)).trans (h.block c hc hS)⟩

/-- Pulses below k, one after another. -/
def Upto (bs : List Int) (k : Nat) : Prop := bs.length ≤ k ∧ (∀ i, i < bs.length → 0 ≤ bs.getD i 0 ∧ bs.getD i 0 < k) ∧ ∀ i, i + 1 < bs.length → bs.getD i 0 < bs.getD (i + 1) 0
theorem Upto.step {bs : List Int} {k : Nat} (h : Upto bs k) : Upto bs (k + 1) := ⟨by have := h.1; omega, fun i hi => by have := h.2.1 i hi; omega, h.2.2⟩
theorem Upto.snoc {bs : List Int} {k : Nat} (h : Upto bs k) : Upto (bs ++ [(k : Int)]) (k + 1) := by
  have e1 : ∀ i, i < bs.length → (bs ++ [(k : Int)]).getD i 0 = bs.getD i 0 := fun i hi => by
    rw [List.getD_eq_getElem?_getD, List.getD_eq_getElem?_getD, List.getElem?_append_left hi]
  have e2 : (bs ++ [(k : Int)]).getD bs.length 0 = k := by rw [List.getD_eq_getElem?_getD, List.getElem?_append_right (Nat.le_refl _)]; simp
  refine ⟨by have := h.1; simp; omega, fun i hi => ?_, fun i hi => ?_⟩
  · rw [List.length_append] at hi
    by_cases e : i < bs.length
    · rw [e1 i e]; have := h.2.1 i e; omega
    · have : i = bs.length := by simp at hi; omega
      subst this; rw [e2]; omega
  · rw [List.length_append] at hi
    by_cases e : i + 1 < bs.length
    · rw [e1 i (by omega), e1 (i + 1) e]; exact h.2.2 i e
    · have : i + 1 = bs.length := by simp at hi; omega
      rw [this, e2, e1 i (by omega)]
      have := h.2.1 i (by omega); omega
theorem Upto.rh {bs : List Int} {k : Nat} (h : Upto bs k) (h1 : 1 ≤ k) (h2 : k ≤ 24) : RhOk k bs := ⟨by omega, by omega, h.2.1, h.2.2⟩

/-- A rhythm of at most 'most' pulses. -/
def RhA (most : Nat) (w : World) (base : Nat) (v : Value) : Prop :=
  ∃ (N : Nat) (bs : List Int) (A : Option Addr) (c : Nat), v = .agg #[.int .i64 N, .slice A bs.length c] ∧ RhOk N bs ∧ N ≤ most ∧ RW w base A bs ∧ bs.length ≤ c
theorem OwnI.cap_le {w : World} {base : Nat} {A : Option Addr} {cap : Nat} {xs : List Int} (h : OwnI w base (.slice A xs.length cap) xs) : xs.length ≤ cap := by
  rcases h.2 with ⟨hv, h0⟩ | ⟨g, cap', cur, hv, _, hh, hnc, hm, hsz, hxs⟩
  · omega
  · have hc : cap = cap' := by injection hv
    omega

theorem rh_fits {N : Nat} {bs : List Int} (hok : RhOk N bs) : ∀ x ∈ bs, Fits x := fun x hx => by
  obtain ⟨i, hi, rfl⟩ := List.getElem_of_mem hx
  have := hok.2.2.1 i hi
  have := hok.2.1
  rw [List.getD_eq_getElem?_getD, List.getElem?_eq_getElem hi, Option.getD_some] at *
  unfold Fits; omega

end Go.Proofs.YthfjfhgeiggljaaDoor
