/-
  The rhythm of a code: rhythmAt of the program, l05Of of the reference.
-/
import Derived.Test.YtlejlcnemibgiaaGreatWzB
import Derived.Test.YtlejlcnemibgiaaGreatRw
namespace Go.Proofs.YtlejlcnemibgiaaGreat
open Go.RowKit
set_option linter.unusedVariables false
set_option linter.unusedSimpArgs false

theorem and_bit (c j : Nat) (hc : c < 65536) : bits BinOp.and IntKind.i64 ((c : Int) / 2 ^ j) 1 = if c.testBit j = true then 1 else 0 := by
  have hle : c / 2 ^ j ≤ c := Nat.div_le_self _ _
  have h := i64_and_nat (c / 2 ^ j) 1 (by omega) (by omega)
  rw [Int.natCast_ediv, Int.natCast_pow] at h
  refine Eq.trans h ?_
  rw [Nat.and_one_is_mod, Nat.testBit_eq_decide_div_mod_eq]
  by_cases hb : c / 2 ^ j % 2 = 1
  · rw [hb]; simp
  · have : c / 2 ^ j % 2 = 0 := by omega
    rw [this]; simp

set_option maxRecDepth 100000 in
set_option maxHeartbeats 1000000 in
theorem impl_rhythmAt_any (N c : Nat) (w : World) (hn1 : 1 ≤ N) (hn2 : N ≤ 24) (hc : c < 65536) :
    Calls Tryz.prog 33 #[.int .i64 N, .int .i64 c] w (RetRh1 w N (bitsB N c N)) := by
  go_enter Tryz.func33, Tryz.ntmps33
  go_wp2_with fail
  go_loopw [10] (fun sp wr => ∃ (q : Nat) (v : Value), q ≤ N ∧ sp = .int .i64 q ∧ Cells2 wr (w.heap.size + 1) (.int .i64 N) v ∧ OwnI wr (w.heap.size + 2) v (bitsB N c q) ∧ (∃ u1 u2, Cells2 wr w.heap.size u1 u2) ∧ Below w.heap.size w wr ∧ w.heap.size + 2 ≤ wr.heap.size) (fun sp _ => N - (intOf sp).toNat)
  case atStart =>
    refine ⟨0, .slice none 0 0, Nat.zero_le _, rfl, Cells2.new_at _ _ _ _ _ (by simp), OwnI.nil _ _, ⟨_, _, (Cells2.new w _ _ _).alloc _⟩, ?_, by simp⟩
    exact ((Below.refl _ _).alloc (Nat.le_refl _) _).alloc (by first | exact Nat.le_refl _ | (simp; done) | (simp; omega) | omega) _
  case round =>
    obtain ⟨q, v, hq, rfl, hc2, hown, ⟨u1, u2, hc1⟩, hbel, hsz⟩ := hrel
    obtain ⟨wo, rfl⟩ : ∃ wo : World, wo = wr := ⟨_, rfl⟩
    have hple := bitsB_len N c q
    have HC2 := Lib.hid hc2
    have HC1 := Lib.hid hc1
    obtain ⟨g0, g1, g2, g3, g4⟩ := HC2.out
    obtain ⟨A1, c1, rfl⟩ := hown.form
    by_cases hlt : q < N
    · obtain ⟨j, hj⟩ : ∃ j : Nat, N - 1 - q = j := ⟨_, rfl⟩
      have hv : (N : Int) - 1 - (q : Int) = (j : Int) := by omega
      have hvw : IntKind.i64.wrap ((N : Int) - 1 - q) = (j : Int) := by rw [hv]; exact i64w (by omega)
      have hj63 : j < 63 := by omega
      have hab := and_bit c j hc
      cases hb : c.testBit j
      · rw [hb, if_neg (by decide)] at hab
        have HS := Lib.hid (bitsB_no (n := N) (c := c) (m := q) (by rw [hj]; exact hb))
        have HO := Lib.hid hown
        clear hb hj hown hc1 hc2
        go_wp2_with fail
        go_roundw
        case rel => exact ⟨q + 1, _, by omega, by go_num, HC2.out, by rw [HS.out]; exact HO.out, ⟨u1, u2, HC1.out⟩, hbel, hsz⟩
        case measure => simp [intOf]; omega
      · rw [hb, if_pos rfl] at hab
        have HS := Lib.hid (bitsB_yes (n := N) (c := c) (m := q) (by rw [hj]; exact hb))
        clear hb hj
        go_wp2_with (at_builtin; refine wpList_append_int rfl _ _ rfl (w.heap.size + 2) _ (bitsB N c q) rfl (hown.alloc _) _ _ rfl (cell_new1 _ _ _) (by omega) (by first | exact Nat.le_refl _ | (simp; done) | (simp; omega) | omega) ?_; intro v' w1 hown1 hg1; obtain ⟨A2, c2, rfl⟩ := hown1.form; obtain ⟨j0, j1, j2, j3, j4⟩ := (HC2.out.alloc (Obj.cells #[Value.int .i64 q] 3)).below hg1 (by omega))
        clear g0 g1 g2 g3 hown
        have hw1 : w.heap.size + 2 ≤ w1.heap.size := by have := hg1.size; simp only [World.size_alloc] at this; omega
        have HD2 := Lib.hid (Cells2.set1 (((HC2.out.alloc (Obj.cells #[Value.int .i64 q] 3)).below hg1 (by omega))) (.slice A2 (bitsB N c q ++ [(q : Int)]).length c2))
        have HD1 := Lib.hid (((HC1.out.alloc (Obj.cells #[Value.int .i64 q] 3)).below hg1 (by omega)).far (p := ⟨w.heap.size + 1, 1, none⟩) (by simp) (.slice A2 (bitsB N c q ++ [(q : Int)]).length c2))
        have HOW := Lib.hid (hown1.far (p := ⟨w.heap.size + 1, 1, none⟩) (by simp) (.slice A2 (bitsB N c q ++ [(q : Int)]).length c2))
        have HBW := Lib.hid ((((hbel.alloc (by omega) _).trans (hg1.mono (by omega))).setCell (p := ⟨w.heap.size + 1, 1, none⟩) (by simp) (.slice A2 (bitsB N c q ++ [(q : Int)]).length c2)))
        clear j0 j1 j2 j3 j4 hg1 hown1 hbel g4 hc2 hc1
        have hlen : (bitsB N c q ++ [(q : Int)]).length = (bitsB N c q).length + 1 := by simp
        rw [hlen] at HD1 HD2 HOW HBW
        clear hlen
        go_wp2_with fail
        go_roundw
        case rel =>
          refine ⟨q + 1, _, by omega, by go_num, HD2.out, by rw [HS.out]; exact HOW.out, ⟨u1, u2, HD1.out⟩, HBW.out, by simpa [World.setCell] using hw1⟩
        case measure => simp [intOf]; omega
    · have hqe : q = N := by omega
      subst hqe
      obtain ⟨f0, f1, f2, f3, f4⟩ := HC1.out
      clear hc1 hc2
      go_wp2_with fail
      refine bodyPost_ret (v := .agg #[.int .i64 q, .slice A1 (bitsB q c q).length c1]) (by simp [results, Tryz.results33, go_sem, f0, f1]) rfl ?_
      refine ⟨A1, c1, rfl, ?_, ?_⟩
      · exact (((hown.far (p := ⟨w.heap.size, 0, none⟩) (by simp) _).far (p := ⟨w.heap.size, 1, none⟩) (by simp) _).rw_ (by omega)).mono (by omega)
      · exact (hbel.setCell (Nat.le_refl _) _).setCell (Nat.le_refl _) _

end Go.Proofs.YtlejlcnemibgiaaGreat
