/-
  The reference's sameness of beats and its period.
-/
import Derived.Test.YtjegomgpldpmpaaSpcR
namespace Go.Proofs.Ytjegomgpldpmpaa
open Go.RowKit
set_option linter.unusedVariables false
set_option linter.unusedSimpArgs false

theorem eqB_no {xs ys : List Int} {i : Nat} (h : xs.getD i 0 ≠ ys.getD i 0) : eqB xs ys = false := by
  unfold eqB
  rw [decide_eq_false_iff_not]
  intro e
  exact h (by rw [e])
theorem eqB_yes {xs ys : List Int} (hl : xs.length = ys.length) (h : ∀ i, i < xs.length → xs.getD i 0 = ys.getD i 0) : eqB xs ys = true := by
  unfold eqB
  rw [decide_eq_true_eq]
  refine List.ext_getElem hl fun i h1 h2 => ?_
  have := h i h1
  rw [List.getD_eq_getElem?_getD, List.getD_eq_getElem?_getD, List.getElem?_eq_getElem h1, List.getElem?_eq_getElem h2] at this
  exact this

set_option maxRecDepth 100000 in
set_option maxHeartbeats 400000 in
theorem spec_l02Same_any (A1 A2 : Option Addr) (c1 c2 : Nat) (xs ys : List Int) (w : World) (B1 B2 : Nat) (h1 : Ints w B1 A1 xs) (h2 : Ints w B2 A2 ys) :
    Calls Try.prog 37 #[.slice A1 xs.length c1, .slice A2 ys.length c2] w fun e w' => e = .returned (.bool (eqB xs ys)) ∧ w = w' := by
  have hl1 := h1.1
  have hl2 := h2.1
  unfold maxLen at hl1 hl2
  have HC1 := Lib.hid h1.2.2
  have HC2 := Lib.hid h2.2.2
  clear h1 h2
  by_cases hll : xs.length = ys.length
  · go_enter Try.func37, Try.ntmps37
    go_wp2
    go_loop [14] (fun s => ∃ k : Nat, k ≤ xs.length ∧ s = .int .i64 k ∧ ∀ j, j < k → xs.getD j 0 = ys.getD j 0) (fun i => xs.length - (intOf i).toNat)
    case atStart => exact ⟨0, Nat.zero_le _, rfl, fun j h => by omega⟩
    case round =>
      obtain ⟨k, hk, rfl, hno⟩ := hrel
      have HNO := Lib.hid hno
      have HLL := Lib.hid hll
      have hk2 : k ≤ ys.length := by omega
      clear hno
      by_cases hlt : k < xs.length
      · have hlt2 : k < ys.length := by omega
        obtain ⟨b1, o1, rfl, _, hc1⟩ := HC1.out (by omega)
        obtain ⟨b2, o2, rfl, _, hc2⟩ := HC2.out (by omega)
        have hcell := hc1 k hlt
        have hcell2 := hc2 k hlt2
        obtain ⟨x, hx⟩ : ∃ x, xs.getD k 0 = x := ⟨_, rfl⟩
        obtain ⟨y, hy⟩ : ∃ y, ys.getD k 0 = y := ⟨_, rfl⟩
        rw [hx] at hcell
        rw [hy] at hcell2
        have HX := Lib.hid hx
        have HY := Lib.hid hy
        clear hx hy hc1 hc2 hll
        by_cases hxy : x = y
        · have hb : (x == y) = true := beq_iff_eq.2 hxy
          have HXY := Lib.hid hxy
          clear hxy
          go_wp2
          go_round
          case rel =>
            refine ⟨k + 1, by omega, by go_num, fun j hj => ?_⟩
            by_cases e : j = k
            · subst e; rw [HX.out, HY.out]; exact HXY.out
            · exact HNO.out j (by omega)
          case measure => simp [intOf]; omega
        · have hb : (x == y) = false := beq_eq_false_iff_ne.2 hxy
          have HF := Lib.hid (eqB_no (xs := xs) (ys := ys) (i := k) (by rw [HX.out, HY.out]; exact hxy))
          clear hxy
          go_wp2
          go_ret
          exact ⟨ret_bool HF.out.symm, rfl⟩
      · have HF := Lib.hid (eqB_yes HLL.out (fun i hi => HNO.out i (by omega)))
        have hlt2 : ¬ k < ys.length := by omega
        clear hll
        go_wp2
        go_ret
        exact ⟨ret_bool HF.out.symm, rfl⟩
  · have HF := Lib.hid (show eqB xs ys = false by unfold eqB; rw [decide_eq_false_iff_not]; intro e; exact hll (by rw [e]))
    go_enter Try.func37, Try.ntmps37
    go_wp2
    go_ret
    exact ⟨ret_bool HF.out.symm, rfl⟩

end Go.Proofs.Ytjegomgpldpmpaa
