/-
  same and rhythms of the laws: lists of one length, rhythms of one size.
-/
import Derived.Test.YtlejlcnemibgiaaIntW
import Derived.Test.YtlejlcnemibgiaaCells
import Derived.Test.YtlejlcnemibgiaaEqs
namespace Go.Proofs.Ytlejlcnemibgiaa
open Go.RowKit
set_option linter.unusedVariables false
set_option linter.unusedSimpArgs false

theorem eqB_noE {xs ys : List Int} {k : Nat} (h1 : k < xs.length) (h2 : k < ys.length) (h : xs.getD k 0 ≠ ys.getD k 0) : eqB xs ys = false := by
  unfold eqB
  exact decide_eq_false fun e => h (by rw [e])
theorem eqB_yesE {xs ys : List Int} (hl : xs.length = ys.length) (h : ∀ k, k < xs.length → xs.getD k 0 = ys.getD k 0) : eqB xs ys = true := by
  unfold eqB
  refine decide_eq_true (List.ext_getElem hl fun i h1 h2 => ?_)
  have := h i h1
  rw [List.getD_eq_getElem?_getD, List.getD_eq_getElem?_getD, List.getElem?_eq_getElem h1, List.getElem?_eq_getElem h2] at this
  exact this

set_option maxRecDepth 100000 in
set_option maxHeartbeats 1000000 in
theorem laws_sameE_any (A B : Option Addr) (ca cb : Nat) (xs ys : List Int) (w : World) (hA : Ints w w.heap.size A xs) (hB : Ints w w.heap.size B ys) (hl : xs.length = ys.length) :
    Calls Try.prog 37 #[.slice A xs.length ca, .slice B ys.length cb] w fun e w' => e = .returned (.bool (eqB xs ys)) ∧ w = w' := by
  have hl1 := hA.1
  unfold maxLen at hl1
  have HA := Lib.hid hA.2.2
  have HB := Lib.hid hB.2.2
  have HL := Lib.hid hl
  rw [← hl]
  clear hA hB hl
  go_enter Try.func37, Try.ntmps37
  go_wp2
  go_loop [14] (fun i => ∃ k : Nat, k ≤ xs.length ∧ i = .int .i64 k ∧ ∀ j, j < k → xs.getD j 0 = ys.getD j 0) (fun i => xs.length - (intOf i).toNat)
  case atStart => exact ⟨0, Nat.zero_le _, rfl, fun j h => by omega⟩
  case round =>
    obtain ⟨k, hk, rfl, hall⟩ := hrel
    have HALL := Lib.hid hall
    clear hall
    by_cases hlt : k < xs.length
    · obtain ⟨b, off, rfl, hB1, hc1⟩ := HA.out (by omega)
      obtain ⟨b2, off2, rfl, hB2, hc2⟩ := HB.out (by rw [← HL.out]; omega)
      have hcell1 := hc1 k hlt
      have hcell2 := hc2 k (by rw [← HL.out]; exact hlt)
      have HNO := Lib.hid (fun h => eqB_noE (xs := xs) (ys := ys) (k := k) hlt (by rw [← HL.out]; exact hlt) h)
      have HALL' := Lib.hid (fun (h : xs.getD k 0 = ys.getD k 0) => show ∀ j, j < k + 1 → xs.getD j 0 = ys.getD j 0 from fun j hj => by
        by_cases e : j = k
        · rw [e]; exact h
        · exact HALL.out j (by omega))
      generalize xs.getD k 0 = x at hcell1 HNO HALL'
      generalize ys.getD k 0 = y at hcell2 HNO HALL'
      clear hc1 hc2
      by_cases hxy : x = y
      · subst hxy
        have HN := Lib.hid (HALL'.out rfl)
        go_wp2
        go_round
        case rel => exact ⟨k + 1, by omega, by go_num, HN.out⟩
        case measure => simp [intOf]; omega
      · have hxy2 : (x != y) = true := by rw [bne_iff_ne]; exact hxy
        have HF := Lib.hid (HNO.out hxy)
        go_wp2
        go_ret
        exact ⟨ret_bool HF.out.symm, rfl⟩
    · have HT := Lib.hid (show eqB xs ys = true from eqB_yesE HL.out fun j hj => HALL.out j (by omega))
      go_wp2
      go_ret
      exact ⟨ret_bool HT.out.symm, rfl⟩

set_option maxHeartbeats 400000 in
theorem laws_rhythmsE_any (n : Int) (A B : Option Addr) (ca cb : Nat) (xs ys : List Int) (w : World) (hA : Ints w w.heap.size A xs) (hB : Ints w w.heap.size B ys) (hl : xs.length = ys.length) :
    Calls Try.prog 13 #[.agg #[.int .i64 n, .slice A xs.length ca], .agg #[.int .i64 n, .slice B ys.length cb]] w fun e w' => e = .returned (.bool (eqB xs ys)) ∧ Below w.heap.size w w' := by
  have HW := Lib.hid (((Below.refl w.heap.size w).alloc (Nat.le_refl _) (.cells #[.int .i64 n, .slice A xs.length ca] 26)).alloc (by first | exact Nat.le_refl _ | (simp; done) | (simp; omega) | omega) (.cells #[.int .i64 n, .slice B ys.length cb] 26))
  have HS := Lib.hid (laws_sameE_any A B ca cb xs ys _ (hA.lift HW.out) (hB.lift HW.out) hl)
  obtain ⟨c0, c1⟩ := box2 ((Below.refl (w.heap.size + 1) (w.alloc (.cells #[.int .i64 n, .slice A xs.length ca] 26))).alloc (by first | exact Nat.le_refl _ | (simp; done) | (simp; omega) | omega) (.cells #[.int .i64 n, .slice B ys.length cb] 26))
  obtain ⟨d0, d1⟩ := box2 (Below.refl ((w.alloc (.cells #[.int .i64 n, .slice A xs.length ca] 26)).heap.size + 1) ((w.alloc (.cells #[.int .i64 n, .slice A xs.length ca] 26)).alloc (.cells #[.int .i64 n, .slice B ys.length cb] 26)))
  simp only [World.size_alloc] at d0 d1
  clear hA hB hl
  generalize eqB xs ys = q at HS ⊢
  go_enter Try.func13, Try.ntmps13
  go_wp2_with fail
  refine HS.out.mono ?_
  rintro e w1 ⟨rfl, rfl⟩
  go_wp2_with fail
  go_ret
  exact ⟨rfl, HW.out⟩

end Go.Proofs.Ytlejlcnemibgiaa
