/-
  What the laws hold against each other: equal lists, equal rhythms, lists in order.
-/
import Derived.Test.YthfofjbegkjdmaaSeaT
namespace Go.Proofs.Ythfofjbegkjdmaa
open Go.RowKit
set_option linter.unusedVariables false
set_option linter.unusedSimpArgs false

set_option maxRecDepth 100000 in
set_option maxHeartbeats 400000 in
theorem laws_same_self (A B : Option Addr) (ca cb : Nat) (xs : List Int) (w : World) (hA : Ints w w.heap.size A xs) (hB : Ints w w.heap.size B xs) :
    Calls Try.prog 35 #[.slice A xs.length ca, .slice B xs.length cb] w fun e w' => e = .returned (.bool true) ∧ w = w' := by
  have hl1 := hA.1
  unfold maxLen at hl1
  have HA := Lib.hid hA.2.2
  have HB := Lib.hid hB.2.2
  clear hA hB
  go_enter Try.func35, Try.ntmps35
  go_wp2
  go_loop [14] (fun i => ∃ k : Nat, k ≤ xs.length ∧ i = .int .i64 k) (fun i => xs.length - (intOf i).toNat)
  case atStart => exact ⟨0, Nat.zero_le _, rfl⟩
  case round =>
    obtain ⟨k, hk, rfl⟩ := hrel
    by_cases hlt : k < xs.length
    · obtain ⟨b, off, rfl, hB1, hc1⟩ := HA.out (by omega)
      obtain ⟨b2, off2, rfl, hB2, hc2⟩ := HB.out (by omega)
      have hcell1 := hc1 k hlt
      have hcell2 := hc2 k hlt
      generalize xs.getD k 0 = x at hcell1 hcell2
      clear hc1 hc2
      go_wp2
      go_round
      case rel => exact ⟨k + 1, by omega, by go_num⟩
      case measure => simp [intOf]; omega
    · go_wp2
      go_ret
      exact ⟨rfl, rfl⟩

set_option maxHeartbeats 400000 in
theorem laws_rhythms_self (n : Int) (A B : Option Addr) (ca cb : Nat) (xs : List Int) (w : World) (hA : Ints w w.heap.size A xs) (hB : Ints w w.heap.size B xs) :
    Calls Try.prog 10 #[.agg #[.int .i64 n, .slice A xs.length ca], .agg #[.int .i64 n, .slice B xs.length cb]] w fun e w' => e = .returned (.bool true) ∧ Below w.heap.size w w' := by
  have HW := Lib.hid (((Below.refl w.heap.size w).alloc (Nat.le_refl _) (.cells #[.int .i64 n, .slice A xs.length ca] 29)).alloc (by first | exact Nat.le_refl _ | (simp; done) | (simp; omega) | omega) (.cells #[.int .i64 n, .slice B xs.length cb] 29))
  have HS := Lib.hid (laws_same_self A B ca cb xs _ (hA.lift HW.out) (hB.lift HW.out))
  obtain ⟨c0, c1⟩ := box2 ((Below.refl (w.heap.size + 1) (w.alloc (.cells #[.int .i64 n, .slice A xs.length ca] 29))).alloc (by first | exact Nat.le_refl _ | (simp; done) | (simp; omega) | omega) (.cells #[.int .i64 n, .slice B xs.length cb] 29))
  obtain ⟨d0, d1⟩ := box2 (Below.refl ((w.alloc (.cells #[.int .i64 n, .slice A xs.length ca] 29)).heap.size + 1) ((w.alloc (.cells #[.int .i64 n, .slice A xs.length ca] 29)).alloc (.cells #[.int .i64 n, .slice B xs.length cb] 29)))
  simp only [World.size_alloc] at d0 d1
  clear hA hB
  go_enter Try.func10, Try.ntmps10
  go_wp2_with fail
  refine HS.out.mono ?_
  rintro e w1 ⟨rfl, rfl⟩
  go_wp2_with fail
  go_ret
  exact ⟨rfl, HW.out⟩

theorem befL_step {xs ys : List Int} {k : Nat} (h1 : k < xs.length) (h2 : k < ys.length) (h : befL (xs.drop k) (ys.drop k) = true) :
    (xs.getD k 0 = ys.getD k 0 ∧ befL (xs.drop (k + 1)) (ys.drop (k + 1)) = true) ∨ xs.getD k 0 < ys.getD k 0 := by
  rw [drop_cons h1, drop_cons h2] at h
  unfold befL at h
  by_cases e : xs.getD k 0 = ys.getD k 0
  · rw [if_pos e] at h; exact .inl ⟨e, h⟩
  · rw [if_neg e] at h; exact .inr (of_decide_eq_true h)

set_option maxRecDepth 100000 in
set_option maxHeartbeats 400000 in
theorem laws_before_yes (A B : Option Addr) (ca cb : Nat) (xs ys : List Int) (w : World) (hA : Ints w w.heap.size A xs) (hB : Ints w w.heap.size B ys) (hl : xs.length = ys.length) (hbef : befL xs ys = true) :
    Calls Try.prog 17 #[.slice A xs.length ca, .slice B ys.length cb] w fun e w' => e = .returned (.bool true) ∧ w = w' := by
  have hl1 := hA.1
  have hl2 := hB.1
  unfold maxLen at hl1 hl2
  have HA := Lib.hid hA.2.2
  have HB := Lib.hid hB.2.2
  have HL := Lib.hid hl
  have HF := Lib.hid hbef
  clear hA hB hl hbef
  go_enter Try.func17, Try.ntmps17
  go_wp2
  go_loop [9] (fun i => ∃ k : Nat, k ≤ xs.length ∧ i = .int .i64 k ∧ befL (xs.drop k) (ys.drop k) = true) (fun i => xs.length - (intOf i).toNat)
  case atStart => exact ⟨0, Nat.zero_le _, rfl, HF.out⟩
  case round =>
    obtain ⟨k, hk, rfl, hbf⟩ := hrel
    by_cases hlt : k < xs.length
    · have hlt2 : k < ys.length := by have := HL.out; omega
      obtain ⟨b, off, rfl, hB1, hc1⟩ := HA.out (by omega)
      obtain ⟨b2, off2, rfl, hB2, hc2⟩ := HB.out (by omega)
      have hcell1 := hc1 k hlt
      have hcell2 := hc2 k hlt2
      have hst := befL_step hlt hlt2 hbf
      have hge : ¬ (ys.length : Int) ≤ (k : Int) := by omega
      obtain ⟨x, hx⟩ : ∃ x, xs.getD k 0 = x := ⟨_, rfl⟩
      obtain ⟨y, hy⟩ : ∃ y, ys.getD k 0 = y := ⟨_, rfl⟩
      rw [hx] at hcell1 hst
      rw [hy] at hcell2 hst
      clear hc1 hc2 hx hy hbf
      rcases hst with ⟨e, hn⟩ | hxy
      · subst e
        have HN := Lib.hid hn
        clear hn
        go_wp2
        go_round
        case rel => exact ⟨k + 1, by omega, by go_num, HN.out⟩
        case measure => simp [intOf]; omega
      · have hne : (x != y) = true := by rw [bne_iff_ne]; omega
        have hd : decide (x < y) = true := decide_eq_true hxy
        go_wp2
        go_ret
        exact ⟨by simp [hxy], rfl⟩
    · exfalso
      rw [List.drop_eq_nil_of_le (by omega)] at hbf
      exact absurd hbf (by simp [befL])

end Go.Proofs.Ythfofjbegkjdmaa
