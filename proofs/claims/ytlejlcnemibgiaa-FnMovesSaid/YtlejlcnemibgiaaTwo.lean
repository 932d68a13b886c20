/-
  Two rhythms: of one size; with as many beats; how far from each other: of both.
-/
import Derived.Test.YtlejlcnemibgiaaDst
import Derived.Test.YtlejlcnemibgiaaSrok
import Derived.Test.YtlejlcnemibgiaaRlaw
namespace Go.Proofs.Ytlejlcnemibgiaa
open Go.RowKit
set_option linter.unusedVariables false
set_option linter.unusedSimpArgs false

set_option maxRecDepth 100000 in
set_option maxHeartbeats 1000000 in
theorem impl_sameSize_any (n m : Int) (A B : Option Addr) (ca cb : Nat) (a b : List Int) (w : World) (hn : Fits n) (hm : Fits m) (hA : Ints w w.heap.size A a) (hB : Ints w w.heap.size B b) :
    Calls Try.prog 29 #[.agg #[.int .i64 n, .slice A a.length ca], .agg #[.int .i64 m, .slice B b.length cb]] w fun e w' => e = .returned (.bool (rhB n a && rhB m b && decide (n = m))) ∧ Below w.heap.size w w' := by
  have hal0 := (Below.refl w.heap.size w).alloc (Nat.le_refl _) (.cells #[.int .i64 n, .slice A a.length ca] 26)
  have hal1 := hal0.alloc hal0.size (.cells #[.int .i64 m, .slice B b.length cb] 26)
  have HC0 := Lib.hid ((Cells2.new w (.int .i64 n) (.slice A a.length ca) 26).alloc (.cells #[.int .i64 m, .slice B b.length cb] 26))
  have HD0 := Lib.hid (Cells2.new_at (w.alloc (.cells #[.int .i64 n, .slice A a.length ca] 26)) (.int .i64 m) (.slice B b.length cb) 26 (w.heap.size + 1) (by simp))
  have HB0 := Lib.hid hal1
  have HIA := Lib.hid (hA.lift hal1)
  have HIB := Lib.hid (hB.lift hal1)
  clear hA hB hal0 hal1
  obtain ⟨c0, c1, _, _, _⟩ := HC0.out
  obtain ⟨d0, d1, _, _, _⟩ := HD0.out
  have HR1 := Lib.hid (fun V h => impl_RhythmOk_any n A ca a V hn h)
  have HR2 := Lib.hid (fun V h => impl_RhythmOk_any m B cb b V hm h)
  cases h1 : rhB n a
  · rw [h1] at HR1
    clear h1
    go_enter Try.func29, Try.ntmps29
    go_wp2_with fail
    refine (HR1.out _ HIA.out).mono ?_
    rintro e w1 ⟨rfl, hb⟩
    have HB1 := Lib.hid (HB0.out.trans (hb.mono HB0.out.size))
    clear hb
    go_wp2_with fail
    go_ret
    exact ⟨rfl, HB1.out⟩
  rw [h1] at HR1
  cases h2 : rhB m b
  · rw [h2] at HR2
    clear h1 h2
    go_enter Try.func29, Try.ntmps29
    go_wp2_with fail
    refine (HR1.out _ HIA.out).mono ?_
    rintro e w1 ⟨rfl, hb⟩
    have HB1 := Lib.hid (HB0.out.trans (hb.mono HB0.out.size))
    have HI1 := Lib.hid (HIB.out.lift hb)
    have HD1 := Lib.hid (HD0.out.below hb HD0.out.2.2.2.2)
    clear hb d0 d1
    obtain ⟨d0, d1, _, _, _⟩ := HD1.out
    go_wp2_with fail
    refine (HR2.out _ HI1.out).mono ?_
    rintro e w2 ⟨rfl, hb⟩
    have HB2 := Lib.hid (HB1.out.trans (hb.mono HB1.out.size))
    clear hb
    go_wp2_with fail
    go_ret
    exact ⟨rfl, HB2.out⟩
  rw [h2] at HR2
  clear h1 h2
  obtain ⟨q, hq⟩ : ∃ q : Bool, decide (n = m) = q := ⟨_, rfl⟩
  have HQ := Lib.hid hq
  have hq2 : (n == m) = q := by rw [← hq]; by_cases h : n = m <;> simp [h]
  clear hq
  go_enter Try.func29, Try.ntmps29
  go_wp2_with fail
  refine (HR1.out _ HIA.out).mono ?_
  rintro e w1 ⟨rfl, hb⟩
  have HB1 := Lib.hid (HB0.out.trans (hb.mono HB0.out.size))
  have HI1 := Lib.hid (HIB.out.lift hb)
  have HC1 := Lib.hid (HC0.out.below hb HC0.out.2.2.2.2)
  have HD1 := Lib.hid (HD0.out.below hb HD0.out.2.2.2.2)
  clear hb c0 c1 d0 d1
  obtain ⟨c0, c1, _, _, _⟩ := HC1.out
  obtain ⟨d0, d1, _, _, _⟩ := HD1.out
  go_wp2_with fail
  refine (HR2.out _ HI1.out).mono ?_
  rintro e w2 ⟨rfl, hb⟩
  have HB2 := Lib.hid (HB1.out.trans (hb.mono HB1.out.size))
  have HC2 := Lib.hid (HC1.out.below hb HC1.out.2.2.2.2)
  have HD2 := Lib.hid (HD1.out.below hb HD1.out.2.2.2.2)
  clear hb c0 c1 d0 d1
  obtain ⟨c0, c1, _, _, _⟩ := HC2.out
  obtain ⟨d0, d1, _, _, _⟩ := HD2.out
  go_wp2_with fail
  go_ret
  exact ⟨ret_bool (by rw [HQ.out]; simp), HB2.out⟩

theorem movedB_no {n m : Int} {a b : List Int} (h : (rhB n a && rhB m b && decide (n = m)) = false) : movedB n m a b = false := by unfold movedB; rw [h]; rfl
theorem movedB_len {n m : Int} {a b : List Int} (h : (rhB n a && rhB m b && decide (n = m)) = true) : movedB n m a b = decide (a.length = b.length) := by unfold movedB; rw [h]; rfl
theorem movedB_yes {n m : Int} {a b : List Int} (h : movedB n m a b = true) : RhOk n a ∧ RhOk m b ∧ n = m ∧ a.length = b.length := by
  unfold movedB at h
  simp only [Bool.and_eq_true, decide_eq_true_eq, rhB_iff] at h
  exact ⟨h.1.1.1, h.1.1.2, h.1.2, h.2⟩

set_option maxRecDepth 100000 in
set_option maxHeartbeats 1000000 in
theorem impl_areMoved_any (n m : Int) (A B : Option Addr) (ca cb : Nat) (a b : List Int) (w : World) (hn : Fits n) (hm : Fits m) (hA : Ints w w.heap.size A a) (hB : Ints w w.heap.size B b) :
    Calls Try.prog 23 #[.agg #[.int .i64 n, .slice A a.length ca], .agg #[.int .i64 m, .slice B b.length cb]] w fun e w' => e = .returned (.bool (movedB n m a b)) ∧ Below w.heap.size w w' := by
  have hal0 := (Below.refl w.heap.size w).alloc (Nat.le_refl _) (.cells #[.int .i64 n, .slice A a.length ca] 26)
  have hal1 := hal0.alloc hal0.size (.cells #[.int .i64 m, .slice B b.length cb] 26)
  have HC0 := Lib.hid ((Cells2.new w (.int .i64 n) (.slice A a.length ca) 26).alloc (.cells #[.int .i64 m, .slice B b.length cb] 26))
  have HD0 := Lib.hid (Cells2.new_at (w.alloc (.cells #[.int .i64 n, .slice A a.length ca] 26)) (.int .i64 m) (.slice B b.length cb) 26 (w.heap.size + 1) (by simp))
  have HB0 := Lib.hid hal1
  have HIA := Lib.hid (hA.lift hal1)
  have HIB := Lib.hid (hB.lift hal1)
  clear hA hB hal0 hal1
  obtain ⟨c0, c1, _, _, _⟩ := HC0.out
  obtain ⟨d0, d1, _, _, _⟩ := HD0.out
  have HS := Lib.hid (fun V h1 h2 => impl_sameSize_any n m A B ca cb a b V hn hm h1 h2)
  cases hb0 : (rhB n a && rhB m b && decide (n = m))
  · rw [hb0] at HS
    have HV := Lib.hid (movedB_no hb0)
    clear hb0
    go_enter Try.func23, Try.ntmps23
    go_wp2_with fail
    refine (HS.out _ HIA.out HIB.out).mono ?_
    rintro e w1 ⟨rfl, hb⟩
    have HB1 := Lib.hid (HB0.out.trans (hb.mono HB0.out.size))
    have HIA1 := Lib.hid (HIA.out.lift hb)
    have HIB1 := Lib.hid (HIB.out.lift hb)
    have HC1 := Lib.hid (HC0.out.below hb HC0.out.2.2.2.2)
    have HD1 := Lib.hid (HD0.out.below hb HD0.out.2.2.2.2)
    clear hb c0 c1 d0 d1
    obtain ⟨c0, c1, _, _, _⟩ := HC1.out
    obtain ⟨d0, d1, _, _, _⟩ := HD1.out
    go_wp2_with fail
    go_ret
    exact ⟨ret_bool HV.out.symm, HB1.out⟩
  · rw [hb0] at HS
    have HV := Lib.hid (movedB_len hb0)
    clear hb0
    obtain ⟨x, hx⟩ : ∃ x : Nat, a.length = x := ⟨_, rfl⟩
    obtain ⟨y, hy⟩ : ∃ y : Nat, b.length = y := ⟨_, rfl⟩
    rw [hx] at HC0 HD0 HB0 HIA HIB HS c0 c1 d0 d1 HV ⊢
    rw [hy] at HC0 HD0 HB0 HIA HIB HS c0 c1 d0 d1 HV ⊢
    clear hx hy
    obtain ⟨q, hq⟩ : ∃ q : Bool, decide (x = y) = q := ⟨_, rfl⟩
    have HQ := Lib.hid hq
    have hq2 : ((x : Int) == (y : Int)) = q := by
      rw [← hq]
      by_cases h : x = y
      · subst h; simp
      · rw [decide_eq_false h]; exact beq_eq_false_iff_ne.2 (by omega)
    clear hq
    go_enter Try.func23, Try.ntmps23
    go_wp2_with fail
    refine (HS.out _ HIA.out HIB.out).mono ?_
    rintro e w1 ⟨rfl, hb⟩
    have HB1 := Lib.hid (HB0.out.trans (hb.mono HB0.out.size))
    have HIA1 := Lib.hid (HIA.out.lift hb)
    have HIB1 := Lib.hid (HIB.out.lift hb)
    have HC1 := Lib.hid (HC0.out.below hb HC0.out.2.2.2.2)
    have HD1 := Lib.hid (HD0.out.below hb HD0.out.2.2.2.2)
    clear hb c0 c1 d0 d1
    obtain ⟨c0, c1, _, _, _⟩ := HC1.out
    obtain ⟨d0, d1, _, _, _⟩ := HD1.out
    go_wp2_with fail
    go_ret
    exact ⟨ret_bool (by rw [HV.out, HQ.out]), HB1.out⟩

/-- What MoveDistance says. -/
noncomputable def mdV (n m : Int) (a b : List Int) : Int := if movedB n m a b = true then farV n a b else -1

end Go.Proofs.Ytlejlcnemibgiaa
