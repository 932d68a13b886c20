/-
  Two rhythms of one size, by the reference and by the program (taken out of Two).
-/
import Derived.Test.YtjoeglekcnaebaaGreatDoorSrok
import Derived.Test.YtjoeglekcnaebaaGreatDoorRlaw
import Derived.Test.YtjoeglekcnaebaaGreatDoorCells
namespace Go.Proofs.YtjoeglekcnaebaaGreatDoor
open Go.RowKit
set_option linter.unusedVariables false
set_option linter.unusedSimpArgs false

set_option maxRecDepth 100000 in
set_option maxHeartbeats 1000000 in
theorem spec_l05TwoP_any (n m : Int) (A B : Option Addr) (ca cb : Nat) (a b : List Int) (w : World) (hn : Fits n) (hm : Fits m) (hA : Ints w w.heap.size A a) (hB : Ints w w.heap.size B b) :
    Calls Tryz.prog 96 #[.agg #[.int .i64 n, .slice A a.length ca], .agg #[.int .i64 m, .slice B b.length cb]] w fun e w' => e = .returned (.bool (rhB n a && rhB m b && decide (n = m))) ∧ Below w.heap.size w w' := by
  have hal0 := (Below.refl w.heap.size w).alloc (Nat.le_refl _) (.cells #[.int .i64 n, .slice A a.length ca] 27)
  have hal1 := hal0.alloc hal0.size (.cells #[.int .i64 m, .slice B b.length cb] 27)
  have HC0 := Lib.hid ((Cells2.new w (.int .i64 n) (.slice A a.length ca) 27).alloc (.cells #[.int .i64 m, .slice B b.length cb] 27))
  have HD0 := Lib.hid (Cells2.new_at (w.alloc (.cells #[.int .i64 n, .slice A a.length ca] 27)) (.int .i64 m) (.slice B b.length cb) 27 (w.heap.size + 1) (by simp))
  have HB0 := Lib.hid hal1
  have HIA := Lib.hid (hA.lift hal1)
  have HIB := Lib.hid (hB.lift hal1)
  clear hA hB hal0 hal1
  obtain ⟨c0, c1, _, _, _⟩ := HC0.out
  obtain ⟨d0, d1, _, _, _⟩ := HD0.out
  have HR1 := Lib.hid (fun V h => spec_RhythmOk_any n A ca a V  h)
  have HR2 := Lib.hid (fun V h => spec_RhythmOk_any m B cb b V  h)
  cases h1 : rhB n a
  · rw [h1] at HR1
    clear h1
    go_enter Tryz.func96, Tryz.ntmps96
    go_wp2_with fail
    refine (HR1.out _ HIA.out).mono ?_
    rintro e w1 ⟨rfl, hb⟩
    have HB1 := Lib.hid (HB0.out.trans (hb.mono HB0.out.size))
    clear hb
    go_wp2_with fail
    go_ret
    exact ⟨rfl, HB1.out⟩
  rw [h1] at HR1
  cases h2 : rhB m b
  · rw [h2] at HR2
    clear h1 h2
    go_enter Tryz.func96, Tryz.ntmps96
    go_wp2_with fail
    refine (HR1.out _ HIA.out).mono ?_
    rintro e w1 ⟨rfl, hb⟩
    have HB1 := Lib.hid (HB0.out.trans (hb.mono HB0.out.size))
    have HI1 := Lib.hid (HIB.out.lift hb)
    have HD1 := Lib.hid (HD0.out.below hb HD0.out.2.2.2.2)
    clear hb d0 d1
    obtain ⟨d0, d1, _, _, _⟩ := HD1.out
    go_wp2_with fail
    refine (HR2.out _ HI1.out).mono ?_
    rintro e w2 ⟨rfl, hb⟩
    have HB2 := Lib.hid (HB1.out.trans (hb.mono HB1.out.size))
    clear hb
    go_wp2_with fail
    go_ret
    exact ⟨rfl, HB2.out⟩
  rw [h2] at HR2
  clear h1 h2
  obtain ⟨q, hq⟩ : ∃ q : Bool, decide (n = m) = q := ⟨_, rfl⟩
  have HQ := Lib.hid hq
  have hq2 : (n == m) = q := by rw [← hq]; by_cases h : n = m <;> simp [h]
  clear hq
  go_enter Tryz.func96, Tryz.ntmps96
  go_wp2_with fail
  refine (HR1.out _ HIA.out).mono ?_
  rintro e w1 ⟨rfl, hb⟩
  have HB1 := Lib.hid (HB0.out.trans (hb.mono HB0.out.size))
  have HI1 := Lib.hid (HIB.out.lift hb)
  have HC1 := Lib.hid (HC0.out.below hb HC0.out.2.2.2.2)
  have HD1 := Lib.hid (HD0.out.below hb HD0.out.2.2.2.2)
  clear hb c0 c1 d0 d1
  obtain ⟨c0, c1, _, _, _⟩ := HC1.out
  obtain ⟨d0, d1, _, _, _⟩ := HD1.out
  go_wp2_with fail
  refine (HR2.out _ HI1.out).mono ?_
  rintro e w2 ⟨rfl, hb⟩
  have HB2 := Lib.hid (HB1.out.trans (hb.mono HB1.out.size))
  have HC2 := Lib.hid (HC1.out.below hb HC1.out.2.2.2.2)
  have HD2 := Lib.hid (HD1.out.below hb HD1.out.2.2.2.2)
  clear hb c0 c1 d0 d1
  obtain ⟨c0, c1, _, _, _⟩ := HC2.out
  obtain ⟨d0, d1, _, _, _⟩ := HD2.out
  go_wp2_with fail
  go_ret
  exact ⟨ret_bool (by rw [HQ.out]; simp), HB2.out⟩

end Go.Proofs.YtjoeglekcnaebaaGreatDoor
