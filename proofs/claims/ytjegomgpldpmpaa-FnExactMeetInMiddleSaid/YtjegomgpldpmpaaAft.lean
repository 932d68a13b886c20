/-
  The order of rhythms by their texts, of the reference; code and rhythmAt of the program at every size.
-/
import Derived.Test.YtjegomgpldpmpaaMovT
import Derived.Test.YtjegomgpldpmpaaRw
namespace Go.Proofs.Ytjegomgpldpmpaa
open Go.RowKit
set_option linter.unusedVariables false
set_option linter.unusedSimpArgs false

set_option maxRecDepth 100000 in
set_option maxHeartbeats 1000000 in
theorem spec_l04After_any (N : Nat) (A1 A2 : Option Addr) (c1 c2 : Nat) (a b : List Int) (w : World) (h1 : Ints w w.heap.size A1 a) (h2 : Ints w w.heap.size A2 b) (ha : RhOk N a) (hb : RhOk N b) :
    Calls Try.prog 36 #[.agg #[.int .i64 N, .slice A1 a.length c1], .agg #[.int .i64 N, .slice A2 b.length c2]] w fun e w' => e = .returned (.bool (aftB N a b)) ∧ Below w.heap.size w w' := by
  have hn2 : N ≤ 24 := by have := ha.2.1; omega
  have hal := (Below.refl w.heap.size w).alloc (Nat.le_refl _) (.cells #[.int .i64 N, .slice A1 a.length c1] 28)
  have hal2 := (Below.refl _ (w.alloc (.cells #[.int .i64 N, .slice A1 a.length c1] 28))).alloc (Nat.le_refl _) (.cells #[.int .i64 N, .slice A2 b.length c2] 28)
  have HB0 := Lib.hid (hal.trans (hal2.mono (by simp)))
  have HP0 := Lib.hid ((Cells2.new w (.int .i64 N) (.slice A1 a.length c1) 28).alloc (.cells #[.int .i64 N, .slice A2 b.length c2] 28))
  have HQ0 := Lib.hid (Cells2.new (w.alloc (.cells #[.int .i64 N, .slice A1 a.length c1] 28)) (.int .i64 N) (.slice A2 b.length c2) 28)
  have HI1 := Lib.hid ((h1.lift hal).lift hal2)
  have HI2 := Lib.hid ((h2.lift hal).lift hal2)
  have HA := Lib.hid ha
  have HB := Lib.hid hb
  obtain ⟨f0, f1, _, _, _⟩ := HP0.out
  obtain ⟨g0, g1, _, _, _⟩ := HQ0.out
  clear h1 h2 ha hb hal hal2
  go_enter Try.func36, Try.ntmps36
  go_wp2_with fail
  generalize (w.alloc (.cells #[.int .i64 N, .slice A1 a.length c1] 28)).alloc (.cells #[.int .i64 N, .slice A2 b.length c2] 28) = W at *
  have HHA := Lib.hid (fun (x : Nat) => spec_l02Has_any A1 c1 a (x : Int) W W.heap.size HI1.out)
  have HHB := Lib.hid (fun (x : Nat) => spec_l02Has_any A2 c2 b (x : Int) W W.heap.size HI2.out)
  simp only [World.size_alloc] at g0 g1
  go_loop [5] (fun v => ∃ p : Nat, p ≤ N ∧ v = .int .i64 p ∧ ∀ q : Nat, q < p → hasB a q = hasB b q) (fun v => N - (intOf v).toNat)
  case atStart => exact ⟨0, Nat.zero_le _, rfl, fun q hq => by omega⟩
  case round =>
    obtain ⟨p, hp, rfl, hs⟩ := hrel
    have HS := Lib.hid hs
    clear hs
    by_cases hlt : p < N
    · have hlti : (p : Int) < (N : Int) := by omega
      have HA1 := Lib.hid (HHA.out p)
      have HB1 := Lib.hid (HHB.out p)
      obtain ⟨x, hx⟩ : ∃ x, hasB a p = x := ⟨_, rfl⟩
      obtain ⟨y, hy⟩ : ∃ y, hasB b p = y := ⟨_, rfl⟩
      rw [hx] at HA1
      rw [hy] at HB1
      have HX := Lib.hid hx
      have HY := Lib.hid hy
      clear hx hy
      cases x
      · cases y
        · skip
          go_wp2_with fail
          refine HA1.out.mono ?_
          rintro e w1 ⟨rfl, rfl⟩
          go_wp2_with fail
          refine HB1.out.mono ?_
          rintro e w1 ⟨rfl, rfl⟩
          go_wp2_with fail
          go_round
          case rel => exact ⟨p + 1, by omega, by go_num, fun q hq => by
            by_cases e : q = p
            · subst e; rw [HX.out, HY.out]
            · exact HS.out q (by omega)⟩
          case measure => simp [intOf]; omega
        · skip
          have HV := Lib.hid (show aftB N a b = false by rw [aft_first HA.out HB.out hlt HS.out (by rw [HX.out, HY.out]; decide), HX.out])
          go_wp2_with fail
          refine HA1.out.mono ?_
          rintro e w1 ⟨rfl, rfl⟩
          go_wp2_with fail
          refine HB1.out.mono ?_
          rintro e w1 ⟨rfl, rfl⟩
          go_wp2_with fail
          go_ret
          exact ⟨ret_bool HV.out.symm, HB0.out⟩
      · cases y
        · skip
          have HV := Lib.hid (show aftB N a b = true by rw [aft_first HA.out HB.out hlt HS.out (by rw [HX.out, HY.out]; decide), HX.out])
          go_wp2_with fail
          refine HA1.out.mono ?_
          rintro e w1 ⟨rfl, rfl⟩
          go_wp2_with fail
          refine HB1.out.mono ?_
          rintro e w1 ⟨rfl, rfl⟩
          go_wp2_with fail
          go_ret
          exact ⟨ret_bool HV.out.symm, HB0.out⟩
        · skip
          go_wp2_with fail
          refine HA1.out.mono ?_
          rintro e w1 ⟨rfl, rfl⟩
          go_wp2_with fail
          refine HB1.out.mono ?_
          rintro e w1 ⟨rfl, rfl⟩
          go_wp2_with fail
          go_round
          case rel => exact ⟨p + 1, by omega, by go_num, fun q hq => by
            by_cases e : q = p
            · subst e; rw [HX.out, HY.out]
            · exact HS.out q (by omega)⟩
          case measure => simp [intOf]; omega
    · have hlti : ¬ (p : Int) < (N : Int) := by omega
      have HV := Lib.hid (show aftB N a b = false from aft_none HA.out HB.out (fun q hq => HS.out q (by omega)))
      go_wp2_with fail
      go_ret
      exact ⟨ret_bool HV.out.symm, HB0.out⟩

end Go.Proofs.Ytjegomgpldpmpaa
