/-
  The greatest common divisor, of the program and of the reference, at great numbers.
-/
import Derived.Test.YtjoeglekcnaebaaGreatDoorIntW
namespace Go.Proofs.YtjoeglekcnaebaaGreatDoor
open Go.RowKit
set_option linter.unusedVariables false
set_option linter.unusedSimpArgs false

theorem gcd_step (a b : Nat) : Nat.gcd b (a % b) = Nat.gcd a b := by
  rw [Nat.gcd_comm b (a % b), ← Nat.gcd_rec, Nat.gcd_comm]

set_option maxHeartbeats 400000 in
theorem spec_l02Gcd_any (a b : Nat) (w : World) (ha : a ≤ 1000000000000000) (hb : b ≤ 1000000000000000) :
    Calls Tryz.prog 66 #[.int .i64 a, .int .i64 b] w fun e w' => e = .returned (.int .i64 (Nat.gcd a b : Nat)) ∧ w = w' := by
  go_enter Tryz.func66, Tryz.ntmps66
  go_wp2
  go_loop [0, 1] (fun x y => ∃ c d : Nat, c ≤ 1000000000000000 ∧ d ≤ 1000000000000000 ∧ x = .int .i64 c ∧ y = .int .i64 d ∧ Nat.gcd c d = Nat.gcd a b) (fun _ y => (intOf y).toNat)
  case atStart => exact ⟨a, b, ha, hb, rfl, rfl, rfl⟩
  case round =>
    obtain ⟨c, d, hc, hd, rfl, rfl, hg⟩ := hrel
    have HG := Lib.hid hg
    clear hg
    by_cases h0 : 0 < d
    · have hm : c % d < d := Nat.mod_lt _ h0
      have HS := Lib.hid (gcd_step c d)
      have hm0 : (0 : Int) ≤ (c : Int) % (d : Int) := Int.emod_nonneg _ (by omega)
      go_wp2
      go_round
      case rel => exact ⟨d, c % d, by omega, by omega, rfl, by rw [Int.natCast_emod], HS.out.trans HG.out⟩
      case measure =>
        have hm1 : (c : Int) % (d : Int) < (d : Int) := Int.emod_lt_of_pos _ (by omega)
        simp [intOf]; omega
    · have hd0 : d = 0 := by omega
      subst hd0
      have HE := Lib.hid (show Nat.gcd a b = c by rw [← HG.out]; exact Nat.gcd_zero_right c)
      go_wp2
      go_ret
      exact ⟨ret_int (by rw [HE.out]), rfl⟩

set_option maxHeartbeats 400000 in
theorem impl_gcd_any (a b : Nat) (w : World) (ha : a ≤ 1000000000000000) (hb : b ≤ 1000000000000000) :
    Calls Tryz.prog 95 #[.int .i64 a, .int .i64 b] w fun e w' => e = .returned (.int .i64 (Nat.gcd a b : Nat)) ∧ Below w.heap.size w w' := by
  go_enter Tryz.func95, Tryz.ntmps95
  go_wp2
  go_loopw [0, 1] (fun x y wr => ∃ c d : Nat, c ≤ 1000000000000000 ∧ d ≤ 1000000000000000 ∧ x = .int .i64 c ∧ y = .int .i64 d ∧ Nat.gcd c d = Nat.gcd a b ∧ Below w.heap.size w wr) (fun _ y _ => (intOf y).toNat)
  case atStart => exact ⟨a, b, ha, hb, rfl, rfl, rfl, Below.refl _ _⟩
  case round =>
    obtain ⟨c, d, hc, hd, rfl, rfl, hg, hbel⟩ := hrel
    have HG := Lib.hid hg
    clear hg
    by_cases h0 : 0 < d
    · have hm : c % d < d := Nat.mod_lt _ h0
      have HS := Lib.hid (gcd_step c d)
      have hm0 : (0 : Int) ≤ (c : Int) % (d : Int) := Int.emod_nonneg _ (by omega)
      have hne : ((d : Int) != 0) = true := by rw [bne_iff_ne]; omega
      go_wp2
      go_quiet (fail)
      go_wp2
      go_roundw
      case rel => exact ⟨d, c % d, by omega, by omega, rfl, by rw [Int.natCast_emod], HS.out.trans HG.out, Below.drewN_ hbel _⟩
      case measure =>
        have hm1 : (c : Int) % (d : Int) < (d : Int) := Int.emod_lt_of_pos _ (by omega)
        simp [intOf]; omega
    · have hd0 : d = 0 := by omega
      subst hd0
      have HE := Lib.hid (show Nat.gcd a b = c by rw [← HG.out]; exact Nat.gcd_zero_right c)
      go_wp2
      go_ret
      exact ⟨ret_int (by rw [HE.out]), hbel⟩


end Go.Proofs.YtjoeglekcnaebaaGreatDoor
