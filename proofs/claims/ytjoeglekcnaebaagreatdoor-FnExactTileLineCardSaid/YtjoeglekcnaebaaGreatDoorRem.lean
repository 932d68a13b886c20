/-
  The remainder that is never below zero.
-/
import Derived.Test.YtjoeglekcnaebaaGreatDoorIntW
namespace Go.Proofs.YtjoeglekcnaebaaGreatDoor
open Go.RowKit
set_option linter.unusedVariables false
set_option linter.unusedSimpArgs false

theorem rem_emod (k n : Int) : (k.tmod n + n) % n = k % n := by
  rw [Int.add_emod_right]
  have e := Int.mul_tdiv_add_tmod k n
  have : k.tmod n = k - n * k.tdiv n := by omega
  rw [this, Int.sub_mul_emod_self_left]

set_option maxHeartbeats 400000 in
theorem impl_remainder_any (k n : Int) (w : World) (hn : 1 ≤ n) (hn2 : n ≤ 1000000000) :
    Calls Tryz.prog 105 #[.int .i64 k, .int .i64 n] w fun e w' => e = .returned (.int .i64 (k % n)) ∧ w = w' := by
  have h0 : (n = 0) = False := by simp; omega
  have h1 := Int.lt_tmod_of_pos k (show 0 < n by omega)
  have h2 := Int.tmod_lt_of_pos k (show 0 < n by omega)
  have HR := Lib.hid (rem_emod k n)
  have h5 : IntKind.i64.wrap (k.tmod n) = k.tmod n := i64w (by omega)
  have h3 : IntKind.i64.wrap (k.tmod n + n) = k.tmod n + n := i64w (by omega)
  have h4 : (k.tmod n + n).tmod n = (k.tmod n + n) % n := Int.tmod_eq_emod_of_nonneg (by omega)
  have h6 : IntKind.i64.wrap ((k.tmod n + n) % n) = (k.tmod n + n) % n := i64w (by rw [HR.out]; have := Int.emod_nonneg k (show n ≠ 0 by omega); have := Int.emod_lt_of_pos k (show 0 < n by omega); omega)
  go_enter Tryz.func105, Tryz.ntmps105
  go_wp2
  go_ret
  exact ⟨ret_int (by have := HR.out; rw [Int.add_emod_right] at this; exact this), rfl⟩

end Go.Proofs.YtjoeglekcnaebaaGreatDoor
