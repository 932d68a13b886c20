/-
  The code of a rhythm, by the program.
-/
import Derived.Test.YtjoeglekcnaebaaGreatDoorTkI
import Derived.Test.YtjoeglekcnaebaaGreatDoorRlaw
namespace Go.Proofs.YtjoeglekcnaebaaGreatDoor
open Go.RowKit
set_option linter.unusedVariables false
set_option linter.unusedSimpArgs false

theorem i64_or_pow2 (m v : Nat) (hm : m < 16777216) (hv : v < 24) : bits BinOp.or IntKind.i64 (m : Int) (wrap64 (2 ^ v)) = ((m ||| 2 ^ v : Nat) : Int) := by
  have h2 : (2 : Nat) ^ v < 2 ^ 24 := Nat.pow_lt_pow_right (by omega) hv
  have e : wrap64 (2 ^ v) = ((2 ^ v : Nat) : Int) := by
    rw [show ((2 : Int) ^ v) = ((2 ^ v : Nat) : Int) by simp]
    generalize 2 ^ v = x at h2
    unfold wrap64
    omega
  rw [e]
  exact i64_or_nat m (2 ^ v) (by omega) (by omega)

set_option maxRecDepth 100000 in
set_option maxHeartbeats 1000000 in
theorem impl_code_any (n : Int) (A : Option Addr) (cap : Nat) (bs : List Int) (w : World) (hA : Ints w w.heap.size A bs) (hok : RhOk n bs) :
    Calls Tryz.prog 50 #[.agg #[.int .i64 n, .slice A bs.length cap]] w fun e w' => e = .returned (.int .i64 (codeN n bs bs.length)) ∧ Below w.heap.size w w' := by
  have hlen := hA.1
  unfold maxLen at hlen
  have HC := Lib.hid hA.2.2
  have hn1 := hok.1
  have hn2 := hok.2.1
  have HOK := Lib.hid hok
  obtain ⟨c0, c1⟩ := box2 (Below.refl (w.heap.size + 1) (w.alloc (.cells #[.int .i64 n, .slice A bs.length cap] 27)))
  have HB := Lib.hid ((Below.refl w.heap.size w).alloc (Nat.le_refl _) (.cells #[.int .i64 n, .slice A bs.length cap] 27))
  clear hA hok
  go_enter Tryz.func50, Tryz.ntmps50
  go_wp2_with fail
  go_loop [3, 9] (fun m i => ∃ k : Nat, k ≤ bs.length ∧ i = .int .i64 k ∧ m = .int .i64 (codeN n bs k)) (fun _ i => bs.length - (intOf i).toNat)
  case atStart => exact ⟨0, Nat.zero_le _, rfl, rfl⟩
  case round =>
    obtain ⟨k, hk, rfl, rfl⟩ := hrel
    by_cases hlt : k < bs.length
    · obtain ⟨b, off, rfl, hB, hc⟩ := HC.out (by omega)
      have hcell := (HB.out.cell (p := ⟨b, off + k, none⟩) hB).trans (hc k hlt)
      have hx0 := HOK.out.2.2.1 k hlt
      have hsu : codeN n bs (k + 1) = codeN n bs k ||| 2 ^ (n - 1 - bs.getD k 0).toNat := rfl
      have hcl := codeN_lt n bs (by omega) HOK.out.2.2.1 k (by omega)
      have hcl2 : codeN n bs k < 16777216 := Nat.lt_of_lt_of_le hcl (Nat.le_trans (Nat.pow_le_pow_right (by omega) (show n.toNat ≤ 24 by omega)) (by decide))
      clear hcl
      obtain ⟨x, hx⟩ : ∃ x, bs.getD k 0 = x := ⟨_, rfl⟩
      rw [hx] at hcell hx0 hsu
      obtain ⟨hx1, hx2⟩ := hx0
      obtain ⟨v, hv⟩ : ∃ v : Nat, n - 1 - x = v := ⟨(n - 1 - x).toNat, by omega⟩
      have hv24 : v < 24 := by omega
      have hor := i64_or_pow2 (codeN n bs k) v hcl2 hv24
      rw [hv, Int.toNat_natCast] at hsu
      rw [← hsu] at hor
      have hx3 : x = n - 1 - v := by omega
      obtain ⟨M', hM'⟩ : ∃ M', codeN n bs (k + 1) = M' := ⟨_, rfl⟩
      rw [hM'] at hor
      have HM' := Lib.hid hM'
      have hw1 : IntKind.i64.wrap (n - 1 - x) = (v : Int) := by rw [hv]; exact i64w (by omega)
      generalize codeN n bs k = M at hor hcl2 ⊢
      clear hc hx hsu hM' hx3
      go_wp2_with fail
      go_round
      case rel => exact ⟨k + 1, by omega, by go_num, by rw [HM'.out]⟩
      case measure => simp [intOf]; omega
    · have hke : k = bs.length := by omega
      subst hke
      go_wp2_with fail
      go_ret
      exact ⟨rfl, HB.out⟩

end Go.Proofs.YtjoeglekcnaebaaGreatDoor
