/-
  The reference's count of lists of steps, by recursion; CountFor of the reference.
-/
import Derived.Test.YtkjghamibjampaaSteps
namespace Go.Proofs.Ytkjghamibjampaa
open Go.RowKit
set_option linter.unusedVariables false
set_option linter.unusedSimpArgs false

/-- The number of steps that may be taken. -/
def width (lo hi : Int) : Nat := (hi + 1 - lo).toNat

/-- The sum of the first i summands. -/
def stS (lo : Int) (m k : Nat) (n : Int) (i : Nat) : Int := sumR (fun i => stN lo m k (n - (lo + i))) i
theorem stS_succ (lo : Int) (m k : Nat) (n : Int) (i : Nat) : stS lo m k n (i + 1) = stS lo m k n i + stN lo m k (n - (lo + i)) := rfl
theorem stS_all (lo : Int) (m k : Nat) (n : Int) : stS lo m k n m = stN lo m (k + 1) n := rfl
theorem stS_bound (lo : Int) (m k : Nat) (n : Int) (hlo : 1 ≤ lo) (hn : n ≤ 16) : ∀ i, 0 ≤ stS lo m k n i ∧ stS lo m k n i ≤ 65536 * i
  | 0 => by simp [stS, sumR]
  | i + 1 => by
    have h := stS_bound lo m k n hlo hn i
    have h1 := stN_nonneg lo m k (n - (lo + i))
    have h2 := stN_small lo m hlo k (n - (lo + i)) (by omega)
    rw [stS_succ]
    omega

set_option maxHeartbeats 400000 in
theorem spec_l25Count_any (k : Nat) : ∀ (kk n lo hi : Int) (w : World), kk = k → k ≤ 100 → -10000 ≤ n → n ≤ 16 → 1 ≤ lo → lo ≤ 100 → lo ≤ hi → hi ≤ 100 →
    Calls Try.prog 48 #[.int .i64 n, .int .i64 kk, .int .i64 lo, .int .i64 hi] w fun e w' => e = .returned (.int .i64 (stN lo (width lo hi) k n)) ∧ w = w' := by
  induction k with
  | zero =>
    intro kk n lo hi w hk _ _ _ _ _ _ _
    subst hk
    by_cases h0 : n = 0
    · subst h0
      go_enter Try.func48, Try.ntmps48
      go_wp2_with fail
      go_ret
      exact ⟨rfl, rfl⟩
    · have hb : (n == 0) = false := by simpa using h0
      have hE : stN lo (width lo hi) 0 n = 0 := by unfold stN; rw [if_neg h0]
      have HE := Lib.hid hE
      clear hE
      go_enter Try.func48, Try.ntmps48
      go_wp2_with fail
      go_ret
      exact ⟨ret_int HE.out.symm, rfl⟩
  | succ k ih =>
    intro kk n lo hi w hk hk100 hn0 hn16 h1 h100 hlh h2
    have hkz : (kk == 0) = false := by simp; omega
    have hm1 : 0 ≤ kk * lo := Int.mul_nonneg (by omega) (by omega)
    have hm2 : kk * lo ≤ 101 * 100 := Int.mul_le_mul (by omega) (by omega) (by omega) (by omega)
    have hm3 : 0 ≤ kk * hi := Int.mul_nonneg (by omega) (by omega)
    have hm4 : kk * hi ≤ 101 * 100 := Int.mul_le_mul (by omega) (by omega) (by omega) (by omega)
    have hw : (width lo hi : Int) = hi + 1 - lo := by unfold width; omega
    have IH := Lib.hid ih
    clear ih
    by_cases hlow : n < kk * lo
    · have hE : stN lo (width lo hi) (k + 1) n = 0 := stN_low _ _ (by omega) _ _ (by rw [← hk]; exact hlow)
      have HE := Lib.hid hE
      have HK := Lib.hid hk
      have HW := Lib.hid hw
      clear hE hk hw
      go_enter Try.func48, Try.ntmps48
      go_wp2_with fail
      go_ret
      exact ⟨ret_int HE.out.symm, rfl⟩
    · by_cases hhigh : kk * hi < n
      · have hE : stN lo (width lo hi) (k + 1) n = 0 := stN_high _ _ _ _ (by rw [← hk, hw, show lo + (hi + 1 - lo) - 1 = hi by omega]; exact hhigh)
        have HE := Lib.hid hE
        have HK := Lib.hid hk
        have HW := Lib.hid hw
        clear hE hk hw
        go_enter Try.func48, Try.ntmps48
        go_wp2_with fail
        go_ret
        exact ⟨ret_int HE.out.symm, rfl⟩
      · have HK := Lib.hid hk
        have HW := Lib.hid hw
        have hkk : 1 ≤ kk := by omega
        have hkk2 : kk ≤ 101 := by omega
        clear hk hw
        go_enter Try.func48, Try.ntmps48
        go_wp2_with fail
        go_loop [9, 10] (fun t s => ∃ (i : Nat) (x : Int), i ≤ width lo hi ∧ s = .int .i64 x ∧ x = lo + i ∧ t = .int .i64 (stS lo (width lo hi) k n i)) (fun _ s => (hi + 1 - intOf s).toNat)
        case atStart => exact ⟨0, lo, Nat.zero_le _, rfl, by omega, rfl⟩
        case round =>
          obtain ⟨i, x, hi1, rfl, hx, rfl⟩ := hrel
          have hb := stS_bound lo (width lo hi) k n h1 hn16 i
          have hs1 := stN_nonneg lo (width lo hi) k (n - x)
          have hs2 := stN_small lo (width lo hi) h1 k (n - x) (by omega)
          have hwi := HW.out
          have hi100 : (i : Int) ≤ 100 := by omega
          have hx1 : lo ≤ x := by omega
          have hsx := stS_succ lo (width lo hi) k n i
          rw [← hx] at hsx
          have HSX := Lib.hid hsx
          have HX := Lib.hid hx
          clear hsx hx hwi
          by_cases hlt : x ≤ hi
          · go_wp2_with (go_at_call 48; refine (IH.out _ _ _ _ _ (by have := HK.out; omega) (by omega) (by omega) (by omega) (by omega) (by omega) (by omega) (by omega)).mono ?_; rintro e w' ⟨rfl, rfl⟩)
            go_round
            case rel => exact ⟨i + 1, x + 1, by have := HX.out; have := HW.out; omega, rfl, by have := HX.out; omega, by rw [HSX.out]⟩
            case measure => simp [intOf]; omega
          · have hE : stS lo (width lo hi) k n i = stN lo (width lo hi) (k + 1) n := by
              have := HX.out; have := HW.out
              rw [show i = width lo hi by omega]; rfl
            have HE := Lib.hid hE
            clear hE
            go_wp2_with fail
            go_ret
            exact ⟨ret_int HE.out, rfl⟩


end Go.Proofs.Ytkjghamibjampaa
