/-
  Counts, the least length and all covers of the reference.
-/
import Derived.Test.YtoofkchhjkhdeaaDoorCovQ
import Derived.Test.YtoofkchhjkhdeaaDoorCovI
namespace Go.Proofs.YtoofkchhjkhdeaaDoor
open Go.RowKit Go.Shelf
set_option linter.unusedVariables false
set_option linter.unusedSimpArgs false

set_option maxRecDepth 100000 in
set_option maxHeartbeats 1000000 in
theorem spec_CountCovers_ok (A : Option Addr) (cap : Nat) (xs : List Int) (n : Nat) (w : World) (hA : Ints w w.heap.size A xs) (hp : patB xs = true) (hn : n ≤ 24) :
    Calls Tryd.prog 20 #[.slice A xs.length cap, .int .i64 n] w fun e w' => e = .returned (.int .i64 (covN xs n).length) ∧ Below w.heap.size w w' := by
  have HPO := spec_PatternOk_any A cap xs w hA
  rw [hp] at HPO
  have HPO := Lib.hid HPO
  have HMK := Lib.hid (spec_l14Masks_ok A cap xs w hA hp)
  have HCN := Lib.hid (fun V => spec_l14Count_any n (patM xs) (patM (mirL xs)) hn (pat_lt hp) (pat_lt (mir_ok hp)) (pat_odd hp) (pat_odd (mir_ok hp)) (n + 1) 0 0 V (by omega) (by omega) (by omega) (Nat.two_pow_pos _))
  have hin : inB (n : Int) 0 24 = true := inB_iff.2 (by omega)
  obtain ⟨k, hk⟩ : ∃ k, (covN xs n).length = k := ⟨_, rfl⟩
  rw [show (covL n (patM xs) (patM (mirL xs)) (n + 1) 0 0).length = k from hk] at HCN
  rw [hk]
  generalize patM xs = a at *
  generalize patM (mirL xs) = b at *
  clear hA hk
  go_enter Tryd.func20, Tryd.ntmps20
  go_wp2_with fail
  refine HPO.out.mono ?_
  rintro e w' ⟨rfl, hw'⟩
  obtain rfl := hw'
  go_wp2_with (go_at_call 11; refine (l01In_any _ _ _ _).mono ?_; rintro e w' ⟨rfl, rfl⟩)
  refine HMK.out.mono ?_
  rintro e w1 ⟨rfl, hb⟩
  have HB := Lib.hid hb
  clear hb
  go_wp2_with fail
  refine (HCN.out _).mono ?_
  rintro e w' ⟨rfl, hw'⟩
  obtain rfl := hw'
  go_wp2_with fail
  go_ret
  exact ⟨rfl, HB.out⟩

theorem least_at (xs : List Int) (k : Nat) (hk : k < 24) (h : ∀ j, 1 ≤ j → j ≤ k → covN xs j = []) (hc : covN xs (k + 1) ≠ []) : leastC xs = k + 1 := by
  rcases lstC_at xs 24 1 with ⟨_, h2⟩ | ⟨h1, h2, h3⟩
  · exact absurd (h2 (k + 1) (by omega) (by omega)) hc
  · have hm := lstC_min xs 24 1 (Nat.le_refl _)
    rcases Nat.lt_trichotomy (k + 1) (lstC xs 24 1) with h4 | h4 | h4
    · exact absurd (hm (k + 1) (by omega) (by omega) (.inl h4)) hc
    · exact h4.symm
    · exact absurd (h _ h1 (by omega)) h3
theorem least_none (xs : List Int) (h : ∀ j, 1 ≤ j → j ≤ 24 → covN xs j = []) : leastC xs = 0 := by
  rcases lstC_at xs 24 1 with ⟨h1, _⟩ | ⟨h1, h2, h3⟩
  · exact h1
  · exact absurd (h _ h1 (by omega)) h3

set_option maxRecDepth 100000 in
set_option maxHeartbeats 1000000 in
theorem spec_LeastCover_ok (A : Option Addr) (cap : Nat) (xs : List Int) (w : World) (hA : Ints w w.heap.size A xs) (hp : patB xs = true) :
    Calls Tryd.prog 9 #[.slice A xs.length cap] w fun e w' => e = .returned (.int .i64 (leastC xs)) ∧ Below w.heap.size w w' := by
  have HA := Lib.hid hA
  obtain ⟨lc, hlc⟩ : ∃ lc, leastC xs = lc := ⟨_, rfl⟩
  rw [hlc]
  have HLC := Lib.hid hlc
  clear hA hlc
  go_enter Tryd.func9, Tryd.ntmps9
  go_wp2_with fail
  go_loopw [3] (fun i wr => ∃ k : Nat, k ≤ 24 ∧ i = .int .i64 ((k + 1 : Nat) : Int) ∧ (∀ j, 1 ≤ j → j ≤ k → covN xs j = []) ∧ Below w.heap.size w wr) (fun i _ => 25 - (intOf i).toNat)
  case atStart => exact ⟨0, by omega, rfl, fun j h1 h2 => by omega, Below.refl _ _⟩
  case round =>
    obtain ⟨k, hk, rfl, hall, hbel⟩ := hrel
    have HB := Lib.hid hbel
    have HAL := Lib.hid hall
    by_cases hlt : k < 24
    · have HCC := Lib.hid (spec_CountCovers_ok A cap xs (k + 1) wr ((HA.out.below hbel).mono hbel.size) hp (by omega))
      have HBD := Lib.hid (covL_bnd (k + 1) (patM xs) (patM (mirL xs)) (k + 1 + 1) 0 0)
      obtain ⟨n, hn⟩ : ∃ n, k + 1 = n := ⟨_, rfl⟩
      have hn24 : (n : Int) ≤ 24 := by omega
      have hwn : IntKind.i64.wrap ((n : Int) + 1) = (n : Int) + 1 := i64w (by omega)
      have HNK := Lib.hid hn
      rw [hn] at HCC ⊢
      clear hall hbel hn
      by_cases hc : covN xs n = []
      · have HC := Lib.hid hc
        rw [show (covN xs n).length = 0 by rw [hc]; rfl] at HCC
        clear hc
        go_wp2_with fail
        refine HCC.out.mono ?_
        rintro e w1 ⟨rfl, hb⟩
        have HB := Lib.hid (HB.out.trans (hb.mono HB.out.size))
        clear hb
        go_wp2_with fail
        go_roundw
        case rel => exact ⟨k + 1, hlt, by have := HNK.out; rw [this]; go_num, fun j h1 h2 => by
          by_cases e : j = n
          · rw [e]; exact HC.out
          · exact HAL.out j h1 (by have := HNK.out; omega), HB.out⟩
        case measure => simp [intOf]; omega
      · have hpos : 0 < (covN xs n).length := List.length_pos_iff.2 hc
        have HLL := Lib.hid (show lc = n from by rw [← HLC.out, ← HNK.out]; exact least_at xs k hlt HAL.out (by rw [HNK.out]; exact hc))
        obtain ⟨q, hq⟩ : ∃ q, (covN xs n).length = q := ⟨_, rfl⟩
        rw [hq] at hpos HCC
        have hqi : (0 : Int) < (q : Int) := by omega
        clear hc hq
        go_wp2_with fail
        refine HCC.out.mono ?_
        rintro e w1 ⟨rfl, hb⟩
        have HB := Lib.hid (HB.out.trans (hb.mono HB.out.size))
        clear hb
        go_wp2_with fail
        go_ret
        exact ⟨ret_int (by rw [HLL.out]), HB.out⟩
    · have hke : k = 24 := by omega
      have HL0 := Lib.hid (show lc = 0 from by rw [← HLC.out]; exact least_none xs (fun j h1 h2 => HAL.out j h1 (by omega)))
      subst hke
      clear hall hbel
      have hn24 : ¬ (((24 + 1 : Nat) : Int) ≤ 24) := by omega
      go_wp2_with fail
      go_ret
      exact ⟨ret_int (by rw [HL0.out]; rfl), HB.out⟩

end Go.Proofs.YtoofkchhjkhdeaaDoor
