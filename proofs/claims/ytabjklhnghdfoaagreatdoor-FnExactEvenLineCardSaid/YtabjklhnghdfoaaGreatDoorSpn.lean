/-
  Sums of steps: spanOf of the program, l03Span of the reference.
-/
import Derived.Test.YtabjklhnghdfoaaGreatDoorRok
import Derived.Test.YtabjklhnghdfoaaGreatDoorRem
namespace Go.Proofs.YtabjklhnghdfoaaGreatDoor
open Go.RowKit
set_option linter.unusedVariables false
set_option linter.unusedSimpArgs false

def spanV (xs : List Int) (i : Nat) : Nat → Int
  | 0 => 0
  | j + 1 => spanV xs i j + xs.getD ((i + j) % xs.length) 0
theorem spanV_bnd {xs : List Int} (h : ∀ i, i < xs.length → 0 ≤ xs.getD i 0 ∧ xs.getD i 0 ≤ 24) (hl : 1 ≤ xs.length) (i : Nat) : ∀ j, 0 ≤ spanV xs i j ∧ spanV xs i j ≤ j * 24
  | 0 => ⟨Int.le_refl _, by simp [spanV]⟩
  | j + 1 => by
    have ih := spanV_bnd h hl i j
    have := h ((i + j) % xs.length) (Nat.mod_lt _ (by omega))
    unfold spanV
    omega

set_option maxRecDepth 100000 in
set_option maxHeartbeats 1000000 in
theorem impl_spanOf_any (A : Option Addr) (cap : Nat) (xs : List Int) (i k : Nat) (w : World) (hA : Ints w w.heap.size A xs) (hl : 1 ≤ xs.length) (hl2 : xs.length ≤ 24) (hx : ∀ i, i < xs.length → 0 ≤ xs.getD i 0 ∧ xs.getD i 0 ≤ 24) (hi : i ≤ 24) (hk : k ≤ 24) :
    Calls Tryz.prog 47 #[.slice A xs.length cap, .int .i64 i, .int .i64 k] w fun e w' => e = .returned (.int .i64 (spanV xs i k)) ∧ Below w.heap.size w w' := by
  obtain ⟨bA, oA, rfl, hAB, hac⟩ := hA.2.2 (by omega)
  have HAC := Lib.hid hac
  have HX := Lib.hid hx
  have HBD := Lib.hid (spanV_bnd hx hl i)
  clear hA hac hx
  have hz : ((xs.length : Int) = 0) = False := eq_false (by omega)
  have hz2 : (xs.length = 0) = False := eq_false (by omega)
  go_enter Tryz.func47, Tryz.ntmps47
  go_wp2_with fail
  go_loopw [7, 10] (fun so ii wr => ∃ j : Nat, j ≤ k ∧ ii = .int .i64 j ∧ so = .int .i64 (spanV xs i j) ∧ Below w.heap.size w wr) (fun _ ii _ => k - (intOf ii).toNat)
  case atStart => exact ⟨0, Nat.zero_le _, rfl, rfl, Below.refl _ _⟩
  case round =>
    obtain ⟨j, hj, rfl, rfl, hbel⟩ := hrel
    obtain ⟨wo, rfl⟩ : ∃ wo : World, wo = wr := ⟨_, rfl⟩
    have HBE := Lib.hid hbel
    have hbd := HBD.out j
    by_cases hlt : j < k
    · have hcell := (hbel.cell (p := ⟨bA, oA + (i + j) % xs.length, none⟩) hAB).trans (HAC.out ((i + j) % xs.length) (Nat.mod_lt _ (by omega)))
      have hxb := HX.out ((i + j) % xs.length) (Nat.mod_lt _ (by omega))
      have hml : (i + j) % xs.length < xs.length := Nat.mod_lt _ (by omega)
      have HSU := Lib.hid (show spanV xs i (j + 1) = spanV xs i j + xs.getD ((i + j) % xs.length) 0 from rfl)
      have hmod : Int.tmod ((i : Int) + j) xs.length = (((i + j) % xs.length : Nat) : Int) := by
        rw [Int.tmod_eq_emod_of_nonneg (by omega), Int.natCast_emod, Int.natCast_add]
      have hmod2 : ((i : Int) + j) % xs.length = (((i + j) % xs.length : Nat) : Int) := by rw [Int.natCast_emod, Int.natCast_add]
      obtain ⟨m, hm⟩ : ∃ m, (i + j) % xs.length = m := ⟨_, rfl⟩
      obtain ⟨x, hxx⟩ : ∃ x, xs.getD ((i + j) % xs.length) 0 = x := ⟨_, rfl⟩
      rw [hxx] at hcell hxb HSU
      rw [hm] at hcell hml hmod hmod2
      obtain ⟨S, hS⟩ : ∃ S, spanV xs i j = S := ⟨_, rfl⟩
      rw [hS] at hbd HSU ⊢
      have hw1 : IntKind.i64.wrap ((i : Int) + j) = (i : Int) + j := i64w (by omega)
      have hw2 : IntKind.i64.wrap (S + x) = S + x := i64w (by omega)
      have hw3 : IntKind.i64.wrap (m : Int) = (m : Int) := i64w (by omega)
      have hm0 : (0 : Int) ≤ (m : Int) := Int.natCast_nonneg _
      have hm1 : (m : Int) < (xs.length : Int) := by omega
      clear hm hxx hS hbel
      go_wp2_with fail
      try go_quiet (fail)
      try go_wp2_with fail
      go_roundw
      case rel => exact ⟨j + 1, by omega, by go_num, by rw [HSU.out], by first | exact HBE.out | exact Below.drewN_ HBE.out _⟩
      case measure => simp [intOf]; omega
    · have hje : j = k := by omega
      subst hje
      obtain ⟨S, hS⟩ : ∃ S, spanV xs i j = S := ⟨_, rfl⟩
      have HSS := Lib.hid hS
      rw [hS]
      clear hS
      go_wp2_with fail
      go_ret
      exact ⟨ret_int HSS.out.symm, HBE.out⟩

set_option maxRecDepth 100000 in
set_option maxHeartbeats 1000000 in
theorem spec_l03Span_any (A : Option Addr) (cap : Nat) (xs : List Int) (i k : Nat) (w : World) (hA : Ints w w.heap.size A xs) (hl : 1 ≤ xs.length) (hl2 : xs.length ≤ 24) (hx : ∀ i, i < xs.length → 0 ≤ xs.getD i 0 ∧ xs.getD i 0 ≤ 24) (hi : i ≤ 24) (hk : k ≤ 24) :
    Calls Tryz.prog 42 #[.slice A xs.length cap, .int .i64 i, .int .i64 k] w fun e w' => e = .returned (.int .i64 (spanV xs i k)) ∧ Below w.heap.size w w' := by
  obtain ⟨bA, oA, rfl, hAB, hac⟩ := hA.2.2 (by omega)
  have HAC := Lib.hid hac
  have HX := Lib.hid hx
  have HBD := Lib.hid (spanV_bnd hx hl i)
  clear hA hac hx
  have hz : ((xs.length : Int) = 0) = False := eq_false (by omega)
  have hz2 : (xs.length = 0) = False := eq_false (by omega)
  go_enter Tryz.func42, Tryz.ntmps42
  go_wp2_with fail
  go_loopw [7, 8] (fun so ii wr => ∃ j : Nat, j ≤ k ∧ ii = .int .i64 j ∧ so = .int .i64 (spanV xs i j) ∧ Below w.heap.size w wr) (fun _ ii _ => k - (intOf ii).toNat)
  case atStart => exact ⟨0, Nat.zero_le _, rfl, rfl, Below.refl _ _⟩
  case round =>
    obtain ⟨j, hj, rfl, rfl, hbel⟩ := hrel
    obtain ⟨wo, rfl⟩ : ∃ wo : World, wo = wr := ⟨_, rfl⟩
    have HBE := Lib.hid hbel
    have hbd := HBD.out j
    by_cases hlt : j < k
    · have hcell := (hbel.cell (p := ⟨bA, oA + (i + j) % xs.length, none⟩) hAB).trans (HAC.out ((i + j) % xs.length) (Nat.mod_lt _ (by omega)))
      have hxb := HX.out ((i + j) % xs.length) (Nat.mod_lt _ (by omega))
      have hml : (i + j) % xs.length < xs.length := Nat.mod_lt _ (by omega)
      have HSU := Lib.hid (show spanV xs i (j + 1) = spanV xs i j + xs.getD ((i + j) % xs.length) 0 from rfl)
      have hmod : Int.tmod ((i : Int) + j) xs.length = (((i + j) % xs.length : Nat) : Int) := by
        rw [Int.tmod_eq_emod_of_nonneg (by omega), Int.natCast_emod, Int.natCast_add]
      have hmod2 : ((i : Int) + j) % xs.length = (((i + j) % xs.length : Nat) : Int) := by rw [Int.natCast_emod, Int.natCast_add]
      obtain ⟨m, hm⟩ : ∃ m, (i + j) % xs.length = m := ⟨_, rfl⟩
      obtain ⟨x, hxx⟩ : ∃ x, xs.getD ((i + j) % xs.length) 0 = x := ⟨_, rfl⟩
      rw [hxx] at hcell hxb HSU
      rw [hm] at hcell hml hmod hmod2
      obtain ⟨S, hS⟩ : ∃ S, spanV xs i j = S := ⟨_, rfl⟩
      rw [hS] at hbd HSU ⊢
      have hw1 : IntKind.i64.wrap ((i : Int) + j) = (i : Int) + j := i64w (by omega)
      have hw2 : IntKind.i64.wrap (S + x) = S + x := i64w (by omega)
      have hw3 : IntKind.i64.wrap (m : Int) = (m : Int) := i64w (by omega)
      have hm0 : (0 : Int) ≤ (m : Int) := Int.natCast_nonneg _
      have hm1 : (m : Int) < (xs.length : Int) := by omega
      clear hm hxx hS hbel
      go_wp2_with fail
      try go_quiet (fail)
      try go_wp2_with fail
      go_roundw
      case rel => exact ⟨j + 1, by omega, by go_num, by rw [HSU.out], by first | exact HBE.out | exact Below.drewN_ HBE.out _⟩
      case measure => simp [intOf]; omega
    · have hje : j = k := by omega
      subst hje
      obtain ⟨S, hS⟩ : ∃ S, spanV xs i j = S := ⟨_, rfl⟩
      have HSS := Lib.hid hS
      rw [hS]
      clear hS
      go_wp2_with fail
      go_ret
      exact ⟨ret_int HSS.out.symm, HBE.out⟩

end Go.Proofs.YtabjklhnghdfoaaGreatDoor
