/-
  The first full code of each length; the beats of a code.
-/
import Derived.Test.YtjoeglekcnaebaaGreatDoorFulT
namespace Go.Proofs.YtjoeglekcnaebaaGreatDoor
set_option linter.unusedVariables false
set_option linter.unusedSimpArgs false

/-- No code above c0 is full, c0 is. -/
def topB (S c0 m : Nat) : Bool := (List.range m).all (fun j => !fullB S (c0 + 1 + j)) && fullB S c0
theorem top_spec {S c0 m : Nat} (h : topB S c0 m = true) : fullB S c0 = true ∧ ∀ c, c0 < c → c < c0 + 1 + m → fullB S c = false := by
  unfold topB at h
  rw [Bool.and_eq_true, List.all_eq_true] at h
  refine ⟨h.2, fun c h1 h2 => ?_⟩
  have := h.1 (c - (c0 + 1)) (List.mem_range.2 (by omega))
  rw [show c0 + 1 + (c - (c0 + 1)) = c by omega] at this
  simpa using this
def topC : Nat → Nat
  | 1 => 2
  | 2 => 12
  | 3 => 232
  | _ => 63056
theorem top_1 : topB 2 2 1 = true := by decide +kernel
theorem top_2 : topB 4 12 3 = true := by decide +kernel
theorem top_3 : topB 8 232 23 = true := by decide +kernel
theorem top_4 : topB 16 63056 2479 = true := by decide +kernel

/-- The beats of a code. -/
def bitsB (n c : Nat) (m : Nat) : List Int := ((List.range m).filter (fun p => c.testBit (n - 1 - p))).map Int.ofNat
theorem bitsB_zero (n c : Nat) : bitsB n c 0 = [] := rfl
theorem bitsB_yes {n c m : Nat} (h : c.testBit (n - 1 - m) = true) : bitsB n c (m + 1) = bitsB n c m ++ [(m : Int)] := by
  simp [bitsB, List.range_succ, h]
theorem bitsB_no {n c m : Nat} (h : c.testBit (n - 1 - m) = false) : bitsB n c (m + 1) = bitsB n c m := by
  simp [bitsB, List.range_succ, h]
theorem bitsB_mem {n c m : Nat} {x : Int} : x ∈ bitsB n c m ↔ ∃ p : Nat, p < m ∧ c.testBit (n - 1 - p) = true ∧ x = p := by
  unfold bitsB
  rw [List.mem_map]
  constructor
  · rintro ⟨p, hp, rfl⟩
    rw [List.mem_filter, List.mem_range] at hp
    exact ⟨p, hp.1, hp.2, rfl⟩
  · rintro ⟨p, h1, h2, rfl⟩
    exact ⟨p, by rw [List.mem_filter, List.mem_range]; exact ⟨h1, h2⟩, rfl⟩
theorem bitsB_len (n c m : Nat) : (bitsB n c m).length ≤ m := by
  unfold bitsB
  rw [List.length_map]
  exact Nat.le_trans (List.length_filter_le _ _) (by simp)
theorem bitsB_range (n c m : Nat) : ∀ i, i < (bitsB n c m).length → 0 ≤ (bitsB n c m).getD i 0 ∧ (bitsB n c m).getD i 0 < m := by
  intro i hi
  obtain ⟨p, hp, _, e⟩ := bitsB_mem.1 (show (bitsB n c m).getD i 0 ∈ bitsB n c m by
    rw [List.getD_eq_getElem?_getD, List.getElem?_eq_getElem hi]; exact List.getElem_mem hi)
  rw [e]
  omega
theorem bitsB_sorted (n c : Nat) : ∀ m, (bitsB n c m).Pairwise (fun a b => a < b)
  | 0 => List.Pairwise.nil
  | m + 1 => by
    cases h : c.testBit (n - 1 - m)
    · rw [bitsB_no h]; exact bitsB_sorted n c m
    · rw [bitsB_yes h, List.pairwise_append]
      refine ⟨bitsB_sorted n c m, by simp, fun a ha b hb => ?_⟩
      rw [List.mem_singleton] at hb
      obtain ⟨p, hp, _, rfl⟩ := bitsB_mem.1 ha
      omega
theorem bitsB_ok (n c : Nat) (h1 : 1 ≤ n) (h24 : n ≤ 24) : RhOk n (bitsB n c n) := by
  refine ⟨by omega, by omega, bitsB_range n c n, fun i hi => ?_⟩
  have := List.pairwise_iff_getElem.1 (bitsB_sorted n c n) i (i + 1) (by omega) hi (by omega)
  rw [List.getD_eq_getElem?_getD, List.getElem?_eq_getElem (by omega), List.getD_eq_getElem?_getD, List.getElem?_eq_getElem hi]
  exact this
theorem bitsB_code (n c : Nat) (hc : c < 2 ^ n) (h0 : 0 < n) : codeN n (bitsB n c n) (bitsB n c n).length = c := by
  apply Nat.eq_of_testBit_eq
  intro b
  by_cases hb : b < n
  · rw [codeN_has (n : Int) _ (by omega) (bitsB_range n c n) b (by omega)]
    unfold hasB
    rw [Bool.eq_iff_iff, decide_eq_true_eq, bitsB_mem]
    constructor
    · rintro ⟨p, hp, h, e⟩
      rwa [show n - 1 - p = b by omega] at h
    · intro h
      exact ⟨n - 1 - b, by omega, by rwa [show n - 1 - (n - 1 - b) = b by omega], by omega⟩
  · have h1 := codeN_lt (n : Int) (bitsB n c n) (by omega) (bitsB_range n c n) _ (Nat.le_refl _)
    rw [Int.toNat_natCast] at h1
    have h2 : (2 : Nat) ^ n ≤ 2 ^ b := Nat.pow_le_pow_right (by omega) (by omega)
    rw [Nat.testBit_lt_two_pow (by omega), Nat.testBit_lt_two_pow (by omega)]

end Go.Proofs.YtjoeglekcnaebaaGreatDoor
