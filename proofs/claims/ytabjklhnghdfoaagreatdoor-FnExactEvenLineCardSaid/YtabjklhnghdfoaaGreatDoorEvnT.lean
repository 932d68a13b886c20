/-
  The even rhythm, and the first best of several, in plain words.
-/
import Derived.Test.YtabjklhnghdfoaaGreatDoorWayU
namespace Go.Proofs.YtabjklhnghdfoaaGreatDoor
open Go.RowKit
set_option linter.unusedVariables false
set_option linter.unusedSimpArgs false

def evL (k n m q : Nat) : List Int := (List.range q).map fun i => (((i * n + m) / k : Nat) : Int)
theorem evL_succ (k n m q : Nat) : evL k n m (q + 1) = evL k n m q ++ [(((q * n + m) / k : Nat) : Int)] := by simp [evL, List.range_succ]
theorem evL_len (k n m q : Nat) : (evL k n m q).length = q := by simp [evL]
theorem evL_gen (k n m q : Nat) : evL k n m q = genL q fun i => (((i * n + m) / k : Nat) : Int) := rfl
def evB (n k : Nat) : List Int := evL k n 0 k
theorem evB_len (n k : Nat) : (evB n k).length = k := evL_len _ _ _ _
theorem evB_ok {n k : Nat} (h1 : 1 ≤ n) (h2 : n ≤ 24) (hk : k ≤ n) : RhOk n (evB n k) := by
  unfold evB
  rw [evL_gen]
  refine ⟨by omega, by omega, fun i hi => ?_, fun i hi => ?_⟩
  · rw [genL_len] at hi
    rw [genL_at hi]
    have : (i * n + 0) / k < n := Nat.div_lt_of_lt_mul (by
      have := Nat.mul_lt_mul_of_pos_right (show i < k from hi) (show 0 < n by omega)
      omega)
    exact ⟨Int.natCast_nonneg _, Int.ofNat_lt.2 this⟩
  · rw [genL_len] at hi
    rw [genL_at hi, genL_at (by omega)]
    have h3 : (i * n + 0 + k) / k = (i * n + 0) / k + 1 := Nat.add_div_right _ (by omega)
    have h4 : (i * n + 0 + k) / k ≤ ((i + 1) * n + 0) / k := Nat.div_le_div_right (by rw [Nat.add_mul]; omega)
    have : (i * n + 0) / k < ((i + 1) * n + 0) / k := by omega
    exact Int.ofNat_lt.2 this
theorem ofL_rh {N : Nat} {a : List Int} (h : RhOk N a) : ofL a N = a := by
  refine asc_unique (ofL_sorted _ _) (rhok_asc h) fun x => ?_
  rw [ofL_mem]
  constructor
  · rintro ⟨t, ht, hb, rfl⟩
    unfold hasB at hb
    rwa [decide_eq_true_eq] at hb
  · intro hx
    have := rhok_range h x hx
    obtain ⟨t, ht⟩ := Int.eq_ofNat_of_zero_le this.1
    exact ⟨t, by omega, by unfold hasB; rw [decide_eq_true_eq, ← ht]; exact hx, ht⟩

/-- The first of the least of f at 0, .., m - 1. -/
def bestK (f : Nat → Int) : Nat → Nat
  | 0 => 0
  | m + 1 => if f m < f (bestK f m) then m else bestK f m
theorem bestK_one (f : Nat → Int) : bestK f 1 = 0 := by unfold bestK; show (if f 0 < f 0 then 0 else 0) = 0; split <;> rfl
theorem bestK_lt (f : Nat → Int) : ∀ m, 1 ≤ m → bestK f m < m
  | 0, h => by omega
  | 1, _ => by rw [bestK_one]; omega
  | m + 2, _ => by
    have := bestK_lt f (m + 1) (by omega)
    unfold bestK
    split <;> omega
theorem bestK_le (f : Nat → Int) : ∀ m i, i < m → f (bestK f m) ≤ f i
  | 0, i, h => by omega
  | m + 1, i, h => by
    have ih := bestK_le f m
    unfold bestK
    by_cases e : i = m
    · subst e; split <;> omega
    · have := ih i (by omega)
      split <;> omega

theorem asc_nodup {l : List Int} (h : l.Pairwise (fun a b => a < b)) : l.Nodup := List.Pairwise.imp (fun {a b} hab e => by omega) h
theorem ofL_length {N : Nat} {xs : List Int} (hn : xs.Nodup) (hr : ∀ x ∈ xs, 0 ≤ x ∧ x < N) : (ofL xs N).length = xs.length := by
  refine List.Perm.length_eq ((List.perm_ext_iff_of_nodup (asc_nodup (ofL_sorted xs N)) hn).2 fun x => ?_)
  rw [ofL_mem]
  constructor
  · rintro ⟨t, _, hb, rfl⟩
    unfold hasB at hb
    rwa [decide_eq_true_eq] at hb
  · intro hx
    have := hr x hx
    obtain ⟨t, ht⟩ := Int.eq_ofNat_of_zero_le this.1
    exact ⟨t, by omega, by unfold hasB; rw [decide_eq_true_eq, ← ht]; exact hx, ht⟩
theorem rotL_ok {N : Nat} {bs : List Int} (h : RhOk N bs) (k : Int) : RhOk N (rotL N bs k) ∧ (rotL N bs k).length = bs.length := by
  have h1 : 1 ≤ N := by have := h.1; omega
  have h2 : N ≤ 24 := by have := h.2.1; omega
  rw [← rotL_of h k]
  refine ⟨ofL_ok _ h1 h2, ?_⟩
  have hl : (mapL 1 k N bs bs.length).length = bs.length := by unfold mapL; rw [List.length_map, List.take_length]
  refine (ofL_length ?_ fun x hx => ?_).trans hl
  · unfold mapL
    rw [List.take_length]
    refine List.pairwise_map.2 (List.Pairwise.imp_of_mem (fun {a b} ha hb hab e => ?_) (rhok_asc h))
    have ra := rhok_range h a ha
    have rb := rhok_range h b hb
    have e2 : (1 * a + k - (1 * b + k)) % (N : Int) = 0 := Int.emod_emod_of_dvd _ (Int.dvd_refl _) ▸ (Int.emod_eq_emod_iff_emod_sub_eq_zero.1 e)
    rw [show 1 * a + k - (1 * b + k) = a - b by omega] at e2
    have e3 := Int.emod_add_mul_ediv (a - b) N
    rw [e2] at e3
    have hq : (a - b) / (N : Int) = 0 ∨ (a - b) / (N : Int) ≤ -1 ∨ 1 ≤ (a - b) / (N : Int) := by omega
    rcases hq with hq | hq | hq
    · rw [hq] at e3; omega
    · have := Int.mul_le_mul_of_nonneg_left hq (show (0 : Int) ≤ N by omega); omega
    · have := Int.mul_le_mul_of_nonneg_left hq (show (0 : Int) ≤ N by omega); omega
  · unfold mapL at hx
    rw [List.mem_map] at hx
    obtain ⟨y, _, rfl⟩ := hx
    exact ⟨Int.emod_nonneg _ (by omega), Int.emod_lt_of_pos _ (by omega)⟩

/-- The nearest even rhythm by moves; the number of moves. -/
def fewK (N : Nat) (a : List Int) : Nat := bestK (fun k => farV N a (rotL N (evB N a.length) (k : Int))) N
def fewX (N : Nat) (a : List Int) : List Int := rotL N (evB N a.length) (fewK N a : Int)

end Go.Proofs.YtabjklhnghdfoaaGreatDoor
