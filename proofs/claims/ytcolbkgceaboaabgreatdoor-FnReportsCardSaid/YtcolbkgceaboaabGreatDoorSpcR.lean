/-
  The reference's rhythms of numbers, mapped rhythms, sameness, period.
-/
import Derived.Test.YtcolbkgceaboaabGreatDoorRw
import Derived.Test.YtcolbkgceaboaabGreatDoorRem
import Derived.Test.YtcolbkgceaboaabGreatDoorWin
import Derived.Test.YtcolbkgceaboaabGreatDoorPer
namespace Go.Proofs.YtcolbkgceaboaabGreatDoor
open Go.RowKit
set_option linter.unusedVariables false
set_option linter.unusedSimpArgs false

theorem Below.drew4_ {B : Nat} {a w : World} (h : Below B a w) : Below B a w.drew := ⟨h.os, h.tape, h.output, h.size, h.block⟩
theorem Ints.drew4_ {w : World} {B : Nat} {A : Option Addr} {xs : List Int} (h : Ints w B A xs) : Ints w.drew B A xs := h

def ofL (xs : List Int) (q : Nat) : List Int := ((List.range q).filter (fun t : Nat => hasB xs t)).map Int.ofNat
theorem ofL_yes {xs : List Int} {q : Nat} (h : hasB xs q = true) : ofL xs (q + 1) = ofL xs q ++ [(q : Int)] := by
  unfold ofL; rw [List.range_succ, List.filter_append]; simp [h]
theorem ofL_no {xs : List Int} {q : Nat} (h : hasB xs q = false) : ofL xs (q + 1) = ofL xs q := by
  unfold ofL; rw [List.range_succ, List.filter_append]; simp [h]
theorem ofL_len (xs : List Int) (q : Nat) : (ofL xs q).length ≤ q := by
  unfold ofL
  rw [List.length_map]
  exact Nat.le_trans (List.length_filter_le _ _) (by simp)
theorem ofL_mem {xs : List Int} {q : Nat} {x : Int} : x ∈ ofL xs q ↔ ∃ t : Nat, t < q ∧ hasB xs t = true ∧ x = t := by
  unfold ofL
  rw [List.mem_map]
  constructor
  · rintro ⟨p, hp, rfl⟩
    rw [List.mem_filter, List.mem_range] at hp
    exact ⟨p, hp.1, hp.2, rfl⟩
  · rintro ⟨p, h1, h2, rfl⟩
    exact ⟨p, by rw [List.mem_filter, List.mem_range]; exact ⟨h1, h2⟩, rfl⟩
theorem ofL_sorted (xs : List Int) (q : Nat) : (ofL xs q).Pairwise (fun a b => a < b) := by
  unfold ofL
  rw [List.pairwise_map]
  exact List.Pairwise.imp (fun {a b} h => by show (a : Int) < b; omega) (List.Pairwise.filter _ List.pairwise_lt_range)
theorem ofL_fit {xs : List Int} {q : Nat} (hq : q ≤ 1000) : ∀ x ∈ ofL xs q, Fits x := by
  intro x hx
  obtain ⟨t, ht, _, rfl⟩ := ofL_mem.1 hx
  unfold Fits
  omega

def mapL (a b n : Int) (xs : List Int) (j : Nat) : List Int := (xs.take j).map (fun x => (a * x + b) % n)
theorem mapL_succ {a b n : Int} {xs : List Int} {j : Nat} {x : Int} (hj : j < xs.length) (hx : xs.getD j 0 = x) : mapL a b n xs (j + 1) = mapL a b n xs j ++ [(a * x + b) % n] := by
  unfold mapL
  rw [List.take_succ_eq_append_getElem hj, List.map_append, List.map_singleton]
  have : xs[j] = x := by rw [← hx, List.getD_eq_getElem?_getD, List.getElem?_eq_getElem hj]; rfl
  rw [this]
theorem mapL_len (a b n : Int) (xs : List Int) (j : Nat) : (mapL a b n xs j).length ≤ xs.length := by
  unfold mapL
  rw [List.length_map, List.length_take]
  omega
theorem mapL_mem {a b n x : Int} {xs : List Int} : x ∈ mapL a b n xs xs.length ↔ ∃ y ∈ xs, (a * y + b) % n = x := by
  unfold mapL
  rw [List.take_length, List.mem_map]
theorem mapL_fit {a b n : Int} {xs : List Int} (hn : 1 ≤ n) (hn2 : n ≤ 1000000000) (k : Nat) : ∀ x ∈ mapL a b n xs k, Fits x := by
  intro x hx
  unfold mapL at hx
  rw [List.mem_map] at hx
  obtain ⟨y, _, rfl⟩ := hx
  have := Int.emod_nonneg (a * y + b) (show n ≠ 0 by omega)
  have := Int.emod_lt_of_pos (a * y + b) (show 0 < n by omega)
  unfold Fits
  omega

theorem rotL_of {N : Nat} {bs : List Int} (hok : RhOk N bs) (k : Int) : ofL (mapL 1 k N bs bs.length) N = rotL N bs k := by
  refine asc_unique (ofL_sorted _ _) (rotL_sorted _ _ _) fun x => ?_
  rw [ofL_mem, rotL_mem]
  have hN : (0 : Int) < N := by have := hok.1; omega
  have hkey : ∀ t : Nat, t < N → (hasB (mapL 1 k N bs bs.length) t = true ↔ hasB bs (((t : Int) - k) % N) = true) := by
    intro t ht
    unfold hasB
    rw [decide_eq_true_eq, decide_eq_true_eq, mapL_mem]
    constructor
    · rintro ⟨b, hb, h⟩
      have hr := rhok_range hok b hb
      rw [← h, Int.emod_sub_emod, show 1 * b + k - k = b by omega, Int.emod_eq_of_lt hr.1 hr.2]
      exact hb
    · intro hb
      refine ⟨_, hb, ?_⟩
      rw [Int.one_mul, Int.emod_add_emod, show (t : Int) - k + k = t by omega, Int.emod_eq_of_lt (by omega) (by omega)]
  constructor
  · rintro ⟨t, ht, h, rfl⟩; exact ⟨t, ht, (hkey t ht).1 h, rfl⟩
  · rintro ⟨t, ht, h, rfl⟩; exact ⟨t, ht, (hkey t ht).2 h, rfl⟩

end Go.Proofs.YtcolbkgceaboaabGreatDoor
