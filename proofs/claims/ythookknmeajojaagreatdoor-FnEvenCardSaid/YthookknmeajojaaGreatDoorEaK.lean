/-
  Several texts of this proof in one: Rep, Read.
-/
import Derived.Test.YthookknmeajojaaGreatDoorEaB
import Derived.Test.YthookknmeajojaaGreatDoorEaC
import Derived.Test.YthookknmeajojaaGreatDoorScoT
import Derived.Laws.CopyOwn
import Derived.Test.YthookknmeajojaaGreatDoorShM
import Derived.Test.YthookknmeajojaaGreatDoorStr
namespace Go.Proofs.YthookknmeajojaaGreatDoor
open Go.RowKit Go.Shelf
set_option linter.unusedVariables false
set_option linter.unusedSimpArgs false

theorem bits_Mul_any (x y : Nat) (hx : x < 18446744073709551616) (hy : y < 18446744073709551616) (w : World) :
    Calls Tryz.prog 72 #[.int .u64 x, .int .u64 y] w fun e w' => e = .returned (.tuple #[.int .u64 ((x * y / 18446744073709551616 : Nat) : Int), .int .u64 ((x * y % 18446744073709551616 : Nat) : Int)]) ∧ w' = w := Any.bits_Mul Tryz.lays212 x y hx hy w

/-- A list of ints in new memory. -/
def RetI (w : World) (xs : List Int) (e : Ending) (w' : World) : Prop := ∃ A cap, e = .returned (.slice A xs.length cap) ∧ Ints w' w'.heap.size A xs ∧ Below w.heap.size w w'

/-- The cells of a row of which the first n are filled. -/
def fillL (xs : List Int) (n N : Nat) : List Value := (List.range N).map (fun j => .int .i64 (if j < n then xs.getD (j % xs.length) 0 else 0))
def partL (xs : List Int) (m : Nat) : List Value := (List.range m).map (fun j => .int .i64 (xs.getD (j % xs.length) 0))
theorem fillL_len (xs : List Int) (n N : Nat) : (fillL xs n N).length = N := by simp [fillL]
theorem partL_len (xs : List Int) (m : Nat) : (partL xs m).length = m := by simp [partL]
theorem rep_get {xs : List Int} (h0 : 0 < xs.length) : ∀ (k j : Nat), j < k * xs.length → (rep xs k).getD j 0 = xs.getD (j % xs.length) 0
  | 0, j, h => by omega
  | k + 1, j, h => by
    unfold rep
    rw [Nat.add_mul, Nat.one_mul] at h
    by_cases hj : j < k * xs.length
    · rw [List.getD_eq_getElem?_getD, List.getElem?_append_left (by rw [rep_len]; exact hj), ← List.getD_eq_getElem?_getD]
      exact rep_get h0 k j hj
    · rw [List.getD_eq_getElem?_getD, List.getElem?_append_right (by rw [rep_len]; omega), ← List.getD_eq_getElem?_getD, rep_len]
      have : j % xs.length = j - k * xs.length := by
        obtain ⟨t, rfl⟩ : ∃ t, j = k * xs.length + t := ⟨j - k * xs.length, by omega⟩
        rw [Nat.add_sub_cancel_left, Nat.mul_comm k, Nat.mul_add_mod, Nat.mod_eq_of_lt (by omega)]
      rw [this]

theorem splice_fill {xs : List Int} {n m N : Nat} (hd : n % xs.length = 0) (hm : n + m ≤ N) : splice (fillL xs n N) n (partL xs m) = fillL xs (n + m) N := by
  refine List.ext_getElem (by rw [length_splice _ _ _ (by rw [partL_len, fillL_len]; exact hm), fillL_len, fillL_len]) fun j h1 h2 => ?_
  rw [fillL_len] at h2
  apply Option.some.inj
  rw [← List.getElem?_eq_getElem, ← List.getElem?_eq_getElem]
  unfold splice
  have hr : (fillL xs (n + m) N)[j]? = some (.int .i64 (if j < n + m then xs.getD (j % xs.length) 0 else 0)) := by
    simp [fillL, h2]
  rw [hr]
  by_cases hj : j < n
  · rw [List.getElem?_append_left (by rw [List.length_take, fillL_len]; omega), List.getElem?_take_of_lt hj]
    simp [fillL, h2, hj, show j < n + m by omega]
  · have hlt : (List.take n (fillL xs n N)).length = n := by rw [List.length_take, fillL_len]; omega
    rw [List.getElem?_append_right (by omega), hlt]
    by_cases hj2 : j < n + m
    · rw [List.getElem?_append_left (by rw [partL_len]; omega)]
      have e : (j - n) % xs.length = j % xs.length := by
        obtain ⟨t, rfl⟩ : ∃ t, j = n + t := ⟨j - n, by omega⟩
        rw [Nat.add_sub_cancel_left]
        obtain ⟨q, hq⟩ := Nat.dvd_of_mod_eq_zero hd
        rw [hq, Nat.mul_add_mod]
      simp [partL, show j - n < m by omega, hj2, e]
    · rw [List.getElem?_append_right (by rw [partL_len]; omega), partL_len, List.getElem?_drop]
      have e : n + m + (j - n - m) = j := by omega
      rw [e]
      simp [fillL, h2, hj, hj2]

end Go.Proofs.YthookknmeajojaaGreatDoor

namespace Go.Proofs.YthookknmeajojaaGreatDoor
open Go.RowKit
set_option linter.unusedVariables false
set_option linter.unusedSimpArgs false

/-- The bytes of a text, by number. -/
def chr (s : ByteArray) (i : Nat) : Int := if h : i < s.size then ((s[i]'h).toNat : Int) else 0
theorem chr_at {s : ByteArray} {i : Nat} (h : i < s.size) : chr s i = ((s[i]'h).toNat : Int) := by unfold chr; rw [dif_pos h]
theorem chr_bound (s : ByteArray) (i : Nat) : 0 ≤ chr s i ∧ chr s i < 256 := by
  unfold chr
  split
  · rename_i h
    have := (s[i]'h).toNat_lt
    omega
  · omega

theorem ext_one (s : ByteArray) (i : Nat) (h : i < s.size) : (s.extract i (i + 1))[0]'(by have := (str_at s i h).size; simp at this ⊢; omega) = s[i] := by
  have := (str_at s i h).eq
  simp only [this]
  rfl

theorem ints_nil (w : World) (B : Nat) (A : Option Addr) : Ints w B A [] := ⟨Nat.zero_le _, (fun x hx => (List.not_mem_nil hx).elim), fun h => absurd h (Nat.lt_irrefl 0)⟩

def RowRet (w : World) (r : Row3) (e : Ending) (w' : World) : Prop :=
  ∃ (A : Option Addr) (cap : Nat) (p : List Int) (dd en : Int) (ok : Bool), e = .returned (.tuple #[.agg #[.slice A p.length cap, .int .i64 dd], .int .i64 en, .bool ok]) ∧
    Ints w' w'.heap.size A p ∧ Below w.heap.size w w' ∧ (ok = true → ∃ en' : Nat, r = some (p, dd, en') ∧ en = en') ∧ (ok = false → r = none ∧ p = [] ∧ A = none ∧ cap = 0 ∧ dd = 0) ∧ (∀ k, (Value.slice A p.length cap).ownBlock = some k → w.heap.size ≤ k)

end Go.Proofs.YthookknmeajojaaGreatDoor

