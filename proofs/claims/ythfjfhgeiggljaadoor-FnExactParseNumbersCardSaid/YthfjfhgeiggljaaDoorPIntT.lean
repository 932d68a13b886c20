/-
  ParseInt in plain words: a text is read as v just where v is written so.
-/
import Derived.Test.YthfjfhgeiggljaaDoorPInt
import Derived.Lib.AtoiAllCases
namespace Go.Proofs.YthfjfhgeiggljaaDoor
open Go.RowKit Go.Shelf
set_option linter.unusedVariables false
set_option linter.unusedSimpArgs false

def digB (c : UInt8) : Bool := decide (48 ≤ c.toNat ∧ c.toNat ≤ 57)
theorem digB_iff {c : UInt8} : digB c = true ↔ 48 ≤ c.toNat ∧ c.toNat ≤ 57 := by unfold digB; simp
/-- What digits spell. -/
def decV (acc : Nat) (l : List UInt8) : Nat := l.foldl (fun a c => a * 10 + (c.toNat - 48)) acc
theorem decV_cons (acc : Nat) (c : UInt8) (l : List UInt8) : decV acc (c :: l) = decV (acc * 10 + (c.toNat - 48)) l := by unfold decV; rw [List.foldl_cons]
theorem decV_snoc (acc : Nat) (l : List UInt8) (c : UInt8) : decV acc (l ++ [c]) = decV acc l * 10 + (c.toNat - 48) := by unfold decV; rw [List.foldl_append, List.foldl_cons, List.foldl_nil]
theorem decV_ge : ∀ (l : List UInt8) (acc : Nat), acc ≤ decV acc l
  | [], acc => Nat.le_refl _
  | c :: l, acc => by
    have := decV_ge l (acc * 10 + (c.toNat - 48))
    rw [decV_cons]; omega
theorem decV_take (l : List UInt8) (k : Nat) : decV 0 (l.take k) ≤ decV 0 l := by
  have h : decV 0 l = decV (decV 0 (l.take k)) (l.drop k) := by
    unfold decV; rw [← List.foldl_append, List.take_append_drop]
  rw [h]; exact decV_ge _ _
theorem pu_ok (l : List UInt8) : ∀ (acc : Nat), (∀ c ∈ l, digB c = true) → decV acc l < 18446744073709551616 → Lib.parseUint10 acc l = .ok (decV acc l) := by
  induction l with
  | nil => intro acc _ _; rfl
  | cons c l ih =>
    intro acc hd h
    have h1 := digB_iff.1 (hd c (by simp))
    rw [decV_cons] at h
    have h2 := decV_ge l (acc * 10 + (c.toNat - 48))
    simp only [Lib.parseUint10]
    split
    · split
      · exfalso; omega
      · split
        · exfalso; omega
        · rw [decV_cons]; exact ih _ (fun c hc => hd c (by simp [hc])) h
    · exact absurd h1 (by assumption)
theorem dec_digits : ∀ (m k : Nat), k ≤ m → (∀ c ∈ Lib.decDigits k, digB c = true) ∧ decV 0 (Lib.decDigits k) = k ∧ Lib.decDigits k ≠ [] := by
  intro m
  induction m with
  | zero =>
    intro k hk
    have : k = 0 := by omega
    subst this
    rw [decD_small (by decide)]
    decide
  | succ m ih =>
    intro k hk
    have hv : ∀ r, r < 10 → (UInt8.ofNat (48 + r)).toNat = 48 + r := fun r hr => by rw [UInt8.toNat_ofNat']; omega
    by_cases h : k < 10
    · rw [decD_small h]
      refine ⟨fun c hc => ?_, ?_, by simp⟩
      · rw [List.mem_singleton.1 hc, digB_iff, hv k h]; omega
      · show 0 * 10 + ((UInt8.ofNat (48 + k)).toNat - 48) = k
        rw [hv k h]; omega
    · rw [decD_big h]
      obtain ⟨h1, h2, _⟩ := ih (k / 10) (by omega)
      have hm : k % 10 < 10 := Nat.mod_lt _ (by decide)
      refine ⟨fun c hc => ?_, ?_, by simp⟩
      · rcases List.mem_append.1 hc with hc | hc
        · exact h1 c hc
        · rw [List.mem_singleton.1 hc, digB_iff, hv _ hm]; omega
      · rw [decV_snoc, h2, hv _ hm]; omega
theorem dec_dig (k : Nat) : (∀ c ∈ Lib.decDigits k, digB c = true) ∧ decV 0 (Lib.decDigits k) = k ∧ Lib.decDigits k ≠ [] := dec_digits k k (Nat.le_refl _)
theorem mag_ok {l : List UInt8} (hd : ∀ c ∈ l, digB c = true) (h0 : l ≠ []) (h : decV 0 l < 18446744073709551616) : Lib.parseMag l = .ok (decV 0 l) := by
  unfold Lib.parseMag
  rw [if_neg h0]
  exact pu_ok l 0 hd h
theorem itoL_nat (N : Nat) : ∃ c r, itoL (N : Int) = c :: r ∧ c.toNat ≠ 43 ∧ c.toNat ≠ 45 := by
  rw [itoL_pos]
  obtain ⟨h1, _, h3⟩ := dec_dig N
  cases h : Lib.decDigits N with
  | nil => exact absurd h h3
  | cons c r =>
    have := digB_iff.1 (h1 c (by rw [h]; simp))
    exact ⟨c, r, rfl, by omega, by omega⟩
theorem atoi_itoL (v : Int) (hf : Fits v) : Lib.atoiAll (itoL v) = .ok v := by
  unfold Fits at hf
  by_cases h0 : 0 ≤ v
  · obtain ⟨N, rfl⟩ := Int.eq_ofNat_of_zero_le h0
    obtain ⟨c, r, e, h43, h45⟩ := itoL_nat N
    obtain ⟨h1, h2, h3⟩ := dec_dig N
    rw [e, Lib.atoiAll_plain c r h43 h45, ← e, itoL_pos, mag_ok h1 h3 (by rw [h2]; omega), h2]
    unfold Lib.signless
    simp only
    rw [if_neg (by omega)]
  · obtain ⟨N, hN⟩ := Int.eq_ofNat_of_zero_le (show 0 ≤ -v by omega)
    obtain rfl : v = -(N : Int) := by omega
    obtain ⟨h1, h2, h3⟩ := dec_dig N
    rw [itoL_neg N (by omega), Lib.atoiAll_minus, mag_ok h1 h3 (by rw [h2]; omega), h2]
    unfold Lib.signed
    simp only
    rw [if_neg (by omega)]
theorem pint_iff (s : ByteArray) (v : Int) : pintV s = some v ↔ Fits v ∧ itoL v = s.data.toList := by
  constructor
  · intro h
    unfold pintV at h
    cases ha : Lib.atoiAll s.data.toList with
    | ok u =>
      rw [ha] at h
      simp only at h
      by_cases hc : itoL u = s.data.toList
      · rw [if_pos hc] at h
        injection h with h
        subst h
        exact ⟨Lib.atoiAll_bounds ha, hc⟩
      · rw [if_neg hc] at h; cases h
    | _ => rw [ha] at h; cases h
  · rintro ⟨hf, hc⟩
    unfold pintV
    rw [← hc, atoi_itoL v hf]
    simp

end Go.Proofs.YthfjfhgeiggljaaDoor
