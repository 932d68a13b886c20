/-
  Several texts of this proof in one: Rok, FullC, WinT.
-/
import Derived.Test.YthookknmeajojaaGreatDoorIntW
import Derived.Deep.Light
import Derived.Laws.BitsAllLaws
import Derived.Laws.BitsLemmas
namespace Go.Proofs.YthookknmeajojaaGreatDoor
open Go.RowKit
set_option linter.unusedVariables false
set_option linter.unusedSimpArgs false

set_option maxHeartbeats 400000 in
theorem impl_RhythmOk_bad (n : Int) (A : Option Addr) (cap : Nat) (bs : List Int) (w : World) (hn : Fits n) (hA : Ints w w.heap.size A bs) (hbad : ¬ (1 ≤ n ∧ n ≤ 24)) :
    Calls Tryz.prog 41 #[.agg #[.int .i64 n, .slice A bs.length cap]] w fun e w' => e = .returned (.bool false) ∧ Below w.heap.size w w' := by
  obtain ⟨hlen, hfit, hcells⟩ := hA
  unfold maxLen at hlen
  unfold Fits at hn
  have HF := Lib.hid hfit
  have HC := Lib.hid hcells
  have HI := Lib.hid (inB_false hbad)
  clear hfit hcells
  go_enter Tryz.func41, Tryz.ntmps41
  go_wp2
  go_loop [8] (fun i => ∃ k : Nat, k ≤ bs.length ∧ i = .int .i64 k) (fun i => bs.length - (intOf i).toNat)
  case atStart => exact ⟨0, Nat.zero_le _, rfl⟩
  case round =>
    obtain ⟨k, hk, rfl⟩ := hrel
    by_cases hlt : k < bs.length
    · obtain ⟨b, off, rfl, hB, hc⟩ := HC.out (by omega)
      have hcell := hc k hlt
      have hcell1 := hc (k - 1) (by omega)
      obtain ⟨x, hx⟩ : ∃ x, bs.getD k 0 = x := ⟨_, rfl⟩
      obtain ⟨y, hy⟩ : ∃ y, bs.getD (k - 1) 0 = y := ⟨_, rfl⟩
      rw [hx] at hcell
      rw [hy] at hcell1
      clear hx hy hc
      go_wp2_with (go_at_call 39; refine (within_any _ _ _ _).mono ?_; rintro e w' ⟨rfl, rfl⟩)
      all_goals first
        | (go_ret; exact ⟨rfl, (by repeat (first | exact Below.refl _ _ | assumption | (refine Below.alloc ?_ (by first | exact Nat.le_refl _ | (simp; done) | (simp; omega) | omega) _) | (refine Below.drew ?_) | (refine Below.setCell ?_ (by first | exact Nat.le_refl _ | (simp; done) | (simp; omega) | omega) _)))⟩)
        | (go_round
           case rel => exact ⟨k + 1, by omega, by go_num⟩
           case measure => simp [intOf]; omega)
    · go_wp2_with (go_at_call 39; refine (within_any _ _ _ _).mono ?_; rintro e w' ⟨rfl, rfl⟩)
      go_ret
      exact ⟨by rw [HI.out]; rfl, (by repeat (first | exact Below.refl _ _ | assumption | (refine Below.alloc ?_ (by first | exact Nat.le_refl _ | (simp; done) | (simp; omega) | omega) _) | (refine Below.drew ?_) | (refine Below.setCell ?_ (by first | exact Nat.le_refl _ | (simp; done) | (simp; omega) | omega) _)))⟩

set_option maxHeartbeats 400000 in
theorem impl_RhythmOk_size (n : Int) (A : Option Addr) (cap : Nat) (bs : List Int) (w : World) (hA : Ints w w.heap.size A bs) (h1 : 1 ≤ n) (h24 : n ≤ 24) :
    Calls Tryz.prog 41 #[.agg #[.int .i64 n, .slice A bs.length cap]] w fun e w' => e = .returned (.bool (rhB n bs)) ∧ Below w.heap.size w w' := by
  obtain ⟨hlen, hfit, hcells⟩ := hA
  unfold maxLen at hlen
  have HF := Lib.hid hfit
  have HC := Lib.hid hcells
  have HI := Lib.hid (inB_true ⟨h1, h24⟩)
  clear hfit hcells
  go_enter Tryz.func41, Tryz.ntmps41
  go_wp2
  go_loop [8] (fun i => ∃ k : Nat, RhPre n bs k ∧ i = .int .i64 k) (fun i => bs.length - (intOf i).toNat)
  case atStart => exact ⟨0, RhPre.zero _ _, rfl⟩
  case round =>
    obtain ⟨k, hpre, rfl⟩ := hrel
    have hk := hpre.1
    have HP := Lib.hid hpre
    clear hpre
    by_cases hlt : k < bs.length
    · obtain ⟨b, off, rfl, hB, hc⟩ := HC.out (by omega)
      have hcell := hc k hlt
      have hcell1 := hc (k - 1) (by omega)
      obtain ⟨x, hx⟩ : ∃ x, bs.getD k 0 = x := ⟨_, rfl⟩
      obtain ⟨y, hy⟩ : ∃ y, bs.getD (k - 1) 0 = y := ⟨_, rfl⟩
      rw [hx] at hcell
      rw [hy] at hcell1
      have HX := Lib.hid hx
      have HY := Lib.hid hy
      clear hx hy hc
      go_wp2_with (go_at_call 39; refine (within_any _ _ _ _).mono ?_; rintro e w' ⟨rfl, rfl⟩)
      all_goals first
        | (go_ret; exact ⟨ret_bool (rh_fail1 hlt HX.out ‹_›).symm, (by repeat (first | exact Below.refl _ _ | assumption | (refine Below.alloc ?_ (by first | exact Nat.le_refl _ | (simp; done) | (simp; omega) | omega) _) | (refine Below.drew ?_) | (refine Below.setCell ?_ (by first | exact Nat.le_refl _ | (simp; done) | (simp; omega) | omega) _)))⟩)
        | (go_ret; exact ⟨ret_bool (rh_fail2 hlt HX.out HY.out ‹_› ‹_›).symm, (by repeat (first | exact Below.refl _ _ | assumption | (refine Below.alloc ?_ (by first | exact Nat.le_refl _ | (simp; done) | (simp; omega) | omega) _) | (refine Below.drew ?_) | (refine Below.setCell ?_ (by first | exact Nat.le_refl _ | (simp; done) | (simp; omega) | omega) _)))⟩)
        | (go_round
           case rel => exact ⟨k + 1, HP.out.step hlt HX.out HY.out ‹_› (fun _ => by first | assumption | omega), by go_num⟩
           case measure => simp [intOf]; omega)
    · have hke : k = bs.length := by omega
      subst hke
      have HR := Lib.hid (HP.out.done h1 h24)
      go_wp2_with (go_at_call 39; refine (within_any _ _ _ _).mono ?_; rintro e w' ⟨rfl, rfl⟩)
      go_ret
      exact ⟨by rw [HI.out, HR.out]; rfl, (by repeat (first | exact Below.refl _ _ | assumption | (refine Below.alloc ?_ (by first | exact Nat.le_refl _ | (simp; done) | (simp; omega) | omega) _) | (refine Below.drew ?_) | (refine Below.setCell ?_ (by first | exact Nat.le_refl _ | (simp; done) | (simp; omega) | omega) _)))⟩

theorem impl_RhythmOk_any (n : Int) (A : Option Addr) (cap : Nat) (bs : List Int) (w : World) (hn : Fits n) (hA : Ints w w.heap.size A bs) :
    Calls Tryz.prog 41 #[.agg #[.int .i64 n, .slice A bs.length cap]] w fun e w' => e = .returned (.bool (rhB n bs)) ∧ Below w.heap.size w w' := by
  by_cases h : 1 ≤ n ∧ n ≤ 24
  · exact impl_RhythmOk_size n A cap bs w hA h.1 h.2
  · rw [rhB_bad h]
    exact impl_RhythmOk_bad n A cap bs w hn hA h

end Go.Proofs.YthookknmeajojaaGreatDoor

namespace Go.Proofs.YthookknmeajojaaGreatDoor
open Go.RowKit
set_option linter.unusedVariables false
set_option linter.unusedSimpArgs false

theorem ofInt_i64 (a : Nat) (ha : a < 9223372036854775808) : (BitVec.ofInt 64 (a : Int)).toNat = a := by
  rw [BitVec.ofInt_natCast, BitVec.toNat_ofNat]; exact Nat.mod_eq_of_lt (by omega)
theorem i64_and_nat (a b : Nat) (ha : a < 9223372036854775808) (hb : b < 9223372036854775808) : bits .and .i64 (a : Int) (b : Int) = ((a &&& b : Nat) : Int) := by
  have hx : a &&& b < 2 ^ 63 := Nat.and_lt_two_pow _ (by omega)
  show IntKind.i64.wrap ((BitVec.ofInt 64 (a : Int) &&& BitVec.ofInt 64 (b : Int)).toNat : Int) = _
  rw [BitVec.toNat_and, ofInt_i64 a ha, ofInt_i64 b hb, IntKind.wrap_i64]
  omega
theorem i64_or_nat (a b : Nat) (ha : a < 9223372036854775808) (hb : b < 9223372036854775808) : bits .or .i64 (a : Int) (b : Int) = ((a ||| b : Nat) : Int) := by
  have hx : a ||| b < 2 ^ 63 := Nat.or_lt_two_pow (by omega) (by omega)
  show IntKind.i64.wrap ((BitVec.ofInt 64 (a : Int) ||| BitVec.ofInt 64 (b : Int)).toNat : Int) = _
  rw [BitVec.toNat_or, ofInt_i64 a ha, ofInt_i64 b hb, IntKind.wrap_i64]
  omega

/-- The code written twice; the window at a pulse as a number; the windows met; whether they are all there. -/
def winT (S c : Nat) : Nat := c * 2 ^ S ||| c
def winV (S c p : Nat) : Nat := winT S c / 2 ^ p &&& (S - 1)
def metN (S c : Nat) : Nat → Nat
  | 0 => 0
  | p + 1 => metN S c p ||| 2 ^ winV S c p
def fullB (S c : Nat) : Bool := metN S c S == 2 ^ S - 1

theorem winT_lt (S c : Nat) (hS : S ≤ 16) (hc : c < 2 ^ S) : winT S c < 4294967296 := by
  have h1 : c * 2 ^ S < 2 ^ S * 2 ^ S := (Nat.mul_lt_mul_right (Nat.two_pow_pos S)).2 hc
  have h2 : 2 ^ S * 2 ^ S ≤ 2 ^ 32 := by
    rw [← Nat.pow_add]
    exact Nat.pow_le_pow_right (by omega) (by omega)
  have h3 : (2 : Nat) ^ S ≤ 2 ^ 32 := Nat.pow_le_pow_right (by omega) (by omega)
  exact Nat.or_lt_two_pow (n := 32) (by omega) (by omega)
theorem winV_lt (S c p : Nat) (hS : 0 < S) : winV S c p < S := by
  have : winV S c p ≤ S - 1 := Nat.and_le_right
  omega
theorem metN_lt (S c : Nat) : ∀ p, 0 < S → metN S c p < 2 ^ S
  | 0, _ => Nat.two_pow_pos S
  | p + 1, h => Nat.or_lt_two_pow (metN_lt S c p h) (Nat.pow_lt_pow_right (by omega) (winV_lt S c p h))
theorem winV_bits (S c p : Nat) (m : Int) (hm : ((S - 1 : Nat) : Int) = m) (hS : S ≤ 16) (hT : winT S c < 4294967296) : bits BinOp.and IntKind.i64 (↑(winT S c) / 2 ^ p) m = (winV S c p : Int) := by
  subst hm
  have hle : winT S c / 2 ^ p ≤ winT S c := Nat.div_le_self _ _
  have := i64_and_nat (winT S c / 2 ^ p) (S - 1) (by omega) (by omega)
  rw [Int.natCast_ediv, Int.natCast_pow] at this
  exact this
theorem i64_or_pow (m v : Nat) (hm : m < 65536) (hv : v < 16) : bits BinOp.or IntKind.i64 (m : Int) (wrap64 (2 ^ v)) = ((m ||| 2 ^ v : Nat) : Int) := by
  have h2 : (2 : Nat) ^ v < 2 ^ 16 := Nat.pow_lt_pow_right (by omega) hv
  have e : wrap64 (2 ^ v) = ((2 ^ v : Nat) : Int) := by
    rw [show ((2 : Int) ^ v) = ((2 ^ v : Nat) : Int) by simp]
    generalize 2 ^ v = x at h2
    unfold wrap64
    omega
  rw [e]
  exact i64_or_nat m (2 ^ v) (by omega) (by omega)
theorem fullB_eq (S c n : Nat) (h : 2 ^ S - 1 = n) : ((metN S c S : Int) == (n : Int)) = fullB S c := by
  unfold fullB
  rw [h, Bool.eq_iff_iff, beq_iff_eq, beq_iff_eq]
  omega

end Go.Proofs.YthookknmeajojaaGreatDoor

namespace Go.Proofs.YthookknmeajojaaGreatDoor
set_option linter.unusedVariables false
set_option linter.unusedSimpArgs false

/-- A list without repeats inside another is no longer than it. -/
theorem nodup_le : ∀ (l m : List Nat), l.Nodup → (∀ x ∈ l, x ∈ m) → l.length ≤ m.length
  | [], _, _, _ => Nat.zero_le _
  | x :: l, m, hn, hs => by
    have hx : x ∈ m := hs x (by simp)
    have hn' := List.nodup_cons.1 hn
    have := nodup_le l (m.erase x) hn'.2 (fun y hy => (List.mem_erase_of_ne (fun e => hn'.1 (by subst e; exact hy))).2 (hs y (by simp [hy])))
    rw [List.length_erase_of_mem hx] at this
    have hpos : 0 < m.length := List.length_pos_of_mem hx
    simp only [List.length_cons]
    omega

theorem surj_of_inj (f : Nat → Nat) (S : Nat) (hb : ∀ p, p < S → f p < S) (hi : ∀ p q, p < S → q < S → f p = f q → p = q) : ∀ v, v < S → ∃ p, p < S ∧ f p = v := by
  intro v hv
  apply Classical.byContradiction
  intro hno
  have hnd : (v :: (List.range S).map f).Nodup := by
    rw [List.nodup_cons]
    refine ⟨fun hm => ?_, ?_⟩
    · obtain ⟨p, hp, e⟩ := List.mem_map.1 hm
      exact hno ⟨p, List.mem_range.1 hp, e⟩
    · rw [List.Nodup, List.pairwise_map]
      exact List.Pairwise.imp_of_mem (fun {a b} ha hb' hne e => hne (hi a b (List.mem_range.1 ha) (List.mem_range.1 hb') e)) List.nodup_range
  have := nodup_le _ (List.range S) hnd (fun x hx => by
    rcases List.mem_cons.1 hx with rfl | hx
    · exact List.mem_range.2 hv
    · obtain ⟨p, hp, rfl⟩ := List.mem_map.1 hx
      exact List.mem_range.2 (hb p (List.mem_range.1 hp)))
  simp at this
  omega

theorem inj_of_surj (f : Nat → Nat) (S : Nat) (hs : ∀ v, v < S → ∃ p, p < S ∧ f p = v) : ∀ p q, p < S → q < S → f p = f q → p = q := by
  intro p q hp hq e
  apply Classical.byContradiction
  intro hne
  have := nodup_le (List.range S) (((List.range S).erase q).map f) List.nodup_range (fun v hv => by
    obtain ⟨r, hr, rfl⟩ := hs v (List.mem_range.1 hv)
    by_cases hrq : r = q
    · subst hrq
      exact List.mem_map.2 ⟨p, (List.mem_erase_of_ne hne).2 (List.mem_range.2 hp), e⟩
    · exact List.mem_map.2 ⟨r, (List.mem_erase_of_ne hrq).2 (List.mem_range.2 hr), rfl⟩)
  rw [List.length_map, List.length_erase_of_mem (List.mem_range.2 hq), List.length_range] at this
  omega

theorem metN_bit (S c : Nat) : ∀ p v, (metN S c p).testBit v = true ↔ ∃ q, q < p ∧ winV S c q = v
  | 0, v => by simp [metN]
  | p + 1, v => by
    unfold metN
    rw [Nat.testBit_or, Bool.or_eq_true, metN_bit S c p v, Nat.testBit_two_pow]
    simp only [decide_eq_true_eq]
    constructor
    · rintro (⟨q, hq, e⟩ | e)
      · exact ⟨q, by omega, e⟩
      · exact ⟨p, by omega, e⟩
    · rintro ⟨q, hq, e⟩
      by_cases h : q = p
      · subst h; exact .inr e
      · exact .inl ⟨q, by omega, e⟩

theorem fullB_surj (S c : Nat) (hS : 0 < S) : fullB S c = true ↔ ∀ v, v < S → ∃ p, p < S ∧ winV S c p = v := by
  unfold fullB
  rw [beq_iff_eq]
  constructor
  · intro h v hv
    refine (metN_bit S c S v).1 ?_
    rw [h, Nat.testBit_two_pow_sub_one]
    simpa using hv
  · intro h
    apply Nat.eq_of_testBit_eq
    intro v
    rw [Nat.testBit_two_pow_sub_one]
    by_cases hv : v < S
    · rw [(metN_bit S c S v).2 (h v hv)]
      simp [hv]
    · have : ¬ (metN S c S).testBit v = true := fun hb => by
        obtain ⟨q, _, e⟩ := (metN_bit S c S v).1 hb
        have := winV_lt S c q hS
        omega
      simp [hv] at this ⊢
      exact this

theorem fullB_inj (S c : Nat) (hS : 0 < S) : fullB S c = true ↔ ∀ p q, p < S → q < S → winV S c p = winV S c q → p = q := by
  rw [fullB_surj S c hS]
  exact ⟨inj_of_surj _ S, surj_of_inj _ S (fun p _ => winV_lt S c p hS)⟩

theorem winT_bit (S c i : Nat) (hc : c < 2 ^ S) : (winT S c).testBit i = if i < S then c.testBit i else c.testBit (i - S) := by
  unfold winT
  rw [Nat.testBit_or, Nat.testBit_mul_two_pow]
  by_cases h : i < S
  · have : ¬ S ≤ i := by omega
    simp [h, this]
  · have h1 : c.testBit i = false := Nat.testBit_lt_two_pow (Nat.lt_of_lt_of_le hc (Nat.pow_le_pow_right (by omega) (by omega)))
    have : S ≤ i := by omega
    simp [h, this, h1]

/-- Bit j of the window at p. -/
theorem winV_bit (k S c p j : Nat) (hS : S = 2 ^ k) (hc : c < 2 ^ S) (hp : p < S) (hj : j < k) : (winV S c p).testBit j = c.testBit ((p + j) % S) := by
  have hkS : k < S := by rw [hS]; exact Nat.lt_two_pow_self
  unfold winV
  rw [Nat.testBit_and, Nat.testBit_div_two_pow, hS, Nat.testBit_two_pow_sub_one, ← hS, winT_bit S c _ hc]
  simp only [hj, decide_true, Bool.and_true]
  rw [show j + p = p + j by omega]
  by_cases h : p + j < S
  · rw [if_pos h, Nat.mod_eq_of_lt h]
  · rw [if_neg h, Nat.mod_eq_sub_mod (by omega), Nat.mod_eq_of_lt (by omega)]

theorem winV_ext (k S c p q : Nat) (hS : S = 2 ^ k) (hc : c < 2 ^ S) (hp : p < S) (hq : q < S) : winV S c p = winV S c q ↔ ∀ j, j < k → c.testBit ((p + j) % S) = c.testBit ((q + j) % S) := by
  constructor
  · intro h j hj
    rw [← winV_bit k S c p j hS hc hp hj, ← winV_bit k S c q j hS hc hq hj, h]
  · intro h
    apply Nat.eq_of_testBit_eq
    intro j
    by_cases hj : j < k
    · rw [winV_bit k S c p j hS hc hp hj, winV_bit k S c q j hS hc hq hj, h j hj]
    · have hz : ∀ r, r < S → (winV S c r).testBit j = false := fun r _ => Nat.testBit_lt_two_pow (Nat.lt_of_lt_of_le (winV_lt S c r (by omega)) (by rw [hS]; exact Nat.pow_le_pow_right (by omega) (by omega)))
      rw [hz p hp, hz q hq]

end Go.Proofs.YthookknmeajojaaGreatDoor

