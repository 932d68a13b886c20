/-
  Several texts of this proof in one: PopT, Pop, PopC, Code, Com, Hav.
-/
import Derived.Test.YthookknmeajojaaGreatDoorBase
import Derived.Test.YthookknmeajojaaGreatDoorEaA
import Derived.Test.YthookknmeajojaaGreatDoorEaE
import Derived.Test.YthookknmeajojaaGreatDoorEaB
import Derived.Test.YthookknmeajojaaGreatDoorEaC
import Derived.Test.YthookknmeajojaaGreatDoorEaF
namespace Go.Proofs.YthookknmeajojaaGreatDoor
set_option linter.unusedVariables false
set_option linter.unusedSimpArgs false

/-- k nibbles of c. -/
def nibs (c : Nat) : Nat → Nat
  | 0 => 0
  | k + 1 => c + 16 * nibs c k
def pop1 (k x : Nat) : Nat := (x / 2 &&& nibs 5 k) + (x &&& nibs 5 k)
def pop2 (k y : Nat) : Nat := (y / 4 &&& nibs 3 k) + (y &&& nibs 3 k)
def nib1 (n : Nat) : Nat := (n / 2 &&& 5) + (n &&& 5)
def nib2 (p : Nat) : Nat := (p / 4 &&& 3) + (p &&& 3)
theorem and_nib (a c m : Nat) (hc : c < 16) : a &&& (c + 16 * m) = (a % 16 &&& c) + 16 * (a / 16 &&& m) := by
  have h1 := @Nat.and_mod_two_pow a (c + 16 * m) 4
  have h2 := @Nat.and_div_two_pow a (c + 16 * m) 4
  rw [show (2 : Nat) ^ 4 = 16 from rfl] at h1 h2
  rw [show (c + 16 * m) % 16 = c by omega] at h1
  rw [show (c + 16 * m) / 16 = m by omega] at h2
  have := Nat.div_add_mod (a &&& (c + 16 * m)) 16
  rw [h1, h2] at this
  omega
theorem and5 : ∀ n < 16, ∀ e < 2, (n / 2 + 8 * e) &&& 5 = n / 2 &&& 5 := by decide
theorem and3 : ∀ n < 16, ∀ e < 4, (n / 4 + 4 * e) &&& 3 = n / 4 &&& 3 := by decide
theorem pop1_succ (k x : Nat) : pop1 (k + 1) x = nib1 (x % 16) + 16 * pop1 k (x / 16) := by
  unfold pop1 nib1
  rw [show nibs 5 (k + 1) = 5 + 16 * nibs 5 k from rfl, and_nib (x / 2) 5 _ (by decide), and_nib x 5 _ (by decide)]
  rw [show x / 2 % 16 = x % 16 / 2 + 8 * (x / 16 % 2) by omega, and5 _ (by omega) _ (by omega), show x / 2 / 16 = x / 16 / 2 by omega]
  omega
theorem pop2_succ (k p Y : Nat) (hp : p < 16) : pop2 (k + 1) (p + 16 * Y) = nib2 p + 16 * pop2 k Y := by
  unfold pop2 nib2
  rw [show nibs 3 (k + 1) = 3 + 16 * nibs 3 k from rfl, and_nib ((p + 16 * Y) / 4) 3 _ (by decide), and_nib (p + 16 * Y) 3 _ (by decide)]
  rw [show (p + 16 * Y) / 4 % 16 = p / 4 + 4 * (Y % 4) by omega, and3 _ hp _ (by omega), show (p + 16 * Y) / 4 / 16 = Y / 4 by omega, show (p + 16 * Y) % 16 = p by omega, show (p + 16 * Y) / 16 = Y by omega]
  omega
theorem nib1_lt : ∀ n < 16, nib1 n < 16 := by decide
def popZ (k x : Nat) : Nat := pop2 k (pop1 k x)
def popN (n : Nat) : Nat := n % 2 + n / 2 % 2 + n / 4 % 2 + n / 8 % 2
theorem nib_pop : ∀ n < 16, nib2 (nib1 n) = popN n := by decide
theorem popZ_succ (k x : Nat) : popZ (k + 1) x = popN (x % 16) + 16 * popZ k (x / 16) := by
  unfold popZ
  rw [pop1_succ, pop2_succ _ _ _ (nib1_lt _ (by omega)), nib_pop _ (by omega)]
theorem popN_le (n : Nat) : popN n ≤ 4 := by unfold popN; omega
/-- What the library makes of the nibbles. -/
def popE (u : Nat) : Nat := (let v := u + u / 256; let v2 := v + v / 65536; v2 + v2 / 4294967296)
theorem popE_sum (a b c : Nat) (ha : a ≤ 8) (hb : b ≤ 8) (hc : c ≤ 8) : popE (a + 256 * b + 65536 * c) % 128 = a + b + c := by
  unfold popE
  simp only []
  have e1 : (a + 256 * b + 65536 * c) / 256 = b + 256 * c := by omega
  rw [e1]
  have e2 : (a + 256 * b + 65536 * c + (b + 256 * c)) / 65536 = c := by omega
  rw [e2]
  have e3 : (a + 256 * b + 65536 * c + (b + 256 * c) + c) / 4294967296 = 0 := by omega
  rw [e3]
  omega
def nib0F : Nat := 15 + 16 * (0 + 16 * (15 + 16 * (0 + 16 * (15 + 16 * (0 + 16 * 0)))))
theorem and15 : ∀ n < 16, n &&& 15 = n := by decide
theorem pop_fold (n0 n1 n2 n3 n4 n5 M : Nat) (h0 : n0 ≤ 4) (h1 : n1 ≤ 4) (h2 : n2 ≤ 4) (h3 : n3 ≤ 4) (h4 : n4 ≤ 4) (h5 : n5 ≤ 4) (z : Nat) (hz : z = n0 + 16 * (n1 + 16 * (n2 + 16 * (n3 + 16 * (n4 + 16 * n5))))) :
    (z / 16 + z) &&& (15 + 16 * (0 + 16 * (15 + 16 * (0 + 16 * (15 + 16 * (0 + 16 * M)))))) = (n0 + n1) + 256 * (n2 + n3) + 65536 * (n4 + n5) := by
  have e : z / 16 + z = (n0 + n1) + 16 * ((n1 + n2) + 16 * ((n2 + n3) + 16 * ((n3 + n4) + 16 * ((n4 + n5) + 16 * n5)))) := by omega
  rw [e]
  have st : ∀ (s r c m : Nat), s < 16 → c < 16 → (s + 16 * r) &&& (c + 16 * m) = (s &&& c) + 16 * (r &&& m) := fun s r c m hs hc => by
    rw [and_nib _ c m hc, show (s + 16 * r) % 16 = s by omega, show (s + 16 * r) / 16 = r by omega]
  rw [st _ _ _ _ (by omega) (by omega), st _ _ _ _ (by omega) (by omega), st _ _ _ _ (by omega) (by omega), st _ _ _ _ (by omega) (by omega), st _ _ _ _ (by omega) (by omega)]
  rw [and15 _ (by omega), and15 _ (by omega), and15 _ (by omega), Nat.and_zero, Nat.and_zero]
  have hl : n5 &&& (0 + 16 * M) = 0 := by
    have := and_nib n5 0 M (by decide)
    rw [show n5 / 16 = 0 by omega, Nat.zero_and, Nat.and_zero] at this
    exact this
  rw [hl]
  omega
/-- The number of bits set among the first m. -/
def bitsN (x : Nat) : Nat → Nat
  | 0 => 0
  | m + 1 => bitsN x m + (if x.testBit m = true then 1 else 0)

end Go.Proofs.YthookknmeajojaaGreatDoor

namespace Go.Proofs.YthookknmeajojaaGreatDoor
open Go.RowKit
set_option linter.unusedVariables false
set_option linter.unusedSimpArgs false

theorem u64w {x : Int} (h : 0 ≤ x ∧ x < 18446744073709551616) : IntKind.u64.wrap x = x := by
  rw [IntKind.wrap_u64]; omega
theorem ofInt_u64 (a : Nat) (ha : a < 18446744073709551616) : (BitVec.ofInt 64 (a : Int)).toNat = a := by
  rw [BitVec.toNat_ofInt]; omega
theorem u64_and_nat (a b : Nat) (ha : a < 18446744073709551616) (hb : b < 18446744073709551616) : bits .and .u64 (a : Int) (b : Int) = ((a &&& b : Nat) : Int) := by
  have hx : a &&& b < 2 ^ 64 := Nat.and_lt_two_pow _ (by omega)
  show IntKind.u64.wrap ((BitVec.ofInt 64 (a : Int) &&& BitVec.ofInt 64 (b : Int)).toNat : Int) = _
  rw [BitVec.toNat_and, ofInt_u64 a ha, ofInt_u64 b hb]
  exact u64w (by omega)

/-- The number of bits of a number below 2^24, nibble by nibble. -/
def popX (x : Nat) : Nat := popN (x % 16) + popN (x / 16 % 16) + popN (x / 256 % 16) + popN (x / 4096 % 16) + popN (x / 65536 % 16) + popN (x / 1048576 % 16)
theorem pop1_zero (k : Nat) : pop1 k 0 = 0 := by unfold pop1; simp
theorem pop2_zero (k : Nat) : pop2 k 0 = 0 := by unfold pop2; simp
theorem pop_all (x : Nat) (hx : x < 16777216) : popE ((popZ 16 x / 16 + popZ 16 x) &&& 1085102592571150095) % 128 = popX x ∧ popZ 16 x < 268435456 := by
  have hz : popZ 16 x = popN (x % 16) + 16 * (popN (x / 16 % 16) + 16 * (popN (x / 256 % 16) + 16 * (popN (x / 4096 % 16) + 16 * (popN (x / 65536 % 16) + 16 * popN (x / 1048576 % 16))))) := by
    rw [popZ_succ, popZ_succ, popZ_succ, popZ_succ, popZ_succ, popZ_succ]
    simp only [Nat.div_div_eq_div_mul]
    rw [show x / (16 * 16 * 16 * 16 * 16 * 16) = 0 by omega]
    rw [show popZ 10 0 = 0 by unfold popZ; rw [pop1_zero, pop2_zero]]
    simp only [Nat.reduceMul, Nat.mul_zero, Nat.add_zero]
  have l0 := popN_le (x % 16)
  have l1 := popN_le (x / 16 % 16)
  have l2 := popN_le (x / 256 % 16)
  have l3 := popN_le (x / 4096 % 16)
  have l4 := popN_le (x / 65536 % 16)
  have l5 := popN_le (x / 1048576 % 16)
  refine ⟨?_, by omega⟩
  have hf := pop_fold _ _ _ _ _ _ 64677154575 l0 l1 l2 l3 l4 l5 _ hz
  rw [show (15 + 16 * (0 + 16 * (15 + 16 * (0 + 16 * (15 + 16 * (0 + 16 * 64677154575))))) : Nat) = 1085102592571150095 from rfl] at hf
  rw [hf, popE_sum _ _ _ (by omega) (by omega) (by omega)]
  unfold popX
  omega

set_option maxRecDepth 100000 in
set_option maxHeartbeats 1000000 in
theorem bits_OnesCount64_any (x : Nat) (w : World) (hx : x < 16777216) :
    Calls Tryz.prog 131 #[.int .u64 x] w fun e w' => e = .returned (.int .i64 (popX x)) ∧ w = w' := by
  obtain ⟨hp, hzl⟩ := pop_all x hx
  have hA1 := u64_and_nat (x / 2) 6148914691236517205 (by omega) (by omega)
  have hA2 := u64_and_nat x 6148914691236517205 (by omega) (by omega)
  have l1 : x / 2 &&& 6148914691236517205 ≤ x / 2 := Nat.and_le_left
  have l2 : x &&& 6148914691236517205 ≤ x := Nat.and_le_left
  have hy : (x / 2 &&& 6148914691236517205) + (x &&& 6148914691236517205) = pop1 16 x := rfl
  obtain ⟨a1, ha1⟩ : ∃ a, x / 2 &&& 6148914691236517205 = a := ⟨_, rfl⟩
  obtain ⟨a2, ha2⟩ : ∃ a, x &&& 6148914691236517205 = a := ⟨_, rfl⟩
  rw [ha1] at hA1 l1 hy
  rw [ha2] at hA2 l2 hy
  have hw1 : IntKind.u64.wrap ((a1 : Int) + a2) = (a1 : Int) + a2 := u64w (by omega)
  obtain ⟨y, hyy⟩ : ∃ y, a1 + a2 = y := ⟨_, rfl⟩
  have hy0 : (a1 : Int) + a2 = (y : Int) := by omega
  have hz0 : popZ 16 x = (y / 4 &&& 3689348814741910323) + (y &&& 3689348814741910323) := by unfold popZ; rw [← hy, hyy]; rfl
  have hB1 := u64_and_nat (y / 4) 3689348814741910323 (by omega) (by omega)
  have hB2 := u64_and_nat y 3689348814741910323 (by omega) (by omega)
  have l3 : y / 4 &&& 3689348814741910323 ≤ y / 4 := Nat.and_le_left
  have l4 : y &&& 3689348814741910323 ≤ y := Nat.and_le_left
  obtain ⟨b1, hb1⟩ : ∃ a, y / 4 &&& 3689348814741910323 = a := ⟨_, rfl⟩
  obtain ⟨b2, hb2⟩ : ∃ a, y &&& 3689348814741910323 = a := ⟨_, rfl⟩
  rw [hb1] at hB1 l3 hz0
  rw [hb2] at hB2 l4 hz0
  have hw2 : IntKind.u64.wrap ((b1 : Int) + b2) = (b1 : Int) + b2 := u64w (by omega)
  obtain ⟨z, hzz⟩ : ∃ z, b1 + b2 = z := ⟨_, rfl⟩
  have hz1 : (b1 : Int) + b2 = (z : Int) := by omega
  rw [hz0, hzz] at hp
  have hC := u64_and_nat (z / 16 + z) 1085102592571150095 (by omega) (by omega)
  have l5 : (z / 16 + z) &&& 1085102592571150095 ≤ z / 16 + z := Nat.and_le_left
  have hw3 : IntKind.u64.wrap ((z : Int) / 16 + z) = (z : Int) / 16 + z := u64w (by omega)
  have hc0 : (z : Int) / 16 + z = ((z / 16 + z : Nat) : Int) := by omega
  obtain ⟨u, hu⟩ : ∃ u, (z / 16 + z) &&& 1085102592571150095 = u := ⟨_, rfl⟩
  rw [hu] at hC l5 hp
  rw [← hc0] at hC
  rw [Int.natCast_ediv] at hA1 hB1
  replace hA1 : bits .and .u64 ((x : Int) / 2) 6148914691236517205 = (a1 : Int) := hA1
  replace hA2 : bits .and .u64 (x : Int) 6148914691236517205 = (a2 : Int) := hA2
  replace hB1 : bits .and .u64 ((y : Int) / 4) 3689348814741910323 = (b1 : Int) := hB1
  replace hB2 : bits .and .u64 (y : Int) 3689348814741910323 = (b2 : Int) := hB2
  replace hC : bits .and .u64 ((z : Int) / 16 + z) 1085102592571150095 = (u : Int) := hC
  obtain ⟨v, hv⟩ : ∃ v, u + u / 256 = v := ⟨_, rfl⟩
  obtain ⟨t, ht⟩ : ∃ t, v + v / 65536 = t := ⟨_, rfl⟩
  have hv1 : (u : Int) + (u : Int) / 256 = (v : Int) := by omega
  have ht1 : (v : Int) + (v : Int) / 65536 = (t : Int) := by omega
  have hs1 : (t : Int) + (t : Int) / 4294967296 = (t : Int) := by omega
  have hwv : IntKind.u64.wrap (v : Int) = (v : Int) := u64w (by omega)
  have hwt : IntKind.u64.wrap (t : Int) = (t : Int) := u64w (by omega)
  have hwi : IntKind.i64.wrap (t : Int) = (t : Int) := i64w (by omega)
  have hD := i64_and_nat t 127 (by omega) (by omega)
  rw [show t &&& 127 = t % 128 from Nat.and_two_pow_sub_one_eq_mod t 7] at hD
  replace hD : bits .and .i64 (t : Int) 127 = ((t % 128 : Nat) : Int) := hD
  have hpe : popE u = t := by
    unfold popE
    simp only []
    rw [hv, ht]; omega
  rw [hpe] at hp
  rw [hp] at hD
  clear hv ht hpe
  have HP := Lib.hid hp
  clear hp hu hz0 hzl hc0 hzz hyy hb1 hb2 ha1 ha2 hy
  go_enter Tryz.func131, Tryz.ntmps131
  go_wp2
  go_ret
  exact ⟨rfl, rfl⟩

end Go.Proofs.YthookknmeajojaaGreatDoor

namespace Go.Proofs.YthookknmeajojaaGreatDoor
open Go.RowKit
set_option linter.unusedVariables false
set_option linter.unusedSimpArgs false

theorem bit_mod (x m : Nat) : (if x.testBit m = true then 1 else 0) = x / 2 ^ m % 2 := by
  rw [Nat.testBit_eq_decide_div_mod_eq]
  by_cases h : x / 2 ^ m % 2 = 1
  · rw [h]; simp
  · have : x / 2 ^ m % 2 = 0 := by omega
    rw [this]; simp
theorem bitsN_succ (x m : Nat) : bitsN x (m + 1) = bitsN x m + x / 2 ^ m % 2 := by
  rw [← bit_mod]; rfl
theorem bitsN_nib (x : Nat) : ∀ m, bitsN x (4 + m) = popN (x % 16) + bitsN (x / 16) m
  | 0 => by
    show bitsN x 4 = _ + 0
    rw [bitsN_succ, bitsN_succ, bitsN_succ, bitsN_succ, show bitsN x 0 = 0 from rfl]
    unfold popN
    simp only [Nat.reducePow]
    omega
  | m + 1 => by
    rw [show 4 + (m + 1) = 4 + m + 1 from rfl, bitsN_succ, bitsN_nib x m, bitsN_succ (x / 16) m, Nat.div_div_eq_div_mul, Nat.pow_add, show (2 : Nat) ^ 4 = 16 from rfl]
    omega
theorem popX_bits (x : Nat) : popX x = bitsN x 24 := by
  rw [bitsN_nib x 20, bitsN_nib (x / 16) 16, bitsN_nib (x / 16 / 16) 12, bitsN_nib (x / 16 / 16 / 16) 8, bitsN_nib (x / 16 / 16 / 16 / 16) 4, bitsN_nib (x / 16 / 16 / 16 / 16 / 16) 0]
  rw [show bitsN (x / 16 / 16 / 16 / 16 / 16 / 16) 0 = 0 from rfl]
  simp only [Nat.div_div_eq_div_mul, Nat.reduceMul]
  unfold popX
  omega
theorem bitsN_filter (x : Nat) : ∀ m, bitsN x m = ((List.range m).filter fun j => x.testBit j).length
  | 0 => rfl
  | m + 1 => by
    have ih := bitsN_filter x m
    rw [List.range_succ, List.filter_append, List.length_append, ← ih]
    show bitsN x m + (if x.testBit m = true then 1 else 0) = _
    cases h : x.testBit m <;> simp [h]
theorem comN_filter (a b : List Int) : ∀ i, i ≤ a.length → comN a b i = ((a.take i).filter (hasB b)).length
  | 0, _ => rfl
  | i + 1, h => by
    have ih := comN_filter a b i (by omega)
    rw [List.take_succ_eq_append_getElem (by omega), List.filter_append, List.length_append, ← ih]
    show comN a b i + (if hasB b (a.getD i 0) = true then 1 else 0) = _
    rw [List.getD_eq_getElem?_getD, List.getElem?_eq_getElem (by omega : i < a.length)]
    show comN a b i + (if hasB b a[i] = true then 1 else 0) = _
    cases h2 : hasB b a[i] <;> simp [h2]
theorem com_bits {N : Nat} {a b : List Int} (ha : RhOk N a) (hb : RhOk N b) : popX (codI N a &&& codI N b) = comN a b a.length := by
  have hN : N ≤ 24 := by have := ha.2.1; omega
  rw [popX_bits, bitsN_filter, comN_filter a b _ (Nat.le_refl _), List.take_length]
  have hp : (((List.range 24).filter fun j => (codI N a &&& codI N b).testBit j).map fun j : Nat => (N : Int) - 1 - (j : Int)).Perm (a.filter (hasB b)) := by
    refine (List.perm_ext_iff_of_nodup ?_ ?_).2 fun p => ?_
    · have hf : ((List.range 24).filter fun j => (codI N a &&& codI N b).testBit j).Pairwise (fun x y : Nat => x ≠ y) := List.Pairwise.filter _ (@List.nodup_range 24)
      refine List.pairwise_map.2 (List.Pairwise.imp (R := fun x y : Nat => x ≠ y) ?_ hf)
      intro x y h e
      exact h (by omega)
    · exact List.Pairwise.filter _ (show a.Pairwise (fun x y => x ≠ y) from asc_nodup (rhok_asc ha))
    · rw [List.mem_map, List.mem_filter]
      constructor
      · rintro ⟨j, hj, rfl⟩
        rw [List.mem_filter, Nat.testBit_and, Bool.and_eq_true] at hj
        obtain ⟨_, h1, h2⟩ := hj
        have hjn : j < N := by
          rcases Nat.lt_or_ge j N with h | h
          · exact h
          · rw [codI_out ha j h] at h1; cases h1
        rw [codI_bit ha j hjn] at h1
        rw [codI_bit hb j hjn] at h2
        unfold hasB at h1
        exact ⟨of_decide_eq_true h1, h2⟩
      · rintro ⟨h1, h2⟩
        have hr := rhok_range ha p h1
        obtain ⟨j, hj⟩ := Int.eq_ofNat_of_zero_le (show 0 ≤ (N : Int) - 1 - p by omega)
        refine ⟨j, ?_, by omega⟩
        rw [List.mem_filter, Nat.testBit_and, Bool.and_eq_true, codI_bit ha j (by omega), codI_bit hb j (by omega), show (N : Int) - 1 - j = p by omega]
        exact ⟨List.mem_range.2 (by omega), by unfold hasB; exact decide_eq_true h1, h2⟩
  have := hp.length_eq
  rwa [List.length_map] at this

end Go.Proofs.YthookknmeajojaaGreatDoor

namespace Go.Proofs.YthookknmeajojaaGreatDoor
open Go.RowKit
set_option linter.unusedVariables false
set_option linter.unusedSimpArgs false

theorem i64_or_pow2 (m v : Nat) (hm : m < 16777216) (hv : v < 24) : bits BinOp.or IntKind.i64 (m : Int) (wrap64 (2 ^ v)) = ((m ||| 2 ^ v : Nat) : Int) := by
  have h2 : (2 : Nat) ^ v < 2 ^ 24 := Nat.pow_lt_pow_right (by omega) hv
  have e : wrap64 (2 ^ v) = ((2 ^ v : Nat) : Int) := by
    rw [show ((2 : Int) ^ v) = ((2 ^ v : Nat) : Int) by simp]
    generalize 2 ^ v = x at h2
    unfold wrap64
    omega
  rw [e]
  exact i64_or_nat m (2 ^ v) (by omega) (by omega)

set_option maxRecDepth 100000 in
set_option maxHeartbeats 1000000 in
theorem impl_code_any (n : Int) (A : Option Addr) (cap : Nat) (bs : List Int) (w : World) (hA : Ints w w.heap.size A bs) (hok : RhOk n bs) :
    Calls Tryz.prog 89 #[.agg #[.int .i64 n, .slice A bs.length cap]] w fun e w' => e = .returned (.int .i64 (codeN n bs bs.length)) ∧ Below w.heap.size w w' := by
  have hlen := hA.1
  unfold maxLen at hlen
  have HC := Lib.hid hA.2.2
  have hn1 := hok.1
  have hn2 := hok.2.1
  have HOK := Lib.hid hok
  obtain ⟨c0, c1⟩ := box2 (Below.refl (w.heap.size + 1) (w.alloc (.cells #[.int .i64 n, .slice A bs.length cap] 26)))
  have HB := Lib.hid ((Below.refl w.heap.size w).alloc (Nat.le_refl _) (.cells #[.int .i64 n, .slice A bs.length cap] 26))
  clear hA hok
  go_enter Tryz.func89, Tryz.ntmps89
  go_wp2_with fail
  go_loop [3, 9] (fun m i => ∃ k : Nat, k ≤ bs.length ∧ i = .int .i64 k ∧ m = .int .i64 (codeN n bs k)) (fun _ i => bs.length - (intOf i).toNat)
  case atStart => exact ⟨0, Nat.zero_le _, rfl, rfl⟩
  case round =>
    obtain ⟨k, hk, rfl, rfl⟩ := hrel
    by_cases hlt : k < bs.length
    · obtain ⟨b, off, rfl, hB, hc⟩ := HC.out (by omega)
      have hcell := (HB.out.cell (p := ⟨b, off + k, none⟩) hB).trans (hc k hlt)
      have hx0 := HOK.out.2.2.1 k hlt
      have hsu : codeN n bs (k + 1) = codeN n bs k ||| 2 ^ (n - 1 - bs.getD k 0).toNat := rfl
      have hcl := codeN_lt n bs (by omega) HOK.out.2.2.1 k (by omega)
      have hcl2 : codeN n bs k < 16777216 := Nat.lt_of_lt_of_le hcl (Nat.le_trans (Nat.pow_le_pow_right (by omega) (show n.toNat ≤ 24 by omega)) (by decide))
      clear hcl
      obtain ⟨x, hx⟩ : ∃ x, bs.getD k 0 = x := ⟨_, rfl⟩
      rw [hx] at hcell hx0 hsu
      obtain ⟨hx1, hx2⟩ := hx0
      obtain ⟨v, hv⟩ : ∃ v : Nat, n - 1 - x = v := ⟨(n - 1 - x).toNat, by omega⟩
      have hv24 : v < 24 := by omega
      have hor := i64_or_pow2 (codeN n bs k) v hcl2 hv24
      rw [hv, Int.toNat_natCast] at hsu
      rw [← hsu] at hor
      have hx3 : x = n - 1 - v := by omega
      obtain ⟨M', hM'⟩ : ∃ M', codeN n bs (k + 1) = M' := ⟨_, rfl⟩
      rw [hM'] at hor
      have HM' := Lib.hid hM'
      have hw1 : IntKind.i64.wrap (n - 1 - x) = (v : Int) := by rw [hv]; exact i64w (by omega)
      generalize codeN n bs k = M at hor hcl2 ⊢
      clear hc hx hsu hM' hx3
      go_wp2_with fail
      go_round
      case rel => exact ⟨k + 1, by omega, by go_num, by rw [HM'.out]⟩
      case measure => simp [intOf]; omega
    · have hke : k = bs.length := by omega
      subst hke
      go_wp2_with fail
      go_ret
      exact ⟨rfl, HB.out⟩

end Go.Proofs.YthookknmeajojaaGreatDoor

namespace Go.Proofs.YthookknmeajojaaGreatDoor
open Go.RowKit
set_option linter.unusedVariables false
set_option linter.unusedSimpArgs false

set_option maxRecDepth 100000 in
set_option maxHeartbeats 1000000 in
theorem bits_OnesCount_any (x : Nat) (w : World) (hx : x < 16777216) :
    Calls Tryz.prog 88 #[.int .u64 x] w fun e w' => e = .returned (.int .i64 (popX x)) ∧ w = w' := by
  have HC := Lib.hid (fun V => bits_OnesCount64_any x V hx)
  go_enter Tryz.func88, Tryz.ntmps88
  go_wp2_with (go_at_call 131; refine (HC.out _).mono ?_; rintro e w' ⟨rfl, rfl⟩)
  go_ret
  exact ⟨rfl, rfl⟩

theorem cells2_frm {w w' : World} {g : Nat} {u v : Value} {S : Nat → Prop} (h : Cells2 w g u v) (hf : Frm S w w') (hS : ¬ S g) : Cells2 w' g u v :=
  ⟨(hf.cell h.2.2.2.2 hS).trans h.1, (hf.cell h.2.2.2.2 hS).trans h.2.1, (hf.frozen h.2.2.2.2 hS).trans h.2.2.1, (hf.frozen h.2.2.2.2 hS).trans h.2.2.2.1, Nat.lt_of_lt_of_le h.2.2.2.2 hf.size⟩

set_option maxRecDepth 100000 in
set_option maxHeartbeats 1000000 in
theorem impl_common_any (n : Nat) (A B : Option Addr) (ca cb : Nat) (a b : List Int) (w : World) (hA : Ints w w.heap.size A a) (hB : Ints w w.heap.size B b) (ha : RhOk n a) (hb : RhOk n b) :
    Calls Tryz.prog 51 #[.agg #[.int .i64 n, .slice A a.length ca], .agg #[.int .i64 n, .slice B b.length cb]] w fun e w' => e = .returned (.int .i64 (comN a b a.length)) ∧ Below w.heap.size w w' := by
  have HCA := Lib.hid (fun V h => show Calls Tryz.prog 89 #[.agg #[.int .i64 n, .slice A a.length ca]] V (fun e w' => e = .returned (.int .i64 (codI n a)) ∧ Below V.heap.size V w') from impl_code_any n A ca a V h ha)
  have HCB := Lib.hid (fun V h => show Calls Tryz.prog 89 #[.agg #[.int .i64 n, .slice B b.length cb]] V (fun e w' => e = .returned (.int .i64 (codI n b)) ∧ Below V.heap.size V w') from impl_code_any n B cb b V h hb)
  have hc := com_bits ha hb
  have l1 := codI_small ha
  have l2 := codI_small hb
  have hle : codI n a &&& codI n b ≤ codI n a := Nat.and_le_left
  have hand := i64_and_nat (codI n a) (codI n b) (by omega) (by omega)
  generalize codI n a = C at *
  generalize codI n b = D at *
  have HON := Lib.hid (fun V => bits_OnesCount_any (C &&& D) V (by omega))
  rw [hc] at HON
  obtain ⟨X, hX⟩ : ∃ X, C &&& D = X := ⟨_, rfl⟩
  rw [hX] at HON hand hle
  have hwu : IntKind.u64.wrap (X : Int) = (X : Int) := u64w (by omega)
  clear hc hX
  have hal0 := (Below.refl w.heap.size w).alloc (Nat.le_refl _) (.cells #[.int .i64 n, .slice A a.length ca] 26)
  have hal1 := hal0.alloc hal0.size (.cells #[.int .i64 n, .slice B b.length cb] 26)
  have HC0 := Lib.hid ((Cells2.new w (.int .i64 n) (.slice A a.length ca) 26).alloc (.cells #[.int .i64 n, .slice B b.length cb] 26))
  have HD0 := Lib.hid (Cells2.new_at (w.alloc (.cells #[.int .i64 n, .slice A a.length ca] 26)) (.int .i64 n) (.slice B b.length cb) 26 (w.heap.size + 1) (by simp))
  have HB0 := Lib.hid hal1
  have HIA := Lib.hid (hA.lift hal1)
  have HIB := Lib.hid (hB.lift hal1)
  clear hA hB hal0 hal1
  obtain ⟨c0, c1, _, _, _⟩ := HC0.out
  obtain ⟨d0, d1, _, _, _⟩ := HD0.out
  go_enter Tryz.func51, Tryz.ntmps51
  go_wp2_with fail
  generalize (w.alloc (.cells #[.int .i64 n, .slice A a.length ca] 26)).alloc (.cells #[.int .i64 n, .slice B b.length cb] 26) = w0 at *
  obtain ⟨q, hq⟩ : ∃ q, w.heap.size = q := ⟨_, rfl⟩
  have HQ := Lib.hid hq
  rw [hq] at HC0 HD0 HB0 c0 c1 d0 d1 ⊢
  clear hq
  (refine wp_region_held_drew (S := (fun w' => w'.cell? ⟨q, 0, none⟩ = some (.int .i64 n) ∧ w'.cell? ⟨q, 1, none⟩ = some (.slice A a.length ca) ∧ w'.cell? ⟨q + 1, 0, none⟩ = some (.int .i64 n) ∧ w'.cell? ⟨q + 1, 1, none⟩ = some (.slice B b.length cb))) (by kernel_rfl) ?_ (fun hHeld => ?_); (focus ((try dsimp only); exact ⟨c0, c1, d0, d1⟩)))
  have HG1 := Lib.hid ((Frm.refl (fun _ => False) w0).drew)
  have HB1 := Lib.hid (Below.drew5_ HB0.out)
  have HIA1 := Lib.hid (show Ints w0.drew w0.drew.heap.size A a from HIA.out)
  have HIB1 := Lib.hid (show Ints w0.drew w0.drew.heap.size B b from HIB.out)
  have hq1 : q ≤ w0.drew.heap.size := by have := HC0.out.2.2.2.2; show q ≤ w0.heap.size; omega
  generalize w0.drew = w1 at *
  (refine wpAnyH_take (i := 0) (v := ?_) rfl (by kernel_rfl) (by kernel_rfl) (by kernel_rfl) (fun _ _ _ h => h) (Or.inl ⟨by rfl, ?_⟩) (by assumption) ?_; rotate_left; (focus (intro wS hSw; (try dsimp only at hSw); go_simp; (try with_reducible rfl))); (try simp only [Act.put, List.getElem_toArray, List.getElem_cons_zero, List.getElem_cons_succ, List.setIfInBounds_toArray, List.set_cons_zero, List.set_cons_succ]))
  (refine wpAnyH_take (i := 2) (v := ?_) rfl (by kernel_rfl) (by kernel_rfl) (by kernel_rfl) (fun _ _ _ h => h) (Or.inl ⟨by rfl, ?_⟩) (by assumption) ?_; rotate_left; (focus (intro wS hSw; (try dsimp only at hSw); go_simp; (try with_reducible rfl))); (try simp only [Act.put, List.getElem_toArray, List.getElem_cons_zero, List.getElem_cons_succ, List.setIfInBounds_toArray, List.set_cons_zero, List.set_cons_succ]))
  (refine wpAnyH_ready (rs := [1]) (by kernel_rfl) (by simp) ?_; refine AllReadyH.cons rfl (fun K hK => ?_) AllReadyH.nil; go_simp)
  go_at_call 89
  refine (HCA.out _ HIA1.out).mono ?_
  rintro e w2 ⟨rfl, hb⟩
  have HG2 := Lib.hid (HG1.out.trans (Frm.pure hb (fun _ => False)))
  have HB2 := Lib.hid (HB1.out.trans (hb.mono hq1))
  have HIB2 := Lib.hid (HIB1.out.lift hb)
  have hq2 := Nat.le_trans hq1 hb.size
  clear hb c0 c1 d0 d1
  obtain ⟨c0, c1, _, _, _⟩ := cells2_frm HC0.out HG2.out (fun h => h)
  obtain ⟨d0, d1, _, _, _⟩ := cells2_frm HD0.out HG2.out (fun h => h)
  go_wp2_with fail
  (refine hK.out _ _ ?_ (fun hHeld2 => ?_); (focus ((try dsimp only); exact ⟨c0, c1, d0, d1⟩)); (clear hK K); (try simp only [Act.put, List.getElem_toArray, List.getElem_cons_zero, List.getElem_cons_succ, List.setIfInBounds_toArray, List.set_cons_zero, List.set_cons_succ]))
  (refine wpAnyH_ready (rs := [3]) (by kernel_rfl) (by simp) ?_; refine AllReadyH.cons rfl (fun K hK => ?_) AllReadyH.nil; go_simp)
  go_at_call 89
  refine (HCB.out _ HIB2.out).mono ?_
  rintro e w3 ⟨rfl, hb⟩
  have HG3 := Lib.hid (HG2.out.trans (Frm.pure hb (fun _ => False)))
  have HB3 := Lib.hid (HB2.out.trans (hb.mono hq2))
  clear hb c0 c1 d0 d1
  obtain ⟨c0, c1, _, _, _⟩ := cells2_frm HC0.out HG3.out (fun h => h)
  obtain ⟨d0, d1, _, _, _⟩ := cells2_frm HD0.out HG3.out (fun h => h)
  go_wp2_with fail
  (refine hK.out _ _ ?_ (fun hHeld2 => ?_); (focus ((try dsimp only); exact ⟨c0, c1, d0, d1⟩)); (clear hK K); (try simp only [Act.put, List.getElem_toArray, List.getElem_cons_zero, List.getElem_cons_succ, List.setIfInBounds_toArray, List.set_cons_zero, List.set_cons_succ]))
  (refine wpAnyH_take (i := 4) (v := ?_) rfl (by kernel_rfl) (by kernel_rfl) (by kernel_rfl) (fun _ _ _ h => h) (Or.inl ⟨by rfl, ?_⟩) (by assumption) ?_; rotate_left; (focus (intro wS hSw; (try dsimp only at hSw); go_simp; (try with_reducible rfl))); (try simp only [Act.put, List.getElem_toArray, List.getElem_cons_zero, List.getElem_cons_succ, List.setIfInBounds_toArray, List.set_cons_zero, List.set_cons_succ]))
  (refine wpAnyH_take (i := 5) (v := ?_) rfl (by kernel_rfl) (by kernel_rfl) (by kernel_rfl) (fun _ _ _ h => h) (Or.inl ⟨by rfl, ?_⟩) (by assumption) ?_; rotate_left; (focus (intro wS hSw; (try dsimp only at hSw); go_simp; (try with_reducible rfl))); (try simp only [Act.put, List.getElem_toArray, List.getElem_cons_zero, List.getElem_cons_succ, List.setIfInBounds_toArray, List.set_cons_zero, List.set_cons_succ]))
  (refine wpAnyH_ready (rs := [6]) (by kernel_rfl) (by simp) ?_; refine AllReadyH.cons rfl (fun K hK => ?_) AllReadyH.nil; go_simp)
  go_at_call 88
  refine (HON.out _).mono ?_
  rintro e w4 ⟨rfl, rfl⟩
  go_wp2_with fail
  (refine hK.out _ _ ?_ (fun hHeld2 => ?_); (focus ((try dsimp only); exact ⟨c0, c1, d0, d1⟩)); (clear hK K); (try simp only [Act.put, List.getElem_toArray, List.getElem_cons_zero, List.getElem_cons_succ, List.setIfInBounds_toArray, List.set_cons_zero, List.set_cons_succ]))
  (refine wpAnyH_take (i := 7) (v := ?_) rfl (by kernel_rfl) (by kernel_rfl) (by kernel_rfl) (fun _ _ _ h => h) (Or.inl ⟨by rfl, ?_⟩) (by assumption) ?_; rotate_left; (focus (intro wS hSw; (try dsimp only at hSw); go_simp; (try with_reducible rfl))); (try simp only [Act.put, List.getElem_toArray, List.getElem_cons_zero, List.getElem_cons_succ, List.setIfInBounds_toArray, List.set_cons_zero, List.set_cons_succ]))
  refine wpAnyH_done (by kernel_rfl) ?_ _
  go_wp2_with fail
  go_ret
  exact ⟨rfl, by rw [HQ.out]; exact HB3.out⟩

end Go.Proofs.YthookknmeajojaaGreatDoor

namespace Go.Proofs.YthookknmeajojaaGreatDoor
open Go.RowKit
set_option linter.unusedVariables false
set_option linter.unusedSimpArgs false

def Hav (w : World) (N : Nat) (g : Nat) (A : Option Addr) (c : Nat) (xs : List Int) : Prop := Cells2 w g (.int .i64 N) (.slice A xs.length c) ∧ Ints w w.heap.size A xs
theorem Hav.lift {w w' : World} {N g c : Nat} {A : Option Addr} {xs : List Int} (h : Hav w N g A c xs) (hb : Below w.heap.size w w') : Hav w' N g A c xs :=
  ⟨h.1.below hb h.1.2.2.2.2, h.2.lift hb⟩
theorem Hav.drew {w : World} {N g c : Nat} {A : Option Addr} {xs : List Int} (h : Hav w N g A c xs) : Hav w.drew N g A c xs := h
theorem Hav.alloc {w : World} {N g c : Nat} {A : Option Addr} {xs : List Int} (h : Hav w N g A c xs) (o : Obj) : Hav (w.alloc o) N g A c xs :=
  h.lift ((Below.refl _ _).alloc (Nat.le_refl _) o)
theorem Hav.boxed {w : World} {A : Option Addr} {xs : List Int} (h : Ints w w.heap.size A xs) (N c : Nat) : Hav (w.alloc (.cells #[.int .i64 N, .slice A xs.length c] 26)) N w.heap.size A c xs :=
  ⟨Cells2.new w _ _ _, h.lift ((Below.refl _ _).alloc (Nat.le_refl _) _)⟩
theorem Below.drewH_ {B : Nat} {a w : World} (h : Below B a w) : Below B a w.drew := ⟨h.os, h.tape, h.output, h.size, h.block⟩

/-- A rhythm in a row of rhythms, its beats readable. -/
def HavR (w : World) (N : Nat) (g o : Nat) (A : Option Addr) (c : Nat) (xs : List Int) : Prop := (g < w.heap.size ∧ w.cell? ⟨g, o, none⟩ = some (.int .i64 N) ∧ w.cell? ⟨g, o + 1, none⟩ = some (.slice A xs.length c)) ∧ Ints w w.heap.size A xs
theorem HavR.lift {w w' : World} {N g o c : Nat} {A : Option Addr} {xs : List Int} (h : HavR w N g o A c xs) (hb : Below w.heap.size w w') : HavR w' N g o A c xs :=
  ⟨⟨Nat.lt_of_lt_of_le h.1.1 hb.size, (hb.cell (p := ⟨g, o, none⟩) h.1.1).trans h.1.2.1, (hb.cell (p := ⟨g, o + 1, none⟩) h.1.1).trans h.1.2.2⟩, h.2.lift hb⟩
theorem HavR.drew {w : World} {N g o c : Nat} {A : Option Addr} {xs : List Int} (h : HavR w N g o A c xs) : HavR w.drew N g o A c xs := h

end Go.Proofs.YthookknmeajojaaGreatDoor

