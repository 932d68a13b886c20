/-
  The moves of a rhythm in plain words: by insertion, and by their codes.
-/
import Derived.Test.YtjoeglekcnaebaaGreatDoorTkI
import Derived.Test.YtjoeglekcnaebaaGreatDoorSpcR
import Derived.Test.YtjoeglekcnaebaaGreatDoorColl
namespace Go.Proofs.YtjoeglekcnaebaaGreatDoor
open Go.RowKit
set_option linter.unusedVariables false
set_option linter.unusedSimpArgs false

def codI (N : Nat) (X : List Int) : Nat := codeN N X X.length
def aftB (N : Nat) (a b : List Int) : Bool := decide (codI N b < codI N a)
theorem codI_bit {N : Nat} {X : List Int} (h : RhOk N X) (b : Nat) (hb : b < N) : (codI N X).testBit b = hasB X ((N : Int) - 1 - b) :=
  codeN_has N X (by have := h.1; omega) h.2.2.1 b (by omega)
theorem codI_lt {N : Nat} {X : List Int} (h : RhOk N X) : codI N X < 2 ^ N := by
  have := codeN_lt N X (by have := h.1; omega) h.2.2.1 X.length (Nat.le_refl _)
  rwa [Int.toNat_natCast] at this
theorem codI_small {N : Nat} {X : List Int} (h : RhOk N X) : codI N X < 16777216 := by
  have h1 := codI_lt h
  have h2 : (2 : Nat) ^ N ≤ 2 ^ 24 := Nat.pow_le_pow_right (by omega) (by have := h.2.1; omega)
  omega
theorem codI_out {N : Nat} {X : List Int} (h : RhOk N X) (b : Nat) (hb : N ≤ b) : (codI N X).testBit b = false :=
  Nat.testBit_lt_two_pow (Nat.lt_of_lt_of_le (codI_lt h) (Nat.pow_le_pow_right (by omega) hb))
theorem lt_of_bit {x y : Nat} (i : Nat) (hx : x.testBit i = false) (hy : y.testBit i = true) (hxy : ∀ j, i < j → x.testBit j = y.testBit j) : x < y := by
  have e : x / 2 ^ i / 2 = y / 2 ^ i / 2 := by
    rw [Nat.div_div_eq_div_mul, Nat.div_div_eq_div_mul, ← Nat.pow_succ]
    refine Nat.eq_of_testBit_eq fun j => ?_
    rw [Nat.testBit_div_two_pow, Nat.testBit_div_two_pow]
    exact hxy _ (by omega)
  rw [Nat.testBit_eq_decide_div_mod_eq] at hx hy
  have h1 := of_decide_eq_false hx
  have h2 := of_decide_eq_true hy
  have h3 : y / 2 ^ i = x / 2 ^ i + 1 := by omega
  have h4 := Nat.div_mul_le_self y (2 ^ i)
  have h5 : x < (x / 2 ^ i + 1) * 2 ^ i := (Nat.div_lt_iff_lt_mul (Nat.two_pow_pos i)).1 (Nat.lt_succ_self _)
  rw [h3] at h4
  omega
theorem aft_first {N : Nat} {a b : List Int} {p : Nat} (ha : RhOk N a) (hb : RhOk N b) (hp : p < N) (hs : ∀ q : Nat, q < p → hasB a q = hasB b q) (hd : hasB a p ≠ hasB b p) : aftB N a b = hasB a p := by
  have e : (N : Int) - 1 - ((N - 1 - p : Nat) : Int) = p := by omega
  have ba := codI_bit ha (N - 1 - p) (by omega)
  have bb := codI_bit hb (N - 1 - p) (by omega)
  rw [e] at ba bb
  have hj : ∀ j, N - 1 - p < j → (codI N a).testBit j = (codI N b).testBit j := fun j hj => by
    by_cases hn : j < N
    · rw [codI_bit ha j hn, codI_bit hb j hn, show (N : Int) - 1 - j = ((N - 1 - j : Nat) : Int) by omega]
      exact hs _ (by omega)
    · rw [codI_out ha j (by omega), codI_out hb j (by omega)]
  unfold aftB
  cases h1 : hasB a p
  · have h2 : hasB b p = true := by
      cases h3 : hasB b p
      · exact absurd (h1.trans h3.symm) hd
      · rfl
    rw [h1] at ba; rw [h2] at bb
    exact decide_eq_false (Nat.not_lt_of_le (Nat.le_of_lt (lt_of_bit (N - 1 - p) ba bb hj)))
  · have h2 : hasB b p = false := by
      cases h3 : hasB b p
      · rfl
      · exact absurd (h1.trans h3.symm) hd
    rw [h1] at ba; rw [h2] at bb
    exact decide_eq_true (lt_of_bit (N - 1 - p) bb ba (fun j h => (hj j h).symm))
theorem bits_cod {N : Nat} {X : List Int} (h : RhOk N X) : bitsB N (codI N X) N = X := by
  refine asc_unique (bitsB_sorted N _ N) (rhok_asc h) fun x => ?_
  rw [bitsB_mem]
  constructor
  · rintro ⟨p, hp, hb, rfl⟩
    rw [codI_bit h (N - 1 - p) (by omega), show (N : Int) - 1 - ((N - 1 - p : Nat) : Int) = p by omega] at hb
    unfold hasB at hb
    rwa [decide_eq_true_eq] at hb
  · intro hx
    have hr := rhok_range h x hx
    obtain ⟨p, rfl⟩ := Int.eq_ofNat_of_zero_le hr.1
    refine ⟨p, by omega, ?_, rfl⟩
    rw [codI_bit h (N - 1 - p) (by omega), show (N : Int) - 1 - ((N - 1 - p : Nat) : Int) = p by omega]
    unfold hasB
    exact decide_eq_true hx
theorem cod_inj {N : Nat} {a b : List Int} (ha : RhOk N a) (hb : RhOk N b) (h : codI N a = codI N b) : a = b := by
  rw [← bits_cod ha, ← bits_cod hb, h]
theorem aft_none {N : Nat} {a b : List Int} (ha : RhOk N a) (hb : RhOk N b) (hs : ∀ q : Nat, q < N → hasB a q = hasB b q) : aftB N a b = false := by
  have e : a = b := asc_unique (rhok_asc ha) (rhok_asc hb) fun x => by
    constructor
    · intro hx
      have hr := rhok_range ha x hx
      obtain ⟨p, rfl⟩ := Int.eq_ofNat_of_zero_le hr.1
      have := hs p (by omega)
      unfold hasB at this
      rw [decide_eq_true (show (p : Int) ∈ a from hx)] at this
      exact of_decide_eq_true this.symm
    · intro hx
      have hr := rhok_range hb x hx
      obtain ⟨p, rfl⟩ := Int.eq_ofNat_of_zero_le hr.1
      have := hs p (by omega)
      unfold hasB at this
      rw [decide_eq_true (show (p : Int) ∈ b from hx)] at this
      exact of_decide_eq_true this
  unfold aftB
  rw [e]
  exact decide_eq_false (Nat.lt_irrefl _)

/-- Step m moves beat m / 2 on or back; the pulse, and the rhythm that comes of it. -/
def mvD (m : Nat) : Int := if m % 2 = 0 then 1 else -1
def mvQ (N : Nat) (bs : List Int) (m : Nat) : Int := (bs.getD (m / 2) 0 + mvD m) % N
def mvX (N : Nat) (bs : List Int) (m : Nat) : List Int := ofL (bs.set (m / 2) (mvQ N bs m)) N
def mvL (N : Nat) (bs : List Int) : Nat → List (List Int)
  | 0 => []
  | m + 1 => if hasB bs (mvQ N bs m) then mvL N bs m else mvL N bs m ++ [mvX N bs m]
def posF (N : Nat) (out : List (List Int)) (x : List Int) : Nat := (out.takeWhile fun y => aftB N y x).length
def insF (N : Nat) (out : List (List Int)) (x : List Int) : List (List Int) := if out[posF N out x]? = some x then out else out.take (posF N out x) ++ (x :: out.drop (posF N out x))
def insL (N : Nat) (bs : List Int) : Nat → List (List Int)
  | 0 => []
  | m + 1 => if hasB bs (mvQ N bs m) then insL N bs m else insF N (insL N bs m) (mvX N bs m)

theorem ofL_ok {N : Nat} (xs : List Int) (h1 : 1 ≤ N) (h2 : N ≤ 24) : RhOk N (ofL xs N) := by
  have hs := ofL_sorted xs N
  refine ⟨by omega, by omega, fun i hi => ?_, fun i hi => ?_⟩
  · obtain ⟨t, ht, _, e⟩ := ofL_mem.1 (show (ofL xs N).getD i 0 ∈ ofL xs N by
      rw [List.getD_eq_getElem?_getD, List.getElem?_eq_getElem hi]; exact List.getElem_mem hi)
    rw [e]; omega
  · have := List.pairwise_iff_getElem.1 hs i (i + 1) (by omega) hi (by omega)
    rw [List.getD_eq_getElem?_getD, List.getD_eq_getElem?_getD, List.getElem?_eq_getElem hi, List.getElem?_eq_getElem (by omega : i < _)]
    exact this

theorem posF_le (N : Nat) (out : List (List Int)) (x : List Int) : posF N out x ≤ out.length := by
  unfold posF
  exact (List.takeWhile_sublist _).length_le
theorem posF_before {N : Nat} : ∀ {out : List (List Int)} {x : List Int} {i : Nat} (h : i < out.length), i < posF N out x → aftB N out[i] x = true
  | y :: out, x, i, h, hi => by
    unfold posF at hi
    by_cases hy : aftB N y x = true
    · rw [List.takeWhile_cons_of_pos (p := fun y => aftB N y x) hy, List.length_cons] at hi
      cases i with
      | zero => exact hy
      | succ i =>
        show aftB N (out[i]'(by simpa using h)) x = true
        exact posF_before (by simpa using h) (by unfold posF; omega)
    · rw [List.takeWhile_cons_of_neg (p := fun y => aftB N y x) hy] at hi; exact absurd hi (by simp)
theorem posF_at {N : Nat} : ∀ {out : List (List Int)} {x : List Int} (h : posF N out x < out.length), aftB N out[posF N out x] x = false
  | y :: out, x, h => by
    by_cases hy : aftB N y x = true
    · have e : posF N (y :: out) x = posF N out x + 1 := by unfold posF; rw [List.takeWhile_cons_of_pos (p := fun y => aftB N y x) hy, List.length_cons]
      have h' : posF N out x < out.length := by rw [e] at h; simpa using h
      have := posF_at h'
      simp only [e, List.getElem_cons_succ]
      exact this
    · have e : posF N (y :: out) x = 0 := by unfold posF; rw [List.takeWhile_cons_of_neg (p := fun y => aftB N y x) hy]; rfl
      simp only [e, List.getElem_cons_zero]
      simpa using hy

def Desc (N : Nat) (out : List (List Int)) : Prop := out.Pairwise (fun a b => codI N b < codI N a) ∧ ∀ x ∈ out, RhOk N x
theorem insF_desc {N : Nat} {out : List (List Int)} {x : List Int} (h : Desc N out) (hx : RhOk N x) : Desc N (insF N out x) ∧ ∀ y, y ∈ insF N out x ↔ y ∈ out ∨ y = x := by
  unfold insF
  obtain ⟨k, hk⟩ : ∃ k, posF N out x = k := ⟨_, rfl⟩
  have hkl := posF_le N out x
  have hbf : ∀ i (hi : i < out.length), i < k → codI N x < codI N out[i] := fun i hi hik => by
    have := posF_before (N := N) (x := x) hi (by omega)
    unfold aftB at this
    exact of_decide_eq_true this
  rw [hk] at hkl ⊢
  by_cases he : out[k]? = some x
  · rw [if_pos he]
    refine ⟨h, fun y => ⟨.inl, fun hy => ?_⟩⟩
    rcases hy with hy | rfl
    · exact hy
    · exact List.mem_of_getElem? he
  · rw [if_neg he]
    have haf : ∀ i (hi : i < out.length), k ≤ i → codI N out[i] < codI N x := fun i hi hki => by
      have hkn : k < out.length := by omega
      have h1 : codI N out[k] ≤ codI N x := by
        subst hk
        have := posF_at (N := N) (x := x) hkn
        unfold aftB at this
        have := of_decide_eq_false this
        omega
      have h2 : codI N out[k] ≠ codI N x := fun e => he (by
        rw [List.getElem?_eq_getElem hkn, cod_inj (h.2 _ (List.getElem_mem hkn)) hx e])
      by_cases hik : i = k
      · subst hik; omega
      · have := List.pairwise_iff_getElem.1 h.1 k i hkn hi (by omega)
        omega
    have hmem : ∀ y, y ∈ out.take k ++ (x :: out.drop k) ↔ y ∈ out ∨ y = x := fun y => by
      rw [List.mem_append, List.mem_cons]
      constructor
      · rintro (h1 | rfl | h1)
        · exact .inl (List.mem_of_mem_take h1)
        · exact .inr rfl
        · exact .inl (List.mem_of_mem_drop h1)
      · rintro (h1 | rfl)
        · rw [← List.take_append_drop k out, List.mem_append] at h1
          rcases h1 with h1 | h1
          · exact .inl h1
          · exact .inr (.inr h1)
        · exact .inr (.inl rfl)
    refine ⟨⟨?_, fun y hy => ?_⟩, hmem⟩
    · rw [List.pairwise_append, List.pairwise_cons]
      refine ⟨h.1.sublist (List.take_sublist _ _), ⟨fun y hy => ?_, h.1.sublist (List.drop_sublist _ _)⟩, fun a ha b hb => ?_⟩
      · obtain ⟨i, hi, rfl⟩ := List.getElem_of_mem hy
        rw [List.getElem_drop]
        exact haf _ _ (by omega)
      · obtain ⟨i, hi, rfl⟩ := List.getElem_of_mem ha
        rw [List.length_take] at hi
        rw [List.getElem_take]
        have h1 := hbf i (by omega) (by omega)
        rw [List.mem_cons] at hb
        rcases hb with rfl | hb
        · exact h1
        · obtain ⟨j, hj, rfl⟩ := List.getElem_of_mem hb
          rw [List.getElem_drop]
          have h2 := haf (k + j) (by rw [List.length_drop] at hj; omega) (by omega)
          omega
    · rcases (hmem y).1 hy with h1 | rfl
      · exact h.2 y h1
      · exact hx
theorem insL_desc {N : Nat} (bs : List Int) (h1 : 1 ≤ N) (h2 : N ≤ 24) : ∀ m, Desc N (insL N bs m) ∧ ∀ y, y ∈ insL N bs m ↔ y ∈ mvL N bs m
  | 0 => ⟨⟨List.Pairwise.nil, fun x hx => by cases hx⟩, fun y => by simp [insL, mvL]⟩
  | m + 1 => by
    obtain ⟨ih1, ih2⟩ := insL_desc bs h1 h2 m
    unfold insL mvL
    cases hb : hasB bs (mvQ N bs m)
    · rw [if_neg (by decide), if_neg (by decide)]
      obtain ⟨a, b⟩ := insF_desc ih1 (show RhOk N (mvX N bs m) from ofL_ok _ h1 h2)
      refine ⟨a, fun y => ?_⟩
      rw [b, ih2, List.mem_append, List.mem_singleton]
    · rw [if_pos rfl, if_pos rfl]
      exact ⟨ih1, ih2⟩
/-- By insertion, or by their codes from the greatest down: the same. -/
theorem mov_eq {N : Nat} (bs : List Int) (h1 : 1 ≤ N) (h2 : N ≤ 24) (m : Nat) :
    insL N bs m = (collL ((mvL N bs m).map fun x => (codI N x : Int))).reverse.map (fun c => bitsB N c.toNat N) := by
  obtain ⟨⟨d1, d2⟩, d3⟩ := insL_desc bs h1 h2 m
  obtain ⟨c1, c2⟩ := collL_asc ((mvL N bs m).map fun x => (codI N x : Int))
  have e : ((insL N bs m).map fun x => (codI N x : Int)).reverse = collL ((mvL N bs m).map fun x => (codI N x : Int)) := by
    refine asc_unique ?_ c1 fun c => ?_
    · rw [List.pairwise_reverse, List.pairwise_map]
      exact d1.imp (fun h => by omega)
    · rw [c2, List.mem_reverse, List.mem_map, List.mem_map]
      constructor
      · rintro ⟨x, hx, rfl⟩; exact ⟨x, (d3 x).1 hx, rfl⟩
      · rintro ⟨x, hx, rfl⟩; exact ⟨x, (d3 x).2 hx, rfl⟩
  rw [← e, List.reverse_reverse, List.map_map]
  refine (List.map_id' (insL N bs m)).symm.trans (List.map_congr_left fun x hx => ?_)
  show x = bitsB N ((codI N x : Int)).toNat N
  rw [Int.toNat_natCast, bits_cod (d2 x hx)]

theorem rhok_len {N : Nat} {bs : List Int} (hok : RhOk N bs) : bs.length ≤ N := by
  have := rotL_len N bs 0
  rwa [(rotL_same hok 0).2 (fun t ht => by rw [show (t : Int) - 0 = t by omega, Int.emod_eq_of_lt (by omega) (by omega)])] at this

end Go.Proofs.YtjoeglekcnaebaaGreatDoor
