/-
  Meters in plain words: products, units, weights, syncopation, the list of meters, the best one.
-/
import Derived.Test.YtjoeglekcnaebaaDoorStepsOf
import Derived.Test.YtjoeglekcnaebaaDoorJoin
namespace Go.Proofs.YtjoeglekcnaebaaDoor
open Go.RowKit
set_option linter.unusedVariables false
set_option linter.unusedSimpArgs false

def prd (xs : List Int) : Int := xs.foldl (· * ·) 1
theorem foldl_mul : ∀ (l : List Int) (a : Int), l.foldl (· * ·) a = a * prd l
  | [], a => by simp [prd]
  | x :: l, a => by
    unfold prd
    rw [List.foldl_cons, List.foldl_cons, foldl_mul l (a * x), foldl_mul l (1 * x), Int.one_mul, Int.mul_assoc]
theorem prd_app (a b : List Int) : prd (a ++ b) = prd a * prd b := by
  conv => lhs; unfold prd
  rw [List.foldl_append, foldl_mul]
  rfl
theorem prd_one (k : Int) : prd [k] = k := by simp [prd]
theorem prd_snoc (a : List Int) (k : Int) : prd (a ++ [k]) = prd a * k := by rw [prd_app, prd_one]
theorem prd_take {xs : List Int} {j : Nat} {x : Int} (hj : j < xs.length) (hx : xs.getD j 0 = x) : prd (xs.take (j + 1)) = prd (xs.take j) * x := by
  rw [List.take_succ_eq_append_getElem hj, prd_snoc]
  have : xs[j] = x := by rw [← hx, List.getD_eq_getElem?_getD, List.getElem?_eq_getElem hj]; rfl
  rw [this]
/-- The numbers of a meter. -/
def In27 (xs : List Int) : Prop := ∀ x ∈ xs, 2 ≤ x ∧ x ≤ 7
theorem prd_pos : ∀ {xs : List Int}, In27 xs → 1 ≤ prd xs
  | [], _ => by simp [prd]
  | x :: xs, h => by
    have h1 := h x List.mem_cons_self
    have h2 := prd_pos (xs := xs) (fun y hy => h y (List.mem_cons_of_mem _ hy))
    rw [show x :: xs = [x] ++ xs from rfl, prd_app, prd_one]
    have : (1 : Int) * 1 ≤ x * prd xs := Int.mul_le_mul (by omega) h2 (by omega) (by omega)
    omega
theorem In27.sub {xs ys : List Int} (h : In27 xs) (hs : ∀ x ∈ ys, x ∈ xs) : In27 ys := fun x hx => h x (hs x hx)
theorem In27.take {xs : List Int} (h : In27 xs) (j : Nat) : In27 (xs.take j) := h.sub fun x hx => List.mem_of_mem_take hx
theorem In27.drop {xs : List Int} (h : In27 xs) (j : Nat) : In27 (xs.drop j) := h.sub fun x hx => List.mem_of_mem_drop hx
theorem prd_split (xs : List Int) (j : Nat) : prd (xs.take j) * prd (xs.drop j) = prd xs := by rw [← prd_app, List.take_append_drop]
theorem prd_take_le {xs : List Int} (h : In27 xs) (j : Nat) : prd (xs.take j) ≤ prd xs := by
  have h1 := prd_pos (h.take j)
  have h2 := prd_pos (h.drop j)
  have : prd (xs.take j) * 1 ≤ prd (xs.take j) * prd (xs.drop j) := Int.mul_le_mul_of_nonneg_left h2 (by omega)
  rw [prd_split] at this
  omega
theorem prd_drop_le {xs : List Int} (h : In27 xs) (j : Nat) : prd (xs.drop j) ≤ prd xs := by
  have h1 := prd_pos (h.take j)
  have h2 := prd_pos (h.drop j)
  have : 1 * prd (xs.drop j) ≤ prd (xs.take j) * prd (xs.drop j) := Int.mul_le_mul_of_nonneg_right h1 (by omega)
  rw [prd_split] at this
  omega
/-- A meter. -/
def MetOk (xs : List Int) : Prop := 1 ≤ xs.length ∧ xs.length ≤ 5 ∧ In27 xs ∧ prd xs ≤ 24
/-- The number of pulses of a part of division i. -/
def unt (xs : List Int) (i : Nat) : Int := prd (xs.drop (i + 1))
theorem unt_rng {xs : List Int} (h : MetOk xs) (i : Nat) : 1 ≤ unt xs i ∧ unt xs i ≤ 24 := by
  have h1 := prd_pos (h.2.2.1.drop (i + 1))
  have h2 := prd_drop_le h.2.2.1 (i + 1)
  have := h.2.2.2
  unfold unt
  omega
def cntW (xs : List Int) (p : Nat) : Nat → Int
  | 0 => 0
  | i + 1 => if (p : Int) % unt xs i = 0 then cntW xs p i + 1 else cntW xs p i
theorem cntW_rng (xs : List Int) (p : Nat) : ∀ i, 0 ≤ cntW xs p i ∧ cntW xs p i ≤ i
  | 0 => ⟨Int.le_refl _, Int.le_refl _⟩
  | i + 1 => by
    have := cntW_rng xs p i
    unfold cntW; split <;> omega
def wgtF (xs : List Int) (m : Nat) : List Int := (List.range m).map fun p => cntW xs p xs.length
theorem wgtF_succ (xs : List Int) (m : Nat) : wgtF xs (m + 1) = wgtF xs m ++ [cntW xs m xs.length] := by simp [wgtF, List.range_succ]
theorem wgtF_len (xs : List Int) (m : Nat) : (wgtF xs m).length = m := by simp [wgtF]
theorem wgtF_at (xs : List Int) {m p : Nat} (hp : p < m) : (wgtF xs m).getD p 0 = cntW xs p xs.length := by
  unfold wgtF
  rw [List.getD_eq_getElem?_getD, List.getElem?_eq_getElem (by simpa using hp)]
  simp
def wgtL (xs : List Int) : List Int := wgtF xs (prd xs).toNat
theorem wgtL_len (xs : List Int) : (wgtL xs).length = (prd xs).toNat := wgtF_len _ _
theorem wgtL_rng {xs : List Int} (h : MetOk xs) (p : Nat) : 0 ≤ (wgtL xs).getD p 0 ∧ (wgtL xs).getD p 0 ≤ 5 := by
  by_cases hp : p < (prd xs).toNat
  · unfold wgtL
    rw [wgtF_at xs hp]
    have := cntW_rng xs p xs.length
    have := h.2.1
    omega
  · rw [List.getD_eq_getElem?_getD, List.getElem?_eq_none (by rw [wgtL_len]; omega)]
    exact ⟨Int.le_refl _, by decide⟩
/-- The greatest weight of the first m pulses behind p. -/
def grtV (W : List Int) (N p : Int) : Nat → Int
  | 0 => 0
  | m + 1 => max (grtV W N p m) (W.getD ((p + (m + 1 : Nat)) % N).toNat 0)
theorem grtV_rng {W : List Int} (h : ∀ p, 0 ≤ W.getD p 0 ∧ W.getD p 0 ≤ 5) (N p : Int) : ∀ m, 0 ≤ grtV W N p m ∧ grtV W N p m ≤ 5
  | 0 => ⟨Int.le_refl _, by show (0 : Int) ≤ 5; decide⟩
  | m + 1 => by
    have h1 := grtV_rng h N p m
    have h2 := h ((p + (m + 1 : Nat)) % N).toNat
    unfold grtV
    omega
def synV (W : List Int) (N : Int) (bs S : List Int) : Nat → Int
  | 0 => 0
  | i + 1 => synV W N bs S i + max 0 (grtV W N (bs.getD i 0) ((S.getD i 0).toNat - 1) - W.getD (bs.getD i 0).toNat 0)
theorem synV_rng {W : List Int} (h : ∀ p, 0 ≤ W.getD p 0 ∧ W.getD p 0 ≤ 5) (N : Int) (bs S : List Int) : ∀ i : Nat, 0 ≤ synV W N bs S i ∧ synV W N bs S i ≤ 5 * i
  | 0 => ⟨Int.le_refl _, by show (0 : Int) ≤ _; omega⟩
  | i + 1 => by
    have h1 := synV_rng h N bs S i
    have h2 := grtV_rng h N (bs.getD i 0) ((S.getD i 0).toNat - 1)
    have h3 := h (bs.getD i 0).toNat
    unfold synV
    omega
def syncV (N : Nat) (bs xs : List Int) : Int := synV (wgtL xs) N bs (stepsL N bs) bs.length
theorem syncV_rng {xs : List Int} (h : MetOk xs) (N : Nat) (bs : List Int) : 0 ≤ syncV N bs xs ∧ syncV N bs xs ≤ 5 * bs.length := synV_rng (wgtL_rng h) _ _ _ _

/-- The meters that begin with b and have n pulses in each part. -/
def metL : Nat → Nat → List Int → List (List Int)
  | 0, _, _ => []
  | f + 1, n, b => if n = 1 then [b] else if b.length = 5 then [] else (List.range 6).flatMap fun j => if n % (j + 2) = 0 then metL f (n / (j + 2)) (b ++ [((j + 2 : Nat) : Int)]) else []
def metP (f n : Nat) (b : List Int) (j : Nat) : List (List Int) := (List.range j).flatMap fun j => if n % (j + 2) = 0 then metL f (n / (j + 2)) (b ++ [((j + 2 : Nat) : Int)]) else []
theorem metL_one (f : Nat) (b : List Int) : metL (f + 1) 1 b = [b] := rfl
theorem metL_five {f n : Nat} {b : List Int} (hn : n ≠ 1) (hb : b.length = 5) : metL (f + 1) n b = [] := by unfold metL; rw [if_neg hn, if_pos hb]
theorem metL_go {f n : Nat} {b : List Int} (hn : n ≠ 1) (hb : b.length ≠ 5) : metL (f + 1) n b = metP f n b 6 := by unfold metL; rw [if_neg hn, if_neg hb]; rfl
theorem metP_yes {f n j : Nat} {b : List Int} (h : n % (j + 2) = 0) : metP f n b (j + 1) = metP f n b j ++ metL f (n / (j + 2)) (b ++ [((j + 2 : Nat) : Int)]) := by
  unfold metP
  rw [List.range_succ, List.flatMap_append]
  simp only [List.flatMap_cons, List.flatMap_nil, List.append_nil]
  rw [if_pos h]
theorem metP_no {f n j : Nat} {b : List Int} (h : ¬ n % (j + 2) = 0) : metP f n b (j + 1) = metP f n b j := by
  unfold metP
  rw [List.range_succ, List.flatMap_append]
  simp only [List.flatMap_cons, List.flatMap_nil, List.append_nil]
  rw [if_neg h, List.append_nil]
theorem metL_mem : ∀ (f n : Nat) (b x : List Int), 1 ≤ n → In27 b → b.length + f = 6 → x ∈ metL f n b → In27 x ∧ prd x = prd b * n ∧ x.length ≤ 5 ∧ b.length ≤ x.length
  | 0, n, b, x, _, _, _, h => by cases h
  | f + 1, n, b, x, hn, hb, hl, h => by
    unfold metL at h
    split at h
    · rename_i h1
      rw [List.mem_singleton] at h
      subst h h1
      exact ⟨hb, by simp, by omega, Nat.le_refl _⟩
    · split at h
      · cases h
      · rw [List.mem_flatMap] at h
        obtain ⟨j, hj, hx⟩ := h
        rw [List.mem_range] at hj
        split at hx
        · rename_i hd
          have hq : 1 ≤ n / (j + 2) := by
            have := Nat.div_add_mod n (j + 2)
            rw [hd, Nat.add_zero] at this
            rcases Nat.eq_zero_or_pos (n / (j + 2)) with h0 | h0
            · rw [h0, Nat.mul_zero] at this; omega
            · exact h0
          obtain ⟨a1, a2, a3, a4⟩ := metL_mem f (n / (j + 2)) (b ++ [((j + 2 : Nat) : Int)]) x hq (fun y hy => by
            rcases List.mem_append.1 hy with h1 | h1
            · exact hb y h1
            · rw [List.mem_singleton] at h1; subst h1; omega) (by simp; omega) hx
          refine ⟨a1, ?_, a3, by rw [List.length_append] at a4; omega⟩
          rw [a2, prd_snoc, Int.mul_assoc, ← Int.natCast_mul, Nat.mul_div_cancel' (Nat.dvd_of_mod_eq_zero hd)]
        · cases hx
theorem metL_ok {N : Nat} (h1 : 2 ≤ N) (h2 : N ≤ 24) {x : List Int} (hx : x ∈ metL 6 N []) : MetOk x ∧ prd x = N := by
  obtain ⟨a, b, c, d⟩ := metL_mem 6 N [] x (by omega) (by intro y hy; cases hy) rfl hx
  have hp : prd x = N := by rw [b]; simp [prd]
  refine ⟨⟨?_, c, a, by omega⟩, hp⟩
  cases x with
  | nil => simp [prd] at hp; omega
  | cons y r => simp
theorem metL_nil : metL 6 1 [] = [[]] := rfl
theorem metL_len {N : Nat} (h1 : 1 ≤ N) (h2 : N ≤ 24) : (metL 6 N []).length ≤ 100 := by
  have : ∀ n, n < 25 → (metL 6 n []).length ≤ 100 := by decide +kernel
  exact this N (by omega)

/-- Which of the first j is the best. -/
def bstI (f : Nat → Int) : Nat → Nat
  | 0 => 0
  | j + 1 => if j = 0 then 0 else if f j < f (bstI f j) then j else bstI f j
theorem bstI_lt (f : Nat → Int) : ∀ j, 1 ≤ j → bstI f j < j
  | 1, _ => by simp [bstI]
  | j + 2, _ => by
    have := bstI_lt f (j + 1) (by omega)
    show (if j + 1 = 0 then 0 else if f (j + 1) < f (bstI f (j + 1)) then j + 1 else bstI f (j + 1)) < j + 2
    rw [if_neg (by omega)]
    split <;> omega
theorem bstI_first (f : Nat → Int) : bstI f 1 = 0 := rfl
theorem bstI_yes {f : Nat → Int} {j : Nat} (h0 : j ≠ 0) (h : f j < f (bstI f j)) : bstI f (j + 1) = j := by
  show (if j = 0 then 0 else if f j < f (bstI f j) then j else bstI f j) = j
  rw [if_neg h0, if_pos h]
theorem bstI_no {f : Nat → Int} {j : Nat} (h0 : j ≠ 0) (h : ¬ f j < f (bstI f j)) : bstI f (j + 1) = bstI f j := by
  show (if j = 0 then 0 else if f j < f (bstI f j) then j else bstI f j) = bstI f j
  rw [if_neg h0, if_neg h]

/-- The weights while a layer of unit U is laid: t of its pulses are done. -/
def cntP (xs : List Int) (U i t p : Nat) : Int := cntW xs p i + if p % U = 0 ∧ p / U < t then 1 else 0
theorem cntP_zero (xs : List Int) (U i p : Nat) : cntP xs U i 0 p = cntW xs p i := by
  unfold cntP; rw [if_neg (fun h => Nat.not_lt_zero _ h.2)]; omega
theorem cntP_at (xs : List Int) {U : Nat} (hU : 1 ≤ U) (i t : Nat) : cntP xs U i (t + 1) (t * U) = cntP xs U i t (t * U) + 1 := by
  unfold cntP
  rw [Nat.mul_mod_left, Nat.mul_div_cancel t hU, if_pos ⟨rfl, by omega⟩, if_neg (by omega)]
  omega
theorem cntP_ne (xs : List Int) {U : Nat} (hU : 1 ≤ U) (i t : Nat) {p : Nat} (hp : p ≠ t * U) : cntP xs U i (t + 1) p = cntP xs U i t p := by
  unfold cntP
  by_cases h : p % U = 0 ∧ p / U < t + 1
  · have : p / U ≠ t := fun e => hp (by have := Nat.div_add_mod p U; rw [h.1, e, Nat.add_zero, Nat.mul_comm] at this; omega)
    rw [if_pos h, if_pos ⟨h.1, by omega⟩]
  · rw [if_neg h, if_neg (fun h' => h ⟨h'.1, by omega⟩)]
theorem cntP_end (xs : List Int) {U i K : Nat} (hu : unt xs i = U) {p : Nat} (hU : 1 ≤ U) (hp : p < K * U) : cntP xs U i K p = cntW xs p (i + 1) := by
  have hd : p / U < K := (Nat.div_lt_iff_lt_mul hU).2 hp
  unfold cntP
  show _ = if (p : Int) % unt xs i = 0 then cntW xs p i + 1 else cntW xs p i
  rw [hu]
  by_cases h : p % U = 0
  · rw [if_pos ⟨h, hd⟩, if_pos (by omega)]
  · rw [if_neg (fun h' => h h'.1), if_neg (by omega)]; omega
theorem cntP_rng (xs : List Int) (U i t p : Nat) : 0 ≤ cntP xs U i t p ∧ cntP xs U i t p ≤ i + 1 := by
  have := cntW_rng xs p i
  unfold cntP; split <;> omega
/-- The part before a division, and the unit, as numbers. -/
theorem met_parts {xs : List Int} (h : MetOk xs) {i : Nat} (hi : i < xs.length) : ∃ K U : Nat, prd (xs.take (i + 1)) = K ∧ unt xs i = U ∧ 1 ≤ K ∧ 1 ≤ U ∧ prd xs = ((K * U : Nat) : Int) := by
  have h1 := prd_pos (h.2.2.1.take (i + 1))
  have h2 := (unt_rng h i).1
  obtain ⟨K, hK⟩ := Int.eq_ofNat_of_zero_le (show 0 ≤ prd (xs.take (i + 1)) by omega)
  obtain ⟨U, hU⟩ := Int.eq_ofNat_of_zero_le (show 0 ≤ unt xs i by omega)
  refine ⟨K, U, hK, hU, by omega, by omega, ?_⟩
  rw [Int.natCast_mul, ← hK, ← hU, unt, prd_split]

end Go.Proofs.YtjoeglekcnaebaaDoor
