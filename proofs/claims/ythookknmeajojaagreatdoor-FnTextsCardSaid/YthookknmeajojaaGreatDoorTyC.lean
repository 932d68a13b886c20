/-
  Several texts of this proof in one: MetT, Win, Rem, Has, Hav.
-/
import Derived.Test.YthookknmeajojaaGreatDoorTyA
import Derived.Test.YthookknmeajojaaGreatDoorJoin
import Derived.Test.YthookknmeajojaaGreatDoorStr
import Derived.Test.YthookknmeajojaaGreatDoorTab
import Derived.Test.YthookknmeajojaaGreatDoorIntW
import Derived.Test.YthookknmeajojaaGreatDoorOwn
import Derived.Test.YthookknmeajojaaGreatDoorRw
import Derived.Test.YthookknmeajojaaGreatDoorCells
import Derived.Test.YthookknmeajojaaGreatDoorFrm
namespace Go.Proofs.YthookknmeajojaaGreatDoor
open Go.RowKit
set_option linter.unusedVariables false
set_option linter.unusedSimpArgs false

def prd (xs : List Int) : Int := xs.foldl (· * ·) 1
theorem foldl_mul : ∀ (l : List Int) (a : Int), l.foldl (· * ·) a = a * prd l
  | [], a => by simp [prd]
  | x :: l, a => by
    unfold prd
    rw [List.foldl_cons, List.foldl_cons, foldl_mul l (a * x), foldl_mul l (1 * x), Int.one_mul, Int.mul_assoc]
theorem prd_app (a b : List Int) : prd (a ++ b) = prd a * prd b := by
  conv => lhs; unfold prd
  rw [List.foldl_append, foldl_mul]
  rfl
theorem prd_one (k : Int) : prd [k] = k := by simp [prd]
theorem prd_snoc (a : List Int) (k : Int) : prd (a ++ [k]) = prd a * k := by rw [prd_app, prd_one]
theorem prd_take {xs : List Int} {j : Nat} {x : Int} (hj : j < xs.length) (hx : xs.getD j 0 = x) : prd (xs.take (j + 1)) = prd (xs.take j) * x := by
  rw [List.take_succ_eq_append_getElem hj, prd_snoc]
  have : xs[j] = x := by rw [← hx, List.getD_eq_getElem?_getD, List.getElem?_eq_getElem hj]; rfl
  rw [this]
/-- The numbers of a meter. -/
def In27 (xs : List Int) : Prop := ∀ x ∈ xs, 2 ≤ x ∧ x ≤ 7
theorem prd_pos : ∀ {xs : List Int}, In27 xs → 1 ≤ prd xs
  | [], _ => by simp [prd]
  | x :: xs, h => by
    have h1 := h x List.mem_cons_self
    have h2 := prd_pos (xs := xs) (fun y hy => h y (List.mem_cons_of_mem _ hy))
    rw [show x :: xs = [x] ++ xs from rfl, prd_app, prd_one]
    have : (1 : Int) * 1 ≤ x * prd xs := Int.mul_le_mul (by omega) h2 (by omega) (by omega)
    omega
theorem In27.sub {xs ys : List Int} (h : In27 xs) (hs : ∀ x ∈ ys, x ∈ xs) : In27 ys := fun x hx => h x (hs x hx)
theorem In27.take {xs : List Int} (h : In27 xs) (j : Nat) : In27 (xs.take j) := h.sub fun x hx => List.mem_of_mem_take hx
theorem In27.drop {xs : List Int} (h : In27 xs) (j : Nat) : In27 (xs.drop j) := h.sub fun x hx => List.mem_of_mem_drop hx
theorem prd_split (xs : List Int) (j : Nat) : prd (xs.take j) * prd (xs.drop j) = prd xs := by rw [← prd_app, List.take_append_drop]
theorem prd_take_le {xs : List Int} (h : In27 xs) (j : Nat) : prd (xs.take j) ≤ prd xs := by
  have h1 := prd_pos (h.take j)
  have h2 := prd_pos (h.drop j)
  have : prd (xs.take j) * 1 ≤ prd (xs.take j) * prd (xs.drop j) := Int.mul_le_mul_of_nonneg_left h2 (by omega)
  rw [prd_split] at this
  omega
theorem prd_drop_le {xs : List Int} (h : In27 xs) (j : Nat) : prd (xs.drop j) ≤ prd xs := by
  have h1 := prd_pos (h.take j)
  have h2 := prd_pos (h.drop j)
  have : 1 * prd (xs.drop j) ≤ prd (xs.take j) * prd (xs.drop j) := Int.mul_le_mul_of_nonneg_right h1 (by omega)
  rw [prd_split] at this
  omega
/-- A meter. -/
def MetOk (xs : List Int) : Prop := 1 ≤ xs.length ∧ xs.length ≤ 5 ∧ In27 xs ∧ prd xs ≤ 24
/-- The number of pulses of a part of division i. -/
def unt (xs : List Int) (i : Nat) : Int := prd (xs.drop (i + 1))
theorem unt_rng {xs : List Int} (h : MetOk xs) (i : Nat) : 1 ≤ unt xs i ∧ unt xs i ≤ 24 := by
  have h1 := prd_pos (h.2.2.1.drop (i + 1))
  have h2 := prd_drop_le h.2.2.1 (i + 1)
  have := h.2.2.2
  unfold unt
  omega
def cntW (xs : List Int) (p : Nat) : Nat → Int
  | 0 => 0
  | i + 1 => if (p : Int) % unt xs i = 0 then cntW xs p i + 1 else cntW xs p i
theorem cntW_rng (xs : List Int) (p : Nat) : ∀ i, 0 ≤ cntW xs p i ∧ cntW xs p i ≤ i
  | 0 => ⟨Int.le_refl _, Int.le_refl _⟩
  | i + 1 => by
    have := cntW_rng xs p i
    unfold cntW; split <;> omega
def wgtF (xs : List Int) (m : Nat) : List Int := (List.range m).map fun p => cntW xs p xs.length
theorem wgtF_succ (xs : List Int) (m : Nat) : wgtF xs (m + 1) = wgtF xs m ++ [cntW xs m xs.length] := by simp [wgtF, List.range_succ]
theorem wgtF_len (xs : List Int) (m : Nat) : (wgtF xs m).length = m := by simp [wgtF]
theorem wgtF_at (xs : List Int) {m p : Nat} (hp : p < m) : (wgtF xs m).getD p 0 = cntW xs p xs.length := by
  unfold wgtF
  rw [List.getD_eq_getElem?_getD, List.getElem?_eq_getElem (by simpa using hp)]
  simp
def wgtL (xs : List Int) : List Int := wgtF xs (prd xs).toNat
theorem wgtL_len (xs : List Int) : (wgtL xs).length = (prd xs).toNat := wgtF_len _ _
theorem wgtL_rng {xs : List Int} (h : MetOk xs) (p : Nat) : 0 ≤ (wgtL xs).getD p 0 ∧ (wgtL xs).getD p 0 ≤ 5 := by
  by_cases hp : p < (prd xs).toNat
  · unfold wgtL
    rw [wgtF_at xs hp]
    have := cntW_rng xs p xs.length
    have := h.2.1
    omega
  · rw [List.getD_eq_getElem?_getD, List.getElem?_eq_none (by rw [wgtL_len]; omega)]
    exact ⟨Int.le_refl _, by decide⟩
/-- The greatest weight of the first m pulses behind p. -/
def grtV (W : List Int) (N p : Int) : Nat → Int
  | 0 => 0
  | m + 1 => max (grtV W N p m) (W.getD ((p + (m + 1 : Nat)) % N).toNat 0)
theorem grtV_rng {W : List Int} (h : ∀ p, 0 ≤ W.getD p 0 ∧ W.getD p 0 ≤ 5) (N p : Int) : ∀ m, 0 ≤ grtV W N p m ∧ grtV W N p m ≤ 5
  | 0 => ⟨Int.le_refl _, by show (0 : Int) ≤ 5; decide⟩
  | m + 1 => by
    have h1 := grtV_rng h N p m
    have h2 := h ((p + (m + 1 : Nat)) % N).toNat
    unfold grtV
    omega
def synV (W : List Int) (N : Int) (bs S : List Int) : Nat → Int
  | 0 => 0
  | i + 1 => synV W N bs S i + max 0 (grtV W N (bs.getD i 0) ((S.getD i 0).toNat - 1) - W.getD (bs.getD i 0).toNat 0)
theorem synV_rng {W : List Int} (h : ∀ p, 0 ≤ W.getD p 0 ∧ W.getD p 0 ≤ 5) (N : Int) (bs S : List Int) : ∀ i : Nat, 0 ≤ synV W N bs S i ∧ synV W N bs S i ≤ 5 * i
  | 0 => ⟨Int.le_refl _, by show (0 : Int) ≤ _; omega⟩
  | i + 1 => by
    have h1 := synV_rng h N bs S i
    have h2 := grtV_rng h N (bs.getD i 0) ((S.getD i 0).toNat - 1)
    have h3 := h (bs.getD i 0).toNat
    unfold synV
    omega
def syncV (N : Nat) (bs xs : List Int) : Int := synV (wgtL xs) N bs (stepsL N bs) bs.length
theorem syncV_rng {xs : List Int} (h : MetOk xs) (N : Nat) (bs : List Int) : 0 ≤ syncV N bs xs ∧ syncV N bs xs ≤ 5 * bs.length := synV_rng (wgtL_rng h) _ _ _ _

/-- The meters that begin with b and have n pulses in each part. -/
def metL : Nat → Nat → List Int → List (List Int)
  | 0, _, _ => []
  | f + 1, n, b => if n = 1 then [b] else if b.length = 5 then [] else (List.range 6).flatMap fun j => if n % (j + 2) = 0 then metL f (n / (j + 2)) (b ++ [((j + 2 : Nat) : Int)]) else []
def metP (f n : Nat) (b : List Int) (j : Nat) : List (List Int) := (List.range j).flatMap fun j => if n % (j + 2) = 0 then metL f (n / (j + 2)) (b ++ [((j + 2 : Nat) : Int)]) else []
theorem metL_one (f : Nat) (b : List Int) : metL (f + 1) 1 b = [b] := rfl
theorem metL_five {f n : Nat} {b : List Int} (hn : n ≠ 1) (hb : b.length = 5) : metL (f + 1) n b = [] := by unfold metL; rw [if_neg hn, if_pos hb]
theorem metL_go {f n : Nat} {b : List Int} (hn : n ≠ 1) (hb : b.length ≠ 5) : metL (f + 1) n b = metP f n b 6 := by unfold metL; rw [if_neg hn, if_neg hb]; rfl
theorem metP_yes {f n j : Nat} {b : List Int} (h : n % (j + 2) = 0) : metP f n b (j + 1) = metP f n b j ++ metL f (n / (j + 2)) (b ++ [((j + 2 : Nat) : Int)]) := by
  unfold metP
  rw [List.range_succ, List.flatMap_append]
  simp only [List.flatMap_cons, List.flatMap_nil, List.append_nil]
  rw [if_pos h]
theorem metP_no {f n j : Nat} {b : List Int} (h : ¬ n % (j + 2) = 0) : metP f n b (j + 1) = metP f n b j := by
  unfold metP
  rw [List.range_succ, List.flatMap_append]
  simp only [List.flatMap_cons, List.flatMap_nil, List.append_nil]
  rw [if_neg h, List.append_nil]
theorem metL_mem : ∀ (f n : Nat) (b x : List Int), 1 ≤ n → In27 b → b.length + f = 6 → x ∈ metL f n b → In27 x ∧ prd x = prd b * n ∧ x.length ≤ 5 ∧ b.length ≤ x.length
  | 0, n, b, x, _, _, _, h => by cases h
  | f + 1, n, b, x, hn, hb, hl, h => by
    unfold metL at h
    split at h
    · rename_i h1
      rw [List.mem_singleton] at h
      subst h h1
      exact ⟨hb, by simp, by omega, Nat.le_refl _⟩
    · split at h
      · cases h
      · rw [List.mem_flatMap] at h
        obtain ⟨j, hj, hx⟩ := h
        rw [List.mem_range] at hj
        split at hx
        · rename_i hd
          have hq : 1 ≤ n / (j + 2) := by
            have := Nat.div_add_mod n (j + 2)
            rw [hd, Nat.add_zero] at this
            rcases Nat.eq_zero_or_pos (n / (j + 2)) with h0 | h0
            · rw [h0, Nat.mul_zero] at this; omega
            · exact h0
          obtain ⟨a1, a2, a3, a4⟩ := metL_mem f (n / (j + 2)) (b ++ [((j + 2 : Nat) : Int)]) x hq (fun y hy => by
            rcases List.mem_append.1 hy with h1 | h1
            · exact hb y h1
            · rw [List.mem_singleton] at h1; subst h1; omega) (by simp; omega) hx
          refine ⟨a1, ?_, a3, by rw [List.length_append] at a4; omega⟩
          rw [a2, prd_snoc, Int.mul_assoc, ← Int.natCast_mul, Nat.mul_div_cancel' (Nat.dvd_of_mod_eq_zero hd)]
        · cases hx
theorem metL_ok {N : Nat} (h1 : 2 ≤ N) (h2 : N ≤ 24) {x : List Int} (hx : x ∈ metL 6 N []) : MetOk x ∧ prd x = N := by
  obtain ⟨a, b, c, d⟩ := metL_mem 6 N [] x (by omega) (by intro y hy; cases hy) rfl hx
  have hp : prd x = N := by rw [b]; simp [prd]
  refine ⟨⟨?_, c, a, by omega⟩, hp⟩
  cases x with
  | nil => simp [prd] at hp; omega
  | cons y r => simp
theorem metL_nil : metL 6 1 [] = [[]] := rfl
theorem metL_len {N : Nat} (h1 : 1 ≤ N) (h2 : N ≤ 24) : (metL 6 N []).length ≤ 100 := by
  have : ∀ n, n < 25 → (metL 6 n []).length ≤ 100 := by decide +kernel
  exact this N (by omega)

/-- Which of the first j is the best. -/
def bstI (f : Nat → Int) : Nat → Nat
  | 0 => 0
  | j + 1 => if j = 0 then 0 else if f j < f (bstI f j) then j else bstI f j
theorem bstI_lt (f : Nat → Int) : ∀ j, 1 ≤ j → bstI f j < j
  | 1, _ => by simp [bstI]
  | j + 2, _ => by
    have := bstI_lt f (j + 1) (by omega)
    show (if j + 1 = 0 then 0 else if f (j + 1) < f (bstI f (j + 1)) then j + 1 else bstI f (j + 1)) < j + 2
    rw [if_neg (by omega)]
    split <;> omega
theorem bstI_first (f : Nat → Int) : bstI f 1 = 0 := rfl
theorem bstI_yes {f : Nat → Int} {j : Nat} (h0 : j ≠ 0) (h : f j < f (bstI f j)) : bstI f (j + 1) = j := by
  show (if j = 0 then 0 else if f j < f (bstI f j) then j else bstI f j) = j
  rw [if_neg h0, if_pos h]
theorem bstI_no {f : Nat → Int} {j : Nat} (h0 : j ≠ 0) (h : ¬ f j < f (bstI f j)) : bstI f (j + 1) = bstI f j := by
  show (if j = 0 then 0 else if f j < f (bstI f j) then j else bstI f j) = bstI f j
  rw [if_neg h0, if_neg h]

/-- The weights while a layer of unit U is laid: t of its pulses are done. -/
def cntP (xs : List Int) (U i t p : Nat) : Int := cntW xs p i + if p % U = 0 ∧ p / U < t then 1 else 0
theorem cntP_zero (xs : List Int) (U i p : Nat) : cntP xs U i 0 p = cntW xs p i := by
  unfold cntP; rw [if_neg (fun h => Nat.not_lt_zero _ h.2)]; omega
theorem cntP_at (xs : List Int) {U : Nat} (hU : 1 ≤ U) (i t : Nat) : cntP xs U i (t + 1) (t * U) = cntP xs U i t (t * U) + 1 := by
  unfold cntP
  rw [Nat.mul_mod_left, Nat.mul_div_cancel t hU, if_pos ⟨rfl, by omega⟩, if_neg (by omega)]
  omega
theorem cntP_ne (xs : List Int) {U : Nat} (hU : 1 ≤ U) (i t : Nat) {p : Nat} (hp : p ≠ t * U) : cntP xs U i (t + 1) p = cntP xs U i t p := by
  unfold cntP
  by_cases h : p % U = 0 ∧ p / U < t + 1
  · have : p / U ≠ t := fun e => hp (by have := Nat.div_add_mod p U; rw [h.1, e, Nat.add_zero, Nat.mul_comm] at this; omega)
    rw [if_pos h, if_pos ⟨h.1, by omega⟩]
  · rw [if_neg h, if_neg (fun h' => h ⟨h'.1, by omega⟩)]
theorem cntP_end (xs : List Int) {U i K : Nat} (hu : unt xs i = U) {p : Nat} (hU : 1 ≤ U) (hp : p < K * U) : cntP xs U i K p = cntW xs p (i + 1) := by
  have hd : p / U < K := (Nat.div_lt_iff_lt_mul hU).2 hp
  unfold cntP
  show _ = if (p : Int) % unt xs i = 0 then cntW xs p i + 1 else cntW xs p i
  rw [hu]
  by_cases h : p % U = 0
  · rw [if_pos ⟨h, hd⟩, if_pos (by omega)]
  · rw [if_neg (fun h' => h h'.1), if_neg (by omega)]; omega
theorem cntP_rng (xs : List Int) (U i t p : Nat) : 0 ≤ cntP xs U i t p ∧ cntP xs U i t p ≤ i + 1 := by
  have := cntW_rng xs p i
  unfold cntP; split <;> omega
/-- The part before a division, and the unit, as numbers. -/
theorem met_parts {xs : List Int} (h : MetOk xs) {i : Nat} (hi : i < xs.length) : ∃ K U : Nat, prd (xs.take (i + 1)) = K ∧ unt xs i = U ∧ 1 ≤ K ∧ 1 ≤ U ∧ prd xs = ((K * U : Nat) : Int) := by
  have h1 := prd_pos (h.2.2.1.take (i + 1))
  have h2 := (unt_rng h i).1
  obtain ⟨K, hK⟩ := Int.eq_ofNat_of_zero_le (show 0 ≤ prd (xs.take (i + 1)) by omega)
  obtain ⟨U, hU⟩ := Int.eq_ofNat_of_zero_le (show 0 ≤ unt xs i by omega)
  refine ⟨K, U, hK, hU, by omega, by omega, ?_⟩
  rw [Int.natCast_mul, ← hK, ← hU, unt, prd_split]

end Go.Proofs.YthookknmeajojaaGreatDoor

namespace Go.Proofs.YthookknmeajojaaGreatDoor
open Go.RowKit
set_option linter.unusedVariables false
set_option linter.unusedSimpArgs false

def hasB (xs : List Int) (x : Int) : Bool := decide (x ∈ xs)
theorem hasB_yes {xs : List Int} {x : Int} {i : Nat} (hi : i < xs.length) (h : xs.getD i 0 = x) : hasB xs x = true := by
  unfold hasB
  rw [decide_eq_true_eq, ← h, List.getD_eq_getElem?_getD, List.getElem?_eq_getElem hi]
  exact List.getElem_mem hi
theorem hasB_no {xs : List Int} {x : Int} (h : ∀ i, i < xs.length → xs.getD i 0 ≠ x) : hasB xs x = false := by
  unfold hasB
  rw [decide_eq_false_iff_not]
  intro hm
  obtain ⟨i, hi, he⟩ := List.getElem_of_mem hm
  refine h i hi ?_
  rw [List.getD_eq_getElem?_getD, List.getElem?_eq_getElem hi]
  exact he

set_option maxHeartbeats 400000 in
theorem spec_l02Has_any (A : Option Addr) (cap : Nat) (xs : List Int) (x : Int) (w : World) (B : Nat) (hA : Ints w B A xs) :
    Calls Tryz.prog 127 #[.slice A xs.length cap, .int .i64 x] w fun e w' => e = .returned (.bool (hasB xs x)) ∧ w = w' := by
  obtain ⟨hlen, hfit, hcells⟩ := hA
  unfold maxLen at hlen
  have HC := Lib.hid hcells
  clear hfit hcells
  go_enter Tryz.func127, Tryz.ntmps127
  go_wp2
  go_loop [9] (fun i => ∃ k : Nat, k ≤ xs.length ∧ i = .int .i64 k ∧ ∀ j, j < k → xs.getD j 0 ≠ x) (fun i => xs.length - (intOf i).toNat)
  case atStart => exact ⟨0, Nat.zero_le _, rfl, fun j h => by omega⟩
  case round =>
    obtain ⟨k, hk, rfl, hno⟩ := hrel
    have HNO := Lib.hid hno
    clear hno
    by_cases hlt : k < xs.length
    · obtain ⟨b, off, rfl, hB, hc⟩ := HC.out (by omega)
      have hcell := hc k hlt
      obtain ⟨y, hy⟩ : ∃ y, xs.getD k 0 = y := ⟨_, rfl⟩
      rw [hy] at hcell
      have HY := Lib.hid hy
      clear hy hc
      by_cases hxy : x = y
      · have hb : (x == y) = true := beq_iff_eq.2 hxy
        have HF := Lib.hid (hasB_yes hlt (HY.out.trans hxy.symm))
        clear hxy
        go_wp2
        go_ret
        exact ⟨ret_bool HF.out.symm, rfl⟩
      · have hb : (x == y) = false := beq_eq_false_iff_ne.2 hxy
        have HX := Lib.hid hxy
        clear hxy
        go_wp2
        go_round
        case rel =>
          refine ⟨k + 1, by omega, by go_num, fun j hj => ?_⟩
          by_cases e : j = k
          · subst e; rw [HY.out]; exact fun h => HX.out h.symm
          · exact HNO.out j (by omega)
        case measure => simp [intOf]; omega
    · have HF := Lib.hid (hasB_no (fun i hi => HNO.out i (by omega)))
      go_wp2
      go_ret
      exact ⟨ret_bool HF.out.symm, rfl⟩

theorem Calls.quiet_of_left {P : Program} {f : FuncId} {args : Array Value} {w : World} {n : Nat} {v : Value}
    (h : Calls P f args (w.drewN n) fun e w' => e = .returned v ∧ w.drewN n = w') : Calls P f args (w.drewN n) fun e w'' => e = .returned v ∧ ∃ m, w'' = w.drewN m :=
  h.mono fun _ _ ⟨he, hm⟩ => ⟨he, n, hm.symm⟩

/-- The window of k pulses that begins on p. -/
def winL (n : Int) (bs : List Int) (p k : Nat) : List UInt8 := (List.range k).map fun i => if hasB bs (((p + i : Nat) : Int) % n) then 120 else 46
theorem winL_zero (n : Int) (bs : List Int) (p : Nat) : winL n bs p 0 = [] := rfl
theorem winL_succ (n : Int) (bs : List Int) (p k : Nat) : winL n bs p (k + 1) = winL n bs p k ++ [if hasB bs (((p + k : Nat) : Int) % n) then 120 else 46] := by simp [winL, List.range_succ]
theorem winL_len (n : Int) (bs : List Int) (p k : Nat) : (winL n bs p k).length = k := by simp [winL]

end Go.Proofs.YthookknmeajojaaGreatDoor

namespace Go.Proofs.YthookknmeajojaaGreatDoor
open Go.RowKit
set_option linter.unusedVariables false
set_option linter.unusedSimpArgs false

theorem rem_emod (k n : Int) : (k.tmod n + n) % n = k % n := by
  rw [Int.add_emod_right]
  have e := Int.mul_tdiv_add_tmod k n
  have : k.tmod n = k - n * k.tdiv n := by omega
  rw [this, Int.sub_mul_emod_self_left]

set_option maxHeartbeats 400000 in
theorem impl_remainder_any (k n : Int) (w : World) (hn : 1 ≤ n) (hn2 : n ≤ 1000000000) :
    Calls Tryz.prog 129 #[.int .i64 k, .int .i64 n] w fun e w' => e = .returned (.int .i64 (k % n)) ∧ w = w' := by
  have h0 : (n = 0) = False := by simp; omega
  have h1 := Int.lt_tmod_of_pos k (show 0 < n by omega)
  have h2 := Int.tmod_lt_of_pos k (show 0 < n by omega)
  have HR := Lib.hid (rem_emod k n)
  have h5 : IntKind.i64.wrap (k.tmod n) = k.tmod n := i64w (by omega)
  have h3 : IntKind.i64.wrap (k.tmod n + n) = k.tmod n + n := i64w (by omega)
  have h4 : (k.tmod n + n).tmod n = (k.tmod n + n) % n := Int.tmod_eq_emod_of_nonneg (by omega)
  have h6 : IntKind.i64.wrap ((k.tmod n + n) % n) = (k.tmod n + n) % n := i64w (by rw [HR.out]; have := Int.emod_nonneg k (show n ≠ 0 by omega); have := Int.emod_lt_of_pos k (show 0 < n by omega); omega)
  go_enter Tryz.func129, Tryz.ntmps129
  go_wp2
  go_ret
  exact ⟨ret_int (by have := HR.out; rw [Int.add_emod_right] at this; exact this), rfl⟩

end Go.Proofs.YthookknmeajojaaGreatDoor

namespace Go.Proofs.YthookknmeajojaaGreatDoor
open Go.RowKit
set_option linter.unusedVariables false
set_option linter.unusedSimpArgs false

set_option maxHeartbeats 400000 in
theorem slices_Index_any (A : Option Addr) (cap : Nat) (xs : List Int) (x : Int) (w : World) (B : Nat) (hA : Ints w B A xs) :
    Calls Tryz.prog 151 #[.slice A xs.length cap, .int .i64 x] w fun e w' => (∃ r : Int, e = .returned (.int .i64 r) ∧ hasB xs x = decide (0 ≤ r)) ∧ w = w' := by
  obtain ⟨hlen, hfit, hcells⟩ := hA
  unfold maxLen at hlen
  have HC := Lib.hid hcells
  clear hfit hcells
  go_enter Tryz.func151, Tryz.ntmps151
  go_wp2
  go_loop [5, 8] (fun _ i => ∃ k : Nat, k ≤ xs.length ∧ i = .int .i64 k ∧ ∀ j, j < k → xs.getD j 0 ≠ x) (fun _ i => xs.length - (intOf i).toNat)
  case atStart => exact ⟨0, Nat.zero_le _, rfl, fun j h => by omega⟩
  case round =>
    obtain ⟨k, hk, rfl, hno⟩ := hrel
    have HNO := Lib.hid hno
    clear hno
    by_cases hlt : k < xs.length
    · obtain ⟨b, off, rfl, hB, hc⟩ := HC.out (by omega)
      have hcell := hc k hlt
      obtain ⟨y, hy⟩ : ∃ y, xs.getD k 0 = y := ⟨_, rfl⟩
      rw [hy] at hcell
      have HY := Lib.hid hy
      clear hy hc
      by_cases hxy : x = y
      · have hb : (x == y) = true := beq_iff_eq.2 hxy
        have HF := Lib.hid (hasB_yes hlt (HY.out.trans hxy.symm))
        clear hxy
        go_wp2
        go_ret
        exact ⟨⟨_, rfl, by rw [HF.out]; simp⟩, rfl⟩
      · have hb : (x == y) = false := beq_eq_false_iff_ne.2 hxy
        have HX := Lib.hid hxy
        clear hxy
        go_wp2
        go_round
        case rel =>
          refine ⟨k + 1, by omega, by go_num, fun j hj => ?_⟩
          by_cases e : j = k
          · subst e; rw [HY.out]; exact fun h => HX.out h.symm
          · exact HNO.out j (by omega)
        case measure => simp [intOf]; omega
    · have HF := Lib.hid (hasB_no (fun i hi => HNO.out i (by omega)))
      go_wp2
      go_ret
      exact ⟨⟨_, rfl, by rw [HF.out]; rfl⟩, rfl⟩

set_option maxHeartbeats 400000 in
theorem slices_Contains_any (A : Option Addr) (cap : Nat) (xs : List Int) (x : Int) (w : World) (B : Nat) (hA : Ints w B A xs) :
    Calls Tryz.prog 128 #[.slice A xs.length cap, .int .i64 x] w fun e w' => e = .returned (.bool (hasB xs x)) ∧ w = w' := by
  have HI := Lib.hid (slices_Index_any A cap xs x w B hA)
  clear hA
  generalize hasB xs x = b at HI ⊢
  go_enter Tryz.func128, Tryz.ntmps128
  go_wp2_with fail
  refine HI.out.mono ?_
  rintro e w' ⟨⟨r, rfl, hr⟩, rfl⟩
  go_wp2
  go_ret
  exact ⟨ret_bool (by rw [hr]), rfl⟩

set_option maxRecDepth 100000 in
set_option maxHeartbeats 400000 in
theorem impl_has_any (n k : Int) (A : Option Addr) (cap : Nat) (bs : List Int) (w : World) (hA : Ints w w.heap.size A bs) (hn : 1 ≤ n) (hn2 : n ≤ 1000000000) :
    Calls Tryz.prog 87 #[.agg #[.int .i64 n, .slice A bs.length cap], .int .i64 k] w fun e w' => e = .returned (.bool (hasB bs (k % n))) ∧ Below w.heap.size w w' := by
  have HA := Lib.hid (hA.lift ((Below.refl w.heap.size w).alloc (Nat.le_refl _) (.cells #[.int .i64 n, .slice A bs.length cap] 26)))
  clear hA
  obtain ⟨c0, c1⟩ := box2 (Below.refl (w.heap.size + 1) (w.alloc (.cells #[.int .i64 n, .slice A bs.length cap] 26)))
  go_enter Tryz.func87, Tryz.ntmps87
  go_wp2_with fail
  go_quiet (first | (go_at_call 129; exact Calls.quiet_of_left (impl_remainder_any k n _ hn hn2)) | (go_at_call 128; exact Calls.quiet_of_left (slices_Contains_any A cap bs _ _ _ (HA.out.drewN_ _))))
  go_wp2_with fail
  go_ret
  exact ⟨rfl, Below.drewN_ ((Below.refl w.heap.size w).alloc (Nat.le_refl _) _) _⟩

def allB (xs : List Int) (lo hi : Int) : Bool := xs.all (fun x => inB x lo hi)
theorem allB_no {xs : List Int} {lo hi : Int} {i : Nat} (hi' : i < xs.length) (h : inB (xs.getD i 0) lo hi = false) : allB xs lo hi = false := by
  cases ha : allB xs lo hi
  · rfl
  · exfalso
    unfold allB at ha
    rw [List.all_eq_true] at ha
    rw [List.getD_eq_getElem?_getD, List.getElem?_eq_getElem hi'] at h
    rw [show ((some xs[i]).getD 0 : Int) = xs[i] from rfl, ha _ (List.getElem_mem hi')] at h
    cases h
theorem allB_yes {xs : List Int} {lo hi : Int} (h : ∀ i, i < xs.length → inB (xs.getD i 0) lo hi = true) : allB xs lo hi = true := by
  unfold allB
  rw [List.all_eq_true]
  intro x hx
  obtain ⟨i, hi, rfl⟩ := List.getElem_of_mem hx
  have := h i hi
  rwa [List.getD_eq_getElem?_getD, List.getElem?_eq_getElem hi] at this

set_option maxHeartbeats 400000 in
theorem impl_allWithin1_any (x lo hi : Int) (b c : Nat) (w : World) (hb : w.cell? ⟨b, 0, none⟩ = some (.int .i64 lo)) (hc : w.cell? ⟨c, 0, none⟩ = some (.int .i64 hi)) :
    Calls Tryz.prog 143 #[.int .i64 x, .pointer (some ⟨b, 0, none⟩), .pointer (some ⟨c, 0, none⟩)] w fun e w' => e = .returned (.bool (!inB x lo hi)) ∧ Below w.heap.size w w' := by
  go_enter Tryz.func143, Tryz.ntmps143
  go_wp2_with fail
  try go_quiet (first | (go_at_call 39; exact Calls.quiet_of_left (within_any x lo hi _)))
  go_wp2_with (go_at_call 39; refine (within_any _ _ _ _).mono ?_; rintro e w' ⟨rfl, rfl⟩)
  go_ret
  exact ⟨rfl, by first | exact Below.refl _ _ | exact Below.drewN_ (Below.refl _ _) _⟩

set_option maxHeartbeats 400000 in
theorem slices_IndexFunc_any (A : Option Addr) (cap : Nat) (xs : List Int) (lo hi : Int) (b1 b2 : Nat) (w : World) (hA : Ints w w.heap.size A xs) (h1 : b1 < w.heap.size) (h2 : b2 < w.heap.size)
    (hb : w.cell? ⟨b1, 0, none⟩ = some (.int .i64 lo)) (hc : w.cell? ⟨b2, 0, none⟩ = some (.int .i64 hi)) :
    Calls Tryz.prog 171 #[.slice A xs.length cap, .func (.func 143) #[] #[.pointer (some ⟨b1, 0, none⟩), .pointer (some ⟨b2, 0, none⟩)]] w fun e w' => (∃ r : Int, e = .returned (.int .i64 r) ∧ (!allB xs lo hi) = decide (0 ≤ r)) ∧ Below w.heap.size w w' := by
  obtain ⟨hlen, hfit, hcells⟩ := hA
  unfold maxLen at hlen
  have HC := Lib.hid hcells
  have HCL := Lib.hid (fun (x : Int) (V : World) (hV : Below w.heap.size w V) => impl_allWithin1_any x lo hi b1 b2 V ((hV.cell (p := ⟨b1, 0, none⟩) h1).trans hb) ((hV.cell (p := ⟨b2, 0, none⟩) h2).trans hc))
  clear hfit hcells
  go_enter Tryz.func171, Tryz.ntmps171
  go_wp2
  go_loopw [5, 8] (fun _ i wr => ∃ k : Nat, k ≤ xs.length ∧ i = .int .i64 k ∧ Below w.heap.size w wr ∧ ∀ j, j < k → inB (xs.getD j 0) lo hi = true) (fun _ i _ => xs.length - (intOf i).toNat)
  case atStart => exact ⟨0, Nat.zero_le _, rfl, Below.refl _ _, fun j h => by omega⟩
  case round =>
    obtain ⟨k, hk, rfl, hbel, hno⟩ := hrel
    have HNO := Lib.hid hno
    clear hno
    by_cases hlt : k < xs.length
    · obtain ⟨b, off, rfl, hB, hc⟩ := HC.out (by omega)
      have hcell := hc k hlt
      rw [← hbel.cell (p := ⟨b, off + k, none⟩) hB] at hcell
      obtain ⟨y, hy⟩ : ∃ y, xs.getD k 0 = y := ⟨_, rfl⟩
      rw [hy] at hcell
      have HY := Lib.hid hy
      clear hy hc
      have HCY := Lib.hid (HCL.out y wr hbel)
      cases hxy : inB y lo hi
      · have HF := Lib.hid (allB_no hlt (by rw [HY.out]; exact hxy))
        rw [hxy] at HCY
        clear hxy
        go_wp2_with (go_at_call 143; refine HCY.out.mono ?_; rintro e w1 ⟨rfl, hb1⟩)
        go_ret
        exact ⟨⟨_, rfl, by rw [HF.out]; simp⟩, hbel.trans (hb1.mono hbel.size)⟩
      · have HX := Lib.hid hxy
        rw [hxy] at HCY
        clear hxy
        go_wp2_with (go_at_call 143; refine HCY.out.mono ?_; rintro e w1 ⟨rfl, hb1⟩)
        go_roundw
        case rel =>
          refine ⟨k + 1, by omega, by go_num, hbel.trans (hb1.mono hbel.size), fun j hj => ?_⟩
          by_cases e : j = k
          · subst e; rw [HY.out]; exact HX.out
          · exact HNO.out j (by omega)
        case measure => simp [intOf]; omega
    · have HF := Lib.hid (allB_yes (fun i hi => HNO.out i (by omega)))
      go_wp2
      go_ret
      exact ⟨⟨_, rfl, by rw [HF.out]; rfl⟩, hbel⟩

set_option maxHeartbeats 400000 in
theorem slices_ContainsFunc_any (A : Option Addr) (cap : Nat) (xs : List Int) (lo hi : Int) (b1 b2 : Nat) (w : World) (hA : Ints w w.heap.size A xs) (h1 : b1 < w.heap.size) (h2 : b2 < w.heap.size)
    (hb : w.cell? ⟨b1, 0, none⟩ = some (.int .i64 lo)) (hc : w.cell? ⟨b2, 0, none⟩ = some (.int .i64 hi)) :
    Calls Tryz.prog 142 #[.slice A xs.length cap, .func (.func 143) #[] #[.pointer (some ⟨b1, 0, none⟩), .pointer (some ⟨b2, 0, none⟩)]] w fun e w' => e = .returned (.bool (!allB xs lo hi)) ∧ Below w.heap.size w w' := by
  have HI := Lib.hid (slices_IndexFunc_any A cap xs lo hi b1 b2 w hA h1 h2 hb hc)
  clear hA hb hc
  generalize allB xs lo hi = b at HI ⊢
  go_enter Tryz.func142, Tryz.ntmps142
  go_wp2_with fail
  refine HI.out.mono ?_
  rintro e w' ⟨⟨r, rfl, hr⟩, hb⟩
  go_wp2
  go_ret
  exact ⟨ret_bool (by rw [hr]), hb⟩

set_option maxHeartbeats 400000 in
theorem impl_allWithin_any (A : Option Addr) (cap : Nat) (xs : List Int) (lo hi : Int) (w : World) (hA : Ints w w.heap.size A xs) :
    Calls Tryz.prog 108 #[.slice A xs.length cap, .int .i64 lo, .int .i64 hi] w fun e w' => e = .returned (.bool (allB xs lo hi)) ∧ Below w.heap.size w w' := by
  have HA := Lib.hid hA
  clear hA
  have k1 : ((w.alloc (.cells #[.int .i64 lo] 3)).alloc (.cells #[.int .i64 hi] 3)).cell? ⟨w.heap.size, 0, none⟩ = some (.int .i64 lo) := by
    rw [(((Below.refl (w.heap.size + 1) (w.alloc (.cells #[.int .i64 lo] 3))).alloc (by simp) (.cells #[.int .i64 hi] 3)).cell (p := ⟨w.heap.size, 0, none⟩) (by simp))]
    exact cell_new1 _ _ _
  have k2 : ((w.alloc (.cells #[.int .i64 lo] 3)).alloc (.cells #[.int .i64 hi] 3)).cell? ⟨w.heap.size + 1, 0, none⟩ = some (.int .i64 hi) := by
    simp
  have HK := Lib.hid (And.intro k1 k2)
  clear k1 k2
  go_enter Tryz.func108, Tryz.ntmps108
  go_wp2_with (go_at_call 142; refine (slices_ContainsFunc_any A cap xs lo hi w.heap.size (w.heap.size + 1) _ (HA.out.lift (by repeat (first | exact Below.refl _ _ | assumption | (refine Below.alloc ?_ (by first | exact Nat.le_refl _ | (simp; done) | (simp; omega) | omega) _) | (refine Below.drew ?_) | (refine Below.setCell ?_ (by first | exact Nat.le_refl _ | (simp; done) | (simp; omega) | omega) _)))) (by simp; omega) (by simp) HK.out.1 HK.out.2).mono ?_; rintro e w1 ⟨rfl, hb⟩)
  go_ret
  exact ⟨by simp, (((Below.refl w.heap.size w).alloc (Nat.le_refl _) _).alloc (by simp) _).trans (hb.mono (by simp; omega))⟩

end Go.Proofs.YthookknmeajojaaGreatDoor

namespace Go.Proofs.YthookknmeajojaaGreatDoor
open Go.RowKit
set_option linter.unusedVariables false
set_option linter.unusedSimpArgs false

def Hav (w : World) (N : Nat) (g : Nat) (A : Option Addr) (c : Nat) (xs : List Int) : Prop := Cells2 w g (.int .i64 N) (.slice A xs.length c) ∧ Ints w w.heap.size A xs
theorem Hav.lift {w w' : World} {N g c : Nat} {A : Option Addr} {xs : List Int} (h : Hav w N g A c xs) (hb : Below w.heap.size w w') : Hav w' N g A c xs :=
  ⟨h.1.below hb h.1.2.2.2.2, h.2.lift hb⟩
theorem Hav.drew {w : World} {N g c : Nat} {A : Option Addr} {xs : List Int} (h : Hav w N g A c xs) : Hav w.drew N g A c xs := h
theorem Hav.alloc {w : World} {N g c : Nat} {A : Option Addr} {xs : List Int} (h : Hav w N g A c xs) (o : Obj) : Hav (w.alloc o) N g A c xs :=
  h.lift ((Below.refl _ _).alloc (Nat.le_refl _) o)
theorem Hav.boxed {w : World} {A : Option Addr} {xs : List Int} (h : Ints w w.heap.size A xs) (N c : Nat) : Hav (w.alloc (.cells #[.int .i64 N, .slice A xs.length c] 26)) N w.heap.size A c xs :=
  ⟨Cells2.new w _ _ _, h.lift ((Below.refl _ _).alloc (Nat.le_refl _) _)⟩
theorem Below.drewH_ {B : Nat} {a w : World} (h : Below B a w) : Below B a w.drew := ⟨h.os, h.tape, h.output, h.size, h.block⟩

/-- A rhythm in a row of rhythms, its beats readable. -/
def HavR (w : World) (N : Nat) (g o : Nat) (A : Option Addr) (c : Nat) (xs : List Int) : Prop := (g < w.heap.size ∧ w.cell? ⟨g, o, none⟩ = some (.int .i64 N) ∧ w.cell? ⟨g, o + 1, none⟩ = some (.slice A xs.length c)) ∧ Ints w w.heap.size A xs
theorem HavR.lift {w w' : World} {N g o c : Nat} {A : Option Addr} {xs : List Int} (h : HavR w N g o A c xs) (hb : Below w.heap.size w w') : HavR w' N g o A c xs :=
  ⟨⟨Nat.lt_of_lt_of_le h.1.1 hb.size, (hb.cell (p := ⟨g, o, none⟩) h.1.1).trans h.1.2.1, (hb.cell (p := ⟨g, o + 1, none⟩) h.1.1).trans h.1.2.2⟩, h.2.lift hb⟩
theorem HavR.drew {w : World} {N g o c : Nat} {A : Option Addr} {xs : List Int} (h : HavR w N g o A c xs) : HavR w.drew N g o A c xs := h

end Go.Proofs.YthookknmeajojaaGreatDoor

