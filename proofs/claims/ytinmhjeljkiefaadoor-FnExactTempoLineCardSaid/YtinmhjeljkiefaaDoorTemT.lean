/-
  A tempo's plain law: its beats, its time as a reduced fraction, and the reference's sum of fractions.
-/
import Derived.Test.YtinmhjeljkiefaaDoorFmtI
namespace Go.Proofs.YtinmhjeljkiefaaDoor
open Go.RowKit
set_option linter.unusedVariables false
set_option linter.unusedSimpArgs false

def pOk (p : Int × Int) : Bool := inB p.1 1 1000 && (inB p.2 20 400 && decide ((3600 : Int) % p.2 = 0))
theorem pOk_iff {p : Int × Int} : pOk p = true ↔ (1 ≤ p.1 ∧ p.1 ≤ 1000) ∧ (20 ≤ p.2 ∧ p.2 ≤ 400) ∧ (3600 : Int) % p.2 = 0 := by
  unfold pOk; simp [inB_iff]
def temOk (xs : List (Int × Int)) : Bool := inB (xs.length : Int) 1 8 && xs.all pOk
def cntT : List (Int × Int) → Int
  | [] => 0
  | p :: r => p.1 + cntT r
def uniT : List (Int × Int) → Int
  | [] => 0
  | p :: r => p.1 * (3600 / p.2) + uniT r
theorem cntT_app : ∀ xs ys, cntT (xs ++ ys) = cntT xs + cntT ys
  | [], ys => by simp [cntT]
  | p :: r, ys => by simp [cntT, cntT_app r ys]; omega
theorem uniT_app : ∀ xs ys, uniT (xs ++ ys) = uniT xs + uniT ys
  | [], ys => by simp [uniT]
  | p :: r, ys => by simp [uniT, uniT_app r ys]; omega
theorem take_snocP (xs : List (Int × Int)) (k : Nat) (h : k < xs.length) : xs.take (k + 1) = xs.take k ++ [xs.getD k (0, 0)] := by
  rw [List.take_succ_eq_append_getElem h, List.getD_eq_getElem?_getD, List.getElem?_eq_getElem h]; rfl
theorem drop_consP (xs : List (Int × Int)) (k : Nat) (h : k < xs.length) : xs.drop k = xs.getD k (0, 0) :: xs.drop (k + 1) := by
  rw [List.drop_eq_getElem_cons h, List.getD_eq_getElem?_getD, List.getElem?_eq_getElem h]; rfl
theorem cntT_snoc (xs : List (Int × Int)) (k : Nat) (h : k < xs.length) : cntT (xs.take (k + 1)) = cntT (xs.take k) + (xs.getD k (0, 0)).1 := by
  rw [take_snocP xs k h, cntT_app]; simp [cntT]
theorem uniT_snoc (xs : List (Int × Int)) (k : Nat) (h : k < xs.length) : uniT (xs.take (k + 1)) = uniT (xs.take k) + (xs.getD k (0, 0)).1 * (3600 / (xs.getD k (0, 0)).2) := by
  rw [take_snocP xs k h, uniT_app]; simp [uniT]
theorem cntT_drop (xs : List (Int × Int)) (k : Nat) (h : k < xs.length) : cntT (xs.drop k) = (xs.getD k (0, 0)).1 + cntT (xs.drop (k + 1)) := by
  rw [drop_consP xs k h]; rfl
theorem all_at {xs : List (Int × Int)} (h : xs.all pOk = true) (k : Nat) (hk : k < xs.length) : pOk (xs.getD k (0, 0)) = true := by
  rw [List.getD_eq_getElem?_getD, List.getElem?_eq_getElem hk]; exact List.all_eq_true.1 h _ (List.getElem_mem hk)
theorem cnt_bound : ∀ xs : List (Int × Int), xs.all pOk = true → (xs.length : Int) ≤ cntT xs ∧ cntT xs ≤ 1000 * xs.length
  | [], _ => by simp [cntT]
  | p :: r, h => by
    simp only [List.all_cons, Bool.and_eq_true] at h
    have h1 := pOk_iff.1 h.1
    have h2 := cnt_bound r h.2
    simp only [cntT, List.length_cons]
    omega
theorem quo_bound {y : Int} (h : 20 ≤ y) (h2 : y ≤ 400) : 9 ≤ (3600 : Int) / y ∧ (3600 : Int) / y ≤ 180 := by
  constructor
  · exact (Int.le_ediv_iff_mul_le (by omega)).2 (by omega)
  · exact Int.ediv_le_of_le_mul (by omega) (by omega)
theorem mul_bound {x q : Int} (h1 : 1 ≤ x) (h2 : x ≤ 1000) (h3 : 9 ≤ q) (h4 : q ≤ 180) : 9 ≤ x * q ∧ x * q ≤ 180000 := by
  constructor
  · have : 1 * 9 ≤ x * q := Int.mul_le_mul h1 h3 (by decide) (by omega)
    omega
  · have : x * q ≤ 1000 * 180 := Int.mul_le_mul h2 h4 (by omega) (by decide)
    omega
theorem uni_bound : ∀ xs : List (Int × Int), xs.all pOk = true → 0 ≤ uniT xs ∧ uniT xs ≤ 180000 * xs.length
  | [], _ => by simp [uniT]
  | p :: r, h => by
    simp only [List.all_cons, Bool.and_eq_true] at h
    have h1 := pOk_iff.1 h.1
    have h2 := uni_bound r h.2
    have hq := quo_bound h1.2.1.1 h1.2.1.2
    have hm := mul_bound h1.1.1 h1.1.2 hq.1 hq.2
    simp only [uniT, List.length_cons]
    omega
theorem all_take {xs : List (Int × Int)} (h : xs.all pOk = true) (k : Nat) : (xs.take k).all pOk = true := by
  rw [List.all_eq_true] at *
  exact fun p hp => h p (List.mem_of_mem_take hp)
theorem all_drop {xs : List (Int × Int)} (h : xs.all pOk = true) (k : Nat) : (xs.drop k).all pOk = true := by
  rw [List.all_eq_true] at *
  exact fun p hp => h p (List.mem_of_mem_drop hp)

/-- The reduced fraction u*50/3. -/
def topN (u : Nat) : Nat := 50 * u / Nat.gcd (50 * u) 3
def botN (u : Nat) : Nat := 3 / Nat.gcd (50 * u) 3
theorem gcd3 (u : Nat) : 0 < Nat.gcd (50 * u) 3 := Nat.gcd_pos_of_pos_right _ (by decide)
theorem bot_bound (u : Nat) : 1 ≤ botN u ∧ botN u ≤ 3 := by
  unfold botN
  have h := gcd3 u
  have hd : Nat.gcd (50 * u) 3 ≤ 3 := Nat.le_of_dvd (by decide) (Nat.gcd_dvd_right _ _)
  exact ⟨Nat.div_pos hd h, Nat.div_le_self _ _⟩
theorem top_bound (u : Nat) : topN u ≤ 50 * u := Nat.div_le_self _ _
theorem gcd_parts {x y g a b : Nat} (hg : 0 < g) (h : Nat.gcd x y = g) (ha : x = g * a) (hb : y = g * b) : Nat.gcd a b = 1 ∧ x / g = a ∧ y / g = b := by
  subst ha hb
  rw [Nat.gcd_mul_left] at h
  refine ⟨Nat.eq_of_mul_eq_mul_left hg (by rw [h, Nat.mul_one]), Nat.mul_div_cancel_left a hg, Nat.mul_div_cancel_left b hg⟩
theorem top_bot_gcd (u : Nat) : Nat.gcd (topN u) (botN u) = 1 := by
  unfold topN botN
  have h := gcd3 u
  obtain ⟨a, ha⟩ := Nat.gcd_dvd_left (50 * u) 3
  obtain ⟨b, hb⟩ := Nat.gcd_dvd_right (50 * u) 3
  obtain ⟨h1, h2, h3⟩ := gcd_parts h rfl ha hb
  rw [h2, h3]
  exact h1
theorem top_bot (u : Nat) : topN u * 3 = botN u * (50 * u) := by
  unfold topN botN
  have h := gcd3 u
  obtain ⟨a, ha⟩ := Nat.gcd_dvd_left (50 * u) 3
  obtain ⟨b, hb⟩ := Nat.gcd_dvd_right (50 * u) 3
  generalize Nat.gcd (50 * u) 3 = g at *
  have e1 : 50 * u / g = a := by rw [ha]; exact Nat.mul_div_cancel_left a h
  have e2 : 3 / g = b := by rw [hb]; exact Nat.mul_div_cancel_left b h
  rw [e1, e2]
  calc a * 3 = a * (g * b) := by rw [← hb]
    _ = b * (g * a) := by rw [← Nat.mul_assoc, Nat.mul_comm a g, Nat.mul_comm (g * a) b]
    _ = b * (50 * u) := by rw [← ha]
/-- Two fractions of one value reduce to one. -/
theorem reduce_same {x y c d : Nat} (hd : 0 < d) (hy : 0 < y) (hcd : Nat.gcd c d = 1) (h : x * d = y * c) : x / Nat.gcd x y = c ∧ y / Nat.gcd x y = d := by
  have hg : 0 < Nat.gcd x y := Nat.gcd_pos_of_pos_right _ hy
  obtain ⟨a, ha⟩ := Nat.gcd_dvd_left x y
  obtain ⟨b, hb⟩ := Nat.gcd_dvd_right x y
  obtain ⟨hab, e1, e2⟩ := gcd_parts hg rfl ha hb
  rw [e1, e2]
  have hk : a * d = b * c := by
    have : Nat.gcd x y * (a * d) = Nat.gcd x y * (b * c) := by
      rw [← Nat.mul_assoc, ← ha, ← Nat.mul_assoc, ← hb]; exact h
    exact Nat.eq_of_mul_eq_mul_left hg this
  have h1 : b ∣ d := Nat.Coprime.dvd_of_dvd_mul_left (show Nat.Coprime b a by rw [Nat.Coprime, Nat.gcd_comm]; exact hab) ⟨c, hk⟩
  have h2 : d ∣ b := Nat.Coprime.dvd_of_dvd_mul_right (show Nat.Coprime d c by rw [Nat.Coprime, Nat.gcd_comm]; exact hcd) ⟨a, by rw [← hk, Nat.mul_comm]⟩
  have hbd : b = d := Nat.dvd_antisymm h1 h2
  subst hbd
  exact ⟨Nat.eq_of_mul_eq_mul_right hd (by rw [hk, Nat.mul_comm]), rfl⟩
/-- One step of the reference's sum. -/
theorem add_step (u x r q : Nat) (hr : 0 < r) (h36 : r * q = 3600) :
    (topN u * r + 60000 * x * botN u) / Nat.gcd (topN u * r + 60000 * x * botN u) (botN u * r) = topN (u + x * q) ∧ botN u * r / Nat.gcd (topN u * r + 60000 * x * botN u) (botN u * r) = botN (u + x * q) := by
  have hb := bot_bound u
  have hb2 := bot_bound (u + x * q)
  refine reduce_same (by omega) (Nat.mul_pos (by omega) hr) (top_bot_gcd _) ?_
  have e1 := top_bot u
  have e2 := top_bot (u + x * q)
  generalize topN u = t at *
  generalize botN u = b at *
  generalize topN (u + x * q) = t' at *
  generalize botN (u + x * q) = b' at *
  have h3 : 3 * ((t * r + 60000 * x * b) * b') = 3 * (b * r * t') := by
    have a1 : 3 * ((t * r + 60000 * x * b) * b') = (t * 3) * (r * b') + 180000 * x * b * b' := by
      rw [Nat.add_mul, Nat.mul_add]
      congr 1
      · rw [Nat.mul_comm t 3, Nat.mul_assoc, Nat.mul_assoc]
      · rw [show 180000 = 3 * 60000 from rfl]; simp only [Nat.mul_assoc]
    have a2 : 3 * (b * r * t') = b * r * (t' * 3) := by rw [Nat.mul_comm 3, Nat.mul_assoc]
    rw [a1, a2, e1, e2]
    have a3 : b * r * (b' * (50 * (u + x * q))) = b * (50 * u) * (r * b') + 50 * (r * q) * x * b * b' := by
      rw [Nat.mul_add, Nat.mul_add, Nat.mul_add]
      congr 1
      · ac_rfl
      · ac_rfl
    rw [a3, h36]
  exact Nat.eq_of_mul_eq_mul_left (by decide) h3

def temL (xs : List (Int × Int)) : Txt := itoL (cntT xs) ++ [32] ++ itoL (topN (uniT xs).toNat) ++ (if botN (uniT xs).toNat = 1 then [] else [47] ++ itoL (botN (uniT xs).toNat))
def temV (xs : List (Int × Int)) : Txt := if temOk xs then temL xs else [110, 111, 110, 101]

end Go.Proofs.YtinmhjeljkiefaaDoor
