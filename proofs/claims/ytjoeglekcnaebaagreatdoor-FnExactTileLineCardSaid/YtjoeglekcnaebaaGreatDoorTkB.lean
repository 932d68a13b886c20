/-
  Several texts of this proof in one: TilP, TilI, TilD, TilC.
-/
import Derived.Test.YtjoeglekcnaebaaGreatDoorIntW
import Derived.Test.YtjoeglekcnaebaaGreatDoorRok
import Derived.Test.YtjoeglekcnaebaaGreatDoorTab
import Derived.Test.YtjoeglekcnaebaaGreatDoorOwn
import Derived.Test.YtjoeglekcnaebaaGreatDoorCells
import Derived.Test.YtjoeglekcnaebaaGreatDoorTkF
import Derived.Test.YtjoeglekcnaebaaGreatDoorPer
import Derived.Test.YtjoeglekcnaebaaGreatDoorColl
import Derived.Test.YtjoeglekcnaebaaGreatDoorRw
namespace Go.Proofs.YtjoeglekcnaebaaGreatDoor
open Go.RowKit
set_option linter.unusedVariables false
set_option linter.unusedSimpArgs false

def lstF (f : Nat → Int) (n : Nat) : List Int := (List.range n).map f
theorem lstF_len (f : Nat → Int) (n : Nat) : (lstF f n).length = n := by simp [lstF]
theorem lstF_at (f : Nat → Int) {n i : Nat} (h : i < n) : (lstF f n).getD i 0 = f i := by
  unfold lstF
  rw [List.getD_eq_getElem?_getD, List.getElem?_eq_getElem (by simpa using h)]
  simp
theorem lstF_take (f : Nat → Int) {n m : Nat} (h : m ≤ n) : (lstF f n).take m = lstF f m := by
  unfold lstF
  rw [← List.map_take, List.take_range, Nat.min_eq_left h]
theorem lstF_congr {f g : Nat → Int} {n : Nat} (h : ∀ t, t < n → f t = g t) : lstF f n = lstF g n := by
  unfold lstF
  exact List.map_congr_left fun t ht => h t (List.mem_range.1 ht)
theorem lstF_of (xs : List Int) : lstF (fun t => xs.getD t 0) xs.length = xs := by
  refine List.ext_getElem (by simp [lstF]) fun i h1 h2 => ?_
  unfold lstF
  simp [List.getD_eq_getElem?_getD, h2]
/-- Without the zeros at the end: what is left. -/
def trimN (f : Nat → Int) : Nat → Nat
  | 0 => 0
  | n + 1 => if f n = 0 then trimN f n else n + 1
theorem trimN_le (f : Nat → Int) : ∀ n, trimN f n ≤ n
  | 0 => Nat.le_refl _
  | n + 1 => by
    have := trimN_le f n
    unfold trimN; split <;> omega
def endF (f : Nat → Int) (n : Nat) : List Int := lstF f (trimN f n)
theorem endF_len (f : Nat → Int) (n : Nat) : (endF f n).length ≤ n := by unfold endF; rw [lstF_len]; exact trimN_le f n
def polF (bs : List Int) (p : Nat) : Int := if (p : Int) ∈ bs then 1 else 0
def polL (N : Nat) (bs : List Int) : List Int := endF (polF bs) N
def w64 (x : Int) : Int := IntKind.i64.wrap x
/-- Behind k rounds of the inner loop. -/
def subF (F : Nat → Int) (b : List Int) (x : Int) (i k t : Nat) : Int := if i ≤ t ∧ t < i + k then w64 (F t - w64 (x * b.getD (t - i) 0)) else F t
theorem subF_zero (F : Nat → Int) (b : List Int) (x : Int) (i t : Nat) : subF F b x i 0 t = F t := by unfold subF; rw [if_neg (by omega)]
theorem subF_at (F : Nat → Int) (b : List Int) (x : Int) (i k : Nat) : subF F b x i (k + 1) (i + k) = w64 (F (i + k) - w64 (x * b.getD k 0)) := by
  unfold subF; rw [if_pos (by omega), show i + k - i = k by omega]
theorem subF_pre (F : Nat → Int) (b : List Int) (x : Int) (i k : Nat) : subF F b x i k (i + k) = F (i + k) := by unfold subF; rw [if_neg (by omega)]
theorem subF_ne (F : Nat → Int) (b : List Int) (x : Int) (i k : Nat) {t : Nat} (h : t ≠ i + k) : subF F b x i (k + 1) t = subF F b x i k t := by
  unfold subF
  by_cases h1 : i ≤ t ∧ t < i + k
  · rw [if_pos h1, if_pos (by omega)]
  · rw [if_neg h1, if_neg (by omega)]
/-- The rest behind m rounds of the outer loop; i goes from la - lb down. -/
def divF (a b : List Int) : Nat → Nat → Int
  | 0 => fun t => a.getD t 0
  | m + 1 => subF (divF a b m) b (divF a b m (a.length - b.length - m + b.length - 1)) (a.length - b.length - m) b.length
def divM (a b : List Int) : Nat := if b.length ≤ a.length then a.length - b.length + 1 else 0
/-- The quotient behind m rounds. -/
def quoF (a b : List Int) (m t : Nat) : Int := if t + m > a.length - b.length ∧ t ≤ a.length - b.length then divF a b (a.length - b.length - t) (t + b.length - 1) else 0
def rstL (a b : List Int) : List Int := endF (divF a b (divM a b)) a.length
def quoI (a b : List Int) : List Int := endF (quoF a b (divM a b)) a.length
def quoS (a b : List Int) : List Int := lstF (quoF a b (divM a b)) (divM a b)
/-- x ^ n - 1. -/
def oneF (n t : Nat) : Int := if t = 0 then -1 else if t = n then 1 else 0
def cycG (q : List Int → List Int → List Int) (c : Nat → List Int) (n : Nat) : Nat → List Int
  | 0 => lstF (oneF n) (n + 1)
  | d + 1 => if 1 ≤ d ∧ n % d = 0 then q (cycG q c n d) (c d) else cycG q c n d
def cycI : Nat → Nat → List Int
  | 0, _ => []
  | f + 1, n => cycG quoI (cycI f) n n
def cycS : Nat → Nat → List Int
  | 0, _ => []
  | f + 1, n => cycG quoS (cycS f) n n
/-- The lengths of these, and that each division is one. -/
def lenG (c : Nat → Nat) (n : Nat) : Nat → Nat
  | 0 => n + 1
  | d + 1 => if 1 ≤ d ∧ n % d = 0 then lenG c n d - c d + 1 else lenG c n d
def lenC : Nat → Nat → Nat
  | 0, _ => 0
  | f + 1, n => lenG (lenC f) n n
def okG (c : Nat → Nat) (o : Nat → Bool) (n : Nat) : Nat → Bool
  | 0 => true
  | d + 1 => okG c o n d && (if 1 ≤ d ∧ n % d = 0 then o d && decide (1 ≤ c d ∧ c d ≤ lenG c n d) else true)
def okC : Nat → Nat → Bool
  | 0, _ => false
  | f + 1, n => okG (lenC f) (okC f) n n
theorem okC_all : ∀ n, n < 25 → 1 ≤ n → okC 24 n = true := by decide +kernel

/-- A list whose last number is one. -/
def Mon (a : List Int) : Prop := 1 ≤ a.length ∧ a.getD (a.length - 1) 0 = 1
theorem quo_top {a b : List Int} (ha : Mon a) (hb : 1 ≤ b.length) (hl : b.length ≤ a.length) : quoF a b (divM a b) (a.length - b.length) = 1 := by
  unfold quoF divM
  rw [if_pos hl, if_pos (by omega), Nat.sub_self]
  show a.getD (a.length - b.length + b.length - 1) 0 = 1
  rw [show a.length - b.length + b.length - 1 = a.length - 1 by omega]
  exact ha.2
theorem trim_top {f : Nat → Int} {m : Nat} (h : f m ≠ 0) (hz : ∀ t, m < t → f t = 0) : ∀ d, trimN f (m + 1 + d) = m + 1
  | 0 => by unfold trimN; rw [if_neg h]
  | d + 1 => by
    show (if f (m + 1 + d) = 0 then trimN f (m + 1 + d) else _) = _
    rw [if_pos (hz _ (by omega))]
    exact trim_top h hz d
theorem quo_same {a b : List Int} (ha : Mon a) (hb : 1 ≤ b.length) (hl : b.length ≤ a.length) : quoI a b = quoS a b ∧ (quoS a b).length = a.length - b.length + 1 ∧ Mon (quoS a b) := by
  have ht := quo_top ha hb hl
  have hM : divM a b = a.length - b.length + 1 := if_pos hl
  have hlen : (quoS a b).length = a.length - b.length + 1 := by unfold quoS; rw [lstF_len, hM]
  refine ⟨?_, hlen, by omega, ?_⟩
  · unfold quoI quoS endF
    congr 1
    rw [hM] at ht ⊢
    obtain ⟨d, hd⟩ : ∃ d, a.length = a.length - b.length + 1 + d := ⟨b.length - 1, by omega⟩
    conv => lhs; arg 2; rw [hd]
    refine trim_top (by rw [ht]; decide) (fun t h => ?_) d
    unfold quoF
    rw [if_neg (by omega)]
  · rw [hlen]
    unfold quoS
    rw [lstF_at _ (by omega), Nat.add_sub_cancel]
    exact ht
theorem cyc_same : ∀ f n, 1 ≤ n → okC f n = true → cycI f n = cycS f n ∧ (cycS f n).length = lenC f n ∧ Mon (cycS f n)
  | 0, _, _, h => by cases h
  | f + 1, n, hn, h => by
    have hG : ∀ d, okG (lenC f) (okC f) n d = true → cycG quoI (cycI f) n d = cycG quoS (cycS f) n d ∧ (cycG quoS (cycS f) n d).length = lenG (lenC f) n d ∧ Mon (cycG quoS (cycS f) n d) := by
      intro d
      induction d with
      | zero =>
        intro _
        refine ⟨rfl, lstF_len _ _, by show 1 ≤ (lstF (oneF n) (n + 1)).length; rw [lstF_len]; omega, ?_⟩
        show (lstF (oneF n) (n + 1)).getD ((lstF (oneF n) (n + 1)).length - 1) 0 = 1
        rw [lstF_len, Nat.add_sub_cancel, lstF_at _ (by omega)]
        unfold oneF
        rw [if_neg (by omega), if_pos rfl]
      | succ d ih =>
        intro ho
        have ho' : okG (lenC f) (okC f) n d = true ∧ (if 1 ≤ d ∧ n % d = 0 then okC f d && decide (1 ≤ lenC f d ∧ lenC f d ≤ lenG (lenC f) n d) else true) = true := by
          unfold okG at ho
          rwa [Bool.and_eq_true] at ho
        obtain ⟨i1, i2, i3⟩ := ih ho'.1
        show (if 1 ≤ d ∧ n % d = 0 then _ else _) = (if 1 ≤ d ∧ n % d = 0 then _ else _) ∧ (if 1 ≤ d ∧ n % d = 0 then quoS (cycG quoS (cycS f) n d) (cycS f d) else cycG quoS (cycS f) n d).length = (if 1 ≤ d ∧ n % d = 0 then _ else _) ∧ Mon (if 1 ≤ d ∧ n % d = 0 then quoS (cycG quoS (cycS f) n d) (cycS f d) else cycG quoS (cycS f) n d)
        by_cases hd : 1 ≤ d ∧ n % d = 0
        · have ho2 := ho'.2
          rw [if_pos hd, Bool.and_eq_true, decide_eq_true_eq] at ho2
          obtain ⟨j1, j2, j3⟩ := cyc_same f d hd.1 ho2.1
          obtain ⟨q1, q2, q3⟩ := quo_same i3 (by rw [j2]; exact ho2.2.1) (by rw [j2, i2]; exact ho2.2.2)
          simp only [if_pos hd]
          rw [i1, j1]
          exact ⟨q1, by rw [q2, i2, j2], q3⟩
        · simp only [if_neg hd]
          exact ⟨i1, i2, i3⟩
    exact hG n h
/-- The stages on the way. -/
theorem cyc_stage : ∀ f n d, okG (lenC f) (okC f) n (d + 1) = true → 1 ≤ n → 1 ≤ d ∧ n % d = 0 → okC f d = true ∧ 1 ≤ lenC f d ∧ lenC f d ≤ lenG (lenC f) n d := by
  intro f n d h _ hd
  unfold okG at h
  rw [Bool.and_eq_true, if_pos hd, Bool.and_eq_true, decide_eq_true_eq] at h
  exact ⟨h.2.1, h.2.2⟩

theorem okG_le (c : Nat → Nat) (o : Nat → Bool) (n : Nat) {d m : Nat} (h : okG c o n m = true) (hd : d ≤ m) : okG c o n d = true := by
  obtain ⟨e, rfl⟩ : ∃ e, m = d + e := ⟨m - d, by omega⟩
  clear hd
  induction e with
  | zero => exact h
  | succ e ih =>
    refine ih ?_
    have h' : okG c o n (d + e + 1) = true := h
    unfold okG at h'
    rw [Bool.and_eq_true] at h'
    exact h'.1
theorem cycG_same (f n : Nat) (hn : 1 ≤ n) : ∀ d, okG (lenC f) (okC f) n d = true → cycG quoI (cycI f) n d = cycG quoS (cycS f) n d ∧ (cycG quoS (cycS f) n d).length = lenG (lenC f) n d ∧ Mon (cycG quoS (cycS f) n d) := by
  intro d
  induction d with
  | zero =>
    intro _
    refine ⟨rfl, lstF_len _ _, by show 1 ≤ (lstF (oneF n) (n + 1)).length; rw [lstF_len]; omega, ?_⟩
    show (lstF (oneF n) (n + 1)).getD ((lstF (oneF n) (n + 1)).length - 1) 0 = 1
    rw [lstF_len, Nat.add_sub_cancel, lstF_at _ (by omega)]
    unfold oneF
    rw [if_neg (by omega), if_pos rfl]
  | succ d ih =>
    intro ho
    have ho' : okG (lenC f) (okC f) n d = true ∧ (if 1 ≤ d ∧ n % d = 0 then okC f d && decide (1 ≤ lenC f d ∧ lenC f d ≤ lenG (lenC f) n d) else true) = true := by
      unfold okG at ho
      rwa [Bool.and_eq_true] at ho
    obtain ⟨i1, i2, i3⟩ := ih ho'.1
    show (if 1 ≤ d ∧ n % d = 0 then _ else _) = (if 1 ≤ d ∧ n % d = 0 then _ else _) ∧ (if 1 ≤ d ∧ n % d = 0 then quoS (cycG quoS (cycS f) n d) (cycS f d) else cycG quoS (cycS f) n d).length = (if 1 ≤ d ∧ n % d = 0 then _ else _) ∧ Mon (if 1 ≤ d ∧ n % d = 0 then quoS (cycG quoS (cycS f) n d) (cycS f d) else cycG quoS (cycS f) n d)
    by_cases hd : 1 ≤ d ∧ n % d = 0
    · have ho2 := ho'.2
      rw [if_pos hd, Bool.and_eq_true, decide_eq_true_eq] at ho2
      obtain ⟨j1, j2, j3⟩ := cyc_same f d hd.1 ho2.1
      obtain ⟨q1, q2, q3⟩ := quo_same i3 (by rw [j2]; exact ho2.2.1) (by rw [j2, i2]; exact ho2.2.2)
      simp only [if_pos hd]
      rw [i1, j1]
      exact ⟨q1, by rw [q2, i2, j2], q3⟩
    · simp only [if_neg hd]
      exact ⟨i1, i2, i3⟩
theorem lenG_le (c : Nat → Nat) (o : Nat → Bool) (n : Nat) : ∀ d, okG c o n d = true → lenG c n d ≤ n + 1
  | 0, _ => Nat.le_refl _
  | d + 1, h => by
    unfold okG at h
    rw [Bool.and_eq_true] at h
    have ih := lenG_le c o n d h.1
    show (if 1 ≤ d ∧ n % d = 0 then lenG c n d - c d + 1 else lenG c n d) ≤ n + 1
    by_cases hd : 1 ≤ d ∧ n % d = 0
    · have h2 := h.2
      rw [if_pos hd, Bool.and_eq_true, decide_eq_true_eq] at h2
      rw [if_pos hd]; omega
    · rw [if_neg hd]; exact ih
theorem lenC_le (f n : Nat) (h : okC f n = true) : lenC f n ≤ n + 1 := by
  cases f with
  | zero => cases h
  | succ f => exact lenG_le (lenC f) (okC f) n n h

end Go.Proofs.YtjoeglekcnaebaaGreatDoor

namespace Go.Proofs.YtjoeglekcnaebaaGreatDoor
open Go.RowKit
set_option linter.unusedVariables false
set_option linter.unusedSimpArgs false

theorem Ints.takeT {w : World} {B : Nat} {A : Option Addr} {xs : List Int} (h : Ints w B A xs) (j : Nat) : Ints w B A (xs.take j) := by
  refine ⟨by have := h.1; rw [List.length_take]; omega, fun x hx => h.2.1 x (List.mem_of_mem_take hx), fun hn => ?_⟩
  rw [List.length_take] at hn
  obtain ⟨b, off, e, hb, hc⟩ := h.2.2 (by omega)
  refine ⟨b, off, e, hb, fun i hi => ?_⟩
  rw [List.length_take] at hi
  rw [hc i (by omega), List.getD_eq_getElem?_getD, List.getD_eq_getElem?_getD, List.getElem?_take, if_pos (by omega)]
theorem Tab.intsT {w : World} {b n : Nat} {f : Nat → Int} (h : Tab w b n f) (hn : n ≤ maxLen) (hf : ∀ t, t < n → Fits (f t)) (c : Nat) : Ints w w.heap.size (some ⟨b, 0, none⟩) (lstF f n) := by
  refine ⟨by rw [lstF_len]; exact hn, fun x hx => ?_, fun _ => ⟨b, 0, rfl, h.1, fun i hi => ?_⟩⟩
  · unfold lstF at hx
    rw [List.mem_map] at hx
    obtain ⟨t, ht, rfl⟩ := hx
    exact hf t (List.mem_range.1 ht)
  · rw [lstF_len] at hi
    rw [Nat.zero_add, lstF_at f hi]
    exact (h.2 i hi).1

set_option maxHeartbeats 400000 in
theorem slices_Clip_any (a : Addr) (n cap : Nat) (w : World) (hn : n ≤ cap) (hs : n ≤ 1000000) :
    Calls Tryz.prog 133 #[.slice (some a) n cap] w fun e w' => e = .returned (.slice (some a) n n) ∧ w = w' := by
  have h0 : (0 : Int) ≤ (n : Int) := Int.natCast_nonneg _
  have h1 : (n : Int) ≤ (cap : Int) := by omega
  go_enter Tryz.func133, Tryz.ntmps133
  go_wp2_with fail
  go_ret
  exact ⟨rfl, rfl⟩

set_option maxRecDepth 100000 in
set_option maxHeartbeats 1000000 in
theorem impl_ended_any (b off cap : Nat) (f : Nat → Int) (N : Nat) (w : World) (B : Nat) (hA : Ints w B (some ⟨b, off, none⟩) (lstF f N)) (hN : N ≤ 1000) (hcap : N ≤ cap) :
    Calls Tryz.prog 122 #[.slice (some ⟨b, off, none⟩) N cap] w fun e w' => e = .returned (.slice (some ⟨b, off, none⟩) (trimN f N) (trimN f N)) ∧ w = w' := by
  have HC := Lib.hid (fun i (hi : i < N) => show w.cell? ⟨b, off + i, none⟩ = some (.int .i64 (f i)) by
    obtain ⟨b', off', e, _, hc⟩ := hA.2.2 (by rw [lstF_len]; omega)
    injection e with e
    injection e with e1 e2
    subst e1 e2
    have := hc i (by rw [lstF_len]; exact hi)
    rwa [lstF_at f hi] at this)
  clear hA
  go_enter Tryz.func122, Tryz.ntmps122
  go_wp2_with fail
  go_loop [0] (fun a => ∃ n : Nat, n ≤ N ∧ a = .slice (some ⟨b, off, none⟩) n cap ∧ trimN f n = trimN f N) (fun a => match a with | .slice _ n _ => n | _ => 0)
  case atStart => exact ⟨N, Nat.le_refl _, rfl, rfl⟩
  case round =>
    obtain ⟨n, hn, rfl, ht⟩ := hrel
    have HT := Lib.hid ht
    clear ht
    have HCL := Lib.hid (slices_Clip_any ⟨b, off, none⟩ n cap w (by omega) (by omega))
    by_cases h0 : 0 < n
    · obtain ⟨m, rfl⟩ : ∃ m, n = m + 1 := ⟨n - 1, by omega⟩
      have hc := HC.out m (by omega)
      have hst : trimN f (m + 1) = if f m = 0 then trimN f m else m + 1 := rfl
      obtain ⟨x, hx⟩ : ∃ x, f m = x := ⟨_, rfl⟩
      rw [hx] at hc hst
      have HS := Lib.hid hst
      have hp : (0 : Int) < ((m + 1 : Nat) : Int) := by omega
      have hw1 : IntKind.i64.wrap (((m + 1 : Nat) : Int) - 1) = (m : Int) := by rw [i64w (by omega)]; omega
      have hm0 : (0 : Int) ≤ (m : Int) := Int.natCast_nonneg _
      have hml : (m : Int) < ((m + 1 : Nat) : Int) := by omega
      have hmc : (m : Int) ≤ (cap : Int) := by omega
      clear hst hx
      by_cases hz : x = 0
      · subst hz
        go_wp2_with fail
        go_round
        case rel => exact ⟨m, by omega, rfl, by rw [← HT.out, HS.out, if_pos rfl]⟩
        case measure => show m < m + 1; omega
      · have hze : (x == 0) = false := beq_eq_false_iff_ne.2 hz
        go_wp2_with fail
        refine HCL.out.mono ?_
        rintro e w1 ⟨rfl, rfl⟩
        have HV := Lib.hid (show trimN f N = m + 1 by rw [← HT.out, HS.out, if_neg hz])
        go_wp2_with fail
        go_ret
        exact ⟨by rw [HV.out]; rfl, rfl⟩
    · have hn0 : n = 0 := by omega
      subst hn0
      go_wp2_with fail
      refine HCL.out.mono ?_
      rintro e w1 ⟨rfl, rfl⟩
      have HV := Lib.hid (show trimN f N = 0 from HT.out.symm)
      go_wp2_with fail
      go_ret
      exact ⟨by rw [HV.out]; rfl, rfl⟩

theorem polF_step {bs : List Int} {j : Nat} {x : Nat} (hj : j < bs.length) (hx : bs.getD j 0 = (x : Int)) (t : Nat) : polF (bs.take (j + 1)) t = if t = x then 1 else polF (bs.take j) t := by
  unfold polF
  rw [List.take_succ_eq_append_getElem hj]
  have he : bs[j] = (x : Int) := by rw [← hx, List.getD_eq_getElem?_getD, List.getElem?_eq_getElem hj]; rfl
  rw [he]
  by_cases h : t = x
  · subst h; rw [if_pos (by simp), if_pos rfl]
  · rw [if_neg h]
    congr 1
    simp
    intro h2
    omega

/-- The divisors of n below m. -/
def dvsL (n : Nat) : Nat → List Int
  | 0 => []
  | m + 1 => if 1 ≤ m ∧ n % m = 0 then dvsL n m ++ [(m : Int)] else dvsL n m
theorem dvsL_len (n : Nat) : ∀ m, (dvsL n m).length ≤ m
  | 0 => Nat.le_refl _
  | m + 1 => by
    have := dvsL_len n m
    unfold dvsL; split <;> simp <;> omega

set_option maxRecDepth 100000 in
set_option maxHeartbeats 1000000 in
theorem impl_polynomial_any (N : Nat) (A : Option Addr) (cap : Nat) (bs : List Int) (w : World) (hA : Ints w w.heap.size A bs) (hok : RhOk N bs) :
    Calls Tryz.prog 102 #[.agg #[.int .i64 N, .slice A bs.length cap]] w fun e w' => ∃ A', e = .returned (.slice A' (polL N bs).length (polL N bs).length) ∧ Ints w' w'.heap.size A' (polL N bs) ∧ (∃ b, A' = some ⟨b, 0, none⟩) ∧ Below w.heap.size w w' := by
  have hn1 : 1 ≤ N := by have := hok.1; omega
  have hn2 : N ≤ 24 := by have := hok.2.1; omega
  have HBR := Lib.hid (fun i (hi : i < bs.length) => hok.2.2.1 i hi)
  have HPS := Lib.hid (fun j x (hj : j < bs.length) (hx : bs.getD j 0 = ((x : Nat) : Int)) t => polF_step hj hx t)
  have HP0 := Lib.hid (fun t => show polF (bs.take 0) t = 0 by unfold polF; rw [if_neg (by simp)])
  have HPE := Lib.hid (show bs.take bs.length = bs from List.take_length)
  have HA := Lib.hid hA
  have hlen := hA.1
  unfold maxLen at hlen
  have HC := Lib.hid hA.2.2
  have HB0 := Lib.hid ((Below.refl w.heap.size w).alloc (Nat.le_refl _) (.cells #[.int .i64 N, .slice A bs.length cap] 27))
  have HVA := Lib.hid (Hav.boxed hA N cap)
  have hmk := fun V : World => run_make_int N (by omega) V
  clear hA hok
  obtain ⟨⟨p0, p1, _, _, _⟩, _⟩ := HVA.out
  go_enter Tryz.func102, Tryz.ntmps102
  go_wp2_with fail
  have hmW : (w.alloc (.cells #[.int .i64 N, .slice A bs.length cap] 27)).heap.size = w.heap.size + 1 := by simp
  have HT0 := Lib.hid (hmW ▸ tab_made (w.alloc (.cells #[.int .i64 N, .slice A bs.length cap] 27)) N 3)
  have HB1 := Lib.hid (HB0.out.alloc HB0.out.size (.cells (madeCells #[.int .i64 0] N) 3))
  generalize (w.alloc (.cells #[.int .i64 N, .slice A bs.length cap] 27)).alloc (.cells (madeCells #[.int .i64 0] N) 3) = W at *
  clear hmW p0 p1
  go_loopw [12] (fun i wr => ∃ j : Nat, j ≤ bs.length ∧ i = .int .i64 j ∧ Tab wr (w.heap.size + 1) N (polF (bs.take j)) ∧ Below w.heap.size w wr) (fun i _ => bs.length - (intOf i).toNat)
  case atStart => exact ⟨0, Nat.zero_le _, rfl, HT0.out.congr (fun t _ => (HP0.out t).symm), HB1.out⟩
  case round =>
    obtain ⟨j, hj, rfl, htab, hbel⟩ := hrel
    obtain ⟨wo, rfl⟩ : ∃ wo : World, wo = wr := ⟨_, rfl⟩
    have HT := Lib.hid htab
    have HB := Lib.hid hbel
    have hz := htab.1
    by_cases hlt : j < bs.length
    · obtain ⟨b2, off, rfl, hB, hc⟩ := HC.out (by omega)
      have hcell := (hbel.cell (p := ⟨b2, off + j, none⟩) hB).trans (hc j hlt)
      have hx0 := HBR.out j hlt
      obtain ⟨x, hx⟩ := Int.eq_ofNat_of_zero_le hx0.1
      have hps := HPS.out j x hlt hx
      rw [hx] at hcell hx0
      have hxN : x < N := by omega
      have hxi : (x : Int) < (N : Int) := by omega
      have hxi0 : (0 : Int) ≤ (x : Int) := Int.natCast_nonneg _
      have hfz := HT.out.frz hxN
      have hcu := (HT.out.2 x hxN).1
      have HP := Lib.hid hps
      have hji : (j : Int) < (bs.length : Int) := by omega
      clear htab hbel hc hx hps
      go_wp2_with fail
      have HT2 := Lib.hid (HT.out.set_ (g := polF (bs.take (j + 1))) x 1 hxN (by rw [HP.out, if_pos rfl]) (fun t _ ht => by rw [HP.out, if_neg ht]))
      have HB2 := Lib.hid (HB.out.setCell (p := ⟨w.heap.size + 1, x, none⟩) (Nat.le_succ _) (.int .i64 1))
      go_roundw
      case rel => exact ⟨j + 1, by omega, by go_num, HT2.out, HB2.out⟩
      case measure => simp [intOf]; omega
    · have hje : j = bs.length := by omega
      subst hje
      have hte := HT.out
      rw [HPE.out] at hte
      have hpf : ∀ t, Fits (polF bs t) := fun t => by unfold polF Fits; split <;> omega
      have hin := hte.intsT (by unfold maxLen; omega) (fun t _ => hpf t) N
      have HEN := Lib.hid (impl_ended_any (w.heap.size + 1) 0 N (polF bs) N wo wo.heap.size hin (by omega) (Nat.le_refl _))
      have HPL := Lib.hid (show polL N bs = (lstF (polF bs) N).take (trimN (polF bs) N) from (lstF_take _ (trimN_le _ _)).symm)
      have HPN := Lib.hid (show (polL N bs).length = trimN (polF bs) N by unfold polL endF; exact lstF_len _ _)
      have HIN := Lib.hid hin
      clear htab hbel hte hin hpf
      have hji : ¬ (bs.length : Int) < (bs.length : Int) := by omega
      go_wp2_with fail
      refine HEN.out.mono ?_
      rintro e w2 ⟨rfl, rfl⟩
      go_wp2_with fail
      go_ret
      exact ⟨some ⟨w.heap.size + 1, 0, none⟩, by rw [HPN.out]; rfl, by rw [HPL.out]; exact HIN.out.takeT _, ⟨_, rfl⟩, HB.out⟩

set_option maxRecDepth 100000 in
set_option maxHeartbeats 1000000 in
theorem impl_DivisorsOf_any (n : Nat) (w : World) (hn1 : 1 ≤ n) (hn2 : n ≤ 24) :
    Calls Tryz.prog 61 #[.int .i64 n] w fun e w' => ∃ v, e = .returned v ∧ OwnI w' w.heap.size v (dvsL n (n + 1)) ∧ Below w.heap.size w w' := by
  have hin : inB (n : Int) 1 1000 = true := inB_true ⟨by omega, by omega⟩
  go_enter Tryz.func61, Tryz.ntmps61
  go_wp2_with (go_at_call 42; refine (within_any _ _ _ _).mono ?_; rintro e w' ⟨rfl, rfl⟩)
  go_loopw [3, 4] (fun so i wr => ∃ j : Nat, 1 ≤ j ∧ j ≤ n + 1 ∧ i = .int .i64 j ∧ OwnI wr w.heap.size so (dvsL n j) ∧ Below w.heap.size w wr) (fun _ i _ => n + 1 - (intOf i).toNat)
  case atStart => exact ⟨1, Nat.le_refl _, by omega, rfl, OwnI.nil _ _, Below.refl _ _⟩
  case round =>
    obtain ⟨j, hj1, hj, rfl, hown, hbel⟩ := hrel
    obtain ⟨wo, rfl⟩ : ∃ wo : World, wo = wr := ⟨_, rfl⟩
    have hws := hbel.size
    have HB := Lib.hid hbel
    have HO := Lib.hid hown
    obtain ⟨A1, c1, rfl⟩ := hown.form
    have hmk := dvsL_len n j
    clear hbel hown
    by_cases hlt : j ≤ n
    · have hji : (j : Int) ≤ (n : Int) := by omega
      have hnz : ((j : Int) = 0) = False := eq_false (by omega)
      have hnz2 : (j = 0) = False := eq_false (by omega)
      have hrm : (n : Int).tmod (j : Int) = ((n % j : Nat) : Int) := by rw [Int.tmod_eq_emod_of_nonneg (by omega)]; omega
      have hml : n % j < j := Nat.mod_lt _ (by omega)
      have hw1 : IntKind.i64.wrap ((n % j : Nat) : Int) = ((n % j : Nat) : Int) := i64w (by omega)
      have hds : dvsL n (j + 1) = if 1 ≤ j ∧ n % j = 0 then dvsL n j ++ [(j : Int)] else dvsL n j := rfl
      by_cases hd : n % j = 0
      · rw [if_pos ⟨hj1, hd⟩] at hds
        have HS := Lib.hid hds
        rw [hd] at hrm hw1
        clear hds hml hd
        generalize dvsL n j = L at *
        go_wp2_with (at_builtin; refine wpList_append_int rfl (.tmp 17) (.tmp 19) rfl w.heap.size _ L rfl (HO.out.alloc _) _ _ rfl (cell_new1 _ _ _) (by omega) (by simp; omega) ?_; intro v2 w2 hown2 hb2)
        have HO2 := Lib.hid hown2
        have HB2 := Lib.hid ((HB.out.alloc hws _).trans hb2)
        clear hown2 hb2
        go_wp2_with fail
        go_roundw
        case rel => exact ⟨j + 1, by omega, by omega, by go_num, by rw [HS.out]; exact HO2.out, HB2.out⟩
        case measure => simp [intOf]; omega
      · rw [if_neg (fun h => hd h.2)] at hds
        have HS := Lib.hid hds
        have hmz : ((n % j : Nat) : Int) ≠ 0 := by omega
        generalize n % j = m at *
        have hme : ((m : Int) == 0) = false := beq_eq_false_iff_ne.2 hmz
        clear hds
        generalize dvsL n j = L at *
        go_wp2_with fail
        go_roundw
        case rel => exact ⟨j + 1, by omega, by omega, by go_num, by rw [HS.out]; exact HO.out, HB.out⟩
        case measure => simp [intOf]; omega
    · have hje : j = n + 1 := by omega
      subst hje
      have hji : ¬ ((n + 1 : Nat) : Int) ≤ (n : Int) := by omega
      obtain ⟨L, hL⟩ : ∃ L, dvsL n (n + 1) = L := ⟨_, rfl⟩
      have HV := Lib.hid hL
      rw [hL] at HO ⊢
      clear hL
      go_wp2_with fail
      go_ret
      rw [HV.out]
      exact ⟨_, rfl, HO.out, HB.out⟩

end Go.Proofs.YtjoeglekcnaebaaGreatDoor

namespace Go.Proofs.YtjoeglekcnaebaaGreatDoor
open Go.RowKit
set_option linter.unusedVariables false
set_option linter.unusedSimpArgs false

theorem fits_w64 (x : Int) : Fits (w64 x) := by
  unfold w64
  rw [show IntKind.i64.wrap x = wrap64 x from IntWalk.i64_left x]
  unfold wrap64 Fits
  omega
theorem divF_fits (a b : List Int) (ha : ∀ x ∈ a, Fits x) : ∀ m t, Fits (divF a b m t)
  | 0, t => by
    show Fits (a.getD t 0)
    rw [List.getD_eq_getElem?_getD]
    cases h : a[t]? with
    | none => exact ⟨by decide, by decide⟩
    | some y => exact ha y (List.mem_of_getElem? h)
  | m + 1, t => by
    show Fits (subF _ _ _ _ _ t)
    unfold subF
    split
    · exact fits_w64 _
    · exact divF_fits a b ha m t
theorem quoF_fits (a b : List Int) (ha : ∀ x ∈ a, Fits x) (m t : Nat) : Fits (quoF a b m t) := by
  unfold quoF
  split
  · exact divF_fits a b ha _ _
  · exact ⟨by decide, by decide⟩
theorem quoF_zero (a b : List Int) (t : Nat) : quoF a b 0 t = 0 := by
  unfold quoF; rw [if_neg (by omega)]
theorem quoF_at (a b : List Int) {m : Nat} (hm : m ≤ a.length - b.length) : quoF a b (m + 1) (a.length - b.length - m) = divF a b m (a.length - b.length - m + b.length - 1) := by
  unfold quoF
  rw [if_pos (by omega), show a.length - b.length - (a.length - b.length - m) = m by omega]
theorem quoF_ne (a b : List Int) {m t : Nat} (ht : t ≠ a.length - b.length - m) (hm : m ≤ a.length - b.length) : quoF a b (m + 1) t = quoF a b m t := by
  unfold quoF
  by_cases h : t + m > a.length - b.length ∧ t ≤ a.length - b.length
  · rw [if_pos h, if_pos (by omega)]
  · rw [if_neg h, if_neg (by omega)]

set_option maxRecDepth 100000 in
set_option maxHeartbeats 2000000 in
theorem impl_divided_any (A1 A2 : Option Addr) (c1 c2 : Nat) (a b : List Int) (w : World) (hA : Ints w w.heap.size A1 a) (hB : Ints w w.heap.size A2 b) (ha1 : 1 ≤ a.length) (ha2 : a.length ≤ 100) (hb1 : 1 ≤ b.length) (hb2 : b.length ≤ 100) :
    Calls Tryz.prog 101 #[.slice A1 a.length c1, .slice A2 b.length c2] w fun e w' => ∃ g1 g2, e = .returned (.tuple #[.slice (some ⟨g1, 0, none⟩) (quoI a b).length (quoI a b).length, .slice (some ⟨g2, 0, none⟩) (rstL a b).length (rstL a b).length]) ∧ Ints w' w'.heap.size (some ⟨g1, 0, none⟩) (quoI a b) ∧ Ints w' w'.heap.size (some ⟨g2, 0, none⟩) (rstL a b) ∧ Below w.heap.size w w' := by
  have HCL := Lib.hid (clone_ints A1 c1 a w hA (by omega))
  have HBI := Lib.hid hB
  have HFI := Lib.hid hA.2.1
  have hmk := fun V : World => run_make_int a.length (by omega) V
  clear hA hB
  go_enter Tryz.func101, Tryz.ntmps101
  go_wp2_with fail
  refine HCL.out.mono ?_
  rintro e w1 ⟨v1, rfl, hown, hb⟩
  obtain ⟨AR, cR, rfl⟩ := hown.form
  obtain ⟨gR, hAR, hgR, hTR⟩ := (hown.rw_ (by omega)).2 (by omega)
  have hcR : a.length ≤ cR := by
    rcases hown.2 with ⟨hv, h0⟩ | ⟨g, cap', cur, hv, hge, hh, hnc, hm, hsz, hxs⟩
    · omega
    · injection hv with q1 q2 q3; omega
  subst hAR
  have HB1 := Lib.hid hb
  have HTR := Lib.hid hTR
  have hgl := hTR.1
  have hz1 := hb.size
  clear hown hb hTR
  go_wp2_with fail
  have HTQ := Lib.hid (tab_made w1 a.length 3)
  have HTR2 := Lib.hid (HTR.out.alloc (.cells (madeCells #[.int .i64 0] a.length) 3))
  have HB2 := Lib.hid (HB1.out.alloc hz1 (.cells (madeCells #[.int .i64 0] a.length) 3))
  generalize w1.alloc (.cells (madeCells #[.int .i64 0] a.length) 3) = W at *
  obtain ⟨gQ, hgQ⟩ : ∃ g, w1.heap.size = g := ⟨_, rfl⟩
  rw [hgQ] at HTQ hgl hz1 ⊢
  clear hgQ
  have hw0 : IntKind.i64.wrap ((a.length : Int) - (b.length : Int)) = (a.length : Int) - (b.length : Int) := i64w (by omega)
  go_loopw [8] (fun i wr => ∃ m : Nat, m ≤ divM a b ∧ i = .int .i64 ((a.length : Int) - (b.length : Int) - (m : Int)) ∧ Tab wr gR a.length (divF a b m) ∧ Tab wr gQ a.length (quoF a b m) ∧ Below w.heap.size w wr) (fun i _ => (intOf i + 1).toNat)
  case atStart => exact ⟨0, Nat.zero_le _, by simp, HTR2.out, HTQ.out.congr (fun t _ => (quoF_zero a b t).symm), HB2.out⟩
  case round =>
    obtain ⟨m, hm, rfl, htr, htq, hbel⟩ := hrel
    obtain ⟨wo, rfl⟩ : ∃ wo : World, wo = wr := ⟨_, rfl⟩
    have HT1 := Lib.hid htr
    have HT2 := Lib.hid htq
    have HB := Lib.hid hbel
    have hzQ := htq.1
    clear htr htq hbel
    by_cases hlt : m < divM a b
    · have hll : b.length ≤ a.length ∧ m ≤ a.length - b.length := by unfold divM at hlt; split at hlt <;> omega
      obtain ⟨i, hi⟩ : ∃ i, a.length - b.length - m = i := ⟨_, rfl⟩
      have hie : (a.length : Int) - (b.length : Int) - (m : Int) = (i : Int) := by omega
      have hrd := HT1.out.2 (i + b.length - 1) (by omega)
      have hQA := quoF_at a b hll.2
      have HQN := Lib.hid (fun t (ht : t ≠ a.length - b.length - m) => quoF_ne a b ht hll.2)
      have HDS := Lib.hid (show divF a b (m + 1) = subF (divF a b m) b (divF a b m (a.length - b.length - m + b.length - 1)) (a.length - b.length - m) b.length from rfl)
      rw [hi] at hQA HQN HDS
      obtain ⟨x, hx⟩ : ∃ x, divF a b m (i + b.length - 1) = x := ⟨_, rfl⟩
      rw [hx] at hrd hQA HDS
      have HQA := Lib.hid hQA
      have hrc := hrd.1
      have hqf := HT2.out.frz (t := i) (by omega)
      have hqc := (HT2.out.2 i (by omega)).1
      have hi0 : (0 : Int) ≤ (i : Int) := Int.natCast_nonneg _
      have hw1 : IntKind.i64.wrap ((i : Int) + (b.length : Int)) = (i : Int) + (b.length : Int) := i64w (by omega)
      have hw2 : IntKind.i64.wrap ((i : Int) + (b.length : Int) - 1) = ((i + b.length - 1 : Nat) : Int) := by rw [i64w (by omega)]; omega
      have hn0 : (0 : Int) ≤ ((i + b.length - 1 : Nat) : Int) := Int.natCast_nonneg _
      have hnl : ((i + b.length - 1 : Nat) : Int) < (a.length : Int) := by omega
      have hil : (i : Int) < (a.length : Int) := by omega
      rw [hie]
      have HIE := Lib.hid hie
      have HI := Lib.hid hi
      clear hrd hx hi hie hQA
      go_wp2_with fail
      have HT3 := Lib.hid (HT1.out.far (p := ⟨gQ, i, none⟩) (show gR ≠ gQ by omega) (.int .i64 x))
      have HT4 := Lib.hid (HT2.out.set_ (g := quoF a b (m + 1)) i x (by omega) HQA.out (fun t _ ht => HQN.out t ht))
      have HB3 := Lib.hid (HB.out.setCell (p := ⟨gQ, i, none⟩) (show w.heap.size ≤ gQ by omega) (.int .i64 x))
      generalize divF a b m = F at *
      go_loopw [40] (fun kk wr => ∃ k : Nat, k ≤ b.length ∧ kk = .int .i64 k ∧ Tab wr gR a.length (subF F b x i k) ∧ Tab wr gQ a.length (quoF a b (m + 1)) ∧ Below w.heap.size w wr) (fun kk _ => b.length - (intOf kk).toNat)
      case atStart => exact ⟨0, Nat.zero_le _, rfl, HT3.out.congr (fun t _ => (subF_zero F b x i t).symm), HT4.out, HB3.out⟩
      case round =>
        obtain ⟨k, hk, rfl, ht1, ht2, hbl⟩ := hrel
        obtain ⟨wi, rfl⟩ : ∃ wi : World, wi = wr := ⟨_, rfl⟩
        have HU1 := Lib.hid ht1
        have HU2 := Lib.hid ht2
        have HBB := Lib.hid hbl
        by_cases hltk : k < b.length
        · obtain ⟨b2, off, rfl, hbB, hbc⟩ := HBI.out.2.2 (by omega)
          have hcb := (hbl.cell (p := ⟨b2, off + k, none⟩) hbB).trans (hbc k hltk)
          have hrk := ht1.2 (i + k) (by omega)
          have hpre := subF_pre F b x i k
          have hat := subF_at F b x i k
          obtain ⟨y, hy⟩ : ∃ y, b.getD k 0 = y := ⟨_, rfl⟩
          obtain ⟨v, hv⟩ : ∃ v, F (i + k) = v := ⟨_, rfl⟩
          rw [hy] at hcb hat
          rw [hv] at hat hpre
          rw [hpre] at hrk
          have hrc := hrk.1
          have hrf := hrk.2
          have HAT := Lib.hid (show subF F b x i (k + 1) (i + k) = IntKind.i64.wrap (v - IntKind.i64.wrap (x * y)) from hat)
          have hw3 : IntKind.i64.wrap ((i : Int) + (k : Int)) = ((i + k : Nat) : Int) := by rw [i64w (by omega)]; omega
          have hk0 : (0 : Int) ≤ ((i + k : Nat) : Int) := Int.natCast_nonneg _
          have hkl : ((i + k : Nat) : Int) < (a.length : Int) := by omega
          have hkb : (k : Int) < (b.length : Int) := by omega
          clear ht1 ht2 hbl hbc hrk hpre hat hy hv
          obtain ⟨P, hP⟩ : ∃ P, IntKind.i64.wrap (x * y) = P := ⟨_, rfl⟩
          obtain ⟨R, hR⟩ : ∃ R, IntKind.i64.wrap (v - P) = R := ⟨_, rfl⟩
          have HAT2 := Lib.hid (show subF F b x i (k + 1) (i + k) = R by rw [HAT.out, hP, hR])
          clear HAT
          go_wp2_with fail
          have HU3 := Lib.hid (HU1.out.set_ (g := subF F b x i (k + 1)) (i + k) R (by omega) HAT2.out (fun t _ ht => subF_ne F b x i k ht))
          have HU4 := Lib.hid (HU2.out.far (p := ⟨gR, i + k, none⟩) (show gQ ≠ gR by omega) (.int .i64 R))
          have HB4 := Lib.hid (HBB.out.setCell (p := ⟨gR, i + k, none⟩) hgR (.int .i64 R))
          go_roundw
          case rel => exact ⟨k + 1, by omega, by go_num, HU3.out, HU4.out, HB4.out⟩
          case measure => simp [intOf]; omega
        · have hke : k = b.length := by omega
          subst hke
          have hkb : ¬ (b.length : Int) < (b.length : Int) := by omega
          have hw3 : IntKind.i64.wrap ((i : Int) - 1) = (i : Int) - 1 := i64w (by omega)
          have HIS := Lib.hid (show (i : Int) - 1 = (a.length : Int) - (b.length : Int) - ((m + 1 : Nat) : Int) by have := HIE.out; omega)
          clear ht1 ht2 hbl
          go_wp2_with fail
          go_roundw
          case rel => exact ⟨m + 1, by omega, by rw [← HIS.out], by rw [HDS.out]; exact HU1.out, HU2.out, HBB.out⟩
          case measure => simp [intOf] <;> omega
    · have hme : m = divM a b := by omega
      subst hme
      have hneg : ¬ (0 : Int) ≤ (a.length : Int) - (b.length : Int) - (divM a b : Int) := by unfold divM; split <;> omega
      have hfa := HFI.out
      have hq := HT2.out.intsT (by unfold maxLen; omega) (fun t _ => quoF_fits a b hfa (divM a b) t) 0
      have hr := HT1.out.intsT (by unfold maxLen; omega) (fun t _ => divF_fits a b hfa (divM a b) t) 0
      have HE1 := Lib.hid (impl_ended_any gQ 0 a.length (quoF a b (divM a b)) a.length wo wo.heap.size hq (by omega) (Nat.le_refl _))
      have HE2 := Lib.hid (impl_ended_any gR 0 cR (divF a b (divM a b)) a.length wo wo.heap.size hr (by omega) hcR)
      have HQL := Lib.hid (show quoI a b = (lstF (quoF a b (divM a b)) a.length).take (trimN (quoF a b (divM a b)) a.length) from (lstF_take _ (trimN_le _ _)).symm)
      have HRL := Lib.hid (show rstL a b = (lstF (divF a b (divM a b)) a.length).take (trimN (divF a b (divM a b)) a.length) from (lstF_take _ (trimN_le _ _)).symm)
      have HQN := Lib.hid (show (quoI a b).length = trimN (quoF a b (divM a b)) a.length by unfold quoI endF; exact lstF_len _ _)
      have HRN := Lib.hid (show (rstL a b).length = trimN (divF a b (divM a b)) a.length by unfold rstL endF; exact lstF_len _ _)
      have HQI := Lib.hid hq
      have HRI := Lib.hid hr
      clear hq hr hfa
      generalize trimN (quoF a b (divM a b)) a.length = tq at *
      generalize trimN (divF a b (divM a b)) a.length = tr at *
      go_wp2_with fail
      refine HE1.out.mono ?_
      rintro e w2 ⟨rfl, rfl⟩
      go_wp2_with fail
      refine HE2.out.mono ?_
      rintro e w3 ⟨rfl, rfl⟩
      go_wp2_with fail
      refine bodyPost_ret (v := .tuple #[.slice (some ⟨gQ, 0, none⟩) tq tq, .slice (some ⟨gR, 0, none⟩) tr tr]) (by simp [results, Tryz.results101, go_sem]) rfl ?_
      exact ⟨gQ, gR, by rw [HQN.out, HRN.out], by rw [HQL.out]; exact HQI.out.takeT _, by rw [HRL.out]; exact HRI.out.takeT _, HB.out⟩

end Go.Proofs.YtjoeglekcnaebaaGreatDoor

namespace Go.Proofs.YtjoeglekcnaebaaGreatDoor
open Go.RowKit
set_option linter.unusedVariables false
set_option linter.unusedSimpArgs false

theorem quoI_fits {a b : List Int} (h : ∀ x ∈ a, Fits x) : ∀ x ∈ quoI a b, Fits x := fun x hx => by
  unfold quoI endF lstF at hx
  rw [List.mem_map] at hx
  obtain ⟨t, _, rfl⟩ := hx
  exact quoF_fits a b h _ _
theorem oneF_fits (n t : Nat) : Fits (oneF n t) := by unfold oneF Fits; split <;> (try split) <;> omega

def RetP (w : World) (L : List Int) (e : Ending) (w' : World) : Prop := ∃ g c, e = .returned (.slice (some ⟨g, 0, none⟩) L.length c) ∧ Ints w' w'.heap.size (some ⟨g, 0, none⟩) L ∧ Below w.heap.size w w'

set_option maxRecDepth 100000 in
set_option maxHeartbeats 2000000 in
theorem impl_cyclotomic_any : ∀ (f n : Nat) (w : World), 1 ≤ n → n ≤ 24 → okC f n = true → Calls Tryz.prog 103 #[.int .i64 n] w (RetP w (cycI f n)) := by
  intro f
  induction f with
  | zero => intro n w _ _ h; cases h
  | succ f ih =>
    intro n w hn1 hn2 ho
    have hon : okG (lenC f) (okC f) n n = true := ho
    have HIH := Lib.hid (fun n w h1 h2 h3 => ih n w h1 h2 h3)
    have HST := Lib.hid (fun d (hd : d + 1 ≤ n) (h : 1 ≤ d ∧ n % d = 0) => cyc_stage f n d (okG_le _ _ _ hon hd) hn1 h)
    have HGS := Lib.hid (fun d (hd : d ≤ n) => show 1 ≤ (cycG quoI (cycI f) n d).length ∧ (cycG quoI (cycI f) n d).length ≤ n + 1 by
      obtain ⟨a, b, c⟩ := cycG_same f n hn1 d (okG_le _ _ _ hon hd)
      rw [a]
      exact ⟨c.1, by rw [b]; exact lenG_le _ _ _ _ (okG_le _ _ _ hon hd)⟩)
    have HCS := Lib.hid (fun d (h1 : 1 ≤ d) (h : okC f d = true) => show 1 ≤ (cycI f d).length ∧ (cycI f d).length ≤ d + 1 by
      obtain ⟨a, b, c⟩ := cyc_same f d h1 h
      rw [a]
      exact ⟨c.1, by rw [b]; exact lenC_le f d h⟩)
    have HGN := Lib.hid (show cycI (f + 1) n = cycG quoI (cycI f) n n from rfl)
    have HG1 := Lib.hid (show cycG quoI (cycI f) n 1 = lstF (oneF n) (n + 1) by
      show (if 1 ≤ 0 ∧ n % 0 = 0 then _ else _) = _
      rw [if_neg (by omega)]; rfl)
    have HGD := Lib.hid (fun d => show cycG quoI (cycI f) n (d + 1) = if 1 ≤ d ∧ n % d = 0 then quoI (cycG quoI (cycI f) n d) (cycI f d) else cycG quoI (cycI f) n d from rfl)
    obtain ⟨N, hN⟩ : ∃ N, n + 1 = N := ⟨_, rfl⟩
    rw [hN] at HGS HG1
    have hmk := fun V : World => run_make_int N (by omega) V
    have hw1 : IntKind.i64.wrap ((n : Int) + 1) = (N : Int) := by rw [i64w (by omega)]; omega
    have HT0 := Lib.hid (tab_made w N 3)
    have HB0 := Lib.hid ((Below.refl w.heap.size w).alloc (Nat.le_refl _) (.cells (madeCells #[.int .i64 0] N) 3))
    have HT1 := Lib.hid (HT0.out.set_ (g := fun t => if t = 0 then -1 else 0) 0 (-1) (by omega) rfl (fun t _ ht => if_neg ht))
    have HT2 := Lib.hid (HT1.out.set_ (g := oneF n) n 1 (by omega) (by unfold oneF; rw [if_neg (by omega), if_pos rfl]) (fun t _ ht => by unfold oneF; rw [if_neg ht]))
    have HB2 := Lib.hid ((HB0.out.setCell (p := ⟨w.heap.size, 0, none⟩) (Nat.le_refl _) (.int .i64 (-1))).setCell (p := ⟨w.heap.size, n, none⟩) (Nat.le_refl _) (.int .i64 1))
    have hc0 := (HT0.out.2 0 (by omega)).1
    have hcn := (HT0.out.2 n (by omega)).1
    have hf0 := HT0.out.frz (t := 0) (by omega)
    have hfn := HT0.out.frz (t := n) (by omega)
    have hcn1 : ((w.alloc (.cells (madeCells #[.int .i64 0] N) 3)).setCell ⟨w.heap.size, 0, none⟩ (.int .i64 (-1))).cell? ⟨w.heap.size, n, none⟩ = some (.int .i64 0) := HT1.out.get (t := n) (by omega) (if_neg (by omega))
    have hfn1 := HT1.out.frz (t := n) (by omega)
    have hn0 : (0 : Int) ≤ (n : Int) := Int.natCast_nonneg _
    have hnl : (n : Int) < (N : Int) := by omega
    have hz0 : (0 : Int) < (N : Int) := by omega
    have HN := Lib.hid hN
    have hN25 : N ≤ 25 := by omega
    have hn00 : (n = 0) = False := eq_false (by omega)
    have hn01 : (0 = n) = False := eq_false (by omega)
    clear ih ho hon hN
    go_enter Tryz.func103, Tryz.ntmps103
    go_upto_region 2 with fail
    generalize w.alloc (.cells (madeCells #[.int .i64 0] N) 3) = W at *
    go_wp2_with fail
    go_loopw [3, 4] (fun so i wr => ∃ (d g c : Nat), 1 ≤ d ∧ d ≤ n ∧ i = .int .i64 d ∧ so = .slice (some ⟨g, 0, none⟩) (cycG quoI (cycI f) n d).length c ∧ Ints wr wr.heap.size (some ⟨g, 0, none⟩) (cycG quoI (cycI f) n d) ∧ Below w.heap.size w wr) (fun _ i _ => n - (intOf i).toNat)
    case atStart =>
      refine ⟨1, w.heap.size, N, Nat.le_refl _, hn1, rfl, ?_, ?_, HB2.out⟩
      · rw [HG1.out, lstF_len]
      · rw [HG1.out]
        exact HT2.out.intsT (by unfold maxLen; omega) (fun t _ => oneF_fits n t) 0
    case round =>
      obtain ⟨d, g, c, hd1, hd, rfl, rfl, hin, hbel⟩ := hrel
      obtain ⟨wo, rfl⟩ : ∃ wo : World, wo = wr := ⟨_, rfl⟩
      have HI := Lib.hid hin
      have HB := Lib.hid hbel
      clear hin hbel hc0 hcn hf0 hfn hcn1 hfn1
      by_cases hlt : d < n
      · have hdi : (d : Int) < (n : Int) := by omega
        have hnz : ((d : Int) = 0) = False := eq_false (by omega)
        have hnz2 : (d = 0) = False := eq_false (by omega)
        have hrm : (n : Int).tmod (d : Int) = ((n % d : Nat) : Int) := by rw [Int.tmod_eq_emod_of_nonneg (by omega)]; omega
        have hml : n % d < d := Nat.mod_lt _ (by omega)
        have hw2 : IntKind.i64.wrap ((n % d : Nat) : Int) = ((n % d : Nat) : Int) := i64w (by omega)
        have hgd := HGD.out d
        have hgs := HGS.out d (by omega)
        by_cases hm : n % d = 0
        · rw [if_pos ⟨hd1, hm⟩] at hgd
          have HG := Lib.hid hgd
          have hst := HST.out d (by omega) ⟨hd1, hm⟩
          have HCY := Lib.hid (fun V => HIH.out d V hd1 (by omega) hst.1)
          have hcs := HCS.out d hd1 hst.1
          have HDV := Lib.hid (fun A1 A2 c1 c2 V h1 h2 => impl_divided_any A1 A2 c1 c2 (cycG quoI (cycI f) n d) (cycI f d) V h1 h2 hgs.1 (by omega) hcs.1 (by omega))
          rw [hm] at hrm hw2
          clear hgd hst hcs hgs
          generalize cycG quoI (cycI f) n d = X at *
          generalize cycI f d = Y at *
          go_wp2_with fail
          refine (HCY.out _).mono ?_
          rintro e w2 ⟨g2, c2, rfl, hi2, hb2⟩
          have HI2 := Lib.hid hi2
          have HX2 := Lib.hid (HI.out.lift hb2)
          have HB2 := Lib.hid (HB.out.trans (hb2.mono HB.out.size))
          clear hi2 hb2
          go_wp2_with fail
          refine (HDV.out _ _ _ _ _ HX2.out HI2.out).mono ?_
          rintro e w3 ⟨g3, g4, rfl, hi3, hi4, hb3⟩
          have HI3 := Lib.hid hi3
          have HB3 := Lib.hid (HB2.out.trans (hb3.mono HB2.out.size))
          clear hi3 hi4 hb3
          generalize quoI X Y = Q at *
          go_wp2_with fail
          go_roundw
          case rel => exact ⟨d + 1, g3, Q.length, by omega, by omega, by go_num, by rw [HG.out], by rw [HG.out]; exact HI3.out, HB3.out⟩
          case measure => simp [intOf]; omega
        · rw [if_neg (fun h => hm h.2)] at hgd
          have HG := Lib.hid hgd
          have hmz : ((n % d : Nat) : Int) ≠ 0 := by omega
          generalize n % d = m at *
          have hme : ((m : Int) == 0) = false := beq_eq_false_iff_ne.2 hmz
          clear hgd hgs
          generalize cycG quoI (cycI f) n d = X at *
          go_wp2_with fail
          go_roundw
          case rel => exact ⟨d + 1, g, c, by omega, by omega, by go_num, by rw [HG.out], by rw [HG.out]; exact HI.out, HB.out⟩
          case measure => simp [intOf]; omega
      · have hde : d = n := by omega
        subst hde
        have hdi : ¬ (d : Int) < (d : Int) := by omega
        generalize cycG quoI (cycI f) d d = X at *
        go_wp2_with fail
        go_ret
        rw [HGN.out]
        exact ⟨g, c, rfl, HI.out, HB.out⟩

end Go.Proofs.YtjoeglekcnaebaaGreatDoor

