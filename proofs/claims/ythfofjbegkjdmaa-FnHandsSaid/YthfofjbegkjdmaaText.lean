/-
  The texts of a rhythm: the program's text of the bar, natural and alternate hands; the reference's.
-/
import Derived.Test.YthfofjbegkjdmaaSrok
import Derived.Test.YthfofjbegkjdmaaWin
import Derived.Test.YthfofjbegkjdmaaBRep
namespace Go.Proofs.Ythfofjbegkjdmaa
open Go.RowKit
set_option linter.unusedVariables false
set_option linter.unusedSimpArgs false

theorem Ints.drew2_ {w : World} {B : Nat} {A : Option Addr} {xs : List Int} (h : Ints w B A xs) : Ints w.drew B A xs := h

/-- A character for each pulse: F on a beat. -/
def txF (bs : List Int) (F : Nat → UInt8) (t : Nat) : UInt8 := if hasB bs t then F t else 46
def textF (N : Nat) (bs : List Int) (F : Nat → UInt8) : List UInt8 := tabL N (txF bs F)
theorem textF_len (N : Nat) (bs : List Int) (F : Nat → UInt8) : (textF N bs F).length = N := tabL_len _ _
theorem tabL_succ (N : Nat) (f : Nat → UInt8) : tabL (N + 1) f = tabL N f ++ [f N] := by simp [tabL, List.range_succ]
theorem textF_win (N : Nat) (bs : List Int) : textF N bs (fun _ => 120) = winL N bs 0 N := by
  unfold textF tabL winL
  refine List.map_congr_left fun t ht => ?_
  have h : t < N := List.mem_range.1 ht
  unfold txF
  rw [Nat.zero_add, ← Int.natCast_emod, Nat.mod_eq_of_lt h]

theorem hasB_take (bs : List Int) (k : Nat) (hk : k < bs.length) (t x : Int) (hx : bs.getD k 0 = x) : hasB (bs.take (k + 1)) t = (hasB (bs.take k) t || decide (t = x)) := by
  unfold hasB
  rw [List.take_succ_eq_append_getElem hk, Bool.eq_iff_iff, Bool.or_eq_true, decide_eq_true_eq, decide_eq_true_eq, decide_eq_true_eq, List.mem_append, List.mem_singleton]
  have : bs[k] = x := by rw [← hx, List.getD_eq_getElem?_getD, List.getElem?_eq_getElem hk]; rfl
  rw [this]
theorem txF_step {bs : List Int} {F : Nat → UInt8} {k j : Nat} (hk : k < bs.length) (hx : bs.getD k 0 = (j : Int)) (t : Nat) : (if t = j then F j else txF (bs.take k) F t) = txF (bs.take (k + 1)) F t := by
  unfold txF
  rw [hasB_take bs k hk t j hx]
  by_cases h : t = j
  · subst h; simp
  · have : ¬ (t : Int) = (j : Int) := by omega
    simp [h, this]

/-- How many beats lie before a pulse. -/
def cntB (bs : List Int) : Nat → Nat
  | 0 => 0
  | t + 1 => cntB bs t + if hasB bs t then 1 else 0
theorem cntB_le (bs : List Int) : ∀ t, cntB bs t ≤ t
  | 0 => Nat.le_refl _
  | t + 1 => by have := cntB_le bs t; unfold cntB; split <;> omega
theorem cntB_at {n : Int} {bs : List Int} (hok : RhOk n bs) : ∀ (t j : Nat), j ≤ bs.length → (∀ i, i < j → bs.getD i 0 < t) → (∀ i, j ≤ i → i < bs.length → (t : Int) ≤ bs.getD i 0) → cntB bs t = j
  | 0, j, hj, h1, _ => by
    have : j = 0 := by
      apply Classical.byContradiction
      intro h
      have h2 := h1 0 (by omega)
      have h3 := hok.2.2.1 0 (by omega)
      omega
    subst this
    rfl
  | t + 1, j, hj, h1, h2 => by
    unfold cntB
    cases hb : hasB bs t
    · have hno : ∀ i, i < bs.length → bs.getD i 0 ≠ t := fun i hi e => by rw [hasB_yes hi e] at hb; cases hb
      rw [cntB_at hok t j hj (fun i hi => by have := h1 i hi; have := hno i (by omega); omega) (fun i hi1 hi2 => by have := h2 i hi1 hi2; omega)]
      rfl
    · unfold hasB at hb
      rw [decide_eq_true_eq] at hb
      obtain ⟨i, hi, he⟩ := List.getElem_of_mem hb
      have hg : bs.getD i 0 = t := by rw [List.getD_eq_getElem?_getD, List.getElem?_eq_getElem hi]; exact he
      have hij : i < j := by
        apply Classical.byContradiction
        intro hh
        have := h2 i (by omega) hi
        omega
      have hmono : ∀ d a, a + d < bs.length → 0 < d → bs.getD a 0 < bs.getD (a + d) 0 := by
        intro d
        induction d with
        | zero => intro a _ h; omega
        | succ d ih =>
          intro a ha _
          by_cases hd : d = 0
          · subst hd; exact hok.2.2.2 a (by omega)
          · have h3 := ih a (by omega) (by omega)
            have h4 := hok.2.2.2 (a + d) (by omega)
            rw [show a + d + 1 = a + (d + 1) by omega] at h4
            omega
      have hje : i = j - 1 := by
        apply Classical.byContradiction
        intro hh
        have h3 := hmono (j - 1 - i) i (by omega) (by omega)
        rw [show i + (j - 1 - i) = j - 1 by omega] at h3
        have h4 := h1 (j - 1) (by omega)
        omega
      subst hje
      rw [cntB_at hok t (j - 1) (by omega) (fun i hi => by
          have h3 := hmono (j - 1 - i) i (by omega) (by omega)
          rw [show i + (j - 1 - i) = j - 1 by omega] at h3
          omega) (fun i hi1 hi2 => by
          by_cases e : i = j - 1
          · subst e; omega
          · have h3 := hmono (i - (j - 1)) (j - 1) (by omega) (by omega)
            rw [show j - 1 + (i - (j - 1)) = i by omega] at h3
            omega)]
      simp
      omega
theorem cntB_beat {n : Int} {bs : List Int} (hok : RhOk n bs) {i j : Nat} (hi : i < bs.length) (hx : bs.getD i 0 = (j : Int)) : cntB bs j = i := by
  have hmono : ∀ d a, a + d < bs.length → 0 < d → bs.getD a 0 < bs.getD (a + d) 0 := by
    intro d
    induction d with
    | zero => intro a _ h; omega
    | succ d ih =>
      intro a ha _
      by_cases hd : d = 0
      · subst hd; exact hok.2.2.2 a (by omega)
      · have h3 := ih a (by omega) (by omega)
        have h4 := hok.2.2.2 (a + d) (by omega)
        rw [show a + d + 1 = a + (d + 1) by omega] at h4
        omega
  refine cntB_at hok j i (by omega) (fun a ha => ?_) (fun a ha1 ha2 => ?_)
  · have h3 := hmono (i - a) a (by omega) (by omega)
    rw [show a + (i - a) = i by omega] at h3
    omega
  · by_cases e : a = i
    · subst e; omega
    · have h3 := hmono (a - i) i (by omega) (by omega)
      rw [show i + (a - i) = a by omega] at h3
      omega

def natF (t : Nat) : UInt8 := if t % 2 = 0 then 82 else 76
def altF (bs : List Int) (t : Nat) : UInt8 := if cntB bs t % 2 = 0 then 82 else 76

end Go.Proofs.Ythfofjbegkjdmaa
