/-
  IsPlayable, FewestHands, HandAt, HandBars of both.
-/
import Derived.Test.YthfofjbegkjdmaaSpan
namespace Go.Proofs.Ythfofjbegkjdmaa
open Go.RowKit
set_option linter.unusedVariables false
set_option linter.unusedSimpArgs false

noncomputable def playB (n : Int) (bs : List Int) (h gap : Int) : Bool := decide (1 ≤ gap) && decide (gap ≤ leastSpan n bs h)

set_option maxHeartbeats 400000 in
theorem impl_IsPlayable_any (n : Int) (A : Option Addr) (cap : Nat) (bs : List Int) (h gap : Int) (w : World) (hn : Fits n) (hA : Ints w w.heap.size A bs) :
    Calls Try.prog 29 #[.agg #[.int .i64 n, .slice A bs.length cap], .int .i64 h, .int .i64 gap] w fun e w' => e = .returned (.bool (playB n bs h gap)) ∧ Below w.heap.size w w' := by
  have HA := Lib.hid hA
  have HN := Lib.hid hn
  clear hA hn
  by_cases h1 : 1 ≤ gap
  · by_cases h2 : gap ≤ leastSpan n bs h
    · have HE := Lib.hid (show playB n bs h gap = true by simp [playB, h1, h2])
      go_enter Try.func29, Try.ntmps29
      go_wp2_with (go_at_call 27; refine (impl_LeastSpan_any n A cap bs h _ HN.out (HA.out.lift (by repeat (first | exact Below.refl _ _ | assumption | (refine Below.alloc ?_ (by first | exact Nat.le_refl _ | (simp; done) | (simp; omega) | omega) _) | (refine Below.drew ?_) | (refine Below.setCell ?_ (by first | exact Nat.le_refl _ | (simp; done) | (simp; omega) | omega) _))))).mono ?_; rintro e w1 ⟨rfl, hb⟩)
      go_ret
      exact ⟨ret_bool HE.out.symm, ((Below.refl w.heap.size w).alloc (by first | exact Nat.le_refl _ | (simp; done) | (simp; omega) | omega) _).trans (hb.mono (by first | exact Nat.le_refl _ | (simp; done) | (simp; omega) | omega))⟩
    · have HE := Lib.hid (show playB n bs h gap = false by simp [playB, h1, h2])
      go_enter Try.func29, Try.ntmps29
      go_wp2_with (go_at_call 27; refine (impl_LeastSpan_any n A cap bs h _ HN.out (HA.out.lift (by repeat (first | exact Below.refl _ _ | assumption | (refine Below.alloc ?_ (by first | exact Nat.le_refl _ | (simp; done) | (simp; omega) | omega) _) | (refine Below.drew ?_) | (refine Below.setCell ?_ (by first | exact Nat.le_refl _ | (simp; done) | (simp; omega) | omega) _))))).mono ?_; rintro e w1 ⟨rfl, hb⟩)
      go_ret
      exact ⟨ret_bool ((decide_eq_false (by omega)).trans HE.out.symm), ((Below.refl w.heap.size w).alloc (by first | exact Nat.le_refl _ | (simp; done) | (simp; omega) | omega) _).trans (hb.mono (by first | exact Nat.le_refl _ | (simp; done) | (simp; omega) | omega))⟩
  · have HE := Lib.hid (show playB n bs h gap = false by simp [playB, h1])
    go_enter Try.func29, Try.ntmps29
    go_wp2_with (go_at_call 27; refine (impl_LeastSpan_any n A cap bs h _ HN.out (HA.out.lift (by repeat (first | exact Below.refl _ _ | assumption | (refine Below.alloc ?_ (by first | exact Nat.le_refl _ | (simp; done) | (simp; omega) | omega) _) | (refine Below.drew ?_) | (refine Below.setCell ?_ (by first | exact Nat.le_refl _ | (simp; done) | (simp; omega) | omega) _))))).mono ?_; rintro e w1 ⟨rfl, hb⟩)
    go_ret
    exact ⟨by rw [HE.out]; rfl, (by repeat (first | exact Below.refl _ _ | assumption | (refine Below.alloc ?_ (by first | exact Nat.le_refl _ | (simp; done) | (simp; omega) | omega) _) | (refine Below.drew ?_) | (refine Below.setCell ?_ (by first | exact Nat.le_refl _ | (simp; done) | (simp; omega) | omega) _)))⟩

noncomputable def handAt (n : Int) (bs : List Int) (h i : Int) : Int := if leastSpan n bs h = 0 ∨ ¬ (0 ≤ i ∧ i ≤ 1000000) then -1 else i % h
theorem leastSpan_h {n : Int} {bs : List Int} {h : Int} (hne : leastSpan n bs h ≠ 0) : 1 ≤ h ∧ h ≤ 24 := by
  unfold leastSpan at hne
  split at hne
  · exact absurd rfl hne
  · omega

set_option maxHeartbeats 400000 in
theorem impl_HandAt_any (n : Int) (A : Option Addr) (cap : Nat) (bs : List Int) (h i : Int) (w : World) (hn : Fits n) (hA : Ints w w.heap.size A bs) :
    Calls Try.prog 30 #[.agg #[.int .i64 n, .slice A bs.length cap], .int .i64 h, .int .i64 i] w fun e w' => e = .returned (.int .i64 (handAt n bs h i)) ∧ Below w.heap.size w w' := by
  have HA := Lib.hid hA
  have HN := Lib.hid hn
  clear hA hn
  by_cases h0 : leastSpan n bs h = 0
  · have HE := Lib.hid (show handAt n bs h i = -1 by unfold handAt; rw [if_pos (.inl h0)])
    have hz : (leastSpan n bs h == 0) = true := beq_iff_eq.2 h0
    clear h0
    go_enter Try.func30, Try.ntmps30
    go_wp2_with (first
      | (go_at_call 27; refine (impl_LeastSpan_any n A cap bs h _ HN.out (HA.out.lift (by repeat (first | exact Below.refl _ _ | assumption | (refine Below.alloc ?_ (by first | exact Nat.le_refl _ | (simp; done) | (simp; omega) | omega) _) | (refine Below.drew ?_) | (refine Below.setCell ?_ (by first | exact Nat.le_refl _ | (simp; done) | (simp; omega) | omega) _))))).mono ?_; rintro e w1 ⟨rfl, hb⟩; have hb' := ((Below.refl w.heap.size w).alloc (by first | exact Nat.le_refl _ | (simp; done) | (simp; omega) | omega) _).trans (hb.mono (by first | exact Nat.le_refl _ | (simp; done) | (simp; omega) | omega)))
      | (go_at_call 36; refine (within_any _ _ _ _).mono ?_; rintro e w' ⟨rfl, rfl⟩))
    go_ret
    exact ⟨ret_int HE.out.symm, hb'⟩
  · have hz : (leastSpan n bs h == 0) = false := beq_eq_false_iff_ne.2 h0
    obtain ⟨h1, h24⟩ := leastSpan_h h0
    by_cases hi : 0 ≤ i ∧ i ≤ 1000000
    · have HE := Lib.hid (show handAt n bs h i = i % h by unfold handAt; rw [if_neg (by omega)])
      have hin := inB_true hi
      obtain ⟨hi0, hi1⟩ := hi
      clear h0
      go_enter Try.func30, Try.ntmps30
      go_wp2_with (first
        | (go_at_call 27; refine (impl_LeastSpan_any n A cap bs h _ HN.out (HA.out.lift (by repeat (first | exact Below.refl _ _ | assumption | (refine Below.alloc ?_ (by first | exact Nat.le_refl _ | (simp; done) | (simp; omega) | omega) _) | (refine Below.drew ?_) | (refine Below.setCell ?_ (by first | exact Nat.le_refl _ | (simp; done) | (simp; omega) | omega) _))))).mono ?_; rintro e w1 ⟨rfl, hb⟩; have hb' := ((Below.refl w.heap.size w).alloc (by first | exact Nat.le_refl _ | (simp; done) | (simp; omega) | omega) _).trans (hb.mono (by first | exact Nat.le_refl _ | (simp; done) | (simp; omega) | omega)))
        | (go_at_call 36; refine (within_any _ _ _ _).mono ?_; rintro e w' ⟨rfl, rfl⟩))
      go_ret
      exact ⟨ret_int HE.out.symm, hb'⟩
    · have HE := Lib.hid (show handAt n bs h i = -1 by unfold handAt; rw [if_pos (.inr hi)])
      have hin := inB_false hi
      clear h0 hi
      go_enter Try.func30, Try.ntmps30
      go_wp2_with (first
        | (go_at_call 27; refine (impl_LeastSpan_any n A cap bs h _ HN.out (HA.out.lift (by repeat (first | exact Below.refl _ _ | assumption | (refine Below.alloc ?_ (by first | exact Nat.le_refl _ | (simp; done) | (simp; omega) | omega) _) | (refine Below.drew ?_) | (refine Below.setCell ?_ (by first | exact Nat.le_refl _ | (simp; done) | (simp; omega) | omega) _))))).mono ?_; rintro e w1 ⟨rfl, hb⟩; have hb' := ((Below.refl w.heap.size w).alloc (by first | exact Nat.le_refl _ | (simp; done) | (simp; omega) | omega) _).trans (hb.mono (by first | exact Nat.le_refl _ | (simp; done) | (simp; omega) | omega)))
        | (go_at_call 36; refine (within_any _ _ _ _).mono ?_; rintro e w' ⟨rfl, rfl⟩))
      go_ret
      exact ⟨ret_int HE.out.symm, hb'⟩

def fewFrom (p : Int → Bool) : Nat → Int → Int
  | 0, _ => 0
  | f + 1, h => if p h then h else fewFrom p f (h + 1)
theorem few_no {p : Int → Bool} {f : Nat} {h : Int} (hp : p h = false) : fewFrom p (f + 1) h = fewFrom p f (h + 1) := by
  show (if _ then _ else _) = _; rw [if_neg (by rw [hp]; decide)]
theorem few_yes {p : Int → Bool} {f : Nat} {h : Int} (hp : p h = true) : fewFrom p (f + 1) h = h := by
  show (if _ then _ else _) = _; rw [if_pos hp]
noncomputable def fewest (n : Int) (bs : List Int) (gap : Int) : Int := fewFrom (fun h => playB n bs h gap) 24 1

set_option maxHeartbeats 400000 in
theorem impl_FewestHands_any (n : Int) (A : Option Addr) (cap : Nat) (bs : List Int) (gap : Int) (w : World) (hn : Fits n) (hA : Ints w w.heap.size A bs) :
    Calls Try.prog 22 #[.agg #[.int .i64 n, .slice A bs.length cap], .int .i64 gap] w fun e w' => e = .returned (.int .i64 (fewest n bs gap)) ∧ Below w.heap.size w w' := by
  have HA := Lib.hid hA
  have HN := Lib.hid hn
  clear hA hn
  go_enter Try.func22, Try.ntmps22
  go_wp2_with fail
  go_loopw [5] (fun h wr => ∃ k : Nat, k ≤ 24 ∧ h = .int .i64 (1 + k) ∧ fewFrom (fun h => playB n bs h gap) (24 - k) (1 + k) = fewest n bs gap ∧ Below (w.heap.size + 1) (w.alloc (.cells #[.int .i64 n, .slice A bs.length cap] 29)) wr) (fun h _ => 25 - (intOf h).toNat)
  case atStart => exact ⟨0, Nat.zero_le _, rfl, rfl, Below.refl _ _⟩
  case round =>
    obtain ⟨k, hk, rfl, hfew, hbel⟩ := hrel
    have hW := ((Below.refl w.heap.size w).alloc (Nat.le_refl _) _).trans (hbel.mono (by omega))
    obtain ⟨hc0, hc1⟩ := box2 hbel
    have hz := hbel.size
    simp only [World.size_alloc] at hz
    have HFW := Lib.hid hfew
    clear hfew
    by_cases hlt : k < 24
    · cases hp : playB n bs (1 + k) gap
      · have HF2 := Lib.hid (few_no (p := fun h => playB n bs h gap) (f := 24 - (k + 1)) (h := 1 + k) hp)
        go_wp2_with fail
        refine (impl_IsPlayable_any n A cap bs _ gap _ HN.out (HA.out.lift hW)).mono ?_
        rintro e w1 ⟨rfl, hb1⟩
        go_wp2_with fail
        go_roundw
        case rel => exact ⟨k + 1, by omega, by go_num, by rw [← HFW.out, show 24 - k = 24 - (k + 1) + 1 by omega, HF2.out]; congr 1 <;> omega, hbel.trans (hb1.mono hz)⟩
        case measure => simp [intOf]; omega
      · have HF2 := Lib.hid (few_yes (p := fun h => playB n bs h gap) (f := 24 - (k + 1)) (h := 1 + k) hp)
        go_wp2_with fail
        refine (impl_IsPlayable_any n A cap bs _ gap _ HN.out (HA.out.lift hW)).mono ?_
        rintro e w1 ⟨rfl, hb1⟩
        go_wp2_with fail
        go_ret
        exact ⟨ret_int (by rw [← HFW.out, show 24 - k = 24 - (k + 1) + 1 by omega, HF2.out]), hW.trans (hb1.mono hW.size)⟩
    · have hke : k = 24 := by omega
      subst hke
      go_wp2_with fail
      go_ret
      exact ⟨ret_int (by rw [← HFW.out]; rfl), hW⟩

end Go.Proofs.Ythfofjbegkjdmaa
