/-
  slices.Index, Contains, IndexFunc, ContainsFunc on ints; remainder, has, allWithin of the program.
-/
import Derived.Test.YtjoeglekcnaebaaDoorWin
import Derived.Test.YtjoeglekcnaebaaDoorOwn
import Derived.Test.YtjoeglekcnaebaaDoorRem
namespace Go.Proofs.YtjoeglekcnaebaaDoor
open Go.RowKit
set_option linter.unusedVariables false
set_option linter.unusedSimpArgs false

def allB (xs : List Int) (lo hi : Int) : Bool := xs.all (fun x => inB x lo hi)
theorem allB_no {xs : List Int} {lo hi : Int} {i : Nat} (hi' : i < xs.length) (h : inB (xs.getD i 0) lo hi = false) : allB xs lo hi = false := by
  cases ha : allB xs lo hi
  · rfl
  · exfalso
    unfold allB at ha
    rw [List.all_eq_true] at ha
    rw [List.getD_eq_getElem?_getD, List.getElem?_eq_getElem hi'] at h
    rw [show ((some xs[i]).getD 0 : Int) = xs[i] from rfl, ha _ (List.getElem_mem hi')] at h
    cases h
theorem allB_yes {xs : List Int} {lo hi : Int} (h : ∀ i, i < xs.length → inB (xs.getD i 0) lo hi = true) : allB xs lo hi = true := by
  unfold allB
  rw [List.all_eq_true]
  intro x hx
  obtain ⟨i, hi, rfl⟩ := List.getElem_of_mem hx
  have := h i hi
  rwa [List.getD_eq_getElem?_getD, List.getElem?_eq_getElem hi] at this

set_option maxHeartbeats 400000 in
theorem impl_allWithin1_any (x lo hi : Int) (b c : Nat) (w : World) (hb : w.cell? ⟨b, 0, none⟩ = some (.int .i64 lo)) (hc : w.cell? ⟨c, 0, none⟩ = some (.int .i64 hi)) :
    Calls Tryd.prog 52 #[.int .i64 x, .pointer (some ⟨b, 0, none⟩), .pointer (some ⟨c, 0, none⟩)] w fun e w' => e = .returned (.bool (!inB x lo hi)) ∧ Below w.heap.size w w' := by
  go_enter Tryd.func52, Tryd.ntmps52
  go_wp2_with fail
  try go_quiet (first | (go_at_call 41; exact Calls.quiet_of_left (within_any x lo hi _)))
  go_wp2_with (go_at_call 41; refine (within_any _ _ _ _).mono ?_; rintro e w' ⟨rfl, rfl⟩)
  go_ret
  exact ⟨rfl, by first | exact Below.refl _ _ | exact Below.drewN_ (Below.refl _ _) _⟩

set_option maxHeartbeats 400000 in
theorem slices_IndexFunc_any (A : Option Addr) (cap : Nat) (xs : List Int) (lo hi : Int) (b1 b2 : Nat) (w : World) (hA : Ints w w.heap.size A xs) (h1 : b1 < w.heap.size) (h2 : b2 < w.heap.size)
    (hb : w.cell? ⟨b1, 0, none⟩ = some (.int .i64 lo)) (hc : w.cell? ⟨b2, 0, none⟩ = some (.int .i64 hi)) :
    Calls Tryd.prog 61 #[.slice A xs.length cap, .func (.func 52) #[] #[.pointer (some ⟨b1, 0, none⟩), .pointer (some ⟨b2, 0, none⟩)]] w fun e w' => (∃ r : Int, e = .returned (.int .i64 r) ∧ (!allB xs lo hi) = decide (0 ≤ r)) ∧ Below w.heap.size w w' := by
  obtain ⟨hlen, hfit, hcells⟩ := hA
  unfold maxLen at hlen
  have HC := Lib.hid hcells
  have HCL := Lib.hid (fun (x : Int) (V : World) (hV : Below w.heap.size w V) => impl_allWithin1_any x lo hi b1 b2 V ((hV.cell (p := ⟨b1, 0, none⟩) h1).trans hb) ((hV.cell (p := ⟨b2, 0, none⟩) h2).trans hc))
  clear hfit hcells
  go_enter Tryd.func61, Tryd.ntmps61
  go_wp2
  go_loopw [5, 8] (fun _ i wr => ∃ k : Nat, k ≤ xs.length ∧ i = .int .i64 k ∧ Below w.heap.size w wr ∧ ∀ j, j < k → inB (xs.getD j 0) lo hi = true) (fun _ i _ => xs.length - (intOf i).toNat)
  case atStart => exact ⟨0, Nat.zero_le _, rfl, Below.refl _ _, fun j h => by omega⟩
  case round =>
    obtain ⟨k, hk, rfl, hbel, hno⟩ := hrel
    have HNO := Lib.hid hno
    clear hno
    by_cases hlt : k < xs.length
    · obtain ⟨b, off, rfl, hB, hc⟩ := HC.out (by omega)
      have hcell := hc k hlt
      rw [← hbel.cell (p := ⟨b, off + k, none⟩) hB] at hcell
      obtain ⟨y, hy⟩ : ∃ y, xs.getD k 0 = y := ⟨_, rfl⟩
      rw [hy] at hcell
      have HY := Lib.hid hy
      clear hy hc
      have HCY := Lib.hid (HCL.out y wr hbel)
      cases hxy : inB y lo hi
      · have HF := Lib.hid (allB_no hlt (by rw [HY.out]; exact hxy))
        rw [hxy] at HCY
        clear hxy
        go_wp2_with (go_at_call 52; refine HCY.out.mono ?_; rintro e w1 ⟨rfl, hb1⟩)
        go_ret
        exact ⟨⟨_, rfl, by rw [HF.out]; simp⟩, hbel.trans (hb1.mono hbel.size)⟩
      · have HX := Lib.hid hxy
        rw [hxy] at HCY
        clear hxy
        go_wp2_with (go_at_call 52; refine HCY.out.mono ?_; rintro e w1 ⟨rfl, hb1⟩)
        go_roundw
        case rel =>
          refine ⟨k + 1, by omega, by go_num, hbel.trans (hb1.mono hbel.size), fun j hj => ?_⟩
          by_cases e : j = k
          · subst e; rw [HY.out]; exact HX.out
          · exact HNO.out j (by omega)
        case measure => simp [intOf]; omega
    · have HF := Lib.hid (allB_yes (fun i hi => HNO.out i (by omega)))
      go_wp2
      go_ret
      exact ⟨⟨_, rfl, by rw [HF.out]; rfl⟩, hbel⟩

set_option maxHeartbeats 400000 in
theorem slices_ContainsFunc_any (A : Option Addr) (cap : Nat) (xs : List Int) (lo hi : Int) (b1 b2 : Nat) (w : World) (hA : Ints w w.heap.size A xs) (h1 : b1 < w.heap.size) (h2 : b2 < w.heap.size)
    (hb : w.cell? ⟨b1, 0, none⟩ = some (.int .i64 lo)) (hc : w.cell? ⟨b2, 0, none⟩ = some (.int .i64 hi)) :
    Calls Tryd.prog 51 #[.slice A xs.length cap, .func (.func 52) #[] #[.pointer (some ⟨b1, 0, none⟩), .pointer (some ⟨b2, 0, none⟩)]] w fun e w' => e = .returned (.bool (!allB xs lo hi)) ∧ Below w.heap.size w w' := by
  have HI := Lib.hid (slices_IndexFunc_any A cap xs lo hi b1 b2 w hA h1 h2 hb hc)
  clear hA hb hc
  generalize allB xs lo hi = b at HI ⊢
  go_enter Tryd.func51, Tryd.ntmps51
  go_wp2_with fail
  refine HI.out.mono ?_
  rintro e w' ⟨⟨r, rfl, hr⟩, hb⟩
  go_wp2
  go_ret
  exact ⟨ret_bool (by rw [hr]), hb⟩

set_option maxHeartbeats 400000 in
theorem impl_allWithin_any (A : Option Addr) (cap : Nat) (xs : List Int) (lo hi : Int) (w : World) (hA : Ints w w.heap.size A xs) :
    Calls Tryd.prog 43 #[.slice A xs.length cap, .int .i64 lo, .int .i64 hi] w fun e w' => e = .returned (.bool (allB xs lo hi)) ∧ Below w.heap.size w w' := by
  have HA := Lib.hid hA
  clear hA
  have k1 : ((w.alloc (.cells #[.int .i64 lo] 3)).alloc (.cells #[.int .i64 hi] 3)).cell? ⟨w.heap.size, 0, none⟩ = some (.int .i64 lo) := by
    rw [(((Below.refl (w.heap.size + 1) (w.alloc (.cells #[.int .i64 lo] 3))).alloc (by simp) (.cells #[.int .i64 hi] 3)).cell (p := ⟨w.heap.size, 0, none⟩) (by simp))]
    exact cell_new1 _ _ _
  have k2 : ((w.alloc (.cells #[.int .i64 lo] 3)).alloc (.cells #[.int .i64 hi] 3)).cell? ⟨w.heap.size + 1, 0, none⟩ = some (.int .i64 hi) := by
    simp
  have HK := Lib.hid (And.intro k1 k2)
  clear k1 k2
  go_enter Tryd.func43, Tryd.ntmps43
  go_wp2_with (go_at_call 51; refine (slices_ContainsFunc_any A cap xs lo hi w.heap.size (w.heap.size + 1) _ (HA.out.lift (by repeat (first | exact Below.refl _ _ | assumption | (refine Below.alloc ?_ (by first | exact Nat.le_refl _ | (simp; done) | (simp; omega) | omega) _) | (refine Below.drew ?_) | (refine Below.setCell ?_ (by first | exact Nat.le_refl _ | (simp; done) | (simp; omega) | omega) _)))) (by simp; omega) (by simp) HK.out.1 HK.out.2).mono ?_; rintro e w1 ⟨rfl, hb⟩)
  go_ret
  exact ⟨by simp, (((Below.refl w.heap.size w).alloc (Nat.le_refl _) _).alloc (by simp) _).trans (hb.mono (by simp; omega))⟩

end Go.Proofs.YtjoeglekcnaebaaDoor
