/-
  slices.Index, Contains, IndexFunc, ContainsFunc on ints; remainder, has, allWithin of the program.
-/
import Derived.Test.YtlejlcnemibgiaaWin
import Derived.Test.YtlejlcnemibgiaaOwn
import Derived.Test.YtlejlcnemibgiaaRem
namespace Go.Proofs.Ytlejlcnemibgiaa
open Go.RowKit
set_option linter.unusedVariables false
set_option linter.unusedSimpArgs false

set_option maxHeartbeats 400000 in
theorem slices_Index_any (A : Option Addr) (cap : Nat) (xs : List Int) (x : Int) (w : World) (B : Nat) (hA : Ints w B A xs) :
    Calls Try.prog 91 #[.slice A xs.length cap, .int .i64 x] w fun e w' => (∃ r : Int, e = .returned (.int .i64 r) ∧ hasB xs x = decide (0 ≤ r)) ∧ w = w' := by
  obtain ⟨hlen, hfit, hcells⟩ := hA
  unfold maxLen at hlen
  have HC := Lib.hid hcells
  clear hfit hcells
  go_enter Try.func91, Try.ntmps91
  go_wp2
  go_loop [5, 8] (fun _ i => ∃ k : Nat, k ≤ xs.length ∧ i = .int .i64 k ∧ ∀ j, j < k → xs.getD j 0 ≠ x) (fun _ i => xs.length - (intOf i).toNat)
  case atStart => exact ⟨0, Nat.zero_le _, rfl, fun j h => by omega⟩
  case round =>
    obtain ⟨k, hk, rfl, hno⟩ := hrel
    have HNO := Lib.hid hno
    clear hno
    by_cases hlt : k < xs.length
    · obtain ⟨b, off, rfl, hB, hc⟩ := HC.out (by omega)
      have hcell := hc k hlt
      obtain ⟨y, hy⟩ : ∃ y, xs.getD k 0 = y := ⟨_, rfl⟩
      rw [hy] at hcell
      have HY := Lib.hid hy
      clear hy hc
      by_cases hxy : x = y
      · have hb : (x == y) = true := beq_iff_eq.2 hxy
        have HF := Lib.hid (hasB_yes hlt (HY.out.trans hxy.symm))
        clear hxy
        go_wp2
        go_ret
        exact ⟨⟨_, rfl, by rw [HF.out]; simp⟩, rfl⟩
      · have hb : (x == y) = false := beq_eq_false_iff_ne.2 hxy
        have HX := Lib.hid hxy
        clear hxy
        go_wp2
        go_round
        case rel =>
          refine ⟨k + 1, by omega, by go_num, fun j hj => ?_⟩
          by_cases e : j = k
          · subst e; rw [HY.out]; exact fun h => HX.out h.symm
          · exact HNO.out j (by omega)
        case measure => simp [intOf]; omega
    · have HF := Lib.hid (hasB_no (fun i hi => HNO.out i (by omega)))
      go_wp2
      go_ret
      exact ⟨⟨_, rfl, by rw [HF.out]; rfl⟩, rfl⟩

set_option maxHeartbeats 400000 in
theorem slices_Contains_any (A : Option Addr) (cap : Nat) (xs : List Int) (x : Int) (w : World) (B : Nat) (hA : Ints w B A xs) :
    Calls Try.prog 70 #[.slice A xs.length cap, .int .i64 x] w fun e w' => e = .returned (.bool (hasB xs x)) ∧ w = w' := by
  have HI := Lib.hid (slices_Index_any A cap xs x w B hA)
  clear hA
  generalize hasB xs x = b at HI ⊢
  go_enter Try.func70, Try.ntmps70
  go_wp2_with fail
  refine HI.out.mono ?_
  rintro e w' ⟨⟨r, rfl, hr⟩, rfl⟩
  go_wp2
  go_ret
  exact ⟨ret_bool (by rw [hr]), rfl⟩

set_option maxRecDepth 100000 in
set_option maxHeartbeats 400000 in
theorem impl_has_any (n k : Int) (A : Option Addr) (cap : Nat) (bs : List Int) (w : World) (hA : Ints w w.heap.size A bs) (hn : 1 ≤ n) (hn2 : n ≤ 1000000000) :
    Calls Try.prog 50 #[.agg #[.int .i64 n, .slice A bs.length cap], .int .i64 k] w fun e w' => e = .returned (.bool (hasB bs (k % n))) ∧ Below w.heap.size w w' := by
  have HA := Lib.hid (hA.lift ((Below.refl w.heap.size w).alloc (Nat.le_refl _) (.cells #[.int .i64 n, .slice A bs.length cap] 26)))
  clear hA
  obtain ⟨c0, c1⟩ := box2 (Below.refl (w.heap.size + 1) (w.alloc (.cells #[.int .i64 n, .slice A bs.length cap] 26)))
  go_enter Try.func50, Try.ntmps50
  go_wp2_with fail
  go_quiet (first | (go_at_call 49; exact Calls.quiet_of_left (impl_remainder_any k n _ hn hn2)) | (go_at_call 70; exact Calls.quiet_of_left (slices_Contains_any A cap bs _ _ _ (HA.out.drewN_ _))))
  go_wp2_with fail
  go_ret
  exact ⟨rfl, Below.drewN_ ((Below.refl w.heap.size w).alloc (Nat.le_refl _) _) _⟩

def allB (xs : List Int) (lo hi : Int) : Bool := xs.all (fun x => inB x lo hi)
theorem allB_no {xs : List Int} {lo hi : Int} {i : Nat} (hi' : i < xs.length) (h : inB (xs.getD i 0) lo hi = false) : allB xs lo hi = false := by
  cases ha : allB xs lo hi
  · rfl
  · exfalso
    unfold allB at ha
    rw [List.all_eq_true] at ha
    rw [List.getD_eq_getElem?_getD, List.getElem?_eq_getElem hi'] at h
    rw [show ((some xs[i]).getD 0 : Int) = xs[i] from rfl, ha _ (List.getElem_mem hi')] at h
    cases h
theorem allB_yes {xs : List Int} {lo hi : Int} (h : ∀ i, i < xs.length → inB (xs.getD i 0) lo hi = true) : allB xs lo hi = true := by
  unfold allB
  rw [List.all_eq_true]
  intro x hx
  obtain ⟨i, hi, rfl⟩ := List.getElem_of_mem hx
  have := h i hi
  rwa [List.getD_eq_getElem?_getD, List.getElem?_eq_getElem hi] at this

end Go.Proofs.Ytlejlcnemibgiaa
