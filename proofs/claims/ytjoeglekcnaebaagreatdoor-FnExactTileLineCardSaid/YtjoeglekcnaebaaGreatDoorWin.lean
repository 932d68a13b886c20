/-
  A window of a rhythm as a text, by the reference; a number in a list.
-/
import Derived.Test.YtjoeglekcnaebaaGreatDoorStr
import Derived.Test.YtjoeglekcnaebaaGreatDoorTab
namespace Go.Proofs.YtjoeglekcnaebaaGreatDoor
open Go.RowKit
set_option linter.unusedVariables false
set_option linter.unusedSimpArgs false

def hasB (xs : List Int) (x : Int) : Bool := decide (x ∈ xs)
theorem hasB_yes {xs : List Int} {x : Int} {i : Nat} (hi : i < xs.length) (h : xs.getD i 0 = x) : hasB xs x = true := by
  unfold hasB
  rw [decide_eq_true_eq, ← h, List.getD_eq_getElem?_getD, List.getElem?_eq_getElem hi]
  exact List.getElem_mem hi
theorem hasB_no {xs : List Int} {x : Int} (h : ∀ i, i < xs.length → xs.getD i 0 ≠ x) : hasB xs x = false := by
  unfold hasB
  rw [decide_eq_false_iff_not]
  intro hm
  obtain ⟨i, hi, he⟩ := List.getElem_of_mem hm
  refine h i hi ?_
  rw [List.getD_eq_getElem?_getD, List.getElem?_eq_getElem hi]
  exact he

set_option maxHeartbeats 400000 in
theorem spec_l02Has_any (A : Option Addr) (cap : Nat) (xs : List Int) (x : Int) (w : World) (B : Nat) (hA : Ints w B A xs) :
    Calls Tryz.prog 39 #[.slice A xs.length cap, .int .i64 x] w fun e w' => e = .returned (.bool (hasB xs x)) ∧ w = w' := by
  obtain ⟨hlen, hfit, hcells⟩ := hA
  unfold maxLen at hlen
  have HC := Lib.hid hcells
  clear hfit hcells
  go_enter Tryz.func39, Tryz.ntmps39
  go_wp2
  go_loop [9] (fun i => ∃ k : Nat, k ≤ xs.length ∧ i = .int .i64 k ∧ ∀ j, j < k → xs.getD j 0 ≠ x) (fun i => xs.length - (intOf i).toNat)
  case atStart => exact ⟨0, Nat.zero_le _, rfl, fun j h => by omega⟩
  case round =>
    obtain ⟨k, hk, rfl, hno⟩ := hrel
    have HNO := Lib.hid hno
    clear hno
    by_cases hlt : k < xs.length
    · obtain ⟨b, off, rfl, hB, hc⟩ := HC.out (by omega)
      have hcell := hc k hlt
      obtain ⟨y, hy⟩ : ∃ y, xs.getD k 0 = y := ⟨_, rfl⟩
      rw [hy] at hcell
      have HY := Lib.hid hy
      clear hy hc
      by_cases hxy : x = y
      · have hb : (x == y) = true := beq_iff_eq.2 hxy
        have HF := Lib.hid (hasB_yes hlt (HY.out.trans hxy.symm))
        clear hxy
        go_wp2
        go_ret
        exact ⟨ret_bool HF.out.symm, rfl⟩
      · have hb : (x == y) = false := beq_eq_false_iff_ne.2 hxy
        have HX := Lib.hid hxy
        clear hxy
        go_wp2
        go_round
        case rel =>
          refine ⟨k + 1, by omega, by go_num, fun j hj => ?_⟩
          by_cases e : j = k
          · subst e; rw [HY.out]; exact fun h => HX.out h.symm
          · exact HNO.out j (by omega)
        case measure => simp [intOf]; omega
    · have HF := Lib.hid (hasB_no (fun i hi => HNO.out i (by omega)))
      go_wp2
      go_ret
      exact ⟨ret_bool HF.out.symm, rfl⟩

theorem Calls.quiet_of_left {P : Program} {f : FuncId} {args : Array Value} {w : World} {n : Nat} {v : Value}
    (h : Calls P f args (w.drewN n) fun e w' => e = .returned v ∧ w.drewN n = w') : Calls P f args (w.drewN n) fun e w'' => e = .returned v ∧ ∃ m, w'' = w.drewN m :=
  h.mono fun _ _ ⟨he, hm⟩ => ⟨he, n, hm.symm⟩

/-- The window of k pulses that begins on p. -/
def winL (n : Int) (bs : List Int) (p k : Nat) : List UInt8 := (List.range k).map fun i => if hasB bs (((p + i : Nat) : Int) % n) then 120 else 46
theorem winL_zero (n : Int) (bs : List Int) (p : Nat) : winL n bs p 0 = [] := rfl
theorem winL_succ (n : Int) (bs : List Int) (p k : Nat) : winL n bs p (k + 1) = winL n bs p k ++ [if hasB bs (((p + k : Nat) : Int) % n) then 120 else 46] := by simp [winL, List.range_succ]
theorem winL_len (n : Int) (bs : List Int) (p k : Nat) : (winL n bs p k).length = k := by simp [winL]

end Go.Proofs.YtjoeglekcnaebaaGreatDoor
