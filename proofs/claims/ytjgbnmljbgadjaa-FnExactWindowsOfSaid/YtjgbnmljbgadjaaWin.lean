/-
  A window of a rhythm as a text, by the reference; a number in a list.
-/
import Derived.Test.YtjgbnmljbgadjaaStr
import Derived.Test.YtjgbnmljbgadjaaTab
namespace Go.Proofs.Ytjgbnmljbgadjaa
open Go.RowKit
set_option linter.unusedVariables false
set_option linter.unusedSimpArgs false

def hasB (xs : List Int) (x : Int) : Bool := decide (x ∈ xs)
theorem hasB_yes {xs : List Int} {x : Int} {i : Nat} (hi : i < xs.length) (h : xs.getD i 0 = x) : hasB xs x = true := by
  unfold hasB
  rw [decide_eq_true_eq, ← h, List.getD_eq_getElem?_getD, List.getElem?_eq_getElem hi]
  exact List.getElem_mem hi
theorem hasB_no {xs : List Int} {x : Int} (h : ∀ i, i < xs.length → xs.getD i 0 ≠ x) : hasB xs x = false := by
  unfold hasB
  rw [decide_eq_false_iff_not]
  intro hm
  obtain ⟨i, hi, he⟩ := List.getElem_of_mem hm
  refine h i hi ?_
  rw [List.getD_eq_getElem?_getD, List.getElem?_eq_getElem hi]
  exact he

set_option maxHeartbeats 400000 in
theorem spec_l02Has_any (A : Option Addr) (cap : Nat) (xs : List Int) (x : Int) (w : World) (B : Nat) (hA : Ints w B A xs) :
    Calls Try.prog 40 #[.slice A xs.length cap, .int .i64 x] w fun e w' => e = .returned (.bool (hasB xs x)) ∧ w = w' := by
  obtain ⟨hlen, hfit, hcells⟩ := hA
  unfold maxLen at hlen
  have HC := Lib.hid hcells
  clear hfit hcells
  go_enter Try.func40, Try.ntmps40
  go_wp2
  go_loop [9] (fun i => ∃ k : Nat, k ≤ xs.length ∧ i = .int .i64 k ∧ ∀ j, j < k → xs.getD j 0 ≠ x) (fun i => xs.length - (intOf i).toNat)
  case atStart => exact ⟨0, Nat.zero_le _, rfl, fun j h => by omega⟩
  case round =>
    obtain ⟨k, hk, rfl, hno⟩ := hrel
    have HNO := Lib.hid hno
    clear hno
    by_cases hlt : k < xs.length
    · obtain ⟨b, off, rfl, hB, hc⟩ := HC.out (by omega)
      have hcell := hc k hlt
      obtain ⟨y, hy⟩ : ∃ y, xs.getD k 0 = y := ⟨_, rfl⟩
      rw [hy] at hcell
      have HY := Lib.hid hy
      clear hy hc
      by_cases hxy : x = y
      · have hb : (x == y) = true := beq_iff_eq.2 hxy
        have HF := Lib.hid (hasB_yes hlt (HY.out.trans hxy.symm))
        clear hxy
        go_wp2
        go_ret
        exact ⟨ret_bool HF.out.symm, rfl⟩
      · have hb : (x == y) = false := beq_eq_false_iff_ne.2 hxy
        have HX := Lib.hid hxy
        clear hxy
        go_wp2
        go_round
        case rel =>
          refine ⟨k + 1, by omega, by go_num, fun j hj => ?_⟩
          by_cases e : j = k
          · subst e; rw [HY.out]; exact fun h => HX.out h.symm
          · exact HNO.out j (by omega)
        case measure => simp [intOf]; omega
    · have HF := Lib.hid (hasB_no (fun i hi => HNO.out i (by omega)))
      go_wp2
      go_ret
      exact ⟨ret_bool HF.out.symm, rfl⟩

theorem Calls.quiet_of_left {P : Program} {f : FuncId} {args : Array Value} {w : World} {n : Nat} {v : Value}
    (h : Calls P f args (w.drewN n) fun e w' => e = .returned v ∧ w.drewN n = w') : Calls P f args (w.drewN n) fun e w'' => e = .returned v ∧ ∃ m, w'' = w.drewN m :=
  h.mono fun _ _ ⟨he, hm⟩ => ⟨he, n, hm.symm⟩

/-- The window of k pulses that begins on p. -/
def winL (n : Int) (bs : List Int) (p k : Nat) : List UInt8 := (List.range k).map fun i => if hasB bs (((p + i : Nat) : Int) % n) then 120 else 46
theorem winL_zero (n : Int) (bs : List Int) (p : Nat) : winL n bs p 0 = [] := rfl
theorem winL_succ (n : Int) (bs : List Int) (p k : Nat) : winL n bs p (k + 1) = winL n bs p k ++ [if hasB bs (((p + k : Nat) : Int) % n) then 120 else 46] := by simp [winL, List.range_succ]
theorem winL_len (n : Int) (bs : List Int) (p k : Nat) : (winL n bs p k).length = k := by simp [winL]

set_option maxRecDepth 100000 in
set_option maxHeartbeats 400000 in
theorem spec_l28At_any (n : Int) (A : Option Addr) (cap : Nat) (bs : List Int) (p k : Nat) (w : World) (hA : Ints w w.heap.size A bs) (hn : 1 ≤ n) (hn24 : n ≤ 24) (hp : p ≤ 1000) (hk : k ≤ 1000) :
    Calls Try.prog 27 #[.agg #[.int .i64 n, .slice A bs.length cap], .int .i64 p, .int .i64 k] w fun e w' => e = .returned (.string (mkS (winL n bs p k))) ∧ Below w.heap.size w w' := by
  have HA := Lib.hid hA
  clear hA
  go_enter Try.func27, Try.ntmps27
  go_wp2_with fail
  go_loopw [7, 8] (fun t i wr => ∃ (q : Nat) (u : ByteArray), q ≤ k ∧ i = .int .i64 q ∧ t = .string u ∧ Str u (winL n bs p q) ∧ Below (w.heap.size + 1) (w.alloc (.cells #[.int .i64 n, .slice A bs.length cap] 27)) wr) (fun _ i _ => k - (intOf i).toNat)
  case atStart => exact ⟨0, _, Nat.zero_le _, rfl, rfl, str_nil, Below.refl _ _⟩
  case round =>
    obtain ⟨q, u, hq, rfl, rfl, hu, hbel⟩ := hrel
    by_cases hlt : q < k
    · obtain ⟨hc0, hc1⟩ := box2 hbel
      have hW := ((Below.refl w.heap.size w).alloc (Nat.le_refl _) _).trans (hbel.mono (by omega))
      have hs := winL_succ n bs p q
      have HS := Lib.hid hs
      clear hs
      have hsz := hu.size
      rw [winL_len] at hsz
      have hsz' : u.size ≤ 1000 := by omega
      clear hsz
      have hm0 : (0 : Int) ≤ ((p : Int) + q) % n := Int.emod_nonneg _ (by omega)
      have hm1 : ((p : Int) + q) % n < n := Int.emod_lt_of_pos _ (by omega)
      have hsum : IntKind.i64.wrap ((p : Int) + q) = (p : Int) + q := i64w (by omega)
      have hsum0 : (0 : Int) ≤ (p : Int) + q := by omega
      have hnz : (n = 0) = False := by simp; omega
      have hmt : Int.tmod ((p : Int) + q) n = ((p : Int) + q) % n := Int.tmod_eq_emod_of_nonneg hsum0
      obtain ⟨m, hm⟩ : ∃ m, ((p : Int) + q) % n = m := ⟨_, rfl⟩
      rw [Int.natCast_add, hm] at HS
      have HI := Lib.hid (HA.out.lift hW)
      cases hh : hasB bs m
      · rw [hh] at HS
        go_wp2_with fail
        go_quiet ((go_at_call 40; exact Calls.quiet_of_left (hh ▸ spec_l02Has_any A cap bs m _ _ (HI.out.drewN_ _))))
        clear hsum hm hmt
        go_wp2_with fail
        go_roundw
        case rel => exact ⟨q + 1, _, by omega, by go_num, rfl, by rw [HS.out]; exact hu.app (str_one _), Below.drewN_ hbel _⟩
        case measure => simp [intOf]; omega
      · rw [hh] at HS
        go_wp2_with fail
        go_quiet ((go_at_call 40; exact Calls.quiet_of_left (hh ▸ spec_l02Has_any A cap bs m _ _ (HI.out.drewN_ _))))
        clear hsum hm hmt
        go_wp2_with fail
        go_roundw
        case rel => exact ⟨q + 1, _, by omega, by go_num, rfl, by rw [HS.out]; exact hu.app (str_one _), Below.drewN_ hbel _⟩
        case measure => simp [intOf]; omega
    · have hqe : q = k := by omega
      subst hqe
      go_wp2_with fail
      go_ret
      exact ⟨ret_str hu.eq, ((Below.refl w.heap.size w).alloc (Nat.le_refl _) _).trans (hbel.mono (by omega))⟩

end Go.Proofs.Ytjgbnmljbgadjaa
