/-
  Numbers joined by commas, the commas turned to plus signs.
-/
import Derived.Test.YtjoeglekcnaebaaDoorNums
namespace Go.Proofs.YtjoeglekcnaebaaDoor
open Go.RowKit
set_option linter.unusedVariables false
set_option linter.unusedSimpArgs false

theorem decD_char : ∀ (m k : Nat), k ≤ m → ∀ c ∈ Lib.decDigits k, c ≠ 44
  | 0, k, h, c, hc => by
    have : k = 0 := by omega
    subst this
    rw [decD_small (by decide)] at hc
    rw [List.mem_singleton.1 hc]; decide
  | m + 1, k, h, c, hc => by
    have hdig : ∀ r : Nat, r < 10 → UInt8.ofNat (48 + r) ≠ 44 := by
      intro r hr e
      have := congrArg UInt8.toNat e
      rw [UInt8.toNat_ofNat'] at this
      have h44 : (44 : UInt8).toNat = 44 := rfl
      rw [h44] at this
      omega
    by_cases h9 : k < 10
    · rw [decD_small h9] at hc
      rw [List.mem_singleton.1 hc]
      exact hdig k h9
    · rw [decD_big h9] at hc
      rcases List.mem_append.1 hc with h1 | h1
      · exact decD_char m (k / 10) (by omega) c h1
      · rw [List.mem_singleton.1 h1]
        exact hdig (k % 10) (Nat.mod_lt _ (by decide))
theorem itoL_char (n : Int) : ∀ c ∈ itoL n, c ≠ 44 := by
  intro c hc
  obtain ⟨N, rfl | rfl⟩ := Int.eq_nat_or_neg n
  · rw [itoL_pos] at hc
    exact decD_char N N (Nat.le_refl _) c hc
  · by_cases h0 : 0 < N
    · rw [itoL_neg N h0] at hc
      rcases List.mem_cons.1 hc with h1 | h1
      · rw [h1]; decide
      · exact decD_char N N (Nat.le_refl _) c h1
    · have : N = 0 := by omega
      subst this
      exact decD_char 0 0 (Nat.le_refl _) c (by rw [← itoL_pos]; exact hc)

def plusC (c : UInt8) : UInt8 := if c = 44 then 43 else c
theorem map_plus {l : Txt} (h : ∀ c ∈ l, c ≠ 44) : l.map plusC = l := by
  conv => rhs; rw [← List.map_id l]
  exact List.map_congr_left fun c hc => by unfold plusC; rw [if_neg (h c hc)]; rfl
theorem plus_join (xs : List Int) : (joinT (xs.map itoL) [44]).map plusC = joinT (xs.map itoL) [43] := by
  have htail : ∀ r : List Int, (Lib.joinTail [44] (r.map itoL)).map plusC = Lib.joinTail [43] (r.map itoL) := by
    intro r
    induction r with
    | nil => rfl
    | cons y r ih =>
      have e : ∀ sep : Txt, Lib.joinTail sep ((y :: r).map itoL) = (sep ++ itoL y) ++ Lib.joinTail sep (r.map itoL) := fun sep => by unfold Lib.joinTail; simp
      rw [e, e, List.map_append, List.map_append, ih, map_plus (itoL_char y)]
      rfl
  cases xs with
  | nil => rfl
  | cons x r =>
    unfold joinT
    rw [List.map_cons, Lib.join_cons, Lib.join_cons, List.map_append, htail, map_plus (itoL_char x)]

end Go.Proofs.YtjoeglekcnaebaaDoor
