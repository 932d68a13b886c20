/-
  LongestRun of the program and of the reference: the longest run of one hand in a text.
-/
import Derived.Test.YthfofjbegkjdmaaStr
namespace Go.Proofs.Ythfofjbegkjdmaa
open Go.RowKit
set_option linter.unusedVariables false
set_option linter.unusedSimpArgs false

/-- The longest run, the run under way, and its hand. -/
def lrStep (st : Int × Int × Int) (c : UInt8) : Int × Int × Int :=
  if (c.toNat : Int) = 82 ∨ (c.toNat : Int) = 76 then
    if (c.toNat : Int) = st.2.2 then (max st.1 (st.2.1 + 1), st.2.1 + 1, st.2.2) else (max st.1 1, 1, (c.toNat : Int))
  else st
def lr (l : List UInt8) : Int × Int × Int := l.foldl lrStep (0, 0, 0)
theorem lr_snoc (l : List UInt8) (c : UInt8) : lr (l ++ [c]) = lrStep (lr l) c := by unfold lr; rw [List.foldl_append]; rfl
theorem lr_bound (l : List UInt8) : 0 ≤ (lr l).1 ∧ (lr l).1 ≤ l.length ∧ 0 ≤ (lr l).2.1 ∧ (lr l).2.1 ≤ l.length := by
  suffices h : ∀ (m : Nat) (l : List UInt8) (st : Int × Int × Int), 0 ≤ st.1 ∧ st.1 ≤ m ∧ 0 ≤ st.2.1 ∧ st.2.1 ≤ m →
      0 ≤ (l.foldl lrStep st).1 ∧ (l.foldl lrStep st).1 ≤ m + l.length ∧ 0 ≤ (l.foldl lrStep st).2.1 ∧ (l.foldl lrStep st).2.1 ≤ m + l.length by
    have := h 0 l (0, 0, 0) (by simp)
    simpa [lr] using this
  intro m l
  induction l generalizing m with
  | nil => intro st h; simpa using h
  | cons c l ih =>
    intro st h
    have := ih (m + 1) (lrStep st c) (by
      unfold lrStep
      split
      · split
        · refine ⟨?_, ?_, ?_, ?_⟩ <;> simp <;> omega
        · refine ⟨?_, ?_, ?_, ?_⟩ <;> simp <;> omega
      · exact ⟨h.1, by omega, h.2.2.1, by omega⟩)
    simp only [List.foldl_cons, List.length_cons]
    refine ⟨this.1, ?_, this.2.2.1, ?_⟩ <;> omega

set_option maxHeartbeats 400000 in
theorem impl_LongestRun_any (s : ByteArray) (w : World) (hs : s.size ≤ maxLen) :
    Calls Try.prog 26 #[.string s] w fun e w' => e = .returned (.int .i64 (lr s.data.toList).1) ∧ w = w' := by
  unfold maxLen at hs
  go_enter Try.func26, Try.ntmps26
  go_wp2
  go_loop [3, 4, 5, 9] (fun m r c i => ∃ (k : Nat) (a b d : Int), k ≤ s.size ∧ lr (s.data.toList.take k) = (a, b, d) ∧ i = .int .i64 k ∧ m = .int .i64 a ∧ r = .int .i64 b ∧ c = .int .u8 d) (fun _ _ _ i => s.size - (intOf i).toNat)
  case atStart => exact ⟨0, 0, 0, 0, Nat.zero_le _, rfl, rfl, rfl, rfl, rfl⟩
  case round =>
    obtain ⟨k, a, b, d, hk, hst, rfl, rfl, rfl, rfl⟩ := hrel
    have hb := lr_bound (s.data.toList.take k)
    rw [hst] at hb
    have hl : (s.data.toList.take k).length ≤ k := List.length_take_le _ _
    obtain ⟨hb1, hb2, hb3, hb4⟩ := hb
    have hb5 : a ≤ k := by simp only at hb2; omega
    have hb6 : b ≤ k := by simp only at hb4; omega
    clear hb2 hb4 hl
    simp only at hb1 hb3
    have HST := Lib.hid hst
    clear hst
    by_cases hlt : k < s.size
    · have hsn := lr_snoc (s.data.toList.take k) s[k]
      rw [← take_snoc s k hlt, HST.out] at hsn
      have HS := Lib.hid hsn
      clear hsn
      go_wp2
      all_goals
        go_round
        case rel =>
          refine ⟨k + 1, _, _, _, by omega, ?_, by go_num, rfl, rfl, rfl⟩
          rw [HS.out]
          clear HS HST
          go_light
          simp only [lrStep]
          (repeat' split) <;> simp_all <;> omega
        case measure => simp [intOf]; omega
    · go_wp2
      go_ret
      have e : s.data.toList.take k = s.data.toList := List.take_of_length_le (by simp; omega)
      exact ⟨ret_int (by rw [← e, HST.out]), rfl⟩

end Go.Proofs.Ythfofjbegkjdmaa
