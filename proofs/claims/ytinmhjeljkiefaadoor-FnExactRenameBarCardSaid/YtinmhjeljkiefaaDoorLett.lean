/-
  isLetter of both.
-/
import Derived.Test.YtinmhjeljkiefaaDoorRead
namespace Go.Proofs.YtinmhjeljkiefaaDoor
open Go.RowKit
set_option linter.unusedVariables false
set_option linter.unusedSimpArgs false

def letB (s : ByteArray) : Bool := decide (s.size = 1 ∧ 97 ≤ chr s 0 ∧ chr s 0 ≤ 122)

set_option maxHeartbeats 400000 in
theorem impl_isLetter_any (s : ByteArray) (w : World) (hs : s.size ≤ 1048576) : Calls Tryd.prog 29 #[.string s] w fun e w' => e = .returned (.bool (letB s)) ∧ w = w' := by
  by_cases h1 : s.size = 1
  · obtain ⟨x, hx⟩ : ∃ x, chr s 0 = x := ⟨_, rfl⟩
    have hxc : ((s[0]'(by omega)).toNat : Int) = x := by rw [← hx, chr_at (by omega)]
    have HL := Lib.hid (show letB s = decide (97 ≤ x ∧ x ≤ 122) by unfold letB; rw [hx]; simp [h1])
    have hb : ((s.size : Int) == 1) = true := beq_iff_eq.2 (by omega)
    have h0 : (0 : Int) < s.size := by omega
    by_cases ha : 97 ≤ x
    · by_cases hz : x ≤ 122
      · clear hx
        go_enter Tryd.func29, Tryd.ntmps29
        go_wp2_with fail
        go_ret
        exact ⟨ret_bool (by rw [HL.out]; simp [ha, hz]), rfl⟩
      · clear hx
        go_enter Tryd.func29, Tryd.ntmps29
        go_wp2_with fail
        go_ret
        exact ⟨ret_bool (by rw [HL.out]; simp [ha, hz]), rfl⟩
    · clear hx
      go_enter Tryd.func29, Tryd.ntmps29
      go_wp2_with fail
      go_ret
      exact ⟨ret_bool (by rw [HL.out, eq_comm, decide_eq_false_iff_not]; omega), rfl⟩
  · have HL := Lib.hid (show letB s = false by unfold letB; simp [h1])
    have hb : ((s.size : Int) == 1) = false := beq_eq_false_iff_ne.2 (by omega)
    clear h1
    go_enter Tryd.func29, Tryd.ntmps29
    go_wp2_with fail
    go_ret
    exact ⟨ret_bool HL.out.symm, rfl⟩

set_option maxHeartbeats 400000 in
theorem spec_l26Letter_any (s : ByteArray) (w : World) (hs : s.size ≤ 1048576) : Calls Tryd.prog 27 #[.string s] w fun e w' => e = .returned (.bool (letB s)) ∧ w = w' := by
  by_cases h1 : s.size = 1
  · obtain ⟨x, hx⟩ : ∃ x, chr s 0 = x := ⟨_, rfl⟩
    have hxc : ((s[0]'(by omega)).toNat : Int) = x := by rw [← hx, chr_at (by omega)]
    have HL := Lib.hid (show letB s = decide (97 ≤ x ∧ x ≤ 122) by unfold letB; rw [hx]; simp [h1])
    have hb : ((s.size : Int) == 1) = true := beq_iff_eq.2 (by omega)
    have h0 : (0 : Int) < s.size := by omega
    by_cases ha : 97 ≤ x
    · by_cases hz : x ≤ 122
      · clear hx
        go_enter Tryd.func27, Tryd.ntmps27
        go_wp2_with fail
        go_ret
        exact ⟨ret_bool (by rw [HL.out]; simp [ha, hz]), rfl⟩
      · clear hx
        go_enter Tryd.func27, Tryd.ntmps27
        go_wp2_with fail
        go_ret
        exact ⟨ret_bool (by rw [HL.out]; simp [ha, hz]), rfl⟩
    · clear hx
      go_enter Tryd.func27, Tryd.ntmps27
      go_wp2_with fail
      go_ret
      exact ⟨ret_bool (by rw [HL.out, eq_comm, decide_eq_false_iff_not]; omega), rfl⟩
  · have HL := Lib.hid (show letB s = false by unfold letB; simp [h1])
    have hb : ((s.size : Int) == 1) = false := beq_eq_false_iff_ne.2 (by omega)
    clear h1
    go_enter Tryd.func27, Tryd.ntmps27
    go_wp2_with fail
    go_ret
    exact ⟨ret_bool HL.out.symm, rfl⟩

end Go.Proofs.YtinmhjeljkiefaaDoor
