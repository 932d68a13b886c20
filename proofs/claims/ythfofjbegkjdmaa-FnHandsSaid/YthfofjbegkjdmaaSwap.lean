/-
  SwapHands of the program and of the reference: each R becomes an L, each L an R.
-/
import Derived.Test.YthfofjbegkjdmaaRow
import Derived.Lib.SlBytesConst
namespace Go.Proofs.Ythfofjbegkjdmaa
open Go.RowKit
set_option linter.unusedVariables false
set_option linter.unusedSimpArgs false

def swapB (c : UInt8) : UInt8 := if c = 82 then 76 else if c = 76 then 82 else c
theorem swapB_82 (c : UInt8) (h : (c.toNat : Int) = 82) : swapB c = 76 := by
  have : c = 82 := UInt8.toNat_inj.1 (by show c.toNat = 82; omega)
  subst this; rfl
theorem swapB_76 (c : UInt8) (h : (c.toNat : Int) = 76) : swapB c = 82 := by
  have : c = 76 := UInt8.toNat_inj.1 (by show c.toNat = 76; omega)
  subst this; rfl
theorem swapB_other (c : UInt8) (h : ¬ (c.toNat : Int) = 82) (h' : ¬ (c.toNat : Int) = 76) : swapB c = c := by
  unfold swapB
  rw [if_neg (fun e => h (by rw [e]; rfl)), if_neg (fun e => h' (by rw [e]; rfl))]

def swapL (l : List UInt8) : List UInt8 := l.map swapB
theorem swapL_snoc (l : List UInt8) (c : UInt8) : swapL (l ++ [c]) = swapL l ++ [swapB c] := by simp [swapL]
theorem swapL_len (l : List UInt8) : (swapL l).length = l.length := by simp [swapL]

theorem swap_rest (s : ByteArray) (k : Nat) (h : k < s.size) (v : Value) (hv : v = bv (swapB s[k])) :
    ((swapL (s.data.toList.take k) ++ s.data.toList.drop k).map bv).set k v = (swapL (s.data.toList.take (k + 1)) ++ s.data.toList.drop (k + 1)).map bv := by
  subst hv
  have hk : k < s.data.toList.length := by simpa using h
  have hl : (swapL (s.data.toList.take k)).length = k := by rw [swapL_len, List.length_take]; omega
  rw [take_snoc s k h, swapL_snoc, List.drop_eq_getElem_cons hk, List.map_append, List.map_append, List.map_append, List.append_assoc]
  rw [List.set_append_right _ _ (by simp [hl])]
  simp [hl]

theorem swap_at (s : ByteArray) (k : Nat) (h : k < s.size) : ((swapL (s.data.toList.take k) ++ s.data.toList.drop k).map bv)[k]? = some (bv s[k]) := by
  have hk : k < s.data.toList.length := by simpa using h
  have hl : (swapL (s.data.toList.take k)).length = k := by rw [swapL_len, List.length_take]; omega
  rw [List.drop_eq_getElem_cons hk, List.map_append, List.getElem?_append_right (by simp [hl])]
  simp [hl]
  rfl
theorem swap_same (s : ByteArray) (k : Nat) (h : k < s.size) (he : swapB s[k] = s[k]) : (swapL (s.data.toList.take k) ++ s.data.toList.drop k).map bv = (swapL (s.data.toList.take (k + 1)) ++ s.data.toList.drop (k + 1)).map bv := by
  have hk : k < s.data.toList.length := by simpa using h
  rw [take_snoc s k h, swapL_snoc, List.drop_eq_getElem_cons hk, he, List.append_assoc]
  rfl
theorem swap_end (s : ByteArray) : swapL (s.data.toList.take s.size) ++ s.data.toList.drop s.size = swapL s.data.toList := by
  rw [take_all s _ (Nat.le_refl _), List.drop_eq_nil_of_le (by simp), List.append_nil]

set_option maxHeartbeats 400000 in
theorem impl_SwapHands_any (s : ByteArray) (w : World) (hs : s.size ≤ 1048576) :
    Calls Try.prog 25 #[.string s] w fun e w' => e = .returned (.string (mkS (swapL s.data.toList))) ∧ Below w.heap.size w w' := by
  have hcv := fun W : World => run_bytes_of_string (P := Try.prog) W 9 22 5 s Try.underlying9 Try.underlying22 Try.underlying5
  have hrow := row_of_bytes w 5 s (grownCap w s.size 0 5)
  have HR := Lib.hid hrow
  clear hrow
  go_enter Try.func25, Try.ntmps25
  go_wp2
  generalize grownCap w s.size 0 5 = cap at *
  go_loopw [10] (fun i wr => ∃ k : Nat, k ≤ s.size ∧ i = .int .i64 k ∧ Below w.heap.size w wr ∧ Row wr w.heap.size 0 ((swapL (s.data.toList.take k) ++ s.data.toList.drop k).map bv)) (fun i _ => s.size - (intOf i).toNat)
  case atStart => exact ⟨0, Nat.zero_le _, rfl, ((Below.refl _ _).alloc (Nat.le_refl _) _).drew, HR.out⟩
  case round =>
    obtain ⟨k, hk, rfl, hb, hrow⟩ := hrel
    by_cases hlt : k < s.size
    · have hcf := hrow.at0 (swap_at s k hlt)
      obtain ⟨hc, hf⟩ := hcf
      unfold bv at hc
      have hset := hrow.set0 (j := k)
      have hlen : k < ((swapL (s.data.toList.take k) ++ s.data.toList.drop k).map bv).length := by rw [List.length_map, List.length_append, swapL_len, List.length_take, List.length_drop]; simp; omega
      have HSet := Lib.hid (fun u => hset u hlen)
      clear hset hlen
      by_cases h82 : (s[k].toNat : Int) = 82
      · go_wp2
        go_roundw
        case rel => exact ⟨k + 1, by omega, by go_num, hb.setCell (Nat.le_refl _) _, by rw [← swap_rest s k hlt (.int .u8 76) (by rw [swapB_82 _ h82]; rfl)]; exact HSet.out _⟩
        case measure => simp [intOf]; omega
      · by_cases h76 : (s[k].toNat : Int) = 76
        · go_wp2
          go_roundw
          case rel => exact ⟨k + 1, by omega, by go_num, hb.setCell (Nat.le_refl _) _, by rw [← swap_rest s k hlt (.int .u8 82) (by rw [swapB_76 _ h76]; rfl)]; exact HSet.out _⟩
          case measure => simp [intOf]; omega
        · go_wp2
          go_roundw
          case rel => exact ⟨k + 1, by omega, by go_num, hb, by rw [swap_same s k hlt (swapB_other _ h82 h76)] at hrow; exact hrow⟩
          case measure => simp [intOf]; omega
    · have hk' : k = s.size := by omega
      subst hk'
      rw [swap_end] at hrow
      have hst := hrow.string (cap := cap) 22 9 5 Try.underlying22 Try.underlying5 Try.underlying9
      rw [swapL_len, show s.data.toList.length = s.size by simp] at hst
      go_wp2
      go_ret
      exact ⟨rfl, hb⟩

end Go.Proofs.Ythfofjbegkjdmaa
