/-
  BarsUsed of the reference.
-/
import Derived.Test.YthfjfhgeiggljaaBarT
import Derived.Test.YthfjfhgeiggljaaStr
namespace Go.Proofs.Ythfjfhgeiggljaa
open Go.RowKit
set_option linter.unusedVariables false
set_option linter.unusedSimpArgs false

def barTo (s : ByteArray) (k : Nat) : List UInt8 := (abcB.take k).filter (fun c => decide (c ∈ s.data.toList))
theorem abcB_len : abcB.length = 26 := by simp [abcB]
theorem barTo_snoc (s : ByteArray) (k : Nat) (h : k < 26) : barTo s (k + 1) = if UInt8.ofNat (97 + k) ∈ s.data.toList then barTo s k ++ [UInt8.ofNat (97 + k)] else barTo s k := by
  unfold barTo
  rw [List.take_succ_eq_append_getElem (by rw [abcB_len]; exact h), List.filter_append]
  have : abcB[k]'(by rw [abcB_len]; exact h) = UInt8.ofNat (97 + k) := by simp [abcB]
  rw [this]
  by_cases hm : UInt8.ofNat (97 + k) ∈ s.data.toList
  · rw [if_pos hm]
    show _ ++ List.filter _ [_] = _
    rw [List.filter_cons_of_pos (by simpa using hm), List.filter_nil]
  · rw [if_neg hm]
    rw [List.filter_cons_of_neg (by simpa using hm), List.filter_nil, List.append_nil]
theorem barTo_len (s : ByteArray) (k : Nat) : (barTo s k).length ≤ 26 := by
  unfold barTo
  have h1 := List.length_filter_le (fun c => decide (c ∈ s.data.toList)) (abcB.take k)
  have h2 := List.length_take_le k abcB
  have h3 : (abcB.take k).length ≤ 26 := by rw [List.length_take, abcB_len]; omega
  omega
theorem barTo_all (s : ByteArray) : barTo s 26 = usedB s := by
  unfold barTo usedB
  rw [List.take_of_length_le (by rw [abcB_len]; exact Nat.le_refl _)]
theorem byte_getD (s : ByteArray) (j : Nat) (h : j < s.size) : s.data.toList.getD j 0 = s[j] := by
  rw [List.getD_eq_getElem?_getD, List.getElem?_eq_getElem (by simpa using h)]
  rfl
theorem ofNat_toNat (k : Nat) (h : k < 26) : (UInt8.ofNat (97 + k)).toNat = 97 + k := by
  rw [UInt8.toNat_ofNat']; omega

set_option maxRecDepth 100000 in
set_option maxHeartbeats 2000000 in
theorem spec_BarsUsed_any (s : ByteArray) (w : World) (hs : s.size ≤ 1048576) :
    Calls Try.prog 4 #[.string s] w fun e w' => e = .returned (.string (mkS (barV s))) ∧ Below w.heap.size w w' := by
  have HS := Lib.hid (fun V => spec_ScoreOk_any s V (by unfold maxLen; omega))
  cases h1 : (scoreR s).isSome
  · have HV := Lib.hid (show barV s = [] by unfold barV; cases h : scoreR s with | none => rfl | some r => rw [h] at h1; cases h1)
    rw [h1] at HS
    go_enter Try.func4, Try.ntmps4
    go_wp2_with (go_at_call 6; refine (HS.out _).mono ?_; rintro e w1 ⟨rfl, hb1⟩)
    go_ret
    exact ⟨by rw [HV.out]; rfl, hb1⟩
  rw [h1] at HS
  have HV := Lib.hid (show barV s = usedB s by unfold barV; cases h : scoreR s with | none => rw [h] at h1; cases h1 | some r => rfl)
  clear h1
  go_enter Try.func4, Try.ntmps4
  go_wp2_with (go_at_call 6; refine (HS.out _).mono ?_; rintro e w1 ⟨rfl, hb1⟩)
  go_loop [3, 4] (fun t i => ∃ (k : Nat) (u : ByteArray), k ≤ 26 ∧ i = .int .u8 ((97 + k : Nat) : Int) ∧ t = .string u ∧ Str u (barTo s k)) (fun _ i => 200 - (intOf i).toNat)
  case atStart => exact ⟨0, _, Nat.zero_le _, rfl, rfl, str_nil⟩
  case round =>
    obtain ⟨k, u, hk, rfl, rfl, hu⟩ := hrel
    by_cases hlt : k < 26
    · have hle : ((97 + k : Nat) : Int) ≤ 122 := by omega
      have husz : u.size ≤ 26 := by rw [hu.size]; exact barTo_len s k
      have hsn := barTo_snoc s k hlt
      have hto := ofNat_toNat k hlt
      have HU := Lib.hid hu
      have HSN := Lib.hid hsn
      have HTO := Lib.hid hto
      clear hu hsn hto
      go_wp2_with fail
      go_loop [3, 5] (fun t i => ∃ (j : Nat), j ≤ s.size ∧ i = .int .i64 j ∧ t = .string u ∧ ∀ x, x < j → s.data.toList.getD x 0 ≠ UInt8.ofNat (97 + k)) (fun _ i => s.size - (intOf i).toNat)
      case atStart => exact ⟨0, Nat.zero_le _, rfl, rfl, fun x hx => by omega⟩
      case round =>
        obtain ⟨j, hj, rfl, rfl, hno⟩ := hrel
        by_cases hlj : j < s.size
        · go_wp2_with fail
          · rename_i hc
            have hc := Int.ofNat.inj (show ((s[j].toNat : Nat) : Int) = ((97 + k : Nat) : Int) by have := eq_of_beq hc; omega)
            have hse : s[j] = UInt8.ofNat (97 + k) := UInt8.toNat_inj.1 (by rw [HTO.out]; exact hc)
            have hm : UInt8.ofNat (97 + k) ∈ s.data.toList := (byte_at s _).2 ⟨j, hlj, by rw [byte_getD s j hlj, hse]⟩
            refine ⟨⟨k + 1, _, by omega, by go_num, rfl, ?_⟩, by simp [intOf]; omega⟩
            rw [HSN.out, if_pos hm, ← hse]
            exact HU.out.app (str_at s j hlj)
          · rename_i hc
            refine ⟨⟨j + 1, by omega, by go_num, rfl, fun x hx => ?_⟩, by simp [intOf]; omega⟩
            by_cases e : x = j
            · subst e
              rw [byte_getD s x hlj]
              intro h
              have h2 := HTO.out
              rw [← h] at h2
              rw [h2] at hc
              exact absurd (ne_of_beq_false hc) (by simp)
            · exact hno x (by omega)
        · have hnm : ¬ UInt8.ofNat (97 + k) ∈ s.data.toList := fun h => by
            obtain ⟨x, hx, e⟩ := (byte_at s _).1 h
            exact hno x (by omega) e
          have HREL := Lib.hid (show Str u (barTo s (k + 1)) by rw [HSN.out, if_neg hnm]; exact HU.out)
          clear hno hnm
          go_wp2_with fail
          go_round
          case rel => exact ⟨k + 1, _, by omega, by go_num, rfl, HREL.out⟩
          case measure => simp [intOf]; omega
    · have h26 : k = 26 := by omega
      subst h26
      have HU := Lib.hid (show u = mkS (usedB s) by have := hu.eq; rwa [barTo_all] at this)
      clear hu
      go_wp2_with fail
      go_ret
      exact ⟨by rw [HV.out, HU.out]; rfl, hb1⟩

end Go.Proofs.Ythfjfhgeiggljaa
