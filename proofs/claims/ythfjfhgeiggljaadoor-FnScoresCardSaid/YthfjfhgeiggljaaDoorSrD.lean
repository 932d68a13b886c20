/-
  Sorting bytes: heapSortOrdered, reverseRangeOrdered.
-/
import Derived.Test.YthfjfhgeiggljaaDoorSrC
namespace Go.Proofs.YthfjfhgeiggljaaDoor
open Go.RowKit
set_option linter.unusedVariables false
set_option linter.unusedSimpArgs false

set_option maxRecDepth 100000 in
set_option maxHeartbeats 8000000 in
theorem heapSort_byte (g off cap a b n : Nat) (d : Array Int) (w : World) (hH : AD w g off d) (hab : a ≤ b) (hb : b ≤ n) (hn : d.size = n) (hsz : n < 4611686018427387904) :
    Calls Tryd.prog 81 #[.slice (some ⟨g, off, none⟩) n cap, .int .i64 a, .int .i64 b] w fun e w' =>
      e = .returned (.tuple #[]) ∧ AD w' g off (Go.Sort.heapSort ltZ d a b) ∧ (Go.Sort.heapSort ltZ d a b).size = n ∧ Frm (OneB g) w w' := by
  have ecast : ((b - a : Nat) : Int) = (b : Int) - (a : Int) := by omega
  have HE := Lib.hid (show Go.Sort.heapSort ltZ d a b = Go.Sort.heapPop ltZ a (b - a) (Go.Sort.heapBuild ltZ (b - a) a ((b - a - 1) / 2 + 1) d) from rfl)
  have HH := Lib.hid hH
  have HN := Lib.hid hn
  have HW := Lib.hid (Frm.refl (OneB g) w)
  clear hH hn
  go_enter Tryd.func81, Tryd.ntmps81
  go_wp2
  go_loopg [9] ((b - a - 1) / 2 + 1) (fun k s9 wr => s9 = .int .i64 ((k : Int) - 1) ∧ k ≤ (b - a - 1) / 2 + 1 ∧ ∃ dk : Array Int, dk.size = n ∧ AD wr g off dk ∧ Frm (OneB g) w wr ∧ Go.Sort.heapBuild ltZ (b - a) a k dk = Go.Sort.heapBuild ltZ (b - a) a ((b - a - 1) / 2 + 1) d)
  case atStart => exact ⟨by rw [half_start hab], Nat.le_refl _, d, HN.out, HH.out, HW.out, rfl⟩
  case round =>
    obtain ⟨rfl, hkk, dk, hsk, hA, hF, hQ⟩ := hrel
    have HQ := Lib.hid hQ
    have HA := Lib.hid hA
    have HF := Lib.hid hF
    have HSK := Lib.hid hsk
    clear hQ hA hF hsk
    cases gk with
    | zero =>
      have HB := Lib.hid (show dk = Go.Sort.heapBuild ltZ (b - a) a ((b - a - 1) / 2 + 1) d from HQ.out)
      clear hkk
      go_wp2
      go_loopg [10] (b - a) (fun k s10 wr2 => s10 = .int .i64 ((k : Int) - 1) ∧ k ≤ b - a ∧ ∃ dj : Array Int, dj.size = n ∧ AD wr2 g off dj ∧ Frm (OneB g) w wr2 ∧ Go.Sort.heapPop ltZ a k dj = Go.Sort.heapPop ltZ a (b - a) dk)
      case atStart => exact ⟨by rw [ecast], Nat.le_refl _, dk, HSK.out, HA.out, HF.out, rfl⟩
      case round =>
        obtain ⟨rfl, hkk, dj, hsj, hA2, hF2, hQ2⟩ := hrel
        cases gk with
        | zero =>
          have HV := Lib.hid (show dj = Go.Sort.heapSort ltZ d a b by rw [HE.out, ← HB.out, ← hQ2]; rfl)
          have HSJ := Lib.hid hsj
          have HA2 := Lib.hid hA2
          have HF2 := Lib.hid hF2
          clear hQ2 hsj hA2 hF2
          go_wp2
          go_end0
          rw [← HV.out]
          exact ⟨rfl, HA2.out, HSJ.out, HF2.out⟩
        | succ k =>
          obtain ⟨G, hG, hcw, hfw⟩ := hA2.fam hsj
          have HG := Lib.hid hG
          have HQ2 := Lib.hid (show Go.Sort.heapPop ltZ a k (Go.Sort.siftDown ltZ k a 0 (Go.Sort.swp dj a (a + k))) = Go.Sort.heapPop ltZ a (b - a) dk from hQ2)
          have HA2 := Lib.hid hA2
          have HF2 := Lib.hid hF2
          have HSJ := Lib.hid hsj
          clear hG hQ2 hA2 hF2 hsj
          rcases Nat.eq_zero_or_pos k with hk0 | hkp
          · subst hk0
            go_wp2_with fail
            go_region
            go_wp2_with fail
            refine (siftDown_byte g off cap 0 0 a n (Go.Sort.swp dj a a) _ (HA2.out.drew.swapG (by rw [HSJ.out]; omega) (by rw [HSJ.out]; omega) (HG.out _) (HG.out _)) (Nat.le_refl _) (by omega) (by rw [swp_size]; exact HSJ.out) hsz).mono ?_
            rintro e w1 ⟨rfl, ha1, hf1⟩
            have HA3 := Lib.hid ha1
            have HF3 := Lib.hid ((HF2.out.drew.swap _ _ _ _).trans hf1)
            clear ha1 hf1
            go_wp2
            go_roundg 0
            case measure => omega
            case rel => exact ⟨by simp, by omega, _, by rw [sd_size, swp_size]; exact HSJ.out, HA3.out, HF3.out, HQ2.out⟩
          · go_wp2_with fail
            go_region
            go_wp2_with fail
            refine (siftDown_byte g off cap 0 k a n (Go.Sort.swp dj a (a + k)) _ (HA2.out.drew.swapG (by rw [HSJ.out]; omega) (by rw [HSJ.out]; omega) (HG.out _) (HG.out _)) (Nat.zero_le _) (by omega) (by rw [swp_size]; exact HSJ.out) hsz).mono ?_
            rintro e w1 ⟨rfl, ha1, hf1⟩
            have HA3 := Lib.hid ha1
            have HF3 := Lib.hid ((HF2.out.drew.swap _ _ _ _).trans hf1)
            clear ha1 hf1
            go_wp2
            go_roundg k
            case measure => omega
            case rel => exact ⟨by simp, by omega, _, by rw [sd_size, swp_size]; exact HSJ.out, HA3.out, HF3.out, HQ2.out⟩
    | succ k =>
      have HQ1 := Lib.hid (show Go.Sort.heapBuild ltZ (b - a) a k (Go.Sort.siftDown ltZ (b - a) a k dk) = Go.Sort.heapBuild ltZ (b - a) a ((b - a - 1) / 2 + 1) d from HQ.out)
      have hcall := siftDown_byte g off cap k (b - a) a n dk wr HA.out (by omega) (by omega) HSK.out hsz
      rw [ecast] at hcall
      have HCL := Lib.hid hcall
      clear hcall
      go_wp2_with (go_at_call 110; refine HCL.out.mono ?_; rintro e w1 ⟨rfl, ha1, hf1⟩)
      have HA3 := Lib.hid ha1
      have HF3 := Lib.hid (HF.out.trans hf1)
      clear ha1 hf1
      go_roundg k
      case measure => omega
      case rel => exact ⟨by simp, by omega, _, by rw [sd_size]; exact HSK.out, HA3.out, HF3.out, HQ1.out⟩

set_option maxRecDepth 100000 in
set_option maxHeartbeats 4000000 in
theorem reverseRange_byte (g off cap a b n : Nat) (d : Array Int) (w : World) (hH : AD w g off d) (hab : a ≤ b) (hb : b ≤ n) (hn : d.size = n) (hsz : n < 4611686018427387904) :
    Calls Tryd.prog 84 #[.slice (some ⟨g, off, none⟩) n cap, .int .i64 a, .int .i64 b] w fun e w' =>
      e = .returned (.tuple #[]) ∧ AD w' g off (Go.Sort.reverseRange d a b) ∧ (Go.Sort.reverseRange d a b).size = n ∧ Frm (OneB g) w w' := by
  have HE := Lib.hid (show Go.Sort.reverseRange d a b = Go.Sort.reverseLoop a (b - 1) d from rfl)
  have HH := Lib.hid hH
  have HN := Lib.hid hn
  have HW := Lib.hid (Frm.refl (OneB g) w)
  clear hH hn
  go_enter Tryd.func84, Tryd.ntmps84
  go_wp2
  go_loopg [6, 7] (b - a) (fun k s6 s7 wr => ∃ (i jn : Nat) (jz : Int) (dk : Array Int), s6 = .int .i64 i ∧ s7 = .int .i64 jz ∧ ((i : Int) < jz → jz = jn ∧ jn < n) ∧ (¬ (i : Int) < jz → ¬ i < jn) ∧ jn - i ≤ k ∧ dk.size = n ∧ AD wr g off dk ∧ Frm (OneB g) w wr ∧ Go.Sort.reverseLoop i jn dk = Go.Sort.reverseLoop a (b - 1) d)
  case atStart => exact ⟨a, b - 1, (b : Int) - 1, d, rfl, rfl, fun h => ⟨by omega, by omega⟩, fun h => by omega, by omega, HN.out, HH.out, HW.out, rfl⟩
  case round =>
    obtain ⟨i, jn, jz, dk, rfl, rfl, h1, h2, hk, hsk, hA, hF, hQ⟩ := hrel
    by_cases hlt : (i : Int) < jz
    · obtain ⟨rfl, hjn⟩ := h1 hlt
      have hij : i < jn := by omega
      obtain ⟨G, hG, hcw, hfw⟩ := hA.fam hsk
      have ci := hcw i (by omega)
      have fi := hfw i (by omega)
      have cj := hcw jn hjn
      have fj := hfw jn hjn
      rw [Go.Sort.reverseLoop, if_pos hij] at hQ
      have HG := Lib.hid hG
      have HQ := Lib.hid hQ
      have HA := Lib.hid hA
      have HF := Lib.hid hF
      have HSK := Lib.hid hsk
      clear hG hQ hA hF hsk h1 h2 hcw hfw
      go_wp2_with fail
      go_region
      go_wp2
      go_roundg (jn - 1 - (i + 1))
      case measure => omega
      case rel =>
        exact ⟨i + 1, jn - 1, (jn : Int) - 1, Go.Sort.swp dk i jn, by simp, rfl, fun h => ⟨by omega, by omega⟩, fun h => by omega, Nat.le_refl _, by rw [swp_size]; exact HSK.out,
          HA.out.drew.swapG (by rw [HSK.out]; omega) (by rw [HSK.out]; omega) (HG.out _) (HG.out _), HF.out.drew.swap _ _ _ _, HQ.out⟩
    · have hnot := h2 hlt
      rw [Go.Sort.reverseLoop, if_neg hnot] at hQ
      have HQ := Lib.hid (HE.out.trans hQ.symm)
      have HA := Lib.hid hA
      have HF := Lib.hid hF
      have HSK := Lib.hid hsk
      clear hQ hA hF hsk h1 h2
      go_wp2
      go_end0
      rw [HQ.out]
      exact ⟨rfl, HA.out, HSK.out, HF.out⟩

end Go.Proofs.YthfjfhgeiggljaaDoor
