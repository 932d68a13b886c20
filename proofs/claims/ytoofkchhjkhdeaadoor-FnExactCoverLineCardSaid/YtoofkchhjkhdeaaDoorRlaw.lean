/-
  The laws' own helpers on rhythms: how many cells, a copy, equality.
-/
import Derived.Test.YtoofkchhjkhdeaaDoorTab
import Derived.Deep.Light
import Derived.Deep.QuietTactic
import Derived.BigQuiet
namespace Go.Proofs.YtoofkchhjkhdeaaDoor
open Go.RowKit
set_option linter.unusedVariables false
set_option linter.unusedSimpArgs false


theorem Tab.ints {w : World} {b : Nat} {xs : List Int} {B : Nat} (h : Tab w b xs.length (fun t => xs.getD t 0)) (hB : b < B) (hl : xs.length ≤ maxLen) (hf : ∀ x ∈ xs, Fits x) : Ints w B (some ⟨b, 0, none⟩) xs :=
  ⟨hl, hf, fun _ => ⟨b, 0, rfl, hB, fun i hi => by rw [Nat.zero_add]; exact (h.2 i hi).1⟩⟩

set_option maxHeartbeats 400000 in
theorem toIntS_any (A : Option Addr) (cap : Nat) (xs : List Int) (w : World) (hA : Ints w w.heap.size A xs) (hl : xs.length ≤ 1048576) :
    Calls Tryd.prog 5 #[.slice A xs.length cap] w fun e w' => e = .returned (.slice (some ⟨w.heap.size, 0, none⟩) xs.length xs.length) ∧ Tab w' w.heap.size xs.length (fun t => xs.getD t 0) ∧ Below w.heap.size w w' := by
  have hmk := fun W : World => run_make_int xs.length (by omega) W
  have HC := Lib.hid hA.2.2
  clear hA
  go_enter Tryd.func5, Tryd.ntmps5
  go_wp2
  have hnew := tab_made w xs.length 3
  go_loopw [4] (fun i wr => ∃ k : Nat, k ≤ xs.length ∧ i = .int .i64 k ∧ Tab wr w.heap.size xs.length (fun t => if t < k then xs.getD t 0 else 0) ∧ Below w.heap.size w wr) (fun i _ => xs.length - (intOf i).toNat)
  case atStart => exact ⟨0, Nat.zero_le _, rfl, hnew.congr (fun t _ => by simp), (Below.refl _ _).alloc (Nat.le_refl _) _⟩
  case round =>
    obtain ⟨k, hk, rfl, htab, hbel⟩ := hrel
    by_cases hlt : k < xs.length
    · obtain ⟨b, off, rfl, hB, hc⟩ := HC.out (by omega)
      have hcell := hc k hlt
      rw [← hbel.cell (p := ⟨b, off + k, none⟩) hB] at hcell
      obtain ⟨x, hx⟩ : ∃ x, xs.getD k 0 = x := ⟨_, rfl⟩
      rw [hx] at hcell
      have hto := htab.get hlt (v := 0) (if_neg (by omega))
      have hfr := htab.frz hlt
      have HX := Lib.hid hx
      clear hx hc
      go_wp2
      go_roundw
      case rel =>
        refine ⟨k + 1, by omega, by go_num, htab.set_ k _ hlt ?_ ?_, hbel.setCell (Nat.le_refl _) _⟩
        · rw [if_pos (by omega), HX.out]
        · intro t _ ht
          by_cases h : t < k
          · rw [if_pos h, if_pos (by omega)]
          · rw [if_neg h, if_neg (by omega)]
      case measure => simp [intOf]; omega
    · have hend := htab.congr (g := fun t => xs.getD t 0) (fun t ht => by rw [if_pos (by omega)])
      go_wp2
      go_ret
      exact ⟨rfl, hend, hbel⟩

def eqB (xs ys : List Int) : Bool := decide (xs = ys)
theorem eqB_self (xs : List Int) : eqB xs xs = true := by simp [eqB]
theorem eqB_len {xs ys : List Int} (h : xs.length ≠ ys.length) : eqB xs ys = false := by
  unfold eqB; rw [decide_eq_false_iff_not]; exact fun e => h (by rw [e])
theorem eqB_at {xs ys : List Int} {k : Nat} (h : xs.getD k 0 ≠ ys.getD k 0) : eqB xs ys = false := by
  unfold eqB; rw [decide_eq_false_iff_not]; exact fun e => h (by rw [e])
theorem eqB_all {xs ys : List Int} (hl : xs.length = ys.length) (h : ∀ i, i < xs.length → xs.getD i 0 = ys.getD i 0) : eqB xs ys = true := by
  unfold eqB; rw [decide_eq_true_eq]
  refine List.ext_getElem hl fun i h1 h2 => ?_
  have := h i h1
  simpa [List.getD_eq_getElem?_getD, h1, h2] using this

set_option maxHeartbeats 400000 in
theorem eqIntS_any (A B : Option Addr) (ca cb : Nat) (xs ys : List Int) (w : World) (hA : Ints w w.heap.size A xs) (hB : Ints w w.heap.size B ys) :
    Calls Tryd.prog 7 #[.slice A xs.length ca, .slice B ys.length cb] w fun e w' => e = .returned (.bool (eqB xs ys)) ∧ Below w.heap.size w w' := by
  have hl1 := hA.1
  have hl2 := hB.1
  unfold maxLen at hl1 hl2
  have HA := Lib.hid hA
  have HB := Lib.hid hB
  clear hA hB
  by_cases hlen : xs.length = ys.length
  · have hbne : ((xs.length : Int) != (ys.length : Int)) = false := by simp; omega
    have h1 : xs.length ≤ ys.length := by omega
    have h2 : ys.length ≤ xs.length := by omega
    have HL := Lib.hid hlen
    clear hlen
    go_enter Tryd.func7, Tryd.ntmps7
    go_wp2
    go_loopw [5] (fun i wr => ∃ k : Nat, k ≤ xs.length ∧ i = .int .i64 k ∧ Below w.heap.size w wr ∧ ∀ j, j < k → xs.getD j 0 = ys.getD j 0) (fun i _ => xs.length - (intOf i).toNat)
    case atStart => exact ⟨0, Nat.zero_le _, rfl, Below.refl _ _, fun j h => by omega⟩
    case round =>
      obtain ⟨k, hk, rfl, hbel, hall⟩ := hrel
      have HALL := Lib.hid hall
      clear hall
      by_cases hlt : k < xs.length
      · obtain ⟨b, off, rfl, hB1, hc1⟩ := HA.out.2.2 (by omega)
        obtain ⟨b2, off2, rfl, hB2, hc2⟩ := HB.out.2.2 (by omega)
        have hcell1 := hc1 k hlt
        have hcell2 := hc2 k (by omega)
        rw [← hbel.cell (p := ⟨b, off + k, none⟩) hB1] at hcell1
        rw [← hbel.cell (p := ⟨b2, off2 + k, none⟩) hB2] at hcell2
        obtain ⟨x, hx⟩ : ∃ x, xs.getD k 0 = x := ⟨_, rfl⟩
        obtain ⟨y, hy⟩ : ∃ y, ys.getD k 0 = y := ⟨_, rfl⟩
        rw [hx] at hcell1
        rw [hy] at hcell2
        have HX := Lib.hid hx
        have HY := Lib.hid hy
        clear hx hy hc1 hc2
        have hk0 : (0 : Int) ≤ (k : Int) := Int.natCast_nonneg _
        have hk1 : (k : Int) < (xs.length : Int) := by omega
        have hk2 : (k : Int) < (ys.length : Int) := by omega
        by_cases hxy : x = y
        · subst hxy
          go_wp2
          go_quiet (fail)
          go_wp2
          go_roundw
          case rel =>
            refine ⟨k + 1, by omega, by go_num, Below.drewN_ hbel _, fun j hj => ?_⟩
            by_cases e : j = k
            · subst e; rw [HX.out, HY.out]
            · exact HALL.out j (by omega)
          case measure => simp [intOf]; omega
        · have hne : (x != y) = true := by simpa using hxy
          have HF := Lib.hid (eqB_at (xs := xs) (ys := ys) (k := k) (by rw [HX.out, HY.out]; exact hxy))
          clear hxy
          go_wp2
          go_quiet (fail)
          go_wp2
          go_ret
          exact ⟨ret_bool HF.out.symm, Below.drewN_ hbel _⟩
      · have HF := Lib.hid (eqB_all HL.out (fun i hi => HALL.out i (by omega)))
        go_wp2
        go_ret
        exact ⟨ret_bool HF.out.symm, hbel⟩
  · have hbne : ((xs.length : Int) != (ys.length : Int)) = true := by simp; omega
    have HF := Lib.hid (eqB_len hlen)
    clear hlen
    go_enter Tryd.func7, Tryd.ntmps7
    go_wp2
    go_ret
    exact ⟨ret_bool HF.out.symm, Below.refl _ _⟩

end Go.Proofs.YtoofkchhjkhdeaaDoor
