/-
  The laws' own helpers on rhythms: how many cells, a copy, equality.
-/
import Derived.Test.YtjoeglekcnaebaaGreatDoorTab
import Derived.Deep.Light
import Derived.Deep.QuietTactic
import Derived.BigQuiet
namespace Go.Proofs.YtjoeglekcnaebaaGreatDoor
open Go.RowKit
set_option linter.unusedVariables false
set_option linter.unusedSimpArgs false


theorem Tab.ints {w : World} {b : Nat} {xs : List Int} {B : Nat} (h : Tab w b xs.length (fun t => xs.getD t 0)) (hB : b < B) (hl : xs.length ≤ maxLen) (hf : ∀ x ∈ xs, Fits x) : Ints w B (some ⟨b, 0, none⟩) xs :=
  ⟨hl, hf, fun _ => ⟨b, 0, rfl, hB, fun i hi => by rw [Nat.zero_add]; exact (h.2 i hi).1⟩⟩

set_option maxHeartbeats 400000 in
theorem szIntS_small (A : Option Addr) (cap : Nat) (xs : List Int) (left : Int) (w : World) (hl : (xs.length : Int) ≤ left) (hb : left ≤ 1048576) :
    Calls Tryz.prog 12 #[.slice A xs.length cap, .int .i64 left] w fun e w' => e = .returned (.int .i64 (left - xs.length)) ∧ w = w' := by
  go_enter Tryz.func12, Tryz.ntmps12
  go_wp2
  go_ret
  exact ⟨rfl, rfl⟩
set_option maxHeartbeats 400000 in
theorem szIntS_big (A : Option Addr) (cap : Nat) (xs : List Int) (left : Int) (w : World) (hm : xs.length ≤ maxLen) (hl : left < (xs.length : Int)) (h0 : 0 ≤ left) (hb : left ≤ 1048576) :
    Calls Tryz.prog 12 #[.slice A xs.length cap, .int .i64 left] w fun e w' => e = .returned (.int .i64 (-1)) ∧ w = w' := by
  unfold maxLen at hm
  go_enter Tryz.func12, Tryz.ntmps12
  go_wp2
  go_ret
  exact ⟨rfl, rfl⟩

set_option maxHeartbeats 400000 in
theorem szRhythm_small (n : Int) (A : Option Addr) (cap : Nat) (xs : List Int) (left : Int) (w : World) (hl : (xs.length : Int) ≤ left) (hb : left ≤ 1048576) :
    Calls Tryz.prog 5 #[.agg #[.int .i64 n, .slice A xs.length cap], .int .i64 left] w fun e w' => e = .returned (.int .i64 (left - xs.length)) ∧ Below w.heap.size w w' := by
  go_enter Tryz.func5, Tryz.ntmps5
  go_wp2_with (go_at_call 12; refine (szIntS_small A cap xs left _ hl hb).mono ?_; rintro e w' ⟨rfl, rfl⟩)
  go_ret
  exact ⟨rfl, (Below.refl _ _).alloc (Nat.le_refl _) _⟩
set_option maxHeartbeats 400000 in
theorem szRhythm_big (n : Int) (A : Option Addr) (cap : Nat) (xs : List Int) (left : Int) (w : World) (hm : xs.length ≤ maxLen) (hl : left < (xs.length : Int)) (h0 : 0 ≤ left) (hb : left ≤ 1048576) :
    Calls Tryz.prog 5 #[.agg #[.int .i64 n, .slice A xs.length cap], .int .i64 left] w fun e w' => e = .returned (.int .i64 (-1)) ∧ Below w.heap.size w w' := by
  have HM := Lib.hid hm
  clear hm
  go_enter Tryz.func5, Tryz.ntmps5
  go_wp2_with (go_at_call 12; refine (szIntS_big A cap xs left _ HM.out hl h0 hb).mono ?_; rintro e w' ⟨rfl, rfl⟩)
  go_ret
  exact ⟨rfl, (Below.refl _ _).alloc (Nat.le_refl _) _⟩

set_option maxHeartbeats 400000 in
theorem toIntS_any (A : Option Addr) (cap : Nat) (xs : List Int) (w : World) (hA : Ints w w.heap.size A xs) (hl : xs.length ≤ 1048576) :
    Calls Tryz.prog 19 #[.slice A xs.length cap] w fun e w' => e = .returned (.slice (some ⟨w.heap.size, 0, none⟩) xs.length xs.length) ∧ Tab w' w.heap.size xs.length (fun t => xs.getD t 0) ∧ Below w.heap.size w w' := by
  have hmk := fun W : World => run_make_int xs.length (by omega) W
  have HC := Lib.hid hA.2.2
  clear hA
  go_enter Tryz.func19, Tryz.ntmps19
  go_wp2
  have hnew := tab_made w xs.length 3
  go_loopw [4] (fun i wr => ∃ k : Nat, k ≤ xs.length ∧ i = .int .i64 k ∧ Tab wr w.heap.size xs.length (fun t => if t < k then xs.getD t 0 else 0) ∧ Below w.heap.size w wr) (fun i _ => xs.length - (intOf i).toNat)
  case atStart => exact ⟨0, Nat.zero_le _, rfl, hnew.congr (fun t _ => by simp), (Below.refl _ _).alloc (Nat.le_refl _) _⟩
  case round =>
    obtain ⟨k, hk, rfl, htab, hbel⟩ := hrel
    by_cases hlt : k < xs.length
    · obtain ⟨b, off, rfl, hB, hc⟩ := HC.out (by omega)
      have hcell := hc k hlt
      rw [← hbel.cell (p := ⟨b, off + k, none⟩) hB] at hcell
      obtain ⟨x, hx⟩ : ∃ x, xs.getD k 0 = x := ⟨_, rfl⟩
      rw [hx] at hcell
      have hto := htab.get hlt (v := 0) (if_neg (by omega))
      have hfr := htab.frz hlt
      have HX := Lib.hid hx
      clear hx hc
      go_wp2
      go_roundw
      case rel =>
        refine ⟨k + 1, by omega, by go_num, htab.set_ k _ hlt ?_ ?_, hbel.setCell (Nat.le_refl _) _⟩
        · rw [if_pos (by omega), HX.out]
        · intro t _ ht
          by_cases h : t < k
          · rw [if_pos h, if_pos (by omega)]
          · rw [if_neg h, if_neg (by omega)]
      case measure => simp [intOf]; omega
    · have hend := htab.congr (g := fun t => xs.getD t 0) (fun t ht => by rw [if_pos (by omega)])
      go_wp2
      go_ret
      exact ⟨rfl, hend, hbel⟩

set_option maxHeartbeats 400000 in
theorem toRhythm_any (n : Int) (A : Option Addr) (cap : Nat) (xs : List Int) (w : World) (hA : Ints w w.heap.size A xs) (hl : xs.length ≤ 1048576) :
    Calls Tryz.prog 7 #[.agg #[.int .i64 n, .slice A xs.length cap]] w fun e w' => e = .returned (.agg #[.int .i64 n, .slice (some ⟨w.heap.size + 3, 0, none⟩) xs.length xs.length]) ∧ Tab w' (w.heap.size + 3) xs.length (fun t => xs.getD t 0) ∧ Below w.heap.size w w' := by
  have HA := Lib.hid hA
  clear hA
  go_enter Tryz.func7, Tryz.ntmps7
  go_wp2_with (go_at_call 19; refine (toIntS_any A cap xs _ (HA.out.lift (by repeat (first | exact Below.refl _ _ | assumption | (refine Below.alloc ?_ (by first | exact Nat.le_refl _ | (simp; done) | (simp; omega) | omega) _) | (refine Below.drew ?_) | (refine Below.setCell ?_ (by first | exact Nat.le_refl _ | (simp; done) | (simp; omega) | omega) _)))) hl).mono ?_; rintro e w1 ⟨rfl, ht, hb⟩; obtain ⟨hc, hf⟩ := bcell hb; have hz := hb.size; simp only [World.size_alloc] at hz)
  simp only [World.size_alloc] at ht
  refine bodyPost_ret (v := .agg #[.int .i64 n, .slice (some ⟨w.heap.size + 3, 0, none⟩) xs.length xs.length]) (by simp [results, Tryz.results7, go_sem, hc, hz]) rfl ⟨rfl, ?_, ?_⟩
  · exact (by repeat (first | assumption | (refine Tab.far ?_ (by simp) _) | (refine Tab.far ?_ (by simp; omega) _) | (refine Tab.alloc ?_ _) | (refine Tab.drew ?_)))
  · have hb' := ((((Below.refl w.heap.size w).alloc (by first | exact Nat.le_refl _ | (simp; done) | (simp; omega) | omega) _).alloc (by first | exact Nat.le_refl _ | (simp; done) | (simp; omega) | omega) _).alloc (by first | exact Nat.le_refl _ | (simp; done) | (simp; omega) | omega) _).trans (hb.mono (by first | exact Nat.le_refl _ | (simp; done) | (simp; omega) | omega))
    exact (by repeat (first | exact Below.refl _ _ | assumption | (refine Below.alloc ?_ (by first | exact Nat.le_refl _ | (simp; done) | (simp; omega) | omega) _) | (refine Below.drew ?_) | (refine Below.setCell ?_ (by first | exact Nat.le_refl _ | (simp; done) | (simp; omega) | omega) _)))

def eqB (xs ys : List Int) : Bool := decide (xs = ys)
theorem eqB_self (xs : List Int) : eqB xs xs = true := by simp [eqB]
theorem eqB_len {xs ys : List Int} (h : xs.length ≠ ys.length) : eqB xs ys = false := by
  unfold eqB; rw [decide_eq_false_iff_not]; exact fun e => h (by rw [e])
theorem eqB_at {xs ys : List Int} {k : Nat} (h : xs.getD k 0 ≠ ys.getD k 0) : eqB xs ys = false := by
  unfold eqB; rw [decide_eq_false_iff_not]; exact fun e => h (by rw [e])
theorem eqB_all {xs ys : List Int} (hl : xs.length = ys.length) (h : ∀ i, i < xs.length → xs.getD i 0 = ys.getD i 0) : eqB xs ys = true := by
  unfold eqB; rw [decide_eq_true_eq]
  refine List.ext_getElem hl fun i h1 h2 => ?_
  have := h i h1
  simpa [List.getD_eq_getElem?_getD, h1, h2] using this

set_option maxHeartbeats 400000 in
theorem eqIntS_any (A B : Option Addr) (ca cb : Nat) (xs ys : List Int) (w : World) (hA : Ints w w.heap.size A xs) (hB : Ints w w.heap.size B ys) :
    Calls Tryz.prog 27 #[.slice A xs.length ca, .slice B ys.length cb] w fun e w' => e = .returned (.bool (eqB xs ys)) ∧ Below w.heap.size w w' := by
  have hl1 := hA.1
  have hl2 := hB.1
  unfold maxLen at hl1 hl2
  have HA := Lib.hid hA
  have HB := Lib.hid hB
  clear hA hB
  by_cases hlen : xs.length = ys.length
  · have hbne : ((xs.length : Int) != (ys.length : Int)) = false := by simp; omega
    have h1 : xs.length ≤ ys.length := by omega
    have h2 : ys.length ≤ xs.length := by omega
    have HL := Lib.hid hlen
    clear hlen
    go_enter Tryz.func27, Tryz.ntmps27
    go_wp2
    go_loopw [5] (fun i wr => ∃ k : Nat, k ≤ xs.length ∧ i = .int .i64 k ∧ Below w.heap.size w wr ∧ ∀ j, j < k → xs.getD j 0 = ys.getD j 0) (fun i _ => xs.length - (intOf i).toNat)
    case atStart => exact ⟨0, Nat.zero_le _, rfl, Below.refl _ _, fun j h => by omega⟩
    case round =>
      obtain ⟨k, hk, rfl, hbel, hall⟩ := hrel
      have HALL := Lib.hid hall
      clear hall
      by_cases hlt : k < xs.length
      · obtain ⟨b, off, rfl, hB1, hc1⟩ := HA.out.2.2 (by omega)
        obtain ⟨b2, off2, rfl, hB2, hc2⟩ := HB.out.2.2 (by omega)
        have hcell1 := hc1 k hlt
        have hcell2 := hc2 k (by omega)
        rw [← hbel.cell (p := ⟨b, off + k, none⟩) hB1] at hcell1
        rw [← hbel.cell (p := ⟨b2, off2 + k, none⟩) hB2] at hcell2
        obtain ⟨x, hx⟩ : ∃ x, xs.getD k 0 = x := ⟨_, rfl⟩
        obtain ⟨y, hy⟩ : ∃ y, ys.getD k 0 = y := ⟨_, rfl⟩
        rw [hx] at hcell1
        rw [hy] at hcell2
        have HX := Lib.hid hx
        have HY := Lib.hid hy
        clear hx hy hc1 hc2
        have hk0 : (0 : Int) ≤ (k : Int) := Int.natCast_nonneg _
        have hk1 : (k : Int) < (xs.length : Int) := by omega
        have hk2 : (k : Int) < (ys.length : Int) := by omega
        by_cases hxy : x = y
        · subst hxy
          go_wp2
          go_quiet (fail)
          go_wp2
          go_roundw
          case rel =>
            refine ⟨k + 1, by omega, by go_num, Below.drewN_ hbel _, fun j hj => ?_⟩
            by_cases e : j = k
            · subst e; rw [HX.out, HY.out]
            · exact HALL.out j (by omega)
          case measure => simp [intOf]; omega
        · have hne : (x != y) = true := by simpa using hxy
          have HF := Lib.hid (eqB_at (xs := xs) (ys := ys) (k := k) (by rw [HX.out, HY.out]; exact hxy))
          clear hxy
          go_wp2
          go_quiet (fail)
          go_wp2
          go_ret
          exact ⟨ret_bool HF.out.symm, Below.drewN_ hbel _⟩
      · have HF := Lib.hid (eqB_all HL.out (fun i hi => HALL.out i (by omega)))
        go_wp2
        go_ret
        exact ⟨ret_bool HF.out.symm, hbel⟩
  · have hbne : ((xs.length : Int) != (ys.length : Int)) = true := by simp; omega
    have HF := Lib.hid (eqB_len hlen)
    clear hlen
    go_enter Tryz.func27, Tryz.ntmps27
    go_wp2
    go_ret
    exact ⟨ret_bool HF.out.symm, Below.refl _ _⟩

set_option maxHeartbeats 400000 in
theorem eqRhythm_any (n m : Int) (A B : Option Addr) (ca cb : Nat) (xs ys : List Int) (w : World) (hA : Ints w w.heap.size A xs) (hB : Ints w w.heap.size B ys) :
    Calls Tryz.prog 9 #[.agg #[.int .i64 n, .slice A xs.length ca], .agg #[.int .i64 m, .slice B ys.length cb]] w fun e w' => e = .returned (.bool (decide (n = m) && eqB xs ys)) ∧ Below w.heap.size w w' := by
  have HA := Lib.hid hA
  have HB := Lib.hid hB
  clear hA hB
  by_cases hnm : n = m
  · subst hnm
    cases he : eqB xs ys
    all_goals
      go_enter Tryz.func9, Tryz.ntmps9
      go_wp2_with (go_at_call 27; refine (eqIntS_any A B ca cb xs ys _ (HA.out.lift (by repeat (first | exact Below.refl _ _ | assumption | (refine Below.alloc ?_ (by first | exact Nat.le_refl _ | (simp; done) | (simp; omega) | omega) _) | (refine Below.drew ?_) | (refine Below.setCell ?_ (by first | exact Nat.le_refl _ | (simp; done) | (simp; omega) | omega) _)))) (HB.out.lift (by repeat (first | exact Below.refl _ _ | assumption | (refine Below.alloc ?_ (by first | exact Nat.le_refl _ | (simp; done) | (simp; omega) | omega) _) | (refine Below.drew ?_) | (refine Below.setCell ?_ (by first | exact Nat.le_refl _ | (simp; done) | (simp; omega) | omega) _))))).mono ?_; rintro e w1 ⟨rfl, hb⟩)
      go_ret
      have hb' := (((Below.refl w.heap.size w).alloc (by first | exact Nat.le_refl _ | (simp; done) | (simp; omega) | omega) _).alloc (by first | exact Nat.le_refl _ | (simp; done) | (simp; omega) | omega) _).trans (hb.mono (by first | exact Nat.le_refl _ | (simp; done) | (simp; omega) | omega))
      exact ⟨by simp, hb'⟩
  · have hne : (n != m) = true := by simpa using hnm
    have HN := Lib.hid (decide_eq_false hnm)
    clear hnm
    go_enter Tryz.func9, Tryz.ntmps9
    go_wp2
    go_ret
    exact ⟨by rw [HN.out]; rfl, (by repeat (first | exact Below.refl _ _ | assumption | (refine Below.alloc ?_ (by first | exact Nat.le_refl _ | (simp; done) | (simp; omega) | omega) _) | (refine Below.drew ?_) | (refine Below.setCell ?_ (by first | exact Nat.le_refl _ | (simp; done) | (simp; omega) | omega) _)))⟩

end Go.Proofs.YtjoeglekcnaebaaGreatDoor
