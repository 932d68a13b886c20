/-
  The program's count of lists of steps, by a table; CountFor of the program.
-/
import Derived.Test.YthfofjbegkjdmaaDp
import Derived.Test.YthfofjbegkjdmaaTab
import Derived.Test.YthfofjbegkjdmaaSpecCnt
namespace Go.Proofs.Ythfofjbegkjdmaa
open Go.RowKit
set_option linter.unusedVariables false
set_option linter.unusedSimpArgs false

theorem made_get (N : Nat) (t : Nat) (ht : t < N) : (madeCells #[Value.int .i64 0] N)[t]? = some (.int .i64 0) := by
  rw [← Array.getElem?_toList, toList_madeCells_one]
  simp [ht]

theorem tab_alloc (w : World) (C : Array Value) (e : TypeId) (N : Nat) (f : Nat → Int) (h : ∀ t, t < N → C[t]? = some (.int .i64 (f t))) : Tab (w.alloc (.cells C e)) w.heap.size N f := by
  have hh : (w.alloc (.cells C e)).heap[w.heap.size]? = some (.cells C e (0, 0)) := heap_alloc_new w _
  exact ⟨by simp, fun t ht => ⟨by rw [cell_of_row _ _ _ _ _ _ hh]; exact h t ht, frozen_of_row _ _ _ _ _ hh⟩⟩

theorem tab_first (w : World) (N : Nat) (e : TypeId) (hN : 1 ≤ N) (lo : Int) (m : Nat) :
    Tab (w.alloc (.cells ((madeCells #[Value.int .i64 0] N).setIfInBounds 0 (.int .i64 1)) e)) w.heap.size N (fun t => stN lo m 0 t) := by
  refine tab_alloc w _ e N _ fun t ht => ?_
  rw [← stN_0]
  have hsz : (madeCells #[Value.int .i64 0] N).size = N := size_madeCells _ _
  by_cases h : t = 0
  · subst h
    rw [Array.getElem?_setIfInBounds_self_of_lt (by omega)]
    rfl
  · rw [Array.getElem?_setIfInBounds_ne (by omega), made_get N t ht, if_neg h]

theorem width_cast (l : Nat) (hi : Int) (h : (l : Int) ≤ hi) : (width l hi : Int) = hi + 1 - l := by unfold width; omega

set_option maxHeartbeats 1000000 in
theorem impl_countSteps_pos (N k l : Nat) (hi : Int) (w : World) (hN : 1 ≤ N) (hN17 : N ≤ 17) (hk : k ≤ 100) (hl : 1 ≤ l) (hlh : (l : Int) ≤ hi) (h100 : hi ≤ 100) :
    Calls Try.prog 33 #[.int .i64 ((N : Int) - 1), .int .i64 k, .int .i64 l, .int .i64 hi] w fun e w' => e = .returned (.int .i64 (stN l (width l hi) k ((N : Int) - 1))) ∧ Below w.heap.size w w' := by
  have hmk := fun W : World => run_make_int N (by omega) W
  have hc0 : (w.alloc (.cells (madeCells #[Value.int .i64 0] N) 3)).cell? ⟨w.heap.size, 0, none⟩ = some (.int .i64 0) := ((tab_made w N 3).2 0 (by omega)).1
  have hf0 : (w.alloc (.cells (madeCells #[Value.int .i64 0] N) 3)).frozen? ⟨w.heap.size, 0, none⟩ = false := ((tab_made w N 3).2 0 (by omega)).2
  go_enter Try.func33, Try.ntmps33
  go_wp2
  have HF1 := Lib.hid (tab_first w N 3 hN l (width l hi))
  clear hc0 hf0
  go_loopw [9, 21] (fun v i wr => ∃ j b : Nat, j ≤ k ∧ i = .int .i64 j ∧ v = .slice (some ⟨b, 0, none⟩) N N ∧ w.heap.size ≤ b ∧ Tab wr b N (fun t => stN l (width l hi) j t) ∧ Below w.heap.size w wr) (fun _ i _ => k - (intOf i).toNat)
  case atStart => exact ⟨0, w.heap.size, Nat.zero_le _, rfl, rfl, Nat.le_refl _, HF1.out, (Below.refl _ _).alloc (Nat.le_refl _) _⟩
  case round =>
    obtain ⟨j, b, hj, rfl, rfl, hwb, htab, hbel⟩ := hrel
    obtain ⟨wo, rfl⟩ : ∃ wo : World, wo = wr := ⟨_, rfl⟩
    have hblt := htab.1
    have hosz := hbel.size
    by_cases hlt : j < k
    · go_wp2
      have hbel1 : Below w.heap.size w (wo.alloc (Obj.cells (madeCells #[Value.int IntKind.i64 0] N) 3)) := hbel.alloc hosz _
      have htab1 := htab.alloc (Obj.cells (madeCells #[Value.int IntKind.i64 0] N) 3)
      have hnew := (tab_made wo N 3).congr (g := dp l (width l hi) (stN l (width l hi) j) 0) (fun t _ => (dp_zero _ _ _ _).symm)
      go_loopw [28] (fun i wr => ∃ s : Nat, s ≤ N ∧ i = .int .i64 s ∧ Tab wr b N (fun t => stN l (width l hi) j t) ∧ Tab wr wo.heap.size N (dp l (width l hi) (stN l (width l hi) j) s) ∧ Below w.heap.size w wr) (fun i _ => N - (intOf i).toNat)
      case atStart => exact ⟨0, Nat.zero_le _, rfl, htab1, hnew, hbel1⟩
      case round =>
        obtain ⟨s, hs, rfl, ht1, ht2, hb2⟩ := hrel
        obtain ⟨w2, rfl⟩ : ∃ w2 : World, w2 = wr := ⟨_, rfl⟩
        by_cases hls : s < N
        · obtain ⟨c, hc⟩ : ∃ c, stN l (width l hi) j s = c := ⟨_, rfl⟩
          have hc1 : w2.cell? ⟨b, s, none⟩ = some (.int .i64 c) := by rw [← hc]; exact (ht1.2 s hls).1
          have hc2 : 0 ≤ c := by rw [← hc]; exact stN_nonneg _ _ _ _
          have hc3 : c ≤ 65536 := by rw [← hc]; exact stN_small _ _ (by omega) _ _ (by omega)
          have HC := Lib.hid hc
          clear hc
          go_wp2
          clear hc1
          have hw := width_cast l hi hlh
          have HW := Lib.hid hw
          clear hw
          go_loopw [13] (fun st wr => ∃ q : Nat, l ≤ q ∧ (q : Int) ≤ hi + 1 ∧ st = .int .i64 q ∧ Tab wr b N (fun t => stN l (width l hi) j t) ∧ Tab wr wo.heap.size N (dq l (width l hi) (stN l (width l hi) j) s q) ∧ Below w.heap.size w wr) (fun st _ => (hi + 1 - intOf st).toNat)
          case atStart => exact ⟨l, Nat.le_refl _, by omega, rfl, ht1, ht2.congr (fun t _ => (dq_start _ _ _ _ _ (Int.le_refl _) _).symm), hb2⟩
          case round =>
            obtain ⟨q, hq1, hq2, rfl, hu1, hu2, hb3⟩ := hrel
            by_cases hq : (q : Int) ≤ hi
            · by_cases hfit : s + q < N
              · obtain ⟨d, hd⟩ : ∃ d, dq l (width l hi) (stN l (width l hi) j) s q (s + q) = d := ⟨_, rfl⟩
                have hdb := dq_bound l (width l hi) j s q (s + q) (by omega) (by omega) (by omega)
                rw [hd] at hdb
                obtain ⟨hd1, hd2⟩ := hdb
                have hcell : wr.cell? ⟨wo.heap.size, s + q, none⟩ = some (.int .i64 d) := by rw [← hd]; exact (hu2.2 _ hfit).1
                have hfr : wr.frozen? ⟨wo.heap.size, s + q, none⟩ = false := (hu2.2 _ hfit).2
                have HD := Lib.hid hd
                clear hd
                go_wp2
                go_roundw
                case rel =>
                  refine ⟨q + 1, by omega, by omega, by go_num, hu1.far (by simp; omega) _, hu2.set_ (s + q) _ hfit ?_ ?_, hb3.setCell (by simp; omega) _⟩
                  · rw [dq_step_at _ _ _ _ _ (by omega) (by rw [HW.out]; omega), HD.out, HC.out]
                  · exact fun t _ ht => dq_step_off _ _ _ _ _ _ ht
                case measure => simp [intOf]; omega
              · go_wp2
                go_roundw
                case rel => exact ⟨s + 1, by omega, by go_num, hu1, hu2.congr (fun t ht => dq_end _ _ N _ _ _ _ ht (.inr (by omega))), hb3⟩
                case measure => simp [intOf]; omega
            · go_wp2
              go_roundw
              case rel => exact ⟨s + 1, by omega, by go_num, hu1, hu2.congr (fun t ht => dq_end _ _ N _ _ _ _ ht (.inl (by rw [HW.out]; omega))), hb3⟩
              case measure => simp [intOf]; omega
        · have hsN : s = N := by omega
          have hend := ht2.congr (g := fun t => stN l (width l hi) (j + 1) t) (fun t ht => by rw [hsN]; exact dp_all _ _ _ _ (by omega) _ ht)
          clear hsN
          go_wp2
          go_roundw
          case rel => exact ⟨j + 1, wo.heap.size, by omega, by go_num, rfl, hosz, hend, hb2⟩
          case measure => simp [intOf]; omega
    · have hjk : j = k := by omega
      have hcell := (htab.2 (N - 1) (by omega)).1
      simp only at hcell
      rw [hjk, show ((N - 1 : Nat) : Int) = (N : Int) - 1 by omega] at hcell
      clear hjk
      obtain ⟨c, hc⟩ : ∃ c, stN l (width l hi) k ((N : Int) - 1) = c := ⟨_, rfl⟩
      rw [hc] at hcell
      have HC := Lib.hid hc
      clear hc
      go_wp2
      go_ret
      exact ⟨ret_int HC.out.symm, hbel⟩

set_option maxHeartbeats 1000000 in
theorem impl_countSteps_neg (n : Int) (k l : Nat) (hi : Int) (w : World) (hn : n < 0) (hn0 : -10000 ≤ n) (hk : k ≤ 100) (hl : 1 ≤ l) (hlh : (l : Int) ≤ hi) (h100 : hi ≤ 100) :
    Calls Try.prog 33 #[.int .i64 n, .int .i64 k, .int .i64 l, .int .i64 hi] w fun e w' => e = .returned (.int .i64 (stN l (width l hi) k n)) ∧ Below w.heap.size w w' := by
  have hmk : ∀ W : World, (Instr.makeSlice 27 (.int .i64 1) (.int .i64 1)).run Try.prog W = .ok (.slice (some ⟨W.heap.size, 0, none⟩) 1 1) (W.alloc (.cells (madeCells #[.int .i64 0] 1) 3)) := fun W => run_make_int 1 (by omega) W
  have hc0 : (w.alloc (.cells (madeCells #[Value.int .i64 0] 1) 3)).cell? ⟨w.heap.size, 0, none⟩ = some (.int .i64 0) := ((tab_made w 1 3).2 0 (by omega)).1
  have hf0 : (w.alloc (.cells (madeCells #[Value.int .i64 0] 1) 3)).frozen? ⟨w.heap.size, 0, none⟩ = false := ((tab_made w 1 3).2 0 (by omega)).2
  go_enter Try.func33, Try.ntmps33
  go_wp2
  have HF1 := Lib.hid (tab_first w 1 3 (by omega) l (width l hi))
  clear hc0 hf0
  go_loopw [9, 21] (fun v i wr => ∃ j b : Nat, j ≤ k ∧ i = .int .i64 j ∧ v = .slice (some ⟨b, 0, none⟩) 1 1 ∧ w.heap.size ≤ b ∧ Tab wr b 1 (fun t => stN l (width l hi) j t) ∧ Below w.heap.size w wr) (fun _ i _ => k - (intOf i).toNat)
  case atStart => exact ⟨0, w.heap.size, Nat.zero_le _, rfl, rfl, Nat.le_refl _, HF1.out, (Below.refl _ _).alloc (Nat.le_refl _) _⟩
  case round =>
    obtain ⟨j, b, hj, rfl, rfl, hwb, htab, hbel⟩ := hrel
    obtain ⟨wo, rfl⟩ : ∃ wo : World, wo = wr := ⟨_, rfl⟩
    have hblt := htab.1
    have hosz := hbel.size
    by_cases hlt : j < k
    · go_wp2
      have hbel1 : Below w.heap.size w (wo.alloc (Obj.cells (madeCells #[Value.int IntKind.i64 0] 1) 3)) := hbel.alloc hosz _
      have htab1 := htab.alloc (Obj.cells (madeCells #[Value.int IntKind.i64 0] 1) 3)
      have hnew := (tab_made wo 1 3).congr (g := dp l (width l hi) (stN l (width l hi) j) 0) (fun t _ => (dp_zero _ _ _ _).symm)
      go_loopw [28] (fun i wr => ∃ s : Nat, s ≤ 1 ∧ i = .int .i64 s ∧ Tab wr b 1 (fun t => stN l (width l hi) j t) ∧ Tab wr wo.heap.size 1 (dp l (width l hi) (stN l (width l hi) j) s) ∧ Below w.heap.size w wr) (fun i _ => 1 - (intOf i).toNat)
      case atStart => exact ⟨0, Nat.zero_le _, rfl, htab1, hnew, hbel1⟩
      case round =>
        obtain ⟨s, hs, rfl, ht1, ht2, hb2⟩ := hrel
        obtain ⟨w2, rfl⟩ : ∃ w2 : World, w2 = wr := ⟨_, rfl⟩
        by_cases hls : s < 1
        · obtain ⟨c, hc⟩ : ∃ c, stN l (width l hi) j s = c := ⟨_, rfl⟩
          have hc1 : w2.cell? ⟨b, s, none⟩ = some (.int .i64 c) := by rw [← hc]; exact (ht1.2 s hls).1
          have hc2 : 0 ≤ c := by rw [← hc]; exact stN_nonneg _ _ _ _
          have hc3 : c ≤ 65536 := by rw [← hc]; exact stN_small _ _ (by omega) _ _ (by omega)
          have HC := Lib.hid hc
          clear hc
          go_wp2
          clear hc1
          have hw := width_cast l hi hlh
          have HW := Lib.hid hw
          clear hw
          go_loopw [13] (fun st wr => ∃ q : Nat, l ≤ q ∧ (q : Int) ≤ hi + 1 ∧ st = .int .i64 q ∧ Tab wr b 1 (fun t => stN l (width l hi) j t) ∧ Tab wr wo.heap.size 1 (dq l (width l hi) (stN l (width l hi) j) s q) ∧ Below w.heap.size w wr) (fun st _ => (hi + 1 - intOf st).toNat)
          case atStart => exact ⟨l, Nat.le_refl _, by omega, rfl, ht1, ht2.congr (fun t _ => (dq_start _ _ _ _ _ (Int.le_refl _) _).symm), hb2⟩
          case round =>
            obtain ⟨q, hq1, hq2, rfl, hu1, hu2, hb3⟩ := hrel
            by_cases hq : (q : Int) ≤ hi
            · by_cases hfit : s + q < 1
              · exfalso; omega
              · go_wp2
                go_roundw
                case rel => exact ⟨s + 1, by omega, by go_num, hu1, hu2.congr (fun t ht => dq_end _ _ 1 _ _ _ _ ht (.inr (by omega))), hb3⟩
                case measure => first | (simp [intOf]; done) | (simp [intOf]; omega)
            · go_wp2
              go_roundw
              case rel => exact ⟨s + 1, by omega, by go_num, hu1, hu2.congr (fun t ht => dq_end _ _ 1 _ _ _ _ ht (.inl (by rw [HW.out]; omega))), hb3⟩
              case measure => first | (simp [intOf]; done) | (simp [intOf]; omega)
        · have hsN : s = 1 := by omega
          have hend := ht2.congr (g := fun t => stN l (width l hi) (j + 1) t) (fun t ht => by rw [hsN]; exact dp_all _ _ _ _ (by omega) _ ht)
          clear hsN
          go_wp2
          go_roundw
          case rel => exact ⟨j + 1, wo.heap.size, by omega, by go_num, rfl, hosz, hend, hb2⟩
          case measure => first | (simp [intOf]; done) | (simp [intOf]; omega)
    · have hE : stN l (width l hi) k n = 0 := stN_neg _ _ (by omega) _ _ hn
      have HE := Lib.hid hE
      clear hE
      go_wp2
      go_ret
      exact ⟨ret_int HE.out.symm, hbel⟩

theorem impl_countSteps_any (n k lo hi : Int) (w : World) (hn0 : -10000 ≤ n) (hn : n ≤ 16) (hk0 : 0 ≤ k) (hk : k ≤ 100) (hl : 1 ≤ lo) (hlh : lo ≤ hi) (h100 : hi ≤ 100) :
    Calls Try.prog 33 #[.int .i64 n, .int .i64 k, .int .i64 lo, .int .i64 hi] w fun e w' => e = .returned (.int .i64 (stN lo (width lo hi) k.toNat n)) ∧ Below w.heap.size w w' := by
  obtain ⟨k', rfl⟩ := Int.eq_ofNat_of_zero_le hk0
  obtain ⟨l, rfl⟩ := Int.eq_ofNat_of_zero_le (show 0 ≤ lo by omega)
  rw [Int.toNat_natCast]
  by_cases h : n < 0
  · exact impl_countSteps_neg n k' l hi w h hn0 (by omega) (by omega) hlh h100
  · have e : n = ((n.toNat + 1 : Nat) : Int) - 1 := by omega
    rw [e]
    exact impl_countSteps_pos (n.toNat + 1) k' l hi w (by omega) (by omega) (by omega) (by omega) hlh h100

set_option maxHeartbeats 400000 in
theorem impl_CountFor_any (n k lo hi : Int) (w : World) :
    Calls Try.prog 7 #[.int .i64 n, .int .i64 k, .int .i64 lo, .int .i64 hi] w fun e w' => e = .returned (.int .i64 (if wishB n k lo hi then stN lo (width lo hi) k.toNat n else -1)) ∧ Below w.heap.size w w' := by
  cases hw : wishB n k lo hi
  · go_enter Try.func7, Try.ntmps7
    go_wp2_with (go_at_call 11; refine (impl_WishOk_any _ _ _ _ _).mono ?_; rintro e w' ⟨rfl, rfl⟩)
    go_ret
    exact ⟨rfl, Below.refl _ _⟩
  · obtain ⟨h1, h2, h3, h4⟩ := wishB_iff.1 hw
    go_enter Try.func7, Try.ntmps7
    go_wp2_with (first
      | (go_at_call 11; refine (impl_WishOk_any _ _ _ _ _).mono ?_; rintro e w' ⟨rfl, rfl⟩)
      | (go_at_call 33; refine (impl_countSteps_any _ _ _ _ _ (by omega) (by omega) (by omega) (by omega) (by omega) (by omega) (by omega)).mono ?_; rintro e w' ⟨rfl, hb⟩))
    go_ret
    exact ⟨rfl, hb⟩

end Go.Proofs.Ythfofjbegkjdmaa
