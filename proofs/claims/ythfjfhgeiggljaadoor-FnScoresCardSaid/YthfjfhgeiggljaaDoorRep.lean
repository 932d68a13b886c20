/-
  slices.Repeat on ints.
-/
import Derived.Test.YthfjfhgeiggljaaDoorTab
import Derived.Test.YthfjfhgeiggljaaDoorOwn
import Derived.Test.YthfjfhgeiggljaaDoorScoT
import Derived.Laws.CopyOwn
import Derived.Test.YthfjfhgeiggljaaDoorShM
namespace Go.Proofs.YthfjfhgeiggljaaDoor
open Go.RowKit Go.Shelf
set_option linter.unusedVariables false
set_option linter.unusedSimpArgs false

theorem bits_Mul_any (x y : Nat) (hx : x < 18446744073709551616) (hy : y < 18446744073709551616) (w : World) :
    Calls Tryd.prog 108 #[.int .u64 x, .int .u64 y] w fun e w' => e = .returned (.tuple #[.int .u64 ((x * y / 18446744073709551616 : Nat) : Int), .int .u64 ((x * y % 18446744073709551616 : Nat) : Int)]) ∧ w' = w := Any.bits_Mul Tryd.lays212 x y hx hy w

/-- A list of ints in new memory. -/
def RetI (w : World) (xs : List Int) (e : Ending) (w' : World) : Prop := ∃ A cap, e = .returned (.slice A xs.length cap) ∧ Ints w' w'.heap.size A xs ∧ Below w.heap.size w w'

/-- The cells of a row of which the first n are filled. -/
def fillL (xs : List Int) (n N : Nat) : List Value := (List.range N).map (fun j => .int .i64 (if j < n then xs.getD (j % xs.length) 0 else 0))
def partL (xs : List Int) (m : Nat) : List Value := (List.range m).map (fun j => .int .i64 (xs.getD (j % xs.length) 0))
theorem fillL_len (xs : List Int) (n N : Nat) : (fillL xs n N).length = N := by simp [fillL]
theorem partL_len (xs : List Int) (m : Nat) : (partL xs m).length = m := by simp [partL]
theorem rep_get {xs : List Int} (h0 : 0 < xs.length) : ∀ (k j : Nat), j < k * xs.length → (rep xs k).getD j 0 = xs.getD (j % xs.length) 0
  | 0, j, h => by omega
  | k + 1, j, h => by
    unfold rep
    rw [Nat.add_mul, Nat.one_mul] at h
    by_cases hj : j < k * xs.length
    · rw [List.getD_eq_getElem?_getD, List.getElem?_append_left (by rw [rep_len]; exact hj), ← List.getD_eq_getElem?_getD]
      exact rep_get h0 k j hj
    · rw [List.getD_eq_getElem?_getD, List.getElem?_append_right (by rw [rep_len]; omega), ← List.getD_eq_getElem?_getD, rep_len]
      have : j % xs.length = j - k * xs.length := by
        obtain ⟨t, rfl⟩ : ∃ t, j = k * xs.length + t := ⟨j - k * xs.length, by omega⟩
        rw [Nat.add_sub_cancel_left, Nat.mul_comm k, Nat.mul_add_mod, Nat.mod_eq_of_lt (by omega)]
      rw [this]

theorem splice_fill {xs : List Int} {n m N : Nat} (hd : n % xs.length = 0) (hm : n + m ≤ N) : splice (fillL xs n N) n (partL xs m) = fillL xs (n + m) N := by
  refine List.ext_getElem (by rw [length_splice _ _ _ (by rw [partL_len, fillL_len]; exact hm), fillL_len, fillL_len]) fun j h1 h2 => ?_
  rw [fillL_len] at h2
  apply Option.some.inj
  rw [← List.getElem?_eq_getElem, ← List.getElem?_eq_getElem]
  unfold splice
  have hr : (fillL xs (n + m) N)[j]? = some (.int .i64 (if j < n + m then xs.getD (j % xs.length) 0 else 0)) := by
    simp [fillL, h2]
  rw [hr]
  by_cases hj : j < n
  · rw [List.getElem?_append_left (by rw [List.length_take, fillL_len]; omega), List.getElem?_take_of_lt hj]
    simp [fillL, h2, hj, show j < n + m by omega]
  · have hlt : (List.take n (fillL xs n N)).length = n := by rw [List.length_take, fillL_len]; omega
    rw [List.getElem?_append_right (by omega), hlt]
    by_cases hj2 : j < n + m
    · rw [List.getElem?_append_left (by rw [partL_len]; omega)]
      have e : (j - n) % xs.length = j % xs.length := by
        obtain ⟨t, rfl⟩ : ∃ t, j = n + t := ⟨j - n, by omega⟩
        rw [Nat.add_sub_cancel_left]
        obtain ⟨q, hq⟩ := Nat.dvd_of_mod_eq_zero hd
        rw [hq, Nat.mul_add_mod]
      simp [partL, show j - n < m by omega, hj2, e]
    · rw [List.getElem?_append_right (by rw [partL_len]; omega), partL_len, List.getElem?_drop]
      have e : n + m + (j - n - m) = j := by omega
      rw [e]
      simp [fillL, h2, hj, hj2]

set_option maxRecDepth 100000 in
set_option maxHeartbeats 1000000 in
theorem slices_Repeat_any (A : Option Addr) (cap : Nat) (xs : List Int) (k : Nat) (w : World) (hA : Ints w w.heap.size A xs) (h0 : 0 < xs.length) (hl : xs.length ≤ 100000) (hk : 1 ≤ k) (hk9 : k ≤ 9) :
    Calls Tryd.prog 78 #[.slice A xs.length cap, .int .i64 k] w (RetI w (rep xs k)) := by
  obtain ⟨N, hN⟩ : ∃ N, xs.length * k = N := ⟨_, rfl⟩
  have hN1 : N ≤ 900000 := by rw [← hN]; exact Nat.mul_le_mul hl hk9
  have hN0 : xs.length ≤ N := by rw [← hN]; exact Nat.le_mul_of_pos_right _ (by omega)
  have hmul := fun W : World => bits_Mul_any xs.length k (by omega) (by omega) W
  rw [hN, Nat.div_eq_of_lt (by omega), Nat.mod_eq_of_lt (by omega)] at hmul
  have HM := Lib.hid hmul
  have HN := Lib.hid hN
  have hfits := hA.2.1
  have HFI := Lib.hid hfits
  obtain ⟨b, off, rfl, hB, hcs⟩ := hA.2.2 h0
  have hmk := fun W : World => run_make_int N (by omega) W
  have hsz : (Tryd.prog.info? 3).map (·.size) = some 1 := by kernel_rfl
  have hrow : (w.alloc (.cells (madeCells #[.int .i64 0] N) 3)).heap[w.heap.size]? = some (.cells (fillL xs 0 N).toArray 3 (0, 0)) := by
    rw [heap_alloc_new]
    congr 2
    apply Array.ext'
    rw [toList_madeCells_one]
    simp only [fillL, Nat.not_lt_zero, if_false]
    rw [List.map_const', List.length_range]
  have hsrc : ∀ j v, (partL xs xs.length)[j]? = some v → (w.alloc (.cells (madeCells #[.int .i64 0] N) 3)).cell? ((⟨b, off, none⟩ : Addr).add j) = some v := by
    intro j v hv
    have hj : j < xs.length := by
      have := (List.getElem?_eq_some_iff.1 hv).1
      rwa [partL_len] at this
    have e : (partL xs xs.length)[j]? = some (.int .i64 (xs.getD j 0)) := by simp [partL, hj, Nat.mod_eq_of_lt hj]
    rw [e] at hv
    injection hv with hv
    subst hv
    rw [Addr.add_lit, ((Below.refl w.heap.size w).alloc (Nat.le_refl _) _).cell (p := ⟨b, off + j, none⟩) hB]
    exact hcs j hj
  have hone : ∀ m, ∀ v ∈ partL xs m, v.oneCell' = true := by
    intro m v hv
    unfold partL at hv
    obtain ⟨t, _, rfl⟩ := List.mem_map.1 hv
    rfl
  have HR := Lib.hid hrow
  have HSR := Lib.hid hsrc
  have HON := Lib.hid hone
  have hpl := partL_len xs xs.length
  have HPL := Lib.hid hpl
  have HSZ := Lib.hid hsz
  clear hmul hN hA hrow hsrc hone hcs hfits hpl hsz
  go_enter Tryd.func78, Tryd.ntmps78
  go_wp2_with (first
    | (go_at_call 108; refine (HM.out _).mono ?_; rintro e w' ⟨rfl, hw⟩; rw [hw]; clear hw)
    | (refine wpList_copy_splice (o := ⟨some 33, _, _, _, _, _⟩) rfl _ _ _ _ rfl 3 Tryd.underlying32 HSZ.out _ _ _ _ _ _ rfl rfl w.heap.size 0 (fillL xs 0 N) 3 HR.out (partL xs xs.length) (by rw [HPL.out]; exact (Nat.min_eq_left hN0).symm) (fun _ => ⟨rfl, _, rfl, HSR.out⟩) (by rw [HPL.out, fillL_len]; omega) (HON.out _) w.heap.size w ((Below.refl _ _).alloc (Nat.le_refl _) _) (Nat.le_refl _) ?_; intro w2 hg2 hb2))
  have hg0 := hg2.out
  rw [splice_fill (by rw [Nat.zero_mod]) (by omega), Nat.zero_add] at hg0
  rw [HPL.out]
  have HG0 := Lib.hid hg0
  clear hg2 hg0
  go_loopw [8] (fun s8 wr => ∃ n : Nat, s8 = .int .i64 n ∧ 0 < n ∧ n ≤ N ∧ (n < N → n % xs.length = 0) ∧ wr.heap[w.heap.size]? = some (.cells (fillL xs n N).toArray 3 (0, 0)) ∧ Below w.heap.size w wr) (fun s8 _ => N - (intOf s8).toNat)
  case atStart => exact ⟨xs.length, by first | rfl | trivial, h0, hN0, fun _ => Nat.mod_self _, HG0.out, hb2⟩
  case round =>
    obtain ⟨n, rfl, hn0, hnN, hdiv, hrow, hbel⟩ := hrel
    by_cases hlt : n < N
    · obtain ⟨m, hm⟩ : ∃ m, Nat.min n (N - n) = m := ⟨_, rfl⟩
      have hmn : m ≤ n := by rw [← hm]; exact Nat.min_le_left _ _
      have hmN : m ≤ N - n := by rw [← hm]; exact Nat.min_le_right _ _
      have hm0 : 0 < m := by rw [← hm]; exact Nat.lt_min.2 ⟨hn0, by omega⟩
      have hdone : n + m < N → (n + m) % xs.length = 0 := by
        intro h
        have : m = n := by
          rw [← hm]
          by_cases hh : n ≤ N - n
          · exact Nat.min_eq_left hh
          · have : Nat.min n (N - n) = N - n := Nat.min_eq_right (by omega)
            omega
        rw [this, Nat.add_mod, hdiv hlt]
        simp
      have hsrc : ∀ j v, (partL xs m)[j]? = some v → wr.cell? ((⟨w.heap.size, 0, none⟩ : Addr).add j) = some v := by
        intro j v hv
        have hj : j < m := by
          have := (List.getElem?_eq_some_iff.1 hv).1
          rwa [partL_len] at this
        have e : (partL xs m)[j]? = some (.int .i64 (xs.getD (j % xs.length) 0)) := by simp [partL, hj]
        rw [e] at hv
        rw [Addr.add_lit, Nat.zero_add, cell_of_row _ _ _ _ _ _ hrow, ← hv]
        simp [fillL, show j < N by omega, show j < n by omega]
      have hsp := splice_fill (hdiv hlt) (show n + m ≤ N by omega)
      have HD := Lib.hid hdone
      have HS := Lib.hid hsrc
      have HSP := Lib.hid hsp
      have HRW := Lib.hid hrow
      have hpm := partL_len xs m
      have HPM := Lib.hid hpm
      have HMM := Lib.hid hm
      have hwr : IntKind.i64.wrap ((n : Int) + m) = (n : Int) + m := i64w (by omega)
      clear hdone hsrc hsp hdiv hrow hpm hm
      go_wp2_with fail
      go_region_law (refine step_copy_splice rfl (.tmp 41) (.tmp 44) _ _ rfl 3 Tryd.underlying32 HSZ.out (some ⟨w.heap.size, n, none⟩) (some ⟨w.heap.size, 0, none⟩) (N - n) (N - n) n N (by first | (simp [Act.eval, Act.put]; done) | (simp [Act.eval, Act.put]; omega)) (by first | (simp [Act.eval, Act.put]; done) | (simp [Act.eval, Act.put]; omega)) w.heap.size n (fillL xs n N) 3 HRW.out (partL xs m) (by rw [HPM.out, HMM.out]) (fun _ => ⟨rfl, _, rfl, HS.out⟩) (by rw [HPM.out, fillL_len]; omega) (HON.out _) w.heap.size w (by first | exact hbel | exact Below.drew hbel) (Nat.le_refl _) ?_; intro w3 hg3 hb3)
      all_goals
        have hg3' := hg3.out
        rw [HSP.out] at hg3'
        have HG3 := Lib.hid hg3'
        clear hg3 hg3'
        try rw [HPM.out]
        go_wp2_with fail
        go_roundw
        case rel => exact ⟨n + m, by omega, by omega, by omega, HD.out, HG3.out⟩
        case measure => simp [intOf]; omega
    · have hnN' : n = N := by omega
      subst hnN'
      go_wp2_with fail
      go_ret
      have hrl : (rep xs k).length = n := by rw [rep_len, Nat.mul_comm]; exact HN.out
      refine ⟨some ⟨w.heap.size, 0, none⟩, n, by rw [hrl]; rfl, ⟨by rw [hrl]; unfold maxLen; omega, fun x hx => HFI.out x (rep_mem hx), fun _ => ⟨w.heap.size, 0, rfl, ?_, fun i hi => ?_⟩⟩, hbel⟩
      · exact (Array.getElem?_eq_some_iff.1 hrow).1
      · rw [hrl] at hi
        rw [Nat.zero_add, cell_of_row _ _ _ _ _ _ hrow, rep_get h0 k i (by rw [Nat.mul_comm, HN.out]; exact hi)]
        simp [fillL, hi]

end Go.Proofs.YthfjfhgeiggljaaDoor
