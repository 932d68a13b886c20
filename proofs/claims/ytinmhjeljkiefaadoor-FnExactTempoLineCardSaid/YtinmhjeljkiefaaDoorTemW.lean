/-
  TempoOk, the beats and the units of both.
-/
import Derived.Test.YtinmhjeljkiefaaDoorTemT
import Derived.Test.YtinmhjeljkiefaaDoorPas
import Derived.Test.YtinmhjeljkiefaaDoorGcdB
namespace Go.Proofs.YtinmhjeljkiefaaDoor
open Go.RowKit
set_option linter.unusedVariables false
set_option linter.unusedSimpArgs false

theorem tmod_pos {y : Int} (h : 1 ≤ y) : (3600 : Int).tmod y = 3600 % y := Int.tmod_eq_emod_of_nonneg (by decide)
theorem tdiv_pos {y : Int} (h : 1 ≤ y) : (3600 : Int).tdiv y = 3600 / y := Int.tdiv_eq_ediv_of_nonneg (by decide)

set_option maxRecDepth 100000 in
set_option maxHeartbeats 1000000 in
theorem impl_TempoOk1_any (x y : Int) (w : World) :
    Calls Tryd.prog 85 #[.agg #[.int .i64 x, .int .i64 y]] w fun e w' => e = .returned (.bool (!pOk (x, y))) ∧ Below w.heap.size w w' := by
  obtain ⟨c0, c1⟩ := box2 (Below.refl (w.heap.size + 1) (w.alloc (.cells #[.int .i64 x, .int .i64 y] 59)))
  cases h1 : inB x 1 1000
  · have HV := Lib.hid (show (!pOk (x, y)) = true by unfold pOk; rw [h1]; rfl)
    generalize (!pOk (x, y)) = b at HV ⊢
    go_enter Tryd.func85, Tryd.ntmps85
    go_wp2_with (go_at_call 53; refine (within_any _ _ _ _).mono ?_; rintro e w' ⟨rfl, rfl⟩)
    go_ret
    exact ⟨ret_bool HV.out.symm, (Below.refl _ _).alloc (Nat.le_refl _) _⟩
  cases h2 : inB y 20 400
  · have HV := Lib.hid (show (!pOk (x, y)) = true by unfold pOk; rw [h1, h2]; rfl)
    generalize (!pOk (x, y)) = b at HV ⊢
    go_enter Tryd.func85, Tryd.ntmps85
    go_wp2_with (go_at_call 53; refine (within_any _ _ _ _).mono ?_; rintro e w' ⟨rfl, rfl⟩)
    go_ret
    exact ⟨ret_bool HV.out.symm, (Below.refl _ _).alloc (Nat.le_refl _) _⟩
  have hy := inB_iff.1 h2
  have hy0 : (y = 0) = False := by rw [eq_iff_iff, iff_false]; omega
  have hy1 : ¬ y = 0 := by omega
  have htm := tmod_pos (y := y) (by omega)
  have HV := Lib.hid (show (!pOk (x, y)) = ((3600 : Int) % y != 0) by unfold pOk; rw [h1, h2]; by_cases hz : (3600 : Int) % y = 0 <;> simp [hz])
  generalize (!pOk (x, y)) = b at HV ⊢
  obtain ⟨r, hr⟩ : ∃ r, (3600 : Int) % y = r := ⟨_, rfl⟩
  rw [hr] at htm HV
  have hrb : 0 ≤ r ∧ r < y := by rw [← hr]; exact ⟨Int.emod_nonneg _ hy1, Int.emod_lt_of_pos _ (by omega)⟩
  have hw : IntKind.i64.wrap r = r := i64w (by omega)
  go_enter Tryd.func85, Tryd.ntmps85
  go_wp2_with (go_at_call 53; refine (within_any _ _ _ _).mono ?_; rintro e w' ⟨rfl, rfl⟩)
  go_ret
  exact ⟨ret_bool HV.out.symm, (Below.refl _ _).alloc (Nat.le_refl _) _⟩

theorem all_no {xs : List (Int × Int)} {k : Nat} (hk : k < xs.length) (h : pOk (xs.getD k (0, 0)) = false) : xs.all pOk = false := by
  rw [List.all_eq_false]
  refine ⟨xs[k], List.getElem_mem hk, ?_⟩
  rw [List.getD_eq_getElem?_getD, List.getElem?_eq_getElem hk] at h
  simpa using h
theorem all_yes {xs : List (Int × Int)} (h : ∀ j, j < xs.length → pOk (xs.getD j (0, 0)) = true) : xs.all pOk = true := by
  rw [List.all_eq_true]
  intro p hp
  obtain ⟨i, hi, rfl⟩ := List.getElem_of_mem hp
  have := h i hi
  rwa [List.getD_eq_getElem?_getD, List.getElem?_eq_getElem hi] at this

set_option maxRecDepth 100000 in
set_option maxHeartbeats 1000000 in
theorem slices_IndexFuncP_any (A : Option Addr) (cap : Nat) (xs : List (Int × Int)) (w : World) (hA : Pas w w.heap.size A xs) :
    Calls Tryd.prog 99 #[.slice A xs.length cap, .func (.func 85) #[] #[]] w fun e w' => (∃ r : Int, e = .returned (.int .i64 r) ∧ (!xs.all pOk) = decide (0 ≤ r)) ∧ Below w.heap.size w w' := by
  obtain ⟨hlen, hfit, hcells⟩ := hA
  unfold maxLen at hlen
  have HC := Lib.hid hcells
  clear hfit hcells
  go_enter Tryd.func99, Tryd.ntmps99
  go_wp2
  go_loopw [5, 8] (fun _ i wr => ∃ k : Nat, k ≤ xs.length ∧ i = .int .i64 k ∧ Below w.heap.size w wr ∧ ∀ j, j < k → pOk (xs.getD j (0, 0)) = true) (fun _ i _ => xs.length - (intOf i).toNat)
  case atStart => exact ⟨0, Nat.zero_le _, rfl, Below.refl _ _, fun j h => by omega⟩
  case round =>
    obtain ⟨k, hk, rfl, hbel, hno⟩ := hrel
    have HNO := Lib.hid hno
    clear hno
    by_cases hlt : k < xs.length
    · obtain ⟨b, off, rfl, hB, hc⟩ := HC.out (by omega)
      obtain ⟨hc0, hc1⟩ := hc k hlt
      rw [← hbel.cell (p := ⟨b, off + k * 2, none⟩) hB] at hc0
      rw [← hbel.cell (p := ⟨b, off + k * 2 + 1, none⟩) hB] at hc1
      obtain ⟨q, hq⟩ : ∃ q, xs.getD k (0, 0) = q := ⟨_, rfl⟩
      rw [hq] at hc0 hc1
      have HY := Lib.hid hq
      obtain ⟨x, y⟩ := q
      clear hq hc
      have HCY := Lib.hid (impl_TempoOk1_any x y wr)
      cases hxy : pOk (x, y)
      · have HF := Lib.hid (all_no hlt (by rw [HY.out]; exact hxy))
        rw [hxy] at HCY
        clear hxy
        go_wp2_with (go_at_call 85; refine HCY.out.mono ?_; rintro e w1 ⟨rfl, hb1⟩)
        go_ret
        exact ⟨⟨_, rfl, by rw [HF.out]; simp⟩, hbel.trans (hb1.mono hbel.size)⟩
      · have HX := Lib.hid hxy
        rw [hxy] at HCY
        clear hxy
        go_wp2_with (go_at_call 85; refine HCY.out.mono ?_; rintro e w1 ⟨rfl, hb1⟩)
        go_roundw
        case rel =>
          refine ⟨k + 1, by omega, by go_num, hbel.trans (hb1.mono hbel.size), fun j hj => ?_⟩
          by_cases e : j = k
          · subst e; rw [HY.out]; exact HX.out
          · exact HNO.out j (by omega)
        case measure => simp [intOf]; omega
    · have HF := Lib.hid (all_yes (fun i hi => HNO.out i (by omega)))
      go_wp2
      go_ret
      exact ⟨⟨_, rfl, by rw [HF.out]; rfl⟩, hbel⟩

set_option maxHeartbeats 400000 in
theorem slices_ContainsFuncP_any (A : Option Addr) (cap : Nat) (xs : List (Int × Int)) (w : World) (hA : Pas w w.heap.size A xs) :
    Calls Tryd.prog 84 #[.slice A xs.length cap, .func (.func 85) #[] #[]] w fun e w' => e = .returned (.bool (!xs.all pOk)) ∧ Below w.heap.size w w' := by
  have HI := Lib.hid (slices_IndexFuncP_any A cap xs w hA)
  clear hA
  generalize xs.all pOk = b at HI ⊢
  go_enter Tryd.func84, Tryd.ntmps84
  go_wp2_with fail
  refine HI.out.mono ?_
  rintro e w' ⟨⟨r, rfl, hr⟩, hb⟩
  go_wp2
  go_ret
  exact ⟨ret_bool (by rw [hr]), hb⟩

set_option maxHeartbeats 400000 in
theorem impl_TempoOk_any (A : Option Addr) (cap : Nat) (xs : List (Int × Int)) (w : World) (hA : Pas w w.heap.size A xs) :
    Calls Tryd.prog 60 #[.slice A xs.length cap] w fun e w' => e = .returned (.bool (temOk xs)) ∧ Below w.heap.size w w' := by
  have HC := Lib.hid (slices_ContainsFuncP_any A cap xs w hA)
  have hlen := hA.1
  unfold maxLen at hlen
  clear hA
  have HV := Lib.hid (show temOk xs = (inB (xs.length : Int) 1 8 && xs.all pOk) from rfl)
  generalize temOk xs = b at HV ⊢
  generalize xs.all pOk = c at HC HV
  cases h1 : inB (xs.length : Int) 1 8
  · rw [h1] at HV
    go_enter Tryd.func60, Tryd.ntmps60
    go_wp2_with (go_at_call 53; refine (within_any _ _ _ _).mono ?_; rintro e w' ⟨rfl, rfl⟩)
    go_ret
    exact ⟨ret_bool HV.out.symm, Below.refl _ _⟩
  · rw [h1] at HV
    go_enter Tryd.func60, Tryd.ntmps60
    go_wp2_with (first | (go_at_call 53; refine (within_any _ _ _ _).mono ?_; rintro e w' ⟨rfl, rfl⟩) | (go_at_call 84; refine HC.out.mono ?_; rintro e w1 ⟨rfl, hb⟩))
    go_ret
    exact ⟨ret_bool (by rw [HV.out]; simp), hb⟩

set_option maxRecDepth 100000 in
set_option maxHeartbeats 2000000 in
theorem spec_TempoOk_any (A : Option Addr) (cap : Nat) (xs : List (Int × Int)) (w : World) (hA : Pas w w.heap.size A xs) :
    Calls Tryd.prog 56 #[.slice A xs.length cap] w fun e w' => e = .returned (.bool (temOk xs)) ∧ Below w.heap.size w w' := by
  have HC := Lib.hid hA.2.2
  have hlen := hA.1
  unfold maxLen at hlen
  clear hA
  have HV := Lib.hid (show temOk xs = (inB (xs.length : Int) 1 8 && xs.all pOk) from rfl)
  generalize temOk xs = b at HV ⊢
  cases h1 : inB (xs.length : Int) 1 8
  · rw [h1] at HV
    go_enter Tryd.func56, Tryd.ntmps56
    go_wp2_with (go_at_call 57; refine (l01In_any _ _ _ _).mono ?_; rintro e w' ⟨rfl, rfl⟩)
    go_ret
    exact ⟨ret_bool HV.out.symm, Below.refl _ _⟩
  rw [h1] at HV
  go_enter Tryd.func56, Tryd.ntmps56
  go_wp2_with (go_at_call 57; refine (l01In_any _ _ _ _).mono ?_; rintro e w' ⟨rfl, rfl⟩)
  go_loopw [11] (fun i wr => ∃ k : Nat, k ≤ xs.length ∧ i = .int .i64 k ∧ Below w.heap.size w wr ∧ ∀ j, j < k → pOk (xs.getD j (0, 0)) = true) (fun i _ => xs.length - (intOf i).toNat)
  case atStart => exact ⟨0, Nat.zero_le _, rfl, Below.refl _ _, fun j h => by omega⟩
  case round =>
    obtain ⟨k, hk, rfl, hbel, hno⟩ := hrel
    obtain ⟨wo, rfl⟩ : ∃ wo : World, wo = wr := ⟨_, rfl⟩
    have HNO := Lib.hid hno
    clear hno
    by_cases hlt : k < xs.length
    · obtain ⟨b0, off, rfl, hB, hc⟩ := HC.out (by omega)
      obtain ⟨hc0, hc1⟩ := hc k hlt
      rw [← hbel.cell (p := ⟨b0, off + k * 2, none⟩) hB] at hc0
      rw [← hbel.cell (p := ⟨b0, off + k * 2 + 1, none⟩) hB] at hc1
      obtain ⟨q, hq⟩ : ∃ q, xs.getD k (0, 0) = q := ⟨_, rfl⟩
      rw [hq] at hc0 hc1
      have HY := Lib.hid hq
      obtain ⟨x, y⟩ := q
      clear hq hc
      have HB := Lib.hid (hbel.alloc hbel.size (.cells #[.int .i64 x, .int .i64 y] 59))
      clear hbel
      obtain ⟨d0, d1⟩ := box2 (Below.refl (wo.heap.size + 1) (wo.alloc (.cells #[.int .i64 x, .int .i64 y] 59)))
      cases hx : inB x 1 1000
      · have HF := Lib.hid (show b = false by rw [HV.out, all_no hlt (by rw [HY.out]; unfold pOk; rw [hx]; rfl)]; rfl)
        go_wp2_with (go_at_call 57; refine (l01In_any _ _ _ _).mono ?_; rintro e w' ⟨rfl, rfl⟩)
        go_ret
        exact ⟨ret_bool HF.out.symm, HB.out⟩
      cases hy : inB y 20 400
      · have HF := Lib.hid (show b = false by rw [HV.out, all_no hlt (by rw [HY.out]; unfold pOk; rw [hx, hy]; rfl)]; rfl)
        go_wp2_with (go_at_call 57; refine (l01In_any _ _ _ _).mono ?_; rintro e w' ⟨rfl, rfl⟩)
        go_ret
        exact ⟨ret_bool HF.out.symm, HB.out⟩
      have hyb := inB_iff.1 hy
      have hy0 : (y = 0) = False := by rw [eq_iff_iff, iff_false]; omega
      have hy1 : ¬ y = 0 := by omega
      have htm := tmod_pos (y := y) (by omega)
      have HZ := Lib.hid (show pOk (x, y) = decide ((3600 : Int) % y = 0) by unfold pOk; rw [hx, hy]; rfl)
      obtain ⟨r, hr⟩ : ∃ r, (3600 : Int) % y = r := ⟨_, rfl⟩
      rw [hr] at htm HZ
      have hrb : 0 ≤ r ∧ r < y := by rw [← hr]; exact ⟨Int.emod_nonneg _ hy1, Int.emod_lt_of_pos _ (by omega)⟩
      have hw : IntKind.i64.wrap r = r := i64w (by omega)
      clear hr
      by_cases hr0 : r = 0
      · have hrr : (r != 0) = false := by rw [hr0]; rfl
        have HX := Lib.hid (show pOk (x, y) = true by rw [HZ.out]; simp [hr0])
        clear hr0
        go_wp2_with (go_at_call 57; refine (l01In_any _ _ _ _).mono ?_; rintro e w' ⟨rfl, rfl⟩)
        go_roundw
        case rel =>
          refine ⟨k + 1, by omega, by go_num, HB.out, fun j hj => ?_⟩
          by_cases e : j = k
          · subst e; rw [HY.out]; exact HX.out
          · exact HNO.out j (by omega)
        case measure => simp [intOf]; omega
      · have hrr : (r != 0) = true := by rw [bne_iff_ne]; exact hr0
        have HF := Lib.hid (show b = false by rw [HV.out, all_no hlt (by rw [HY.out, HZ.out]; simp [hr0])]; rfl)
        clear hr0
        go_wp2_with (go_at_call 57; refine (l01In_any _ _ _ _).mono ?_; rintro e w' ⟨rfl, rfl⟩)
        go_ret
        exact ⟨ret_bool HF.out.symm, HB.out⟩
    · have HF := Lib.hid (show b = true by rw [HV.out, all_yes (fun i hi => HNO.out i (by omega))]; rfl)
      go_wp2
      go_ret
      exact ⟨ret_bool HF.out.symm, hbel⟩

set_option maxRecDepth 100000 in
set_option maxHeartbeats 1000000 in
theorem impl_beatsOf_any (A : Option Addr) (cap : Nat) (xs : List (Int × Int)) (w : World) (hA : Pas w w.heap.size A xs) (hok : xs.all pOk = true) (hl : xs.length ≤ 8) :
    Calls Tryd.prog 61 #[.slice A xs.length cap] w fun e w' => e = .returned (.int .i64 (cntT xs)) ∧ Below w.heap.size w w' := by
  have HC := Lib.hid hA.2.2
  have HOK := Lib.hid hok
  clear hA hok
  go_enter Tryd.func61, Tryd.ntmps61
  go_wp2
  go_loopw [3, 8] (fun s i wr => ∃ k : Nat, k ≤ xs.length ∧ i = .int .i64 k ∧ s = .int .i64 (cntT (xs.take k)) ∧ Below w.heap.size w wr) (fun _ i _ => xs.length - (intOf i).toNat)
  case atStart => exact ⟨0, Nat.zero_le _, rfl, rfl, Below.refl _ _⟩
  case round =>
    obtain ⟨k, hk, rfl, rfl, hbel⟩ := hrel
    obtain ⟨wo, rfl⟩ : ∃ wo : World, wo = wr := ⟨_, rfl⟩
    by_cases hlt : k < xs.length
    · obtain ⟨b0, off, rfl, hB, hc⟩ := HC.out (by omega)
      obtain ⟨hc0, hc1⟩ := hc k hlt
      rw [← hbel.cell (p := ⟨b0, off + k * 2, none⟩) hB] at hc0
      rw [← hbel.cell (p := ⟨b0, off + k * 2 + 1, none⟩) hB] at hc1
      have hsn := cntT_snoc xs k hlt
      have hb1 := cnt_bound _ (all_take HOK.out k)
      have hb2 := cnt_bound _ (all_take HOK.out (k + 1))
      rw [List.length_take] at hb1 hb2
      obtain ⟨q, hq⟩ : ∃ q, xs.getD k (0, 0) = q := ⟨_, rfl⟩
      rw [hq] at hc0 hc1 hsn
      obtain ⟨x, y⟩ := q
      simp only at hsn hc0 hc1
      obtain ⟨s, hs⟩ : ∃ s, cntT (xs.take k) = s := ⟨_, rfl⟩
      rw [hs] at hsn hb1 ⊢
      have hw : IntKind.i64.wrap (s + x) = s + x := i64w (by omega)
      have HSN := Lib.hid hsn
      clear hq hc hs hsn hb1 hb2
      have HB := Lib.hid (hbel.alloc hbel.size (.cells #[.int .i64 x, .int .i64 y] 59))
      clear hbel
      obtain ⟨d0, d1⟩ := box2 (Below.refl (wo.heap.size + 1) (wo.alloc (.cells #[.int .i64 x, .int .i64 y] 59)))
      go_wp2
      go_roundw
      case rel => exact ⟨k + 1, by omega, by go_num, by rw [HSN.out], HB.out⟩
      case measure => simp [intOf]; omega
    · have HF := Lib.hid (show cntT (xs.take k) = cntT xs by rw [List.take_of_length_le (by omega)])
      go_wp2
      go_ret
      exact ⟨ret_int HF.out, hbel⟩

set_option maxRecDepth 100000 in
set_option maxHeartbeats 1000000 in
theorem spec_l20Count_any (A : Option Addr) (cap : Nat) (xs : List (Int × Int)) (w : World) (hA : Pas w w.heap.size A xs) (hok : xs.all pOk = true) (hl : xs.length ≤ 8) :
    Calls Tryd.prog 58 #[.slice A xs.length cap] w fun e w' => e = .returned (.int .i64 (cntT xs)) ∧ Below w.heap.size w w' := by
  have HC := Lib.hid hA.2.2
  have HOK := Lib.hid hok
  clear hA hok
  go_enter Tryd.func58, Tryd.ntmps58
  go_wp2
  go_loopw [3, 8] (fun s i wr => ∃ k : Nat, k ≤ xs.length ∧ i = .int .i64 k ∧ s = .int .i64 (cntT (xs.take k)) ∧ Below w.heap.size w wr) (fun _ i _ => xs.length - (intOf i).toNat)
  case atStart => exact ⟨0, Nat.zero_le _, rfl, rfl, Below.refl _ _⟩
  case round =>
    obtain ⟨k, hk, rfl, rfl, hbel⟩ := hrel
    obtain ⟨wo, rfl⟩ : ∃ wo : World, wo = wr := ⟨_, rfl⟩
    by_cases hlt : k < xs.length
    · obtain ⟨b0, off, rfl, hB, hc⟩ := HC.out (by omega)
      obtain ⟨hc0, hc1⟩ := hc k hlt
      rw [← hbel.cell (p := ⟨b0, off + k * 2, none⟩) hB] at hc0
      rw [← hbel.cell (p := ⟨b0, off + k * 2 + 1, none⟩) hB] at hc1
      have hsn := cntT_snoc xs k hlt
      have hb1 := cnt_bound _ (all_take HOK.out k)
      have hb2 := cnt_bound _ (all_take HOK.out (k + 1))
      rw [List.length_take] at hb1 hb2
      obtain ⟨q, hq⟩ : ∃ q, xs.getD k (0, 0) = q := ⟨_, rfl⟩
      rw [hq] at hc0 hc1 hsn
      obtain ⟨x, y⟩ := q
      simp only at hsn hc0 hc1
      obtain ⟨s, hs⟩ : ∃ s, cntT (xs.take k) = s := ⟨_, rfl⟩
      rw [hs] at hsn hb1 ⊢
      have hw : IntKind.i64.wrap (s + x) = s + x := i64w (by omega)
      have HSN := Lib.hid hsn
      clear hq hc hs hsn hb1 hb2
      have HB := Lib.hid (hbel.alloc hbel.size (.cells #[.int .i64 x, .int .i64 y] 59))
      clear hbel
      obtain ⟨d0, d1⟩ := box2 (Below.refl (wo.heap.size + 1) (wo.alloc (.cells #[.int .i64 x, .int .i64 y] 59)))
      go_wp2
      go_roundw
      case rel => exact ⟨k + 1, by omega, by go_num, by rw [HSN.out], HB.out⟩
      case measure => simp [intOf]; omega
    · have HF := Lib.hid (show cntT (xs.take k) = cntT xs by rw [List.take_of_length_le (by omega)])
      go_wp2
      go_ret
      exact ⟨ret_int HF.out, hbel⟩

end Go.Proofs.YtinmhjeljkiefaaDoor
