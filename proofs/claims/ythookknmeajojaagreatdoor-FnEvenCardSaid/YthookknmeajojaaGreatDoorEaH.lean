/-
  Several texts of this proof in one: Turn, Eqs.
-/
import Derived.Test.YthookknmeajojaaGreatDoorEaE
import Derived.Test.YthookknmeajojaaGreatDoorEaC
import Derived.Test.YthookknmeajojaaGreatDoorEaA
namespace Go.Proofs.YthookknmeajojaaGreatDoor
open Go.RowKit
set_option linter.unusedVariables false
set_option linter.unusedSimpArgs false

def addL (k : Int) (xs : List Int) (j : Nat) : List Int := (xs.take j).map (· + k)
theorem addL_succ {k : Int} {xs : List Int} {j : Nat} {x : Int} (hj : j < xs.length) (hx : xs.getD j 0 = x) : addL k xs (j + 1) = addL k xs j ++ [x + k] := by
  unfold addL
  rw [List.take_succ_eq_append_getElem hj, List.map_append, List.map_singleton]
  have : xs[j] = x := by rw [← hx, List.getD_eq_getElem?_getD, List.getElem?_eq_getElem hj]; rfl
  rw [this]
theorem addL_len (k : Int) (xs : List Int) (j : Nat) : (addL k xs j).length ≤ xs.length := by
  unfold addL
  rw [List.length_map, List.length_take]
  omega
theorem addL_mem {k x : Int} {xs : List Int} : x ∈ addL k xs xs.length ↔ ∃ y ∈ xs, y + k = x := by
  unfold addL
  rw [List.take_length, List.mem_map]
theorem getD_mem {xs : List Int} {x : Int} (h : x ∈ xs) : ∃ i, i < xs.length ∧ xs.getD i 0 = x := by
  obtain ⟨i, hi, rfl⟩ := List.getElem_of_mem h
  exact ⟨i, hi, by rw [List.getD_eq_getElem?_getD, List.getElem?_eq_getElem hi]; rfl⟩
theorem addL_fit {N : Nat} {bs : List Int} (hok : RhOk N bs) (k : Nat) (hk : k ≤ 1000) (j : Nat) : ∀ x ∈ addL k bs j, Fits x := by
  intro x hx
  unfold addL at hx
  rw [List.mem_map] at hx
  obtain ⟨y, hy, rfl⟩ := hx
  have := rhok_range hok y (List.mem_of_mem_take hy)
  have := hok.2.1
  unfold Fits
  omega

theorem rotL_coll {N : Nat} {bs : List Int} (hok : RhOk N bs) (k : Int) : collL (modL N (addL k bs bs.length) (addL k bs bs.length).length) = rotL N bs k := by
  refine asc_unique (collL_asc _).1 (rotL_sorted _ _ _) fun x => ?_
  rw [(collL_asc _).2, modL_mem, rotL_mem]
  have hN : (0 : Int) < N := by have := hok.1; omega
  constructor
  · rintro ⟨y, hy, rfl⟩
    obtain ⟨b, hb, rfl⟩ := addL_mem.1 hy
    have h0 := Int.emod_nonneg (b + k) (show (N : Int) ≠ 0 by omega)
    have h1 := Int.emod_lt_of_pos (b + k) hN
    obtain ⟨t, ht⟩ := Int.eq_ofNat_of_zero_le h0
    refine ⟨t, by omega, ?_, ht⟩
    have hr := rhok_range hok b hb
    rw [← ht, Int.emod_sub_emod, show b + k - k = b by omega, Int.emod_eq_of_lt hr.1 hr.2]
    unfold hasB
    rw [decide_eq_true_eq]
    exact hb
  · rintro ⟨t, ht, hb, rfl⟩
    unfold hasB at hb
    rw [decide_eq_true_eq] at hb
    refine ⟨_, addL_mem.2 ⟨_, hb, rfl⟩, ?_⟩
    rw [Int.emod_add_emod, show (t : Int) - k + k = t by omega, Int.emod_eq_of_lt (by omega) (by omega)]

set_option maxHeartbeats 400000 in
theorem impl_rotated1_any (x k : Int) (b : Nat) (w : World) (hx : 0 ≤ x ∧ x ≤ 1000000) (hk : 0 ≤ k ∧ k ≤ 1000000) (hc : w.cell? ⟨b, 0, none⟩ = some (.int .i64 k)) :
    Calls Tryz.prog 83 #[.int .i64 x, .pointer (some ⟨b, 0, none⟩)] w fun e w' => e = .returned (.int .i64 (x + k)) ∧ w = w' := by
  have h1 : IntKind.i64.wrap (x + k) = x + k := i64w (by omega)
  go_enter Tryz.func83, Tryz.ntmps83
  go_wp2_with fail
  go_ret
  exact ⟨rfl, rfl⟩

set_option maxRecDepth 100000 in
set_option maxHeartbeats 1000000 in
theorem impl_moved_any (N : Nat) (A : Option Addr) (cap : Nat) (bs : List Int) (k b : Nat) (w : World) (hA : Ints w w.heap.size A bs) (hok : RhOk N bs) (hk : k ≤ 1000) (hb : b < w.heap.size) (hkc : w.cell? ⟨b, 0, none⟩ = some (.int .i64 k)) :
    Calls Tryz.prog 82 #[.agg #[.int .i64 N, .slice A bs.length cap], .func (.func 83) #[] #[.pointer (some ⟨b, 0, none⟩)]] w (RetRh1 w N (rotL N bs k)) := by
  have hn1 := hok.1
  have hn2 := hok.2.1
  have hlen := hA.1
  unfold maxLen at hlen
  have hbl : bs.length ≤ N := by
    have := rotL_len N bs 0
    rwa [(rotL_same hok 0).2 (fun t ht => by rw [show (t : Int) - 0 = t by omega, Int.emod_eq_of_lt (by omega) (by omega)])] at this
  have HC := Lib.hid hA.2.2
  have HOK := Lib.hid hok
  have HKC := Lib.hid hkc
  have hro := fun (A2 : Option Addr) (c2 : Nat) (V : World) (hV : Ints V V.heap.size A2 (addL k bs bs.length)) => impl_rhythmOf_any N A2 c2 (addL k bs bs.length) V hV (by have := addL_len k bs bs.length; omega) hn1 (by omega)
  rw [rotL_coll hok] at hro
  have hrl := rotL_len N bs k
  generalize rotL N bs k = R at hro hrl ⊢
  have HRO := Lib.hid hro
  clear hA hok hkc hro
  have hW0 := ((Below.refl w.heap.size w).alloc (Nat.le_refl _) (.cells #[.int .i64 N, .slice A bs.length cap] 26)).alloc (by first | exact Nat.le_refl _ | (simp; done) | (simp; omega) | omega) (.cells #[.int .i64 0, .slice none 0 0] 26)
  have HW := Lib.hid hW0
  have HG := Lib.hid ((Cells2.new w (.int .i64 N) (.slice A bs.length cap) 26).alloc (.cells #[.int .i64 0, .slice none 0 0] 26))
  have HN := Lib.hid (Cells2.new (w.alloc (.cells #[.int .i64 N, .slice A bs.length cap] 26)) (.int .i64 0) (.slice none 0 0) 26)
  obtain ⟨g0, g1, _, _, _⟩ := HG.out
  clear hW0
  go_enter Tryz.func82, Tryz.ntmps82
  go_wp2_with fail
  clear g0 g1
  go_loopw [5, 11] (fun so i wr => ∃ j : Nat, j ≤ bs.length ∧ i = .int .i64 j ∧ OwnI wr (w.heap.size + 2) so (addL k bs j) ∧ Below (w.heap.size + 2) ((w.alloc (.cells #[.int .i64 N, .slice A bs.length cap] 26)).alloc (.cells #[.int .i64 0, .slice none 0 0] 26)) wr) (fun _ i _ => bs.length - (intOf i).toNat)
  case atStart => exact ⟨0, Nat.zero_le _, rfl, OwnI.nil _ _, Below.refl _ _⟩
  case round =>
    obtain ⟨j, hj, rfl, hown, hbel⟩ := hrel
    obtain ⟨wo, rfl⟩ : ∃ wo : World, wo = wr := ⟨_, rfl⟩
    have hws : w.heap.size + 2 ≤ wo.heap.size := by have := hbel.size; simpa using this
    have HBE := Lib.hid hbel
    have HO := Lib.hid hown
    obtain ⟨A1, c1, rfl⟩ := hown.form
    have hmk := addL_len k bs j
    clear hbel hown
    obtain ⟨g0, g1, g2, g3, g4⟩ := HG.out.below HBE.out (by simp)
    by_cases hlt : j < bs.length
    · obtain ⟨b2, off, rfl, hB, hc⟩ := HC.out (by omega)
      have hcell := ((HW.out.trans (HBE.out.mono (by omega))).cell (p := ⟨b2, off + j, none⟩) hB).trans (hc j hlt)
      have hx0 := HOK.out.2.2.1 j hlt
      obtain ⟨x, hx⟩ : ∃ x, bs.getD j 0 = x := ⟨_, rfl⟩
      rw [hx] at hcell hx0
      obtain ⟨hx1, hx2⟩ := hx0
      have HSU := Lib.hid (addL_succ (k := (k : Int)) hlt hx)
      have hkc2 := ((HW.out.trans (HBE.out.mono (by omega))).cell (p := ⟨b, 0, none⟩) hb).trans HKC.out
      have HR1 := Lib.hid (impl_rotated1_any x k b wo ⟨hx1, by omega⟩ (by omega) hkc2)
      generalize addL k bs j = L at HO HSU hmk ⊢
      clear hc hx hkc2
      go_wp2_with (first
        | (go_at_call 83; refine HR1.out.mono ?_; rintro e w' ⟨rfl, rfl⟩)
        | (at_builtin; refine wpList_append_int rfl (.tmp 15) (.tmp 19) rfl (w.heap.size + 2) _ L rfl (HO.out.alloc _) _ _ rfl (cell_new1 _ _ _) (by omega) (by simp; omega) ?_; intro v2 w2 hown2 hb2))
      have HO2 := Lib.hid hown2
      have HB2 := Lib.hid ((HBE.out.alloc (by omega) _).trans hb2)
      clear hown2 hb2
      go_wp2_with fail
      go_roundw
      case rel => exact ⟨j + 1, by omega, by go_num, by rw [HSU.out]; exact HO2.out, HB2.out⟩
      case measure => simp [intOf]; omega
    · have hje : j = bs.length := by omega
      subst hje
      have HI := Lib.hid (HO.out.ints (addL_fit HOK.out k hk _))
      generalize addL k bs bs.length = L at HO HRO HI hmk ⊢
      go_wp2_with fail
      refine (HRO.out A1 c1 _ HI.out).mono ?_
      rintro e w2 ⟨A2, c2, rfl, hrw, hb2⟩
      have hz2 := hb2.size
      obtain ⟨f0, f1, f2, f3, f4⟩ := (HN.out.below HBE.out (by simp)).below hb2 (by simp; omega)
      simp only [World.size_alloc] at f0 f1 f2 f3
      go_wp2_with fail
      refine bodyPost_ret (v := .agg #[.int .i64 N, .slice A2 R.length c2]) (by simp [results, Tryz.results82, go_sem, f0, f1]) rfl ?_
      refine ⟨A2, c2, rfl, ?_, ?_⟩
      · exact ((hrw.far (p := ⟨w.heap.size + 1, 0, none⟩) (by simp; omega) _).far (p := ⟨w.heap.size + 1, 1, none⟩) (by simp; omega) _).mono (by omega)
      · exact (((HW.out.trans (HBE.out.mono (by omega))).trans (hb2.mono (by omega))).setCell (by simp) _).setCell (by simp) _

set_option maxRecDepth 100000 in
set_option maxHeartbeats 1000000 in
theorem impl_rotated_any (N : Nat) (A : Option Addr) (cap : Nat) (bs : List Int) (k : Nat) (w : World) (hA : Ints w w.heap.size A bs) (hok : RhOk N bs) (hk : k ≤ 1000) :
    Calls Tryz.prog 45 #[.agg #[.int .i64 N, .slice A bs.length cap], .int .i64 k] w (RetRh1 w N (rotL N bs k)) := by
  have HA := Lib.hid hA
  have HMV := Lib.hid (fun (b : Nat) (V : World) hV hb hc => impl_moved_any N A cap bs k b V hV hok hk hb hc)
  generalize rotL N bs k = R at HMV ⊢
  clear hA hok
  have HW := Lib.hid ((((Below.refl w.heap.size w).alloc (Nat.le_refl _) (.cells #[.int .i64 N, .slice A bs.length cap] 26)).alloc (by first | exact Nat.le_refl _ | (simp; done) | (simp; omega) | omega) (.cells #[.int .i64 k] 3)).alloc (by first | exact Nat.le_refl _ | (simp; done) | (simp; omega) | omega) (.cells #[.int .i64 0, .slice none 0 0] 26))
  have HG := Lib.hid (((Cells2.new w (.int .i64 N) (.slice A bs.length cap) 26).alloc (.cells #[.int .i64 k] 3)).alloc (.cells #[.int .i64 0, .slice none 0 0] 26))
  have HN := Lib.hid (Cells2.new ((w.alloc (.cells #[.int .i64 N, .slice A bs.length cap] 26)).alloc (.cells #[.int .i64 k] 3)) (.int .i64 0) (.slice none 0 0) 26)
  have HK := Lib.hid (show (((w.alloc (.cells #[.int .i64 N, .slice A bs.length cap] 26)).alloc (.cells #[.int .i64 k] 3)).alloc (.cells #[.int .i64 0, .slice none 0 0] 26)).cell? ⟨w.heap.size + 1, 0, none⟩ = some (.int .i64 k) by
    rw [((Below.refl (w.heap.size + 2) ((w.alloc (.cells #[.int .i64 N, .slice A bs.length cap] 26)).alloc (.cells #[.int .i64 k] 3))).alloc (by simp) (.cells #[.int .i64 0, .slice none 0 0] 26)).cell (p := ⟨w.heap.size + 1, 0, none⟩) (by simp)]
    simp)
  obtain ⟨g0, g1, _, _, _⟩ := HG.out
  go_enter Tryz.func45, Tryz.ntmps45
  go_wp2_with fail
  refine (HMV.out (w.heap.size + 1) _ (HA.out.lift HW.out) (by simp) HK.out).mono ?_
  rintro e w2 ⟨A2, c2, rfl, hrw, hb2⟩
  have hz2 := hb2.size
  obtain ⟨f0, f1, f2, f3, f4⟩ := HN.out.below hb2 (by simp)
  simp only [World.size_alloc] at f0 f1 f2 f3 hz2 hrw hb2
  go_wp2_with fail
  refine bodyPost_ret (v := .agg #[.int .i64 N, .slice A2 R.length c2]) (by simp [results, Tryz.results45, go_sem, f0, f1]) rfl ?_
  refine ⟨A2, c2, rfl, ?_, ?_⟩
  · exact ((hrw.far (p := ⟨w.heap.size + 2, 0, none⟩) (by simp) _).far (p := ⟨w.heap.size + 2, 1, none⟩) (by simp) _).mono (by omega)
  · exact ((HW.out.trans (hb2.mono (by omega))).setCell (p := ⟨w.heap.size + 2, 0, none⟩) (Nat.le_add_right _ _) _).setCell (p := ⟨w.heap.size + 2, 1, none⟩) (Nat.le_add_right _ _) _

end Go.Proofs.YthookknmeajojaaGreatDoor

namespace Go.Proofs.YthookknmeajojaaGreatDoor
open Go.RowKit Go.Shelf
set_option linter.unusedVariables false
set_option linter.unusedSimpArgs false

theorem Ints.drew3_ {w : World} {B : Nat} {A : Option Addr} {xs : List Int} (h : Ints w B A xs) : Ints w.drew B A xs := h
theorem Below.drew3_ {B : Nat} {a w : World} (h : Below B a w) : Below B a w.drew := ⟨h.os, h.tape, h.output, h.size, h.block⟩
theorem Below.drewL3_ {B : Nat} {a w : World} (h : Below B a w) : Below B a.drew w := ⟨h.os, h.tape, h.output, h.size, h.block⟩
theorem RW.drewN3_ {w : World} {base : Nat} {A : Option Addr} {xs : List Int} (h : RW w base A xs) : RW w.drew base A xs := h

theorem slices_Equal_any (A1 A2 : Option Addr) (c1 c2 : Nat) (xs ys : List Int) (w : World) (B1 B2 : Nat) (h1 : Ints w B1 A1 xs) (h2 : Ints w B2 A2 ys) :
    Calls Tryz.prog 116 #[.slice A1 xs.length c1, .slice A2 ys.length c2] w fun e w' => e = .returned (.bool (eqB xs ys)) ∧ ∃ q, w' = w.drewN q := by
  have hl1 := h1.1
  have hl2 := h2.1
  unfold maxLen at hl1 hl2
  by_cases hx : xs.length = ys.length
  · by_cases hp : 0 < xs.length
    · obtain ⟨b1, o1, rfl, _, _⟩ := h1.2.2 hp
      obtain ⟨b2, o2, rfl, _, _⟩ := h2.2.2 (by omega)
      refine (Any.slices_Equal_int Tryz.lays111 b1 o1 xs.length c1 b2 o2 ys.length c2 xs ys w (Nat.le_refl _) (Nat.le_refl _) (by omega) (by omega) (ints_cellsC h1) (ints_cellsC h2)).mono ?_
      rintro e w' ⟨rfl, q, rfl⟩
      rw [List.take_length, List.take_length]
      refine ⟨ret_bool ?_, q, rfl⟩
      unfold eqB
      rw [Bool.eq_iff_iff, beq_iff_eq, decide_eq_true_eq]
    · have e1 : xs = [] := List.eq_nil_of_length_eq_zero (by omega)
      have e2 : ys = [] := List.eq_nil_of_length_eq_zero (by omega)
      subst e1 e2
      refine (Any.slices_Equal_int_empty Tryz.lays111 A1 A2 c1 0 c2 w (by omega)).mono ?_
      rintro e w' ⟨rfl, rfl⟩
      exact ⟨rfl, 0, rfl⟩
  · refine (Any.slices_Equal_int_lens Tryz.lays111 A1 A2 xs.length c1 ys.length c2 w hx).mono ?_
    rintro e w' ⟨rfl, rfl⟩
    refine ⟨ret_bool ?_, 0, rfl⟩
    unfold eqB
    rw [eq_comm, decide_eq_false_iff_not]
    intro h
    exact hx (by rw [h])

set_option maxRecDepth 100000 in
set_option maxHeartbeats 400000 in
theorem impl_equals_any (n : Int) (A1 A2 : Option Addr) (c1 c2 : Nat) (xs ys : List Int) (w : World) (h1 : Ints w w.heap.size A1 xs) (h2 : Ints w w.heap.size A2 ys) :
    Calls Tryz.prog 70 #[.agg #[.int .i64 n, .slice A1 xs.length c1], .agg #[.int .i64 n, .slice A2 ys.length c2]] w fun e w' => e = .returned (.bool (eqB xs ys)) ∧ Below w.heap.size w w' := by
  have hW0 := ((Below.refl w.heap.size w).alloc (Nat.le_refl _) (.cells #[.int .i64 n, .slice A1 xs.length c1] 26)).alloc (by first | exact Nat.le_refl _ | (simp; done) | (simp; omega) | omega) (.cells #[.int .i64 n, .slice A2 ys.length c2] 26)
  have HW := Lib.hid hW0
  have HEQ := Lib.hid (fun (V : World) (hV : Below w.heap.size w V) => slices_Equal_any A1 A2 c1 c2 xs ys V w.heap.size w.heap.size (h1.below hV) (h2.below hV))
  obtain ⟨g0, g1, _, _, _⟩ := ((Cells2.new w (.int .i64 n) (.slice A1 xs.length c1) 26).alloc (.cells #[.int .i64 n, .slice A2 ys.length c2] 26))
  obtain ⟨k0, k1, _, _, _⟩ := (Cells2.new (w.alloc (.cells #[.int .i64 n, .slice A1 xs.length c1] 26)) (.int .i64 n) (.slice A2 ys.length c2) 26)
  simp only [World.size_alloc] at k0 k1
  have hnn : (n == n) = true := by simp
  generalize eqB xs ys = b at HEQ ⊢
  clear h1 h2 hW0
  go_enter Tryz.func70, Tryz.ntmps70
  go_wp2_with (go_at_call 116; refine (HEQ.out _ HW.out).mono ?_; rintro e w' ⟨rfl, q, rfl⟩)
  go_ret
  exact ⟨rfl, Below.drewN_ HW.out q⟩

set_option maxRecDepth 100000 in
set_option maxHeartbeats 1000000 in
theorem impl_period_any (N : Nat) (A : Option Addr) (cap : Nat) (bs : List Int) (w : World) (hA : Ints w w.heap.size A bs) (hok : RhOk N bs) :
    Calls Tryz.prog 44 #[.agg #[.int .i64 N, .slice A bs.length cap]] w fun e w' => e = .returned (.int .i64 (perV N bs)) ∧ Below w.heap.size w w' := by
  have hn1 : 1 ≤ N := by have := hok.1; omega
  have hn2 : N ≤ 24 := by have := hok.2.1; omega
  have HOK := Lib.hid hok
  have HA := Lib.hid hA
  have HFT := Lib.hid (fun k : Int => show ∀ x ∈ rotL N bs k, Fits x from fun x hx => by
    obtain ⟨t, ht, _, rfl⟩ := rotL_mem.1 hx
    unfold Fits
    omega)
  clear hA hok
  have HW := Lib.hid ((Below.refl w.heap.size w).alloc (Nat.le_refl _) (.cells #[.int .i64 N, .slice A bs.length cap] 26))
  have HG := Lib.hid (Cells2.new w (.int .i64 N) (.slice A bs.length cap) 26)
  go_enter Tryz.func44, Tryz.ntmps44
  go_wp2_with fail
  go_loopw [3] (fun s wr => ∃ k : Nat, 1 ≤ k ∧ k ≤ N ∧ s = .int .i64 k ∧ (∀ j, 1 ≤ j → j < k → perB N bs j = false) ∧ Below (w.heap.size + 1) (w.alloc (.cells #[.int .i64 N, .slice A bs.length cap] 26)) wr) (fun s _ => N - (intOf s).toNat)
  case atStart => exact ⟨1, by omega, hn1, rfl, fun j h1 h2 => by omega, Below.refl _ _⟩
  case round =>
    obtain ⟨k, hk1, hk, rfl, hno, hbel⟩ := hrel
    obtain ⟨wo, rfl⟩ : ∃ wo : World, wo = wr := ⟨_, rfl⟩
    have hws : w.heap.size + 1 ≤ wo.heap.size := by have := hbel.size; simpa using this
    have HNO := Lib.hid hno
    have HBE := Lib.hid hbel
    have HWW := Lib.hid (HW.out.trans (HBE.out.mono (by omega)))
    obtain ⟨c0, c1, _, _, _⟩ := HG.out.below hbel (by simp)
    have HRO := Lib.hid (fun (V : World) (hV : Ints V V.heap.size A bs) => impl_rotated_any N A cap bs k V hV HOK.out (by omega))
    have HEQ := Lib.hid (fun (A2 : Option Addr) (c2 : Nat) (V : World) (h1 : Ints V V.heap.size A2 (rotL N bs k)) (h2 : Ints V V.heap.size A bs) => impl_equals_any N A2 A c2 cap (rotL N bs k) bs V h1 h2)
    have HF2 := Lib.hid (HFT.out k)
    clear hno hbel
    obtain ⟨r, hr⟩ : ∃ r, perB N bs k = r := ⟨_, rfl⟩
    have HR := Lib.hid hr
    rw [show eqB (rotL N bs k) bs = r from hr] at HEQ
    generalize rotL N bs k = L at HRO HEQ HF2
    clear hr
    cases r
    all_goals
      go_wp2_with fail
      (refine wp_region_held_drew (S := (fun w' => w'.cell? ⟨w.heap.size, 0, none⟩ = some (.int .i64 N) ∧ w'.cell? ⟨w.heap.size, 1, none⟩ = some (.slice A bs.length cap))) (by kernel_rfl) ?_ (fun hHeld => ?_); (focus ((try dsimp only); exact ⟨c0, c1⟩)))
      (refine wpAnyH_take (i := 0) (v := ?_) rfl (by kernel_rfl) (by kernel_rfl) (by kernel_rfl) (fun _ _ _ h => h) (Or.inl ⟨by rfl, ?_⟩) (by assumption) ?_; rotate_left; (focus (intro wS hSw; (try dsimp only at hSw); go_simp; (try with_reducible rfl))); (try simp only [Act.put, List.getElem_toArray, List.getElem_cons_zero, List.getElem_cons_succ, List.setIfInBounds_toArray, List.set_cons_zero, List.set_cons_succ]))
      (refine wpAnyH_take (i := 1) (v := ?_) rfl (by kernel_rfl) (by kernel_rfl) (by kernel_rfl) (fun _ _ _ h => h) (Or.inl ⟨by rfl, ?_⟩) (by assumption) ?_; rotate_left; (focus (intro wS hSw; (try dsimp only at hSw); go_simp; (try with_reducible rfl))); (try simp only [Act.put, List.getElem_toArray, List.getElem_cons_zero, List.getElem_cons_succ, List.setIfInBounds_toArray, List.set_cons_zero, List.set_cons_succ]))
      (refine wpAnyH_take (i := 3) (v := ?_) rfl (by kernel_rfl) (by kernel_rfl) (by kernel_rfl) (fun _ _ _ h => h) (Or.inl ⟨by rfl, ?_⟩) (by assumption) ?_; rotate_left; (focus (intro wS hSw; (try dsimp only at hSw); go_simp; (try with_reducible rfl))); (try simp only [Act.put, List.getElem_toArray, List.getElem_cons_zero, List.getElem_cons_succ, List.setIfInBounds_toArray, List.set_cons_zero, List.set_cons_succ]))
      (refine wpAnyH_ready (rs := [2]) (by kernel_rfl) (by simp) ?_; refine AllReadyH.cons rfl (fun K hK => ?_) AllReadyH.nil; go_simp)
      go_at_call 45
      refine (HRO.out _ (HA.out.lift HWW.out).drew3_).mono ?_
      rintro e w1 ⟨A2, c2, rfl, hrw, hb1⟩
      have hz1 : wo.heap.size ≤ w1.heap.size := hb1.size
      have HI1 := Lib.hid (hrw.ints HF2.out)
      have HB1 := Lib.hid (show Below wo.heap.size wo.drew w1 from hb1)
      have HWX := Lib.hid ((Below.drew3_ HWW.out).trans (HB1.out.mono (Nat.le_trans (Nat.le_succ _) hws)))
      clear hrw hb1
      go_wp2_with fail
      have hcc := (bcellB HB1.out).1
      have d0 := (hcc w.heap.size 0 (by omega)).trans c0
      have d1 := (hcc w.heap.size 1 (by omega)).trans c1
      clear hcc
      (refine hK.out _ _ ?_ (fun hHeld2 => ?_); (focus ((try dsimp only); exact ⟨d0, d1⟩)); (clear hK K); (try simp only [Act.put, List.getElem_toArray, List.getElem_cons_zero, List.getElem_cons_succ, List.setIfInBounds_toArray, List.set_cons_zero, List.set_cons_succ]))
      (refine wpAnyH_ready (rs := [4]) (by kernel_rfl) (by simp) ?_; refine AllReadyH.cons rfl (fun K hK => ?_) AllReadyH.nil; go_simp)
      go_at_call 70
      refine (HEQ.out A2 c2 _ HI1.out (HA.out.lift HWX.out)).mono ?_
      rintro e w2 ⟨rfl, hb2⟩
      have hcc2 := (bcellB hb2).1
      have e0 := (hcc2 w.heap.size 0 (by omega)).trans d0
      have e1 := (hcc2 w.heap.size 1 (by omega)).trans d1
      have HBY := Lib.hid (((Below.drew3_ HBE.out).trans (HB1.out.mono hws)).trans (hb2.mono (Nat.le_trans hws hz1)))
      clear hb2 hcc2 c0 c1 d0 d1
      go_wp2_with fail
      (refine hK.out _ _ ?_ (fun hHeld2 => ?_); (focus ((try dsimp only); exact ⟨e0, e1⟩)); (clear hK K); (try simp only [Act.put, List.getElem_toArray, List.getElem_cons_zero, List.getElem_cons_succ, List.setIfInBounds_toArray, List.set_cons_zero, List.set_cons_succ]))
      (refine wpAnyH_take (i := 5) (v := ?_) rfl (by kernel_rfl) (by kernel_rfl) (by kernel_rfl) (fun _ _ _ h => h) (Or.inl ⟨by rfl, ?_⟩) (by assumption) ?_; rotate_left; (focus (intro wS hSw; (try dsimp only at hSw); go_simp; (try with_reducible rfl))); (try simp only [Act.put, List.getElem_toArray, List.getElem_cons_zero, List.getElem_cons_succ, List.setIfInBounds_toArray, List.set_cons_zero, List.set_cons_succ]))
      refine wpAnyH_done (by kernel_rfl) ?_ _
    · have hkN : k < N := by
        apply Classical.byContradiction
        intro hh
        have e : k = N := by omega
        have h3 := HR.out
        rw [e, perB_all HOK.out] at h3
        cases h3
      go_wp2_with fail
      go_roundw
      case rel =>
        refine ⟨k + 1, by omega, by omega, by go_num, fun j h1 h2 => ?_, HBY.out⟩
        by_cases e : j = k
        · subst e; exact HR.out
        · exact HNO.out j h1 (by omega)
      case measure => simp [intOf]; omega
    · have HP := Lib.hid (perV_unique HOK.out hk1 HR.out HNO.out)
      go_wp2_with fail
      go_ret
      exact ⟨ret_int (by rw [HP.out]), HW.out.trans (HBY.out.mono (by omega))⟩

end Go.Proofs.YthookknmeajojaaGreatDoor

