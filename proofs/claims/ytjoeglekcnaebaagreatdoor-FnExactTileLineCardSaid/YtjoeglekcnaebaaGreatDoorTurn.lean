/-
  A rhythm turned by k, by the program.
-/
import Derived.Test.YtjoeglekcnaebaaGreatDoorColl
import Derived.Test.YtjoeglekcnaebaaGreatDoorPer
namespace Go.Proofs.YtjoeglekcnaebaaGreatDoor
open Go.RowKit
set_option linter.unusedVariables false
set_option linter.unusedSimpArgs false

def addL (k : Int) (xs : List Int) (j : Nat) : List Int := (xs.take j).map (· + k)
theorem addL_succ {k : Int} {xs : List Int} {j : Nat} {x : Int} (hj : j < xs.length) (hx : xs.getD j 0 = x) : addL k xs (j + 1) = addL k xs j ++ [x + k] := by
  unfold addL
  rw [List.take_succ_eq_append_getElem hj, List.map_append, List.map_singleton]
  have : xs[j] = x := by rw [← hx, List.getD_eq_getElem?_getD, List.getElem?_eq_getElem hj]; rfl
  rw [this]
theorem addL_len (k : Int) (xs : List Int) (j : Nat) : (addL k xs j).length ≤ xs.length := by
  unfold addL
  rw [List.length_map, List.length_take]
  omega
theorem addL_mem {k x : Int} {xs : List Int} : x ∈ addL k xs xs.length ↔ ∃ y ∈ xs, y + k = x := by
  unfold addL
  rw [List.take_length, List.mem_map]
theorem getD_mem {xs : List Int} {x : Int} (h : x ∈ xs) : ∃ i, i < xs.length ∧ xs.getD i 0 = x := by
  obtain ⟨i, hi, rfl⟩ := List.getElem_of_mem h
  exact ⟨i, hi, by rw [List.getD_eq_getElem?_getD, List.getElem?_eq_getElem hi]; rfl⟩
theorem addL_fit {N : Nat} {bs : List Int} (hok : RhOk N bs) (k : Nat) (hk : k ≤ 1000) (j : Nat) : ∀ x ∈ addL k bs j, Fits x := by
  intro x hx
  unfold addL at hx
  rw [List.mem_map] at hx
  obtain ⟨y, hy, rfl⟩ := hx
  have := rhok_range hok y (List.mem_of_mem_take hy)
  have := hok.2.1
  unfold Fits
  omega

theorem rotL_coll {N : Nat} {bs : List Int} (hok : RhOk N bs) (k : Int) : collL (modL N (addL k bs bs.length) (addL k bs bs.length).length) = rotL N bs k := by
  refine asc_unique (collL_asc _).1 (rotL_sorted _ _ _) fun x => ?_
  rw [(collL_asc _).2, modL_mem, rotL_mem]
  have hN : (0 : Int) < N := by have := hok.1; omega
  constructor
  · rintro ⟨y, hy, rfl⟩
    obtain ⟨b, hb, rfl⟩ := addL_mem.1 hy
    have h0 := Int.emod_nonneg (b + k) (show (N : Int) ≠ 0 by omega)
    have h1 := Int.emod_lt_of_pos (b + k) hN
    obtain ⟨t, ht⟩ := Int.eq_ofNat_of_zero_le h0
    refine ⟨t, by omega, ?_, ht⟩
    have hr := rhok_range hok b hb
    rw [← ht, Int.emod_sub_emod, show b + k - k = b by omega, Int.emod_eq_of_lt hr.1 hr.2]
    unfold hasB
    rw [decide_eq_true_eq]
    exact hb
  · rintro ⟨t, ht, hb, rfl⟩
    unfold hasB at hb
    rw [decide_eq_true_eq] at hb
    refine ⟨_, addL_mem.2 ⟨_, hb, rfl⟩, ?_⟩
    rw [Int.emod_add_emod, show (t : Int) - k + k = t by omega, Int.emod_eq_of_lt (by omega) (by omega)]

set_option maxHeartbeats 400000 in
theorem impl_rotated1_any (x k : Int) (b : Nat) (w : World) (hx : 0 ≤ x ∧ x ≤ 1000000) (hk : 0 ≤ k ∧ k ≤ 1000000) (hc : w.cell? ⟨b, 0, none⟩ = some (.int .i64 k)) :
    Calls Tryz.prog 84 #[.int .i64 x, .pointer (some ⟨b, 0, none⟩)] w fun e w' => e = .returned (.int .i64 (x + k)) ∧ w = w' := by
  have h1 : IntKind.i64.wrap (x + k) = x + k := i64w (by omega)
  go_enter Tryz.func84, Tryz.ntmps84
  go_wp2_with fail
  go_ret
  exact ⟨rfl, rfl⟩

set_option maxRecDepth 100000 in
set_option maxHeartbeats 1000000 in
theorem impl_moved_any (N : Nat) (A : Option Addr) (cap : Nat) (bs : List Int) (k b : Nat) (w : World) (hA : Ints w w.heap.size A bs) (hok : RhOk N bs) (hk : k ≤ 1000) (hb : b < w.heap.size) (hkc : w.cell? ⟨b, 0, none⟩ = some (.int .i64 k)) :
    Calls Tryz.prog 72 #[.agg #[.int .i64 N, .slice A bs.length cap], .func (.func 84) #[] #[.pointer (some ⟨b, 0, none⟩)]] w (RetRh1 w N (rotL N bs k)) := by
  have hn1 := hok.1
  have hn2 := hok.2.1
  have hlen := hA.1
  unfold maxLen at hlen
  have hbl : bs.length ≤ N := by
    have := rotL_len N bs 0
    rwa [(rotL_same hok 0).2 (fun t ht => by rw [show (t : Int) - 0 = t by omega, Int.emod_eq_of_lt (by omega) (by omega)])] at this
  have HC := Lib.hid hA.2.2
  have HOK := Lib.hid hok
  have HKC := Lib.hid hkc
  have hro := fun (A2 : Option Addr) (c2 : Nat) (V : World) (hV : Ints V V.heap.size A2 (addL k bs bs.length)) => impl_rhythmOf_any N A2 c2 (addL k bs bs.length) V hV (by have := addL_len k bs bs.length; omega) hn1 (by omega)
  rw [rotL_coll hok] at hro
  have hrl := rotL_len N bs k
  generalize rotL N bs k = R at hro hrl ⊢
  have HRO := Lib.hid hro
  clear hA hok hkc hro
  have hW0 := ((Below.refl w.heap.size w).alloc (Nat.le_refl _) (.cells #[.int .i64 N, .slice A bs.length cap] 27)).alloc (by first | exact Nat.le_refl _ | (simp; done) | (simp; omega) | omega) (.cells #[.int .i64 0, .slice none 0 0] 27)
  have HW := Lib.hid hW0
  have HG := Lib.hid ((Cells2.new w (.int .i64 N) (.slice A bs.length cap) 27).alloc (.cells #[.int .i64 0, .slice none 0 0] 27))
  have HN := Lib.hid (Cells2.new (w.alloc (.cells #[.int .i64 N, .slice A bs.length cap] 27)) (.int .i64 0) (.slice none 0 0) 27)
  obtain ⟨g0, g1, _, _, _⟩ := HG.out
  clear hW0
  go_enter Tryz.func72, Tryz.ntmps72
  go_wp2_with fail
  clear g0 g1
  go_loopw [5, 11] (fun so i wr => ∃ j : Nat, j ≤ bs.length ∧ i = .int .i64 j ∧ OwnI wr (w.heap.size + 2) so (addL k bs j) ∧ Below (w.heap.size + 2) ((w.alloc (.cells #[.int .i64 N, .slice A bs.length cap] 27)).alloc (.cells #[.int .i64 0, .slice none 0 0] 27)) wr) (fun _ i _ => bs.length - (intOf i).toNat)
  case atStart => exact ⟨0, Nat.zero_le _, rfl, OwnI.nil _ _, Below.refl _ _⟩
  case round =>
    obtain ⟨j, hj, rfl, hown, hbel⟩ := hrel
    obtain ⟨wo, rfl⟩ : ∃ wo : World, wo = wr := ⟨_, rfl⟩
    have hws : w.heap.size + 2 ≤ wo.heap.size := by have := hbel.size; simpa using this
    have HBE := Lib.hid hbel
    have HO := Lib.hid hown
    obtain ⟨A1, c1, rfl⟩ := hown.form
    have hmk := addL_len k bs j
    clear hbel hown
    obtain ⟨g0, g1, g2, g3, g4⟩ := HG.out.below HBE.out (by simp)
    by_cases hlt : j < bs.length
    · obtain ⟨b2, off, rfl, hB, hc⟩ := HC.out (by omega)
      have hcell := ((HW.out.trans (HBE.out.mono (by omega))).cell (p := ⟨b2, off + j, none⟩) hB).trans (hc j hlt)
      have hx0 := HOK.out.2.2.1 j hlt
      obtain ⟨x, hx⟩ : ∃ x, bs.getD j 0 = x := ⟨_, rfl⟩
      rw [hx] at hcell hx0
      obtain ⟨hx1, hx2⟩ := hx0
      have HSU := Lib.hid (addL_succ (k := (k : Int)) hlt hx)
      have hkc2 := ((HW.out.trans (HBE.out.mono (by omega))).cell (p := ⟨b, 0, none⟩) hb).trans HKC.out
      have HR1 := Lib.hid (impl_rotated1_any x k b wo ⟨hx1, by omega⟩ (by omega) hkc2)
      generalize addL k bs j = L at HO HSU hmk ⊢
      clear hc hx hkc2
      go_wp2_with (first
        | (go_at_call 84; refine HR1.out.mono ?_; rintro e w' ⟨rfl, rfl⟩)
        | (at_builtin; refine wpList_append_int rfl (.tmp 15) (.tmp 19) rfl (w.heap.size + 2) _ L rfl (HO.out.alloc _) _ _ rfl (cell_new1 _ _ _) (by omega) (by simp; omega) ?_; intro v2 w2 hown2 hb2))
      have HO2 := Lib.hid hown2
      have HB2 := Lib.hid ((HBE.out.alloc (by omega) _).trans hb2)
      clear hown2 hb2
      go_wp2_with fail
      go_roundw
      case rel => exact ⟨j + 1, by omega, by go_num, by rw [HSU.out]; exact HO2.out, HB2.out⟩
      case measure => simp [intOf]; omega
    · have hje : j = bs.length := by omega
      subst hje
      have HI := Lib.hid (HO.out.ints (addL_fit HOK.out k hk _))
      generalize addL k bs bs.length = L at HO HRO HI hmk ⊢
      go_wp2_with fail
      refine (HRO.out A1 c1 _ HI.out).mono ?_
      rintro e w2 ⟨A2, c2, rfl, hrw, hb2⟩
      have hz2 := hb2.size
      obtain ⟨f0, f1, f2, f3, f4⟩ := (HN.out.below HBE.out (by simp)).below hb2 (by simp; omega)
      simp only [World.size_alloc] at f0 f1 f2 f3
      go_wp2_with fail
      refine bodyPost_ret (v := .agg #[.int .i64 N, .slice A2 R.length c2]) (by simp [results, Tryz.results72, go_sem, f0, f1]) rfl ?_
      refine ⟨A2, c2, rfl, ?_, ?_⟩
      · exact ((hrw.far (p := ⟨w.heap.size + 1, 0, none⟩) (by simp; omega) _).far (p := ⟨w.heap.size + 1, 1, none⟩) (by simp; omega) _).mono (by omega)
      · exact (((HW.out.trans (HBE.out.mono (by omega))).trans (hb2.mono (by omega))).setCell (by simp) _).setCell (by simp) _

set_option maxRecDepth 100000 in
set_option maxHeartbeats 1000000 in
theorem impl_rotated_any (N : Nat) (A : Option Addr) (cap : Nat) (bs : List Int) (k : Nat) (w : World) (hA : Ints w w.heap.size A bs) (hok : RhOk N bs) (hk : k ≤ 1000) :
    Calls Tryz.prog 57 #[.agg #[.int .i64 N, .slice A bs.length cap], .int .i64 k] w (RetRh1 w N (rotL N bs k)) := by
  have HA := Lib.hid hA
  have HMV := Lib.hid (fun (b : Nat) (V : World) hV hb hc => impl_moved_any N A cap bs k b V hV hok hk hb hc)
  generalize rotL N bs k = R at HMV ⊢
  clear hA hok
  have HW := Lib.hid ((((Below.refl w.heap.size w).alloc (Nat.le_refl _) (.cells #[.int .i64 N, .slice A bs.length cap] 27)).alloc (by first | exact Nat.le_refl _ | (simp; done) | (simp; omega) | omega) (.cells #[.int .i64 k] 3)).alloc (by first | exact Nat.le_refl _ | (simp; done) | (simp; omega) | omega) (.cells #[.int .i64 0, .slice none 0 0] 27))
  have HG := Lib.hid (((Cells2.new w (.int .i64 N) (.slice A bs.length cap) 27).alloc (.cells #[.int .i64 k] 3)).alloc (.cells #[.int .i64 0, .slice none 0 0] 27))
  have HN := Lib.hid (Cells2.new ((w.alloc (.cells #[.int .i64 N, .slice A bs.length cap] 27)).alloc (.cells #[.int .i64 k] 3)) (.int .i64 0) (.slice none 0 0) 27)
  have HK := Lib.hid (show (((w.alloc (.cells #[.int .i64 N, .slice A bs.length cap] 27)).alloc (.cells #[.int .i64 k] 3)).alloc (.cells #[.int .i64 0, .slice none 0 0] 27)).cell? ⟨w.heap.size + 1, 0, none⟩ = some (.int .i64 k) by
    rw [((Below.refl (w.heap.size + 2) ((w.alloc (.cells #[.int .i64 N, .slice A bs.length cap] 27)).alloc (.cells #[.int .i64 k] 3))).alloc (by simp) (.cells #[.int .i64 0, .slice none 0 0] 27)).cell (p := ⟨w.heap.size + 1, 0, none⟩) (by simp)]
    simp)
  obtain ⟨g0, g1, _, _, _⟩ := HG.out
  go_enter Tryz.func57, Tryz.ntmps57
  go_wp2_with fail
  refine (HMV.out (w.heap.size + 1) _ (HA.out.lift HW.out) (by simp) HK.out).mono ?_
  rintro e w2 ⟨A2, c2, rfl, hrw, hb2⟩
  have hz2 := hb2.size
  obtain ⟨f0, f1, f2, f3, f4⟩ := HN.out.below hb2 (by simp)
  simp only [World.size_alloc] at f0 f1 f2 f3 hz2 hrw hb2
  go_wp2_with fail
  refine bodyPost_ret (v := .agg #[.int .i64 N, .slice A2 R.length c2]) (by simp [results, Tryz.results57, go_sem, f0, f1]) rfl ?_
  refine ⟨A2, c2, rfl, ?_, ?_⟩
  · exact ((hrw.far (p := ⟨w.heap.size + 2, 0, none⟩) (by simp) _).far (p := ⟨w.heap.size + 2, 1, none⟩) (by simp) _).mono (by omega)
  · exact ((HW.out.trans (hb2.mono (by omega))).setCell (p := ⟨w.heap.size + 2, 0, none⟩) (Nat.le_add_right _ _) _).setCell (p := ⟨w.heap.size + 2, 1, none⟩) (Nat.le_add_right _ _) _

end Go.Proofs.YtjoeglekcnaebaaGreatDoor
