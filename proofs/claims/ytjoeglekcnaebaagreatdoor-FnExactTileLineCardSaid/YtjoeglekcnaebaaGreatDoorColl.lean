/-
  Numbers gathered: sorted, each once; the rhythm of numbers; a rhythm turned.
-/
import Derived.Test.YtjoeglekcnaebaaGreatDoorRw
import Derived.Test.YtjoeglekcnaebaaGreatDoorRem
import Derived.Test.YtjoeglekcnaebaaGreatDoorRowE
import Derived.Test.YtjoeglekcnaebaaGreatDoorCmpT
import Derived.Test.YtjoeglekcnaebaaGreatDoorShI
import Derived.Lib.RowBridge
namespace Go.Proofs.YtjoeglekcnaebaaGreatDoor
open Go.RowKit Go.Shelf Go.Sort
set_option linter.unusedVariables false
set_option linter.unusedSimpArgs false

def collL (xs : List Int) : List Int := Lib.compact (xs.mergeSort fun x y => decide (x ≤ y))
theorem collL_asc (xs : List Int) : (collL xs).Pairwise (fun a b => a < b) ∧ ∀ x, x ∈ collL xs ↔ x ∈ xs := by
  have hs : (xs.mergeSort fun x y => decide (x ≤ y)).Pairwise (fun a b => a = b ∨ decide (a < b) = true) := by
    have := List.pairwise_mergeSort (le := fun x y : Int => decide (x ≤ y)) (fun a b c h1 h2 => by simp at h1 h2 ⊢; omega) (fun a b => by simp; omega) xs
    refine this.imp fun {a b} h => ?_
    simp at h ⊢
    omega
  have := compact_sorted (fun a b : Int => decide (a < b)) (fun a b c h1 h2 => by simp at h1 h2 ⊢; omega) _ hs
  refine ⟨this.1.imp fun {a b} h => by simpa using h, fun x => ?_⟩
  unfold collL
  rw [this.2, List.mem_mergeSort]
theorem collL_len (xs : List Int) : (collL xs).length ≤ xs.length := by
  have := Lib.compact_length_le (xs.mergeSort fun x y => decide (x ≤ y))
  rwa [List.length_mergeSort] at this
theorem collL_nil : collL [] = [] := by
  have := collL_len []
  exact List.eq_nil_of_length_eq_zero (by simpa using this)

theorem OwnI.posC {w : World} {base : Nat} {v : Value} {xs : List Int} (h : OwnI w base v xs) (hp : 0 < xs.length) : ∃ g c, v = .slice (some ⟨g, 0, none⟩) xs.length c := by
  rcases h.2 with ⟨rfl, h0⟩ | ⟨g, cap, cur, rfl, hg, hh, hnc, hm, _⟩
  · omega
  · exact ⟨g, cap, rfl⟩
theorem OwnI.rowC {w : World} {base g cap : Nat} {xs : List Int} (h : OwnI w base (.slice (some ⟨g, 0, none⟩) xs.length cap) xs) : RowE (Value.int .i64) 3 w base g cap xs := by
  rcases h.2 with ⟨hv, h0⟩ | ⟨g', cap', cur, hv, hg, hh, hnc, hm, hs, ht⟩
  · cases hv
  · injection hv with h1 h2 h3
    injection h1 with h1
    injection h1 with h1
    subst h1 h3
    exact ⟨hg, hnc, hm, cur, hh, by simpa using hs, by rw [Nat.mul_one] at ht; exact ht⟩
theorem RowE.ownC {w : World} {base g cap : Nat} {xs : List Int} (h : RowE (Value.int .i64) 3 w base g cap xs) : OwnI w base (.slice (some ⟨g, 0, none⟩) xs.length cap) xs := by
  obtain ⟨hb, hl, hm, cur, hh, hs, ht⟩ := h
  exact ⟨by simp, .inr ⟨g, cap, cur, rfl, hb, hh, hl, hm, by rw [Nat.mul_one]; exact hs, by rw [Nat.mul_one]; exact ht⟩⟩

theorem sort_ints (g cap base : Nat) (xs : List Int) (w : World) (h : RowE (Value.int .i64) 3 w base g cap xs) (hl : xs.length ≤ 1048576) :
    Calls Tryz.prog 78 #[.slice (some ⟨g, 0, none⟩) xs.length cap] w fun e w' => e = .returned (.tuple #[]) ∧ RowE (Value.int .i64) 3 w' base g cap (xs.mergeSort fun x y => decide (x ≤ y)) ∧ Below base w w' :=
  (Any.slices_Sort_int Tryz.lays189 g 0 cap xs w h.holds h.lt (by omega)).mono fun e w' ⟨he, n, os, hw⟩ => by
    have := h.put (ys := xs.mergeSort fun x y => decide (x ≤ y)) (List.length_mergeSort _) hw
    exact ⟨he, this.1, this.2⟩

theorem compact_ints (g cap base : Nat) (xs : List Int) (w : World) (h : RowE (Value.int .i64) 3 w base g cap xs) (hl : xs.length ≤ 1048576) :
    Calls Tryz.prog 79 #[.slice (some ⟨g, 0, none⟩) xs.length cap] w fun e w' => e = .returned (.slice (some ⟨g, 0, none⟩) (Lib.compact xs).length cap) ∧ RowE (Value.int .i64) 3 w' base g cap (Lib.compact xs) ∧ Below base w w' :=
  (Any.slices_Compact_int Tryz.lays20 g 0 cap xs w h.holds (by omega) h.2.1).mono fun e w' ⟨he, q, hw⟩ => by
    have hle := Lib.compact_length_le xs
    have := h.put (ys := Lib.compact xs ++ List.replicate (xs.length - (Lib.compact xs).length) 0) (by simp; omega) (n := q) (os := #[]) (hw.trans (grow_empty _).symm)
    exact ⟨he, this.1.cut, this.2⟩

theorem ints_cellsC {w : World} {B g off : Nat} {xs : List Int} (h : Ints w B (some ⟨g, off, none⟩) xs) : ∀ j, j < xs.length → w.cell? ⟨g, off + j, none⟩ = some (.int .i64 (xs.getD j 0)) := by
  intro j hj
  obtain ⟨b, off', e, _, hc⟩ := h.2.2 (by omega)
  injection e with e
  injection e with e1 e2
  subst e1 e2
  exact hc j hj

theorem clone_ints (A : Option Addr) (cap : Nat) (xs : List Int) (w : World) (h : Ints w w.heap.size A xs) (hl : xs.length ≤ 1048576) :
    Calls Tryz.prog 77 #[.slice A xs.length cap] w fun e w' => ∃ v, e = .returned v ∧ OwnI w' w.heap.size v xs ∧ Below w.heap.size w w' := by
  by_cases hp : 0 < xs.length
  · obtain ⟨b, off, rfl, _, _⟩ := h.2.2 hp
    refine (Any.slices_Clone_int Tryz.lays15 b off xs.length cap xs w (Nat.le_refl _) (by omega) (ints_cellsC h)).mono ?_
    rintro e w' ⟨v, rfl, ho, _, hb⟩
    rw [List.take_length] at ho
    exact ⟨v, rfl, ho, hb⟩
  · have h0 : xs = [] := List.eq_nil_of_length_eq_zero (by omega)
    subst h0
    cases A with
    | none =>
      refine (Any.slices_Clone_int_nil Tryz.lays15 0 cap w).mono ?_
      rintro e w' ⟨rfl, rfl⟩
      exact ⟨_, rfl, OwnI.nil _ _, Below.refl _ _⟩
    | some a =>
      refine (Any.slices_Clone_int_zero Tryz.lays15 a cap w).mono ?_
      rintro e w' ⟨v, rfl, ho, _, hb⟩
      exact ⟨v, rfl, ho, hb⟩

set_option maxRecDepth 100000 in
set_option maxHeartbeats 400000 in
theorem impl_collected_any (A : Option Addr) (cap : Nat) (xs : List Int) (w : World) (hA : Ints w w.heap.size A xs) (hl : xs.length ≤ 1048576) :
    Calls Tryz.prog 51 #[.slice A xs.length cap] w fun e w' => ∃ v, e = .returned v ∧ OwnI w' w.heap.size v (collL xs) ∧ Below w.heap.size w w' := by
  have HCL := Lib.hid (clone_ints A cap xs w hA hl)
  clear hA
  by_cases hp : 0 < xs.length
  · have hsrt := fun V g c h => sort_ints g c w.heap.size xs V h hl
    have hcmp := fun V g c h => compact_ints g c w.heap.size (xs.mergeSort fun x y => decide (x ≤ y)) V h (by rw [List.length_mergeSort]; exact hl)
    have hcl := collL_len xs
    rw [List.length_mergeSort] at hcmp
    have he : Lib.compact (xs.mergeSort fun x y => decide (x ≤ y)) = collL xs := rfl
    rw [he] at hcmp
    generalize collL xs = C at hcmp hcl ⊢
    generalize (xs.mergeSort fun x y => decide (x ≤ y)) = M at hsrt hcmp
    have HS := Lib.hid hsrt
    have HC := Lib.hid hcmp
    clear hsrt hcmp he
    go_enter Tryz.func51, Tryz.ntmps51
    go_wp2_with fail
    refine HCL.out.mono ?_
    rintro e w1 ⟨v, rfl, ho, hb⟩
    obtain ⟨g, c, rfl⟩ := ho.posC hp
    have HR := Lib.hid ho.rowC
    have HB := Lib.hid hb
    clear ho hb
    go_wp2_with fail
    refine (HS.out _ g c HR.out).mono ?_
    rintro e w2 ⟨rfl, hr2, hb2⟩
    have HR2 := Lib.hid hr2
    have HB2 := Lib.hid (HB.out.trans hb2)
    clear hr2 hb2
    go_wp2_with fail
    refine (HC.out _ g c HR2.out).mono ?_
    rintro e w3 ⟨rfl, hr3, hb3⟩
    have HR3 := Lib.hid hr3
    have HB3 := Lib.hid (HB2.out.trans hb3)
    clear hr3 hb3
    go_wp2_with fail
    go_ret
    exact ⟨_, rfl, HR3.out.ownC, HB3.out⟩
  · have h0 : xs = [] := List.eq_nil_of_length_eq_zero (by omega)
    subst h0
    rw [collL_nil]
    go_enter Tryz.func51, Tryz.ntmps51
    go_wp2_with fail
    refine HCL.out.mono ?_
    rintro e w1 ⟨v, rfl, ho, hb⟩
    obtain ⟨A1, c1, rfl⟩ := ho.form
    have HO := Lib.hid ho
    have HB := Lib.hid hb
    clear ho hb
    go_wp2_with fail
    refine (Any.slices_Sort_int_none Tryz.lays189 A1 c1 _).mono ?_
    rintro e w2 ⟨rfl, rfl⟩
    go_wp2_with fail
    refine (Any.slices_Compact_int_empty Tryz.lays20 A1 c1 _).mono ?_
    rintro e w2 ⟨rfl, rfl⟩
    go_wp2_with fail
    go_ret
    exact ⟨_, rfl, HO.out, HB.out⟩

/-- The numbers taken modulo n, as far as k. -/
def modL (n : Int) (xs : List Int) (k : Nat) : List Int := (xs.take k).map (· % n)
theorem modL_succ {n : Int} {xs : List Int} {k : Nat} {x : Int} (hk : k < xs.length) (hx : xs.getD k 0 = x) : modL n xs (k + 1) = modL n xs k ++ [x % n] := by
  unfold modL
  rw [List.take_succ_eq_append_getElem hk, List.map_append, List.map_singleton]
  have : xs[k] = x := by rw [← hx, List.getD_eq_getElem?_getD, List.getElem?_eq_getElem hk]; rfl
  rw [this]
theorem modL_len (n : Int) (xs : List Int) (k : Nat) : (modL n xs k).length ≤ xs.length := by
  unfold modL
  rw [List.length_map, List.length_take]
  omega
theorem modL_mem {n x : Int} {xs : List Int} : x ∈ modL n xs xs.length ↔ ∃ y ∈ xs, y % n = x := by
  unfold modL
  rw [List.take_length, List.mem_map]
theorem modL_fit {n : Int} {xs : List Int} (hn : 1 ≤ n) (hn2 : n ≤ 1000000000) (k : Nat) : ∀ x ∈ modL n xs k, Fits x := by
  intro x hx
  unfold modL at hx
  rw [List.mem_map] at hx
  obtain ⟨y, _, rfl⟩ := hx
  have := Int.emod_nonneg y (show n ≠ 0 by omega)
  have := Int.emod_lt_of_pos y (show 0 < n by omega)
  unfold Fits
  omega

set_option maxRecDepth 100000 in
set_option maxHeartbeats 1000000 in
theorem impl_rhythmOf_any (n : Int) (A : Option Addr) (cap : Nat) (xs : List Int) (w : World) (hA : Ints w w.heap.size A xs) (hl : xs.length ≤ 1000000) (hn : 1 ≤ n) (hn2 : n ≤ 1000000000) :
    Calls Tryz.prog 89 #[.int .i64 n, .slice A xs.length cap] w (RetRh1 w n (collL (modL n xs xs.length))) := by
  have HC := Lib.hid hA.2.2
  have hco := fun (A2 : Option Addr) (c2 : Nat) (V : World) (hV : Ints V V.heap.size A2 (modL n xs xs.length)) => impl_collected_any A2 c2 (modL n xs xs.length) V hV (by have := modL_len n xs xs.length; omega)
  have hcl := collL_len (modL n xs xs.length)
  obtain ⟨R, hR⟩ : ∃ R, collL (modL n xs xs.length) = R := ⟨_, rfl⟩
  rw [hR] at hco hcl ⊢
  have HCO := Lib.hid hco
  clear hco hR
  have hml := modL_len n xs xs.length
  clear hA
  have HW := Lib.hid ((Below.refl w.heap.size w).alloc (Nat.le_refl _) (.cells #[.int .i64 0, .slice none 0 0] 27))
  have HN := Lib.hid (Cells2.new w (.int .i64 0) (.slice none 0 0) 27)
  go_enter Tryz.func89, Tryz.ntmps89
  go_wp2_with fail
  go_loopw [5, 10] (fun so i wr => ∃ k : Nat, k ≤ xs.length ∧ i = .int .i64 k ∧ OwnI wr (w.heap.size + 1) so (modL n xs k) ∧ Below (w.heap.size + 1) (w.alloc (.cells #[.int .i64 0, .slice none 0 0] 27)) wr) (fun _ i _ => xs.length - (intOf i).toNat)
  case atStart => exact ⟨0, Nat.zero_le _, rfl, OwnI.nil _ _, Below.refl _ _⟩
  case round =>
    obtain ⟨k, hk, rfl, hown, hbel⟩ := hrel
    obtain ⟨wo, rfl⟩ : ∃ wo : World, wo = wr := ⟨_, rfl⟩
    have hws : w.heap.size + 1 ≤ wo.heap.size := by have := hbel.size; simpa using this
    have HBE := Lib.hid hbel
    have HO := Lib.hid hown
    obtain ⟨A1, c1, rfl⟩ := hown.form
    have hmk := modL_len n xs k
    clear hbel hown
    by_cases hlt : k < xs.length
    · obtain ⟨b, off, rfl, hB, hc⟩ := HC.out (by omega)
      have hcell := ((HW.out.trans (HBE.out.mono (by omega))).cell (p := ⟨b, off + k, none⟩) hB).trans (hc k hlt)
      obtain ⟨x, hx⟩ : ∃ x, xs.getD k 0 = x := ⟨_, rfl⟩
      rw [hx] at hcell
      have HSU := Lib.hid (modL_succ (n := n) hlt hx)
      generalize modL n xs k = L at HO HSU hmk ⊢
      clear hc hx
      go_wp2_with (first
        | (go_at_call 105; refine (impl_remainder_any x n _ hn hn2).mono ?_; rintro e w' ⟨rfl, rfl⟩)
        | (at_builtin; refine wpList_append_int rfl (.tmp 14) (.tmp 18) rfl (w.heap.size + 1) _ L rfl (HO.out.alloc _) _ _ rfl (cell_new1 _ _ _) (by omega) (by simp; omega) ?_; intro v2 w2 hown2 hb2))
      have HO2 := Lib.hid hown2
      have HB2 := Lib.hid ((HBE.out.alloc (by omega) _).trans hb2)
      clear hown2 hb2
      go_wp2_with fail
      go_roundw
      case rel => exact ⟨k + 1, by omega, by go_num, by rw [HSU.out]; exact HO2.out, HB2.out⟩
      case measure => simp [intOf]; omega
    · have hke : k = xs.length := by omega
      subst hke
      have HI := Lib.hid (HO.out.ints (modL_fit hn hn2 _))
      generalize modL n xs xs.length = L at HO HCO HI hmk hcl hml ⊢
      go_wp2_with fail
      refine (HCO.out A1 c1 _ HI.out).mono ?_
      rintro e w2 ⟨v, rfl, ho2, hb2⟩
      obtain ⟨A2, c2, rfl⟩ := ho2.form
      have hz2 := hb2.size
      obtain ⟨f0, f1, f2, f3, f4⟩ := (HN.out.below HBE.out (by simp)).below hb2 (by omega)
      go_wp2_with fail
      refine bodyPost_ret (v := .agg #[.int .i64 n, .slice A2 R.length c2]) (by simp [results, Tryz.results89, go_sem, f0, f1]) rfl ?_
      refine ⟨A2, c2, rfl, ?_, ?_⟩
      · exact (((ho2.rw_ (by omega)).far (p := ⟨w.heap.size, 0, none⟩) (by simp; omega) _).far (p := ⟨w.heap.size, 1, none⟩) (by simp; omega) _).mono (by omega)
      · exact (((HW.out.trans (HBE.out.mono (by omega))).trans (hb2.mono (by omega))).setCell (Nat.le_refl _) _).setCell (Nat.le_refl _) _

end Go.Proofs.YtjoeglekcnaebaaGreatDoor
