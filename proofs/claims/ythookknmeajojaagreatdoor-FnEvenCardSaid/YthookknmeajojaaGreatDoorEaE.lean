/-
  Several texts of this proof in one: Coll, MovT, WayT, WayU, WayV, ComS, MvP, EvnT.
-/
import Derived.Test.YthookknmeajojaaGreatDoorEaC
import Derived.Test.YthookknmeajojaaGreatDoorEaD
import Derived.Test.YthookknmeajojaaGreatDoorShI
import Derived.Lib.RowBridge
import Derived.Test.YthookknmeajojaaGreatDoorEaB
namespace Go.Proofs.YthookknmeajojaaGreatDoor
open Go.RowKit Go.Shelf Go.Sort
set_option linter.unusedVariables false
set_option linter.unusedSimpArgs false

def collL (xs : List Int) : List Int := Lib.compact (xs.mergeSort fun x y => decide (x ≤ y))
theorem collL_asc (xs : List Int) : (collL xs).Pairwise (fun a b => a < b) ∧ ∀ x, x ∈ collL xs ↔ x ∈ xs := by
  have hs : (xs.mergeSort fun x y => decide (x ≤ y)).Pairwise (fun a b => a = b ∨ decide (a < b) = true) := by
    have := List.pairwise_mergeSort (le := fun x y : Int => decide (x ≤ y)) (fun a b c h1 h2 => by simp at h1 h2 ⊢; omega) (fun a b => by simp; omega) xs
    refine this.imp fun {a b} h => ?_
    simp at h ⊢
    omega
  have := compact_sorted (fun a b : Int => decide (a < b)) (fun a b c h1 h2 => by simp at h1 h2 ⊢; omega) _ hs
  refine ⟨this.1.imp fun {a b} h => by simpa using h, fun x => ?_⟩
  unfold collL
  rw [this.2, List.mem_mergeSort]
theorem collL_len (xs : List Int) : (collL xs).length ≤ xs.length := by
  have := Lib.compact_length_le (xs.mergeSort fun x y => decide (x ≤ y))
  rwa [List.length_mergeSort] at this
theorem collL_nil : collL [] = [] := by
  have := collL_len []
  exact List.eq_nil_of_length_eq_zero (by simpa using this)

theorem OwnI.posC {w : World} {base : Nat} {v : Value} {xs : List Int} (h : OwnI w base v xs) (hp : 0 < xs.length) : ∃ g c, v = .slice (some ⟨g, 0, none⟩) xs.length c := by
  rcases h.2 with ⟨rfl, h0⟩ | ⟨g, cap, cur, rfl, hg, hh, hnc, hm, _⟩
  · omega
  · exact ⟨g, cap, rfl⟩
theorem OwnI.rowC {w : World} {base g cap : Nat} {xs : List Int} (h : OwnI w base (.slice (some ⟨g, 0, none⟩) xs.length cap) xs) : RowE (Value.int .i64) 3 w base g cap xs := by
  rcases h.2 with ⟨hv, h0⟩ | ⟨g', cap', cur, hv, hg, hh, hnc, hm, hs, ht⟩
  · cases hv
  · injection hv with h1 h2 h3
    injection h1 with h1
    injection h1 with h1
    subst h1 h3
    exact ⟨hg, hnc, hm, cur, hh, by simpa using hs, by rw [Nat.mul_one] at ht; exact ht⟩
theorem RowE.ownC {w : World} {base g cap : Nat} {xs : List Int} (h : RowE (Value.int .i64) 3 w base g cap xs) : OwnI w base (.slice (some ⟨g, 0, none⟩) xs.length cap) xs := by
  obtain ⟨hb, hl, hm, cur, hh, hs, ht⟩ := h
  exact ⟨by simp, .inr ⟨g, cap, cur, rfl, hb, hh, hl, hm, by rw [Nat.mul_one]; exact hs, by rw [Nat.mul_one]; exact ht⟩⟩

theorem sort_ints (g cap base : Nat) (xs : List Int) (w : World) (h : RowE (Value.int .i64) 3 w base g cap xs) (hl : xs.length ≤ 1048576) :
    Calls Tryz.prog 124 #[.slice (some ⟨g, 0, none⟩) xs.length cap] w fun e w' => e = .returned (.tuple #[]) ∧ RowE (Value.int .i64) 3 w' base g cap (xs.mergeSort fun x y => decide (x ≤ y)) ∧ Below base w w' :=
  (Any.slices_Sort_int Tryz.lays189 g 0 cap xs w h.holds h.lt (by omega)).mono fun e w' ⟨he, n, os, hw⟩ => by
    have := h.put (ys := xs.mergeSort fun x y => decide (x ≤ y)) (List.length_mergeSort _) hw
    exact ⟨he, this.1, this.2⟩

theorem compact_ints (g cap base : Nat) (xs : List Int) (w : World) (h : RowE (Value.int .i64) 3 w base g cap xs) (hl : xs.length ≤ 1048576) :
    Calls Tryz.prog 125 #[.slice (some ⟨g, 0, none⟩) xs.length cap] w fun e w' => e = .returned (.slice (some ⟨g, 0, none⟩) (Lib.compact xs).length cap) ∧ RowE (Value.int .i64) 3 w' base g cap (Lib.compact xs) ∧ Below base w w' :=
  (Any.slices_Compact_int Tryz.lays20 g 0 cap xs w h.holds (by omega) h.2.1).mono fun e w' ⟨he, q, hw⟩ => by
    have hle := Lib.compact_length_le xs
    have := h.put (ys := Lib.compact xs ++ List.replicate (xs.length - (Lib.compact xs).length) 0) (by simp; omega) (n := q) (os := #[]) (hw.trans (grow_empty _).symm)
    exact ⟨he, this.1.cut, this.2⟩

theorem ints_cellsC {w : World} {B g off : Nat} {xs : List Int} (h : Ints w B (some ⟨g, off, none⟩) xs) : ∀ j, j < xs.length → w.cell? ⟨g, off + j, none⟩ = some (.int .i64 (xs.getD j 0)) := by
  intro j hj
  obtain ⟨b, off', e, _, hc⟩ := h.2.2 (by omega)
  injection e with e
  injection e with e1 e2
  subst e1 e2
  exact hc j hj

theorem clone_ints (A : Option Addr) (cap : Nat) (xs : List Int) (w : World) (h : Ints w w.heap.size A xs) (hl : xs.length ≤ 1048576) :
    Calls Tryz.prog 123 #[.slice A xs.length cap] w fun e w' => ∃ v, e = .returned v ∧ OwnI w' w.heap.size v xs ∧ Below w.heap.size w w' := by
  by_cases hp : 0 < xs.length
  · obtain ⟨b, off, rfl, _, _⟩ := h.2.2 hp
    refine (Any.slices_Clone_int Tryz.lays15 b off xs.length cap xs w (Nat.le_refl _) (by omega) (ints_cellsC h)).mono ?_
    rintro e w' ⟨v, rfl, ho, _, hb⟩
    rw [List.take_length] at ho
    exact ⟨v, rfl, ho, hb⟩
  · have h0 : xs = [] := List.eq_nil_of_length_eq_zero (by omega)
    subst h0
    cases A with
    | none =>
      refine (Any.slices_Clone_int_nil Tryz.lays15 0 cap w).mono ?_
      rintro e w' ⟨rfl, rfl⟩
      exact ⟨_, rfl, OwnI.nil _ _, Below.refl _ _⟩
    | some a =>
      refine (Any.slices_Clone_int_zero Tryz.lays15 a cap w).mono ?_
      rintro e w' ⟨v, rfl, ho, _, hb⟩
      exact ⟨v, rfl, ho, hb⟩

set_option maxRecDepth 100000 in
set_option maxHeartbeats 400000 in
theorem impl_collected_any (A : Option Addr) (cap : Nat) (xs : List Int) (w : World) (hA : Ints w w.heap.size A xs) (hl : xs.length ≤ 1048576) :
    Calls Tryz.prog 80 #[.slice A xs.length cap] w fun e w' => ∃ v, e = .returned v ∧ OwnI w' w.heap.size v (collL xs) ∧ Below w.heap.size w w' := by
  have HCL := Lib.hid (clone_ints A cap xs w hA hl)
  clear hA
  by_cases hp : 0 < xs.length
  · have hsrt := fun V g c h => sort_ints g c w.heap.size xs V h hl
    have hcmp := fun V g c h => compact_ints g c w.heap.size (xs.mergeSort fun x y => decide (x ≤ y)) V h (by rw [List.length_mergeSort]; exact hl)
    have hcl := collL_len xs
    rw [List.length_mergeSort] at hcmp
    have he : Lib.compact (xs.mergeSort fun x y => decide (x ≤ y)) = collL xs := rfl
    rw [he] at hcmp
    generalize collL xs = C at hcmp hcl ⊢
    generalize (xs.mergeSort fun x y => decide (x ≤ y)) = M at hsrt hcmp
    have HS := Lib.hid hsrt
    have HC := Lib.hid hcmp
    clear hsrt hcmp he
    go_enter Tryz.func80, Tryz.ntmps80
    go_wp2_with fail
    refine HCL.out.mono ?_
    rintro e w1 ⟨v, rfl, ho, hb⟩
    obtain ⟨g, c, rfl⟩ := ho.posC hp
    have HR := Lib.hid ho.rowC
    have HB := Lib.hid hb
    clear ho hb
    go_wp2_with fail
    refine (HS.out _ g c HR.out).mono ?_
    rintro e w2 ⟨rfl, hr2, hb2⟩
    have HR2 := Lib.hid hr2
    have HB2 := Lib.hid (HB.out.trans hb2)
    clear hr2 hb2
    go_wp2_with fail
    refine (HC.out _ g c HR2.out).mono ?_
    rintro e w3 ⟨rfl, hr3, hb3⟩
    have HR3 := Lib.hid hr3
    have HB3 := Lib.hid (HB2.out.trans hb3)
    clear hr3 hb3
    go_wp2_with fail
    go_ret
    exact ⟨_, rfl, HR3.out.ownC, HB3.out⟩
  · have h0 : xs = [] := List.eq_nil_of_length_eq_zero (by omega)
    subst h0
    rw [collL_nil]
    go_enter Tryz.func80, Tryz.ntmps80
    go_wp2_with fail
    refine HCL.out.mono ?_
    rintro e w1 ⟨v, rfl, ho, hb⟩
    obtain ⟨A1, c1, rfl⟩ := ho.form
    have HO := Lib.hid ho
    have HB := Lib.hid hb
    clear ho hb
    go_wp2_with fail
    refine (Any.slices_Sort_int_none Tryz.lays189 A1 c1 _).mono ?_
    rintro e w2 ⟨rfl, rfl⟩
    go_wp2_with fail
    refine (Any.slices_Compact_int_empty Tryz.lays20 A1 c1 _).mono ?_
    rintro e w2 ⟨rfl, rfl⟩
    go_wp2_with fail
    go_ret
    exact ⟨_, rfl, HO.out, HB.out⟩

/-- The numbers taken modulo n, as far as k. -/
def modL (n : Int) (xs : List Int) (k : Nat) : List Int := (xs.take k).map (· % n)
theorem modL_succ {n : Int} {xs : List Int} {k : Nat} {x : Int} (hk : k < xs.length) (hx : xs.getD k 0 = x) : modL n xs (k + 1) = modL n xs k ++ [x % n] := by
  unfold modL
  rw [List.take_succ_eq_append_getElem hk, List.map_append, List.map_singleton]
  have : xs[k] = x := by rw [← hx, List.getD_eq_getElem?_getD, List.getElem?_eq_getElem hk]; rfl
  rw [this]
theorem modL_len (n : Int) (xs : List Int) (k : Nat) : (modL n xs k).length ≤ xs.length := by
  unfold modL
  rw [List.length_map, List.length_take]
  omega
theorem modL_mem {n x : Int} {xs : List Int} : x ∈ modL n xs xs.length ↔ ∃ y ∈ xs, y % n = x := by
  unfold modL
  rw [List.take_length, List.mem_map]
theorem modL_fit {n : Int} {xs : List Int} (hn : 1 ≤ n) (hn2 : n ≤ 1000000000) (k : Nat) : ∀ x ∈ modL n xs k, Fits x := by
  intro x hx
  unfold modL at hx
  rw [List.mem_map] at hx
  obtain ⟨y, _, rfl⟩ := hx
  have := Int.emod_nonneg y (show n ≠ 0 by omega)
  have := Int.emod_lt_of_pos y (show 0 < n by omega)
  unfold Fits
  omega

set_option maxRecDepth 100000 in
set_option maxHeartbeats 1000000 in
theorem impl_rhythmOf_any (n : Int) (A : Option Addr) (cap : Nat) (xs : List Int) (w : World) (hA : Ints w w.heap.size A xs) (hl : xs.length ≤ 1000000) (hn : 1 ≤ n) (hn2 : n ≤ 1000000000) :
    Calls Tryz.prog 126 #[.int .i64 n, .slice A xs.length cap] w (RetRh1 w n (collL (modL n xs xs.length))) := by
  have HC := Lib.hid hA.2.2
  have hco := fun (A2 : Option Addr) (c2 : Nat) (V : World) (hV : Ints V V.heap.size A2 (modL n xs xs.length)) => impl_collected_any A2 c2 (modL n xs xs.length) V hV (by have := modL_len n xs xs.length; omega)
  have hcl := collL_len (modL n xs xs.length)
  obtain ⟨R, hR⟩ : ∃ R, collL (modL n xs xs.length) = R := ⟨_, rfl⟩
  rw [hR] at hco hcl ⊢
  have HCO := Lib.hid hco
  clear hco hR
  have hml := modL_len n xs xs.length
  clear hA
  have HW := Lib.hid ((Below.refl w.heap.size w).alloc (Nat.le_refl _) (.cells #[.int .i64 0, .slice none 0 0] 26))
  have HN := Lib.hid (Cells2.new w (.int .i64 0) (.slice none 0 0) 26)
  go_enter Tryz.func126, Tryz.ntmps126
  go_wp2_with fail
  go_loopw [5, 10] (fun so i wr => ∃ k : Nat, k ≤ xs.length ∧ i = .int .i64 k ∧ OwnI wr (w.heap.size + 1) so (modL n xs k) ∧ Below (w.heap.size + 1) (w.alloc (.cells #[.int .i64 0, .slice none 0 0] 26)) wr) (fun _ i _ => xs.length - (intOf i).toNat)
  case atStart => exact ⟨0, Nat.zero_le _, rfl, OwnI.nil _ _, Below.refl _ _⟩
  case round =>
    obtain ⟨k, hk, rfl, hown, hbel⟩ := hrel
    obtain ⟨wo, rfl⟩ : ∃ wo : World, wo = wr := ⟨_, rfl⟩
    have hws : w.heap.size + 1 ≤ wo.heap.size := by have := hbel.size; simpa using this
    have HBE := Lib.hid hbel
    have HO := Lib.hid hown
    obtain ⟨A1, c1, rfl⟩ := hown.form
    have hmk := modL_len n xs k
    clear hbel hown
    by_cases hlt : k < xs.length
    · obtain ⟨b, off, rfl, hB, hc⟩ := HC.out (by omega)
      have hcell := ((HW.out.trans (HBE.out.mono (by omega))).cell (p := ⟨b, off + k, none⟩) hB).trans (hc k hlt)
      obtain ⟨x, hx⟩ : ∃ x, xs.getD k 0 = x := ⟨_, rfl⟩
      rw [hx] at hcell
      have HSU := Lib.hid (modL_succ (n := n) hlt hx)
      generalize modL n xs k = L at HO HSU hmk ⊢
      clear hc hx
      go_wp2_with (first
        | (go_at_call 129; refine (impl_remainder_any x n _ hn hn2).mono ?_; rintro e w' ⟨rfl, rfl⟩)
        | (at_builtin; refine wpList_append_int rfl (.tmp 14) (.tmp 18) rfl (w.heap.size + 1) _ L rfl (HO.out.alloc _) _ _ rfl (cell_new1 _ _ _) (by omega) (by simp; omega) ?_; intro v2 w2 hown2 hb2))
      have HO2 := Lib.hid hown2
      have HB2 := Lib.hid ((HBE.out.alloc (by omega) _).trans hb2)
      clear hown2 hb2
      go_wp2_with fail
      go_roundw
      case rel => exact ⟨k + 1, by omega, by go_num, by rw [HSU.out]; exact HO2.out, HB2.out⟩
      case measure => simp [intOf]; omega
    · have hke : k = xs.length := by omega
      subst hke
      have HI := Lib.hid (HO.out.ints (modL_fit hn hn2 _))
      generalize modL n xs xs.length = L at HO HCO HI hmk hcl hml ⊢
      go_wp2_with fail
      refine (HCO.out A1 c1 _ HI.out).mono ?_
      rintro e w2 ⟨v, rfl, ho2, hb2⟩
      obtain ⟨A2, c2, rfl⟩ := ho2.form
      have hz2 := hb2.size
      obtain ⟨f0, f1, f2, f3, f4⟩ := (HN.out.below HBE.out (by simp)).below hb2 (by omega)
      go_wp2_with fail
      refine bodyPost_ret (v := .agg #[.int .i64 n, .slice A2 R.length c2]) (by simp [results, Tryz.results126, go_sem, f0, f1]) rfl ?_
      refine ⟨A2, c2, rfl, ?_, ?_⟩
      · exact (((ho2.rw_ (by omega)).far (p := ⟨w.heap.size, 0, none⟩) (by simp; omega) _).far (p := ⟨w.heap.size, 1, none⟩) (by simp; omega) _).mono (by omega)
      · exact (((HW.out.trans (HBE.out.mono (by omega))).trans (hb2.mono (by omega))).setCell (Nat.le_refl _) _).setCell (Nat.le_refl _) _

end Go.Proofs.YthookknmeajojaaGreatDoor

namespace Go.Proofs.YthookknmeajojaaGreatDoor
open Go.RowKit
set_option linter.unusedVariables false
set_option linter.unusedSimpArgs false

def codI (N : Nat) (X : List Int) : Nat := codeN N X X.length
def aftB (N : Nat) (a b : List Int) : Bool := decide (codI N b < codI N a)
theorem codI_bit {N : Nat} {X : List Int} (h : RhOk N X) (b : Nat) (hb : b < N) : (codI N X).testBit b = hasB X ((N : Int) - 1 - b) :=
  codeN_has N X (by have := h.1; omega) h.2.2.1 b (by omega)
theorem codI_lt {N : Nat} {X : List Int} (h : RhOk N X) : codI N X < 2 ^ N := by
  have := codeN_lt N X (by have := h.1; omega) h.2.2.1 X.length (Nat.le_refl _)
  rwa [Int.toNat_natCast] at this
theorem codI_small {N : Nat} {X : List Int} (h : RhOk N X) : codI N X < 16777216 := by
  have h1 := codI_lt h
  have h2 : (2 : Nat) ^ N ≤ 2 ^ 24 := Nat.pow_le_pow_right (by omega) (by have := h.2.1; omega)
  omega
theorem codI_out {N : Nat} {X : List Int} (h : RhOk N X) (b : Nat) (hb : N ≤ b) : (codI N X).testBit b = false :=
  Nat.testBit_lt_two_pow (Nat.lt_of_lt_of_le (codI_lt h) (Nat.pow_le_pow_right (by omega) hb))
theorem lt_of_bit {x y : Nat} (i : Nat) (hx : x.testBit i = false) (hy : y.testBit i = true) (hxy : ∀ j, i < j → x.testBit j = y.testBit j) : x < y := by
  have e : x / 2 ^ i / 2 = y / 2 ^ i / 2 := by
    rw [Nat.div_div_eq_div_mul, Nat.div_div_eq_div_mul, ← Nat.pow_succ]
    refine Nat.eq_of_testBit_eq fun j => ?_
    rw [Nat.testBit_div_two_pow, Nat.testBit_div_two_pow]
    exact hxy _ (by omega)
  rw [Nat.testBit_eq_decide_div_mod_eq] at hx hy
  have h1 := of_decide_eq_false hx
  have h2 := of_decide_eq_true hy
  have h3 : y / 2 ^ i = x / 2 ^ i + 1 := by omega
  have h4 := Nat.div_mul_le_self y (2 ^ i)
  have h5 : x < (x / 2 ^ i + 1) * 2 ^ i := (Nat.div_lt_iff_lt_mul (Nat.two_pow_pos i)).1 (Nat.lt_succ_self _)
  rw [h3] at h4
  omega
theorem aft_first {N : Nat} {a b : List Int} {p : Nat} (ha : RhOk N a) (hb : RhOk N b) (hp : p < N) (hs : ∀ q : Nat, q < p → hasB a q = hasB b q) (hd : hasB a p ≠ hasB b p) : aftB N a b = hasB a p := by
  have e : (N : Int) - 1 - ((N - 1 - p : Nat) : Int) = p := by omega
  have ba := codI_bit ha (N - 1 - p) (by omega)
  have bb := codI_bit hb (N - 1 - p) (by omega)
  rw [e] at ba bb
  have hj : ∀ j, N - 1 - p < j → (codI N a).testBit j = (codI N b).testBit j := fun j hj => by
    by_cases hn : j < N
    · rw [codI_bit ha j hn, codI_bit hb j hn, show (N : Int) - 1 - j = ((N - 1 - j : Nat) : Int) by omega]
      exact hs _ (by omega)
    · rw [codI_out ha j (by omega), codI_out hb j (by omega)]
  unfold aftB
  cases h1 : hasB a p
  · have h2 : hasB b p = true := by
      cases h3 : hasB b p
      · exact absurd (h1.trans h3.symm) hd
      · rfl
    rw [h1] at ba; rw [h2] at bb
    exact decide_eq_false (Nat.not_lt_of_le (Nat.le_of_lt (lt_of_bit (N - 1 - p) ba bb hj)))
  · have h2 : hasB b p = false := by
      cases h3 : hasB b p
      · rfl
      · exact absurd (h1.trans h3.symm) hd
    rw [h1] at ba; rw [h2] at bb
    exact decide_eq_true (lt_of_bit (N - 1 - p) bb ba (fun j h => (hj j h).symm))
theorem bits_cod {N : Nat} {X : List Int} (h : RhOk N X) : bitsB N (codI N X) N = X := by
  refine asc_unique (bitsB_sorted N _ N) (rhok_asc h) fun x => ?_
  rw [bitsB_mem]
  constructor
  · rintro ⟨p, hp, hb, rfl⟩
    rw [codI_bit h (N - 1 - p) (by omega), show (N : Int) - 1 - ((N - 1 - p : Nat) : Int) = p by omega] at hb
    unfold hasB at hb
    rwa [decide_eq_true_eq] at hb
  · intro hx
    have hr := rhok_range h x hx
    obtain ⟨p, rfl⟩ := Int.eq_ofNat_of_zero_le hr.1
    refine ⟨p, by omega, ?_, rfl⟩
    rw [codI_bit h (N - 1 - p) (by omega), show (N : Int) - 1 - ((N - 1 - p : Nat) : Int) = p by omega]
    unfold hasB
    exact decide_eq_true hx
theorem cod_inj {N : Nat} {a b : List Int} (ha : RhOk N a) (hb : RhOk N b) (h : codI N a = codI N b) : a = b := by
  rw [← bits_cod ha, ← bits_cod hb, h]
theorem aft_none {N : Nat} {a b : List Int} (ha : RhOk N a) (hb : RhOk N b) (hs : ∀ q : Nat, q < N → hasB a q = hasB b q) : aftB N a b = false := by
  have e : a = b := asc_unique (rhok_asc ha) (rhok_asc hb) fun x => by
    constructor
    · intro hx
      have hr := rhok_range ha x hx
      obtain ⟨p, rfl⟩ := Int.eq_ofNat_of_zero_le hr.1
      have := hs p (by omega)
      unfold hasB at this
      rw [decide_eq_true (show (p : Int) ∈ a from hx)] at this
      exact of_decide_eq_true this.symm
    · intro hx
      have hr := rhok_range hb x hx
      obtain ⟨p, rfl⟩ := Int.eq_ofNat_of_zero_le hr.1
      have := hs p (by omega)
      unfold hasB at this
      rw [decide_eq_true (show (p : Int) ∈ b from hx)] at this
      exact of_decide_eq_true this
  unfold aftB
  rw [e]
  exact decide_eq_false (Nat.lt_irrefl _)

/-- Step m moves beat m / 2 on or back; the pulse, and the rhythm that comes of it. -/
def mvD (m : Nat) : Int := if m % 2 = 0 then 1 else -1
def mvQ (N : Nat) (bs : List Int) (m : Nat) : Int := (bs.getD (m / 2) 0 + mvD m) % N
def mvX (N : Nat) (bs : List Int) (m : Nat) : List Int := ofL (bs.set (m / 2) (mvQ N bs m)) N
def mvL (N : Nat) (bs : List Int) : Nat → List (List Int)
  | 0 => []
  | m + 1 => if hasB bs (mvQ N bs m) then mvL N bs m else mvL N bs m ++ [mvX N bs m]
def posF (N : Nat) (out : List (List Int)) (x : List Int) : Nat := (out.takeWhile fun y => aftB N y x).length
def insF (N : Nat) (out : List (List Int)) (x : List Int) : List (List Int) := if out[posF N out x]? = some x then out else out.take (posF N out x) ++ (x :: out.drop (posF N out x))
def insL (N : Nat) (bs : List Int) : Nat → List (List Int)
  | 0 => []
  | m + 1 => if hasB bs (mvQ N bs m) then insL N bs m else insF N (insL N bs m) (mvX N bs m)

theorem ofL_ok {N : Nat} (xs : List Int) (h1 : 1 ≤ N) (h2 : N ≤ 24) : RhOk N (ofL xs N) := by
  have hs := ofL_sorted xs N
  refine ⟨by omega, by omega, fun i hi => ?_, fun i hi => ?_⟩
  · obtain ⟨t, ht, _, e⟩ := ofL_mem.1 (show (ofL xs N).getD i 0 ∈ ofL xs N by
      rw [List.getD_eq_getElem?_getD, List.getElem?_eq_getElem hi]; exact List.getElem_mem hi)
    rw [e]; omega
  · have := List.pairwise_iff_getElem.1 hs i (i + 1) (by omega) hi (by omega)
    rw [List.getD_eq_getElem?_getD, List.getD_eq_getElem?_getD, List.getElem?_eq_getElem hi, List.getElem?_eq_getElem (by omega : i < _)]
    exact this

theorem posF_le (N : Nat) (out : List (List Int)) (x : List Int) : posF N out x ≤ out.length := by
  unfold posF
  exact (List.takeWhile_sublist _).length_le
theorem posF_before {N : Nat} : ∀ {out : List (List Int)} {x : List Int} {i : Nat} (h : i < out.length), i < posF N out x → aftB N out[i] x = true
  | y :: out, x, i, h, hi => by
    unfold posF at hi
    by_cases hy : aftB N y x = true
    · rw [List.takeWhile_cons_of_pos (p := fun y => aftB N y x) hy, List.length_cons] at hi
      cases i with
      | zero => exact hy
      | succ i =>
        show aftB N (out[i]'(by simpa using h)) x = true
        exact posF_before (by simpa using h) (by unfold posF; omega)
    · rw [List.takeWhile_cons_of_neg (p := fun y => aftB N y x) hy] at hi; exact absurd hi (by simp)
theorem posF_at {N : Nat} : ∀ {out : List (List Int)} {x : List Int} (h : posF N out x < out.length), aftB N out[posF N out x] x = false
  | y :: out, x, h => by
    by_cases hy : aftB N y x = true
    · have e : posF N (y :: out) x = posF N out x + 1 := by unfold posF; rw [List.takeWhile_cons_of_pos (p := fun y => aftB N y x) hy, List.length_cons]
      have h' : posF N out x < out.length := by rw [e] at h; simpa using h
      have := posF_at h'
      simp only [e, List.getElem_cons_succ]
      exact this
    · have e : posF N (y :: out) x = 0 := by unfold posF; rw [List.takeWhile_cons_of_neg (p := fun y => aftB N y x) hy]; rfl
      simp only [e, List.getElem_cons_zero]
      simpa using hy

def Desc (N : Nat) (out : List (List Int)) : Prop := out.Pairwise (fun a b => codI N b < codI N a) ∧ ∀ x ∈ out, RhOk N x
theorem insF_desc {N : Nat} {out : List (List Int)} {x : List Int} (h : Desc N out) (hx : RhOk N x) : Desc N (insF N out x) ∧ ∀ y, y ∈ insF N out x ↔ y ∈ out ∨ y = x := by
  unfold insF
  obtain ⟨k, hk⟩ : ∃ k, posF N out x = k := ⟨_, rfl⟩
  have hkl := posF_le N out x
  have hbf : ∀ i (hi : i < out.length), i < k → codI N x < codI N out[i] := fun i hi hik => by
    have := posF_before (N := N) (x := x) hi (by omega)
    unfold aftB at this
    exact of_decide_eq_true this
  rw [hk] at hkl ⊢
  by_cases he : out[k]? = some x
  · rw [if_pos he]
    refine ⟨h, fun y => ⟨.inl, fun hy => ?_⟩⟩
    rcases hy with hy | rfl
    · exact hy
    · exact List.mem_of_getElem? he
  · rw [if_neg he]
    have haf : ∀ i (hi : i < out.length), k ≤ i → codI N out[i] < codI N x := fun i hi hki => by
      have hkn : k < out.length := by omega
      have h1 : codI N out[k] ≤ codI N x := by
        subst hk
        have := posF_at (N := N) (x := x) hkn
        unfold aftB at this
        have := of_decide_eq_false this
        omega
      have h2 : codI N out[k] ≠ codI N x := fun e => he (by
        rw [List.getElem?_eq_getElem hkn, cod_inj (h.2 _ (List.getElem_mem hkn)) hx e])
      by_cases hik : i = k
      · subst hik; omega
      · have := List.pairwise_iff_getElem.1 h.1 k i hkn hi (by omega)
        omega
    have hmem : ∀ y, y ∈ out.take k ++ (x :: out.drop k) ↔ y ∈ out ∨ y = x := fun y => by
      rw [List.mem_append, List.mem_cons]
      constructor
      · rintro (h1 | rfl | h1)
        · exact .inl (List.mem_of_mem_take h1)
        · exact .inr rfl
        · exact .inl (List.mem_of_mem_drop h1)
      · rintro (h1 | rfl)
        · rw [← List.take_append_drop k out, List.mem_append] at h1
          rcases h1 with h1 | h1
          · exact .inl h1
          · exact .inr (.inr h1)
        · exact .inr (.inl rfl)
    refine ⟨⟨?_, fun y hy => ?_⟩, hmem⟩
    · rw [List.pairwise_append, List.pairwise_cons]
      refine ⟨h.1.sublist (List.take_sublist _ _), ⟨fun y hy => ?_, h.1.sublist (List.drop_sublist _ _)⟩, fun a ha b hb => ?_⟩
      · obtain ⟨i, hi, rfl⟩ := List.getElem_of_mem hy
        rw [List.getElem_drop]
        exact haf _ _ (by omega)
      · obtain ⟨i, hi, rfl⟩ := List.getElem_of_mem ha
        rw [List.length_take] at hi
        rw [List.getElem_take]
        have h1 := hbf i (by omega) (by omega)
        rw [List.mem_cons] at hb
        rcases hb with rfl | hb
        · exact h1
        · obtain ⟨j, hj, rfl⟩ := List.getElem_of_mem hb
          rw [List.getElem_drop]
          have h2 := haf (k + j) (by rw [List.length_drop] at hj; omega) (by omega)
          omega
    · rcases (hmem y).1 hy with h1 | rfl
      · exact h.2 y h1
      · exact hx
theorem insL_desc {N : Nat} (bs : List Int) (h1 : 1 ≤ N) (h2 : N ≤ 24) : ∀ m, Desc N (insL N bs m) ∧ ∀ y, y ∈ insL N bs m ↔ y ∈ mvL N bs m
  | 0 => ⟨⟨List.Pairwise.nil, fun x hx => by cases hx⟩, fun y => by simp [insL, mvL]⟩
  | m + 1 => by
    obtain ⟨ih1, ih2⟩ := insL_desc bs h1 h2 m
    unfold insL mvL
    cases hb : hasB bs (mvQ N bs m)
    · rw [if_neg (by decide), if_neg (by decide)]
      obtain ⟨a, b⟩ := insF_desc ih1 (show RhOk N (mvX N bs m) from ofL_ok _ h1 h2)
      refine ⟨a, fun y => ?_⟩
      rw [b, ih2, List.mem_append, List.mem_singleton]
    · rw [if_pos rfl, if_pos rfl]
      exact ⟨ih1, ih2⟩
/-- By insertion, or by their codes from the greatest down: the same. -/
theorem mov_eq {N : Nat} (bs : List Int) (h1 : 1 ≤ N) (h2 : N ≤ 24) (m : Nat) :
    insL N bs m = (collL ((mvL N bs m).map fun x => (codI N x : Int))).reverse.map (fun c => bitsB N c.toNat N) := by
  obtain ⟨⟨d1, d2⟩, d3⟩ := insL_desc bs h1 h2 m
  obtain ⟨c1, c2⟩ := collL_asc ((mvL N bs m).map fun x => (codI N x : Int))
  have e : ((insL N bs m).map fun x => (codI N x : Int)).reverse = collL ((mvL N bs m).map fun x => (codI N x : Int)) := by
    refine asc_unique ?_ c1 fun c => ?_
    · rw [List.pairwise_reverse, List.pairwise_map]
      exact d1.imp (fun h => by omega)
    · rw [c2, List.mem_reverse, List.mem_map, List.mem_map]
      constructor
      · rintro ⟨x, hx, rfl⟩; exact ⟨x, (d3 x).1 hx, rfl⟩
      · rintro ⟨x, hx, rfl⟩; exact ⟨x, (d3 x).2 hx, rfl⟩
  rw [← e, List.reverse_reverse, List.map_map]
  refine (List.map_id' (insL N bs m)).symm.trans (List.map_congr_left fun x hx => ?_)
  show x = bitsB N ((codI N x : Int)).toNat N
  rw [Int.toNat_natCast, bits_cod (d2 x hx)]

theorem rhok_len {N : Nat} {bs : List Int} (hok : RhOk N bs) : bs.length ≤ N := by
  have := rotL_len N bs 0
  rwa [(rotL_same hok 0).2 (fun t ht => by rw [show (t : Int) - 0 = t by omega, Int.emod_eq_of_lt (by omega) (by omega)])] at this

end Go.Proofs.YthookknmeajojaaGreatDoor

namespace Go.Proofs.YthookknmeajojaaGreatDoor
open Go.RowKit
set_option linter.unusedVariables false
set_option linter.unusedSimpArgs false

def absI (x : Int) : Int := if 0 ≤ x then x else -x
def sigN (f : Nat → Int) : Nat → Int
  | 0 => 0
  | m + 1 => sigN f m + f m
theorem sigN_congr {f g : Nat → Int} : ∀ {m : Nat}, (∀ i, i < m → f i = g i) → sigN f m = sigN g m
  | 0, _ => rfl
  | m + 1, h => by
    unfold sigN
    rw [sigN_congr (fun i hi => h i (by omega)), h m (by omega)]
theorem sigN_le {f g : Nat → Int} : ∀ {m : Nat}, (∀ i, i < m → f i ≤ g i) → sigN f m ≤ sigN g m
  | 0, _ => Int.le_refl _
  | m + 1, h => by
    unfold sigN
    have := sigN_le (f := f) (g := g) (m := m) (fun i hi => h i (by omega))
    have := h m (by omega)
    omega
theorem sigN_nonneg {f : Nat → Int} : ∀ {m : Nat}, (∀ i, i < m → 0 ≤ f i) → 0 ≤ sigN f m
  | 0, _ => Int.le_refl _
  | m + 1, h => by
    unfold sigN
    have := sigN_nonneg (f := f) (m := m) (fun i hi => h i (by omega))
    have := h m (by omega)
    omega
theorem sigN_zero {f : Nat → Int} : ∀ {m : Nat}, (∀ i, i < m → f i = 0) → sigN f m = 0
  | 0, _ => rfl
  | m + 1, h => by
    unfold sigN
    rw [sigN_zero (fun i hi => h i (by omega)), h m (by omega)]; rfl
theorem sigN_one {f g : Nat → Int} {j : Nat} : ∀ {m : Nat}, j < m → (∀ i, i < m → i ≠ j → f i = g i) → sigN f m - sigN g m = f j - g j
  | 0, h, _ => by omega
  | m + 1, h, he => by
    unfold sigN
    by_cases hj : j = m
    · subst hj
      rw [sigN_congr (fun i hi => he i (by omega) (by omega))]; omega
    · have := sigN_one (f := f) (g := g) (j := j) (m := m) (by omega) (fun i hi => he i (by omega))
      rw [he m (by omega) (by omega)]; omega
theorem sigN_shift (f : Nat → Int) : ∀ m, sigN (fun i => f (i + 1)) m = sigN f m - f 0 + f m
  | 0 => by unfold sigN; omega
  | m + 1 => by
    have := sigN_shift f m
    unfold sigN
    rw [this]; omega

/-- A list of beats, read on and on, around. -/
def extB (n : Int) (b : List Int) (t : Int) : Int := b.getD (t % (b.length : Int)).toNat 0 + t / (b.length : Int) * n
def Perd (k : Nat) (n : Int) (A : Int → Int) : Prop := ∀ t, A (t + k) = A t + n
theorem Perd.mul {k : Nat} {n : Int} {A : Int → Int} (h : Perd k n A) (t : Int) : ∀ j : Nat, A (t + j * k) = A t + j * n ∧ A (t - j * k) = A t - j * n
  | 0 => by simp
  | j + 1 => by
    obtain ⟨h1, h2⟩ := h.mul t j
    have e1 := h (t + j * k)
    have e2 := h (t - (j + 1 : Nat) * k)
    have x1 : ((j + 1 : Nat) : Int) * k = j * k + k := by rw [Int.natCast_add, Int.add_mul]; simp
    have x2 : ((j + 1 : Nat) : Int) * n = j * n + n := by rw [Int.natCast_add, Int.add_mul]; simp
    rw [x1] at e2 ⊢
    rw [x2]
    rw [show t - (j * k + k) + k = t - j * k by omega] at e2
    rw [show t + (j * k + k) = t + j * k + k by omega]
    omega
theorem Perd.muli {k : Nat} {n : Int} {A : Int → Int} (h : Perd k n A) (t j : Int) : A (t + j * k) = A t + j * n := by
  rcases Int.eq_nat_or_neg j with ⟨m, rfl | rfl⟩
  · exact (h.mul t m).1
  · have := (h.mul t m).2
    rw [Int.neg_mul, Int.neg_mul]
    exact this
theorem Perd.red {k : Nat} {n : Int} {A : Int → Int} (h : Perd k n A) (t : Int) : A t = A (t % k) + t / k * n := by
  have := h.muli (t % k) (t / k)
  rw [← this]
  congr 1
  have := Int.emod_add_mul_ediv t k
  rw [Int.mul_comm] at this
  exact this.symm
theorem Perd.ext {k : Nat} {n : Int} {A B : Int → Int} (hk : 1 ≤ k) (hA : Perd k n A) (hB : Perd k n B) (h : ∀ i : Nat, i < k → A i = B i) (t : Int) : A t = B t := by
  rw [hA.red t, hB.red t]
  have h0 := Int.emod_nonneg t (show (k : Int) ≠ 0 by omega)
  have h1 := Int.emod_lt_of_pos t (show (0 : Int) < k by omega)
  obtain ⟨i, hi⟩ := Int.eq_ofNat_of_zero_le h0
  rw [hi, h i (by omega)]
theorem extB_perd (n : Int) (b : List Int) (hk : 1 ≤ b.length) : Perd b.length n (extB n b) := by
  intro t
  unfold extB
  rw [Int.add_emod_right, Int.add_ediv_of_dvd_right (Int.dvd_refl _), Int.ediv_self (by omega), Int.add_mul]
  omega
theorem extB_at (n : Int) (b : List Int) (i : Nat) (hi : i < b.length) : extB n b i = b.getD i 0 := by
  unfold extB
  rw [Int.emod_eq_of_lt (by omega) (by omega), Int.ediv_eq_zero_of_lt (by omega) (by omega), Int.toNat_natCast]
  omega

/-- The sum of the ways from a to b, with a turn. -/
def farG (A B : Int → Int) (k : Nat) (s : Int) : Int := sigN (fun i => absI (A i - B (i + s))) k
theorem farG_shift1 {A B : Int → Int} {k : Nat} {n : Int} (hA : Perd k n A) (hB : Perd k n B) (s : Int) : farG (fun t => A (t + 1)) (fun t => B (t + 1)) k s = farG A B k s := by
  unfold farG
  have := sigN_shift (fun i => absI (A i - B (i + s))) k
  have e : absI (A k - B (k + s)) = absI (A 0 - B (0 + s)) := by
    have e1 := hA 0
    have e2 := hB (0 + s)
    rw [Int.zero_add] at e1 e2
    rw [show (k : Int) + s = s + k by omega, e1, Int.zero_add, e2]
    congr 1
    omega
  simp only [Int.natCast_zero] at this
  rw [e] at this
  rw [show sigN (fun i => absI (A (i + 1) - B (i + s + 1))) k = sigN (fun i : Nat => absI (A ((i + 1 : Nat) : Int) - B (((i + 1 : Nat) : Int) + s))) k from sigN_congr fun i _ => by
    rw [show ((i + 1 : Nat) : Int) = (i : Int) + 1 by omega, show (i : Int) + 1 + s = i + s + 1 by omega]]
  rw [this]
  omega
theorem farG_shift {A B : Int → Int} {k : Nat} {n : Int} (hA : Perd k n A) (hB : Perd k n B) (s : Int) (e : Int) : farG (fun t => A (t + e)) B k s = farG A B k (s - e) := by
  have main : ∀ (j : Nat) (A B : Int → Int), Perd k n A → Perd k n B → farG (fun t => A (t + j)) (fun t => B (t + j)) k s = farG A B k s := by
    intro j
    induction j with
    | zero => intro A B _ _; simp
    | succ j ih =>
      intro A B hA hB
      have h1 := ih (fun t => A (t + 1)) (fun t => B (t + 1)) (fun t => by
        have := hA (t + 1); rw [show t + 1 + (k : Int) = t + k + 1 by omega] at this; exact this) (fun t => by
        have := hB (t + 1); rw [show t + 1 + (k : Int) = t + k + 1 by omega] at this; exact this)
      rw [farG_shift1 hA hB] at h1
      rw [← h1]
      congr 1 <;> (funext t; rw [show t + ((j + 1 : Nat) : Int) = t + j + 1 by omega])
  have h3 : farG (fun t => A (t + e)) B k s = farG (fun t => A (t + e)) (fun t => B (t - e + e)) k s := by
    congr 1; funext t; rw [show t - e + e = t by omega]
  rw [h3]
  have h5 : ∀ (e : Int), farG (fun t => A (t + e)) (fun t => B (t - e + e)) k s = farG A (fun t => B (t - e)) k s := by
    intro e
    have h4 : Perd k n (fun t => B (t - e)) := fun t => by
      have := hB (t - e); rw [show t - e + (k : Int) = t + k - e by omega] at this; exact this
    rcases Int.eq_nat_or_neg e with ⟨m, rfl | rfl⟩
    · have := main m A (fun t => B (t - m)) hA h4
      rw [← this]
      congr 1; funext t; congr 1; omega
    · have := main m (fun t => A (t + -m)) (fun t => B t) (fun t => by
        have := hA (t + -m); rw [show t + -(m : Int) + (k : Int) = t + k + -m by omega] at this; exact this) hB
      have e1 : farG (fun t => A (t + (m : Int) + -m)) (fun t => B (t + m)) k s = farG A (fun t => B (t - -m)) k s := by
        congr 1 <;> (funext t; congr 1; omega)
      rw [← e1, this]
      congr 1; funext t; congr 1; omega
  rw [h5 e]
  unfold farG
  refine sigN_congr fun i _ => ?_
  show absI (A i - B (i + s - e)) = _
  rw [show (i : Int) + s - e = i + (s - e) by omega]

/-- The least of f at lo, lo + 1, .., lo + m. -/
def leastF (f : Int → Int) (lo : Int) : Nat → Int
  | 0 => f lo
  | m + 1 => if f (lo + (m + 1 : Nat)) < leastF f lo m then f (lo + (m + 1 : Nat)) else leastF f lo m
theorem leastF_spec (f : Int → Int) (lo : Int) : ∀ m : Nat, (∀ s, lo ≤ s → s ≤ lo + m → leastF f lo m ≤ f s) ∧ ∃ s, lo ≤ s ∧ s ≤ lo + m ∧ leastF f lo m = f s
  | 0 => ⟨fun s h1 h2 => by
      have : s = lo := by simp at h2; omega
      subst this; exact Int.le_refl _, lo, by omega, by simp, rfl⟩
  | m + 1 => by
    obtain ⟨h1, s0, h2, h3, h4⟩ := leastF_spec f lo m
    unfold leastF
    split
    · rename_i hlt
      refine ⟨fun s a b => ?_, lo + (m + 1 : Nat), by omega, by omega, rfl⟩
      by_cases e : s = lo + (m + 1 : Nat)
      · subst e; exact Int.le_refl _
      · have := h1 s a (by omega); omega
    · rename_i hlt
      refine ⟨fun s a b => ?_, s0, h2, by omega, h4⟩
      by_cases e : s = lo + (m + 1 : Nat)
      · subst e; omega
      · exact h1 s a (by omega)

/-- The number of moves from a to b (as many beats). -/
def farS (n : Int) (a b : List Int) (s : Int) : Int := farG (extB n a) (extB n b) a.length s
def farV (n : Int) (a b : List Int) : Int := leastF (farS n a b) (-(a.length : Int)) (2 * a.length)

section
variable {N : Nat} {a b : List Int}
theorem rh_at {i : Nat} (h : RhOk N a) (hi : i < a.length) : 0 ≤ a.getD i 0 ∧ a.getD i 0 < N := h.2.2.1 i hi
theorem ext_range (h : RhOk N a) (i : Nat) (hi : i < a.length) : 0 ≤ extB N a i ∧ extB N a i < N := by
  rw [extB_at N a i hi]; exact h.2.2.1 i hi
theorem ext_step (h : RhOk N a) (hk : 1 ≤ a.length) (t : Int) : extB N a t < extB N a (t + 1) := by
  have hp := extB_perd N a hk
  have h0 := Int.emod_nonneg t (show (a.length : Int) ≠ 0 by omega)
  have h1 := Int.emod_lt_of_pos t (show (0 : Int) < a.length by omega)
  obtain ⟨i, hi⟩ := Int.eq_ofNat_of_zero_le h0
  have e1 := hp.red t
  have e2 := hp.muli (t % a.length + 1) (t / a.length)
  rw [show t % (a.length : Int) + 1 + t / a.length * a.length = t + 1 by
    have := Int.emod_add_mul_ediv t a.length; rw [Int.mul_comm] at this; omega] at e2
  rw [e1, e2, hi]
  have hil : i < a.length := by omega
  have ri := ext_range h i hil
  by_cases hl : i + 1 < a.length
  · have := h.2.2.2 i hl
    have x1 := extB_at N a i hil
    have x2 := extB_at N a (i + 1) hl
    rw [Int.natCast_add] at x2
    have x3 : ((1 : Nat) : Int) = 1 := rfl
    rw [x3] at x2
    omega
  · have x2 := hp 0
    rw [show (0 : Int) + a.length = i + 1 by omega] at x2
    have r0 := ext_range h 0 (by omega)
    rw [show ((0 : Nat) : Int) = 0 from rfl] at r0
    omega
theorem ext_mono (h : RhOk N a) (hk : 1 ≤ a.length) (t : Int) : ∀ j : Nat, extB N a t + j ≤ extB N a (t + j)
  | 0 => by simp
  | j + 1 => by
    have := ext_mono h hk t j
    have := ext_step h hk (t + j)
    rw [show t + ((j + 1 : Nat) : Int) = t + j + 1 by omega]
    omega
theorem absI_nonneg (x : Int) : 0 ≤ absI x := by unfold absI; split <;> omega
theorem farS_nonneg (n : Int) (a b : List Int) (s : Int) : 0 ≤ farS n a b s := sigN_nonneg fun i _ => absI_nonneg _
theorem farS_far (ha : RhOk N a) (hb : RhOk N b) (hl : a.length = b.length) (hk : 1 ≤ a.length) (s : Int) :
    (∀ j : Nat, farS N a b a.length ≤ farS N a b (a.length + j)) ∧ ∀ j : Nat, farS N a b (-(a.length : Int)) ≤ farS N a b (-(a.length : Int) - j) := by
  have hkb : 1 ≤ b.length := by omega
  refine ⟨fun j => sigN_le fun i hi => ?_, fun j => sigN_le fun i hi => ?_⟩
  · have r := ext_range ha i hi
    have q := ext_range hb i (by omega)
    have p := extB_perd N b hkb i
    rw [← hl] at p
    have m := ext_mono hb hkb (i + a.length) j
    rw [show (i : Int) + (a.length + j) = i + a.length + j by omega]
    unfold absI
    split <;> split <;> omega
  · have r := ext_range ha i hi
    have q := ext_range hb i (by omega)
    have p := extB_perd N b hkb (i - a.length)
    rw [← hl, show (i : Int) - a.length + a.length = i by omega] at p
    have m := ext_mono hb hkb (i + (-a.length - j)) j
    rw [show (i : Int) + (-(a.length : Int) - j) + j = i - a.length by omega] at m
    rw [show (i : Int) + -(a.length : Int) = i - a.length by omega]
    unfold absI
    split <;> split <;> omega
theorem farV_le (ha : RhOk N a) (hb : RhOk N b) (hl : a.length = b.length) (s : Int) : farV N a b ≤ farS N a b s := by
  obtain ⟨h1, _⟩ := leastF_spec (farS N a b) (-(a.length : Int)) (2 * a.length)
  by_cases hk : 1 ≤ a.length
  · obtain ⟨f1, f2⟩ := farS_far ha hb hl hk s
    by_cases hs : s ≤ a.length
    · by_cases hs2 : -(a.length : Int) ≤ s
      · exact h1 s hs2 (by omega)
      · obtain ⟨j, hj⟩ := Int.eq_ofNat_of_zero_le (show 0 ≤ -(a.length : Int) - s by omega)
        have := f2 j
        rw [show -(a.length : Int) - j = s by omega] at this
        exact Int.le_trans (h1 _ (by omega) (by omega)) this
    · obtain ⟨j, hj⟩ := Int.eq_ofNat_of_zero_le (show 0 ≤ s - (a.length : Int) by omega)
      have := f1 j
      rw [show (a.length : Int) + j = s by omega] at this
      exact Int.le_trans (h1 _ (by omega) (by omega)) this
  · have h0 : a.length = 0 := by omega
    obtain ⟨_, s0, _, _, e⟩ := leastF_spec (farS N a b) (-(a.length : Int)) (2 * a.length)
    unfold farV
    rw [e]
    unfold farS farG
    rw [h0]
    exact Int.le_refl _
theorem farV_ex (n : Int) (a b : List Int) : ∃ s, farV n a b = farS n a b s := by
  obtain ⟨_, s, _, _, e⟩ := leastF_spec (farS n a b) (-(a.length : Int)) (2 * a.length)
  exact ⟨s, e⟩
theorem farV_nonneg (n : Int) (a b : List Int) : 0 ≤ farV n a b := by
  obtain ⟨s, e⟩ := farV_ex n a b
  rw [e]; exact farS_nonneg _ _ _ _
end

end Go.Proofs.YthookknmeajojaaGreatDoor

namespace Go.Proofs.YthookknmeajojaaGreatDoor
open Go.RowKit
set_option linter.unusedVariables false
set_option linter.unusedSimpArgs false

def genL (k : Nat) (f : Nat → Int) : List Int := (List.range k).map f
theorem genL_len (k : Nat) (f : Nat → Int) : (genL k f).length = k := by simp [genL]
theorem genL_at {k : Nat} {f : Nat → Int} {j : Nat} (h : j < k) : (genL k f).getD j 0 = f j := by
  unfold genL
  rw [List.getD_eq_getElem?_getD, List.getElem?_map, List.getElem?_range h]
  rfl
theorem genL_mem {k : Nat} {f : Nat → Int} {x : Int} : x ∈ genL k f ↔ ∃ j, j < k ∧ f j = x := by
  unfold genL
  rw [List.mem_map]
  constructor
  · rintro ⟨j, hj, e⟩; exact ⟨j, List.mem_range.1 hj, e⟩
  · rintro ⟨j, hj, e⟩; exact ⟨j, List.mem_range.2 hj, e⟩
theorem set_mem {a : List Int} {i : Nat} {q x : Int} (hi : i < a.length) : x ∈ a.set i q ↔ ∃ j, j < a.length ∧ (if j = i then q else a.getD j 0) = x := by
  rw [List.mem_iff_getElem?]
  constructor
  · rintro ⟨j, hj⟩
    rw [List.getElem?_set] at hj
    by_cases e : i = j
    · subst e
      rw [if_pos rfl, if_pos hi] at hj
      exact ⟨i, hi, by rw [if_pos rfl]; exact Option.some.inj hj⟩
    · rw [if_neg e] at hj
      have hl : j < a.length := by
        rcases Nat.lt_or_ge j a.length with h | h
        · exact h
        · rw [List.getElem?_eq_none h] at hj; cases hj
      exact ⟨j, hl, by rw [if_neg (fun h => e h.symm), List.getD_eq_getElem?_getD, hj]; rfl⟩
  · rintro ⟨j, hj, e⟩
    refine ⟨j, ?_⟩
    rw [List.getElem?_set]
    by_cases h : i = j
    · subst h
      rw [if_pos rfl, if_pos hi]
      rw [if_pos rfl] at e
      rw [e]
    · rw [if_neg h]
      rw [if_neg (fun x => h x.symm), List.getD_eq_getElem?_getD, List.getElem?_eq_getElem hj] at e
      rw [List.getElem?_eq_getElem hj]
      exact congrArg some e
theorem ofL_gen {N k : Nat} {f : Nat → Int} {xs : List Int} (hr : ∀ j, j < k → 0 ≤ f j ∧ f j < N) (hs : ∀ j, j + 1 < k → f j < f (j + 1)) (h1 : 1 ≤ N) (h2 : N ≤ 24) (hm : ∀ x, x ∈ xs ↔ ∃ j, j < k ∧ f j = x) : ofL xs N = genL k f := by
  have hok : RhOk N (genL k f) := ⟨by omega, by omega, fun i hi => by
    rw [genL_len] at hi; rw [genL_at hi]; exact hr i hi, fun i hi => by
    rw [genL_len] at hi; rw [genL_at hi, genL_at (by omega)]; exact hs i hi⟩
  refine asc_unique (ofL_sorted _ _) (rhok_asc hok) fun x => ?_
  rw [ofL_mem, genL_mem]
  constructor
  · rintro ⟨t, ht, hb, rfl⟩
    unfold hasB at hb
    rw [decide_eq_true_eq] at hb
    exact (hm _).1 hb
  · rintro ⟨j, hj, rfl⟩
    obtain ⟨r0, r1⟩ := hr j hj
    obtain ⟨t, ht⟩ := Int.eq_ofNat_of_zero_le r0
    refine ⟨t, by omega, ?_, ht⟩
    unfold hasB
    rw [decide_eq_true_eq, ← ht]
    exact (hm _).2 ⟨j, hj, rfl⟩

section
variable {N : Nat} {a b : List Int}
/-- The beats with one moved on, read on and on. -/
def mvA (N : Nat) (a : List Int) (i : Nat) (d t : Int) : Int := extB N a t + (if t % (a.length : Int) = i then d else 0)
theorem mvA_perd (i : Nat) (d : Int) (hk : 1 ≤ a.length) : Perd a.length N (mvA N a i d) := by
  intro t
  unfold mvA
  rw [Int.add_emod_right, extB_perd N a hk t]
  omega
theorem ext_gen {k : Nat} {f : Nat → Int} {i : Nat} {d e : Int} (ha : a.length = k) (hk : 1 ≤ k) (h : ∀ j, j < k → f j = mvA N a i d (j + e)) : ∀ t, extB N (genL k f) t = mvA N a i d (t + e) := by
  have hp := extB_perd N (genL k f) (by rw [genL_len]; exact hk)
  rw [genL_len] at hp
  have hq := mvA_perd (N := N) (a := a) i d (by omega)
  rw [ha] at hq
  refine Perd.ext hk hp (B := fun t => mvA N a i d (t + e)) (fun t => ?_) fun j hj => ?_
  · have := hq (t + e)
    rw [show t + e + (k : Int) = t + k + e by omega] at this
    exact this
  · rw [extB_at N _ j (by rw [genL_len]; exact hj), genL_at hj]
    exact h j hj
theorem mvA_at (i : Nat) (d : Int) (j : Nat) (hj : j < a.length) : mvA N a i d j = a.getD j 0 + (if j = i then d else 0) := by
  unfold mvA
  rw [extB_at N a j hj, Int.emod_eq_of_lt (by omega) (by omega)]
  congr 1
  by_cases h : j = i
  · rw [if_pos h, if_pos (by omega)]
  · rw [if_neg h, if_neg (by omega)]
theorem rh_lt (h : RhOk N a) : ∀ {i j : Nat}, i < j → j < a.length → a.getD i 0 < a.getD j 0
  | i, 0, hij, _ => by omega
  | i, j + 1, hij, hj => by
    have := h.2.2.2 j hj
    by_cases e : i = j
    · subst e; exact this
    · have := rh_lt h (i := i) (j := j) (by omega) (by omega); omega
theorem not_at {q : Int} (hq : q ∉ a) {j : Nat} (hj : j < a.length) : a.getD j 0 ≠ q := fun e => hq (by
  rw [← e, List.getD_eq_getElem?_getD, List.getElem?_eq_getElem hj]; exact List.getElem_mem hj)

theorem mv_ext (h : RhOk N a) {i : Nat} (hi : i < a.length) {d : Int} (hd : d = 1 ∨ d = -1) (hq : (a.getD i 0 + d) % N ∉ a) :
    (ofL (a.set i ((a.getD i 0 + d) % N)) N).length = a.length ∧ ∃ e, ∀ t, extB N (ofL (a.set i ((a.getD i 0 + d) % N)) N) t = mvA N a i d (t + e) := by
  have h1 : 1 ≤ N := by have := h.1; omega
  have h2 : N ≤ 24 := by have := h.2.1; omega
  have ri := h.2.2.1 i hi
  have hasc := h.2.2.2
  by_cases hw : 0 ≤ a.getD i 0 + d ∧ a.getD i 0 + d < N
  · rw [Int.emod_eq_of_lt hw.1 hw.2] at hq ⊢
    have e := ofL_gen (N := N) (k := a.length) (f := fun j => if j = i then a.getD i 0 + d else a.getD j 0) (xs := a.set i (a.getD i 0 + d)) (fun j hj => by
      show 0 ≤ (if j = i then _ else _) ∧ (if j = i then _ else _) < _
      split
      · exact hw
      · exact h.2.2.1 j hj) (fun j hj => by
      show (if j = i then _ else _) < (if j + 1 = i then _ else _)
      have := hasc j hj
      have n1 := not_at hq (j := j) (by omega)
      have n2 := not_at hq (j := j + 1) hj
      by_cases e1 : j = i
      · subst e1
        rw [if_pos rfl, if_neg (by omega)]
        rcases hd with rfl | rfl <;> omega
      · rw [if_neg e1]
        by_cases e2 : j + 1 = i
        · subst e2
          rw [if_pos rfl]
          rcases hd with rfl | rfl <;> omega
        · rw [if_neg e2]; exact this) h1 h2 (fun x => set_mem hi)
    rw [e]
    refine ⟨genL_len _ _, 0, ext_gen rfl (by omega) fun j hj => ?_⟩
    rw [show (j : Int) + 0 = j by omega, mvA_at i d j hj]
    split <;> rename_i e1
    · subst e1; rfl
    · omega
  · rcases hd with rfl | rfl
    · have hN : a.getD i 0 = N - 1 := by omega
      have hik : i + 1 = a.length := by
        rcases Nat.lt_or_ge (i + 1) a.length with h' | h'
        · have := hasc i h'; have := h.2.2.1 (i + 1) h'; omega
        · omega
      have hz : (a.getD i 0 + 1) % (N : Int) = 0 := by rw [hN, show (N : Int) - 1 + 1 = N by omega, Int.emod_self]
      rw [hz] at hq ⊢
      have e := ofL_gen (N := N) (k := a.length) (f := fun j => if j = 0 then 0 else a.getD (j - 1) 0) (xs := a.set i 0) (fun j hj => by
        show 0 ≤ (if j = 0 then _ else _) ∧ (if j = 0 then _ else _) < _
        split
        · omega
        · exact h.2.2.1 (j - 1) (by omega)) (fun j hj => by
        show (if j = 0 then _ else _) < (if j + 1 = 0 then _ else _)
        rw [if_neg (by omega : ¬ j + 1 = 0), show j + 1 - 1 = j by omega]
        have n1 := not_at hq (j := j) (by omega)
        have := (h.2.2.1 j (by omega)).1
        split
        · omega
        · have := hasc (j - 1) (by omega); rwa [show j - 1 + 1 = j by omega] at this) h1 h2 (fun x => by
        rw [set_mem hi]
        constructor
        · rintro ⟨j, hj, e⟩
          by_cases e1 : j = i
          · rw [if_pos e1] at e; exact ⟨0, by omega, by simpa using e⟩
          · rw [if_neg e1] at e
            refine ⟨j + 1, by omega, ?_⟩
            show (if j + 1 = 0 then _ else _) = _
            rw [if_neg (by omega), show j + 1 - 1 = j by omega]; exact e
        · rintro ⟨j, hj, e⟩
          by_cases e1 : j = 0
          · subst e1
            refine ⟨i, hi, ?_⟩
            rw [if_pos rfl]; simpa using e
          · refine ⟨j - 1, by omega, ?_⟩
            rw [if_neg (by omega)]
            have e' : (if j = 0 then (0 : Int) else a.getD (j - 1) 0) = x := e
            rwa [if_neg e1] at e')
      rw [e]
      refine ⟨genL_len _ _, -1, ext_gen rfl (by omega) fun j hj => ?_⟩
      by_cases e1 : j = 0
      · subst e1
        rw [if_pos rfl]
        have hp := mvA_perd (N := N) (a := a) i 1 (by omega) (((0 : Nat) : Int) + -1)
        rw [show ((0 : Nat) : Int) + -1 + (a.length : Int) = (i : Nat) by omega, mvA_at i 1 i hi, if_pos rfl, hN] at hp
        omega
      · rw [if_neg e1, show (j : Int) + -1 = ((j - 1 : Nat) : Int) by omega, mvA_at i 1 (j - 1) (by omega), if_neg (by omega)]
        omega
    · have hN : a.getD i 0 = 0 := by omega
      have hik : i = 0 := by
        rcases Nat.eq_zero_or_pos i with h' | h'
        · exact h'
        · have := rh_lt h h' hi; have := h.2.2.1 0 (by omega); omega
      subst hik
      have hz : (a.getD 0 0 + -1) % (N : Int) = N - 1 := by
        rw [hN, show (0 : Int) + -1 = -1 by omega]
        rw [← Int.add_emod_right, Int.emod_eq_of_lt (by omega) (by omega)]; omega
      rw [hz] at hq ⊢
      have e := ofL_gen (N := N) (k := a.length) (f := fun j => if j + 1 = a.length then (N : Int) - 1 else a.getD (j + 1) 0) (xs := a.set 0 ((N : Int) - 1)) (fun j hj => by
        show (0 : Int) ≤ (if j + 1 = a.length then (N : Int) - 1 else a.getD (j + 1) 0) ∧ (if j + 1 = a.length then (N : Int) - 1 else a.getD (j + 1) 0) < _
        split
        · omega
        · exact h.2.2.1 (j + 1) (by omega)) (fun j hj => by
        show (if j + 1 = a.length then (N : Int) - 1 else a.getD (j + 1) 0) < (if j + 1 + 1 = a.length then (N : Int) - 1 else a.getD (j + 1 + 1) 0)
        rw [if_neg (by omega : ¬ j + 1 = a.length)]
        have n1 := not_at hq (j := j + 1) hj
        have := (h.2.2.1 (j + 1) hj).2
        split
        · omega
        · exact hasc (j + 1) (by omega)) h1 h2 (fun x => by
        rw [set_mem hi]
        constructor
        · rintro ⟨j, hj, e⟩
          by_cases e1 : j = 0
          · rw [if_pos e1] at e
            refine ⟨a.length - 1, by omega, ?_⟩
            show (if _ then _ else _) = _
            rw [if_pos (by omega)]; exact e
          · rw [if_neg e1] at e
            refine ⟨j - 1, by omega, ?_⟩
            show (if _ then _ else _) = _
            rw [if_neg (by omega), show j - 1 + 1 = j by omega]; exact e
        · rintro ⟨j, hj, e⟩
          have e' : (if j + 1 = a.length then (N : Int) - 1 else a.getD (j + 1) 0) = x := e
          by_cases e1 : j + 1 = a.length
          · rw [if_pos e1] at e'
            exact ⟨0, hi, by rw [if_pos rfl]; exact e'⟩
          · rw [if_neg e1] at e'
            exact ⟨j + 1, by omega, by rw [if_neg (by omega)]; exact e'⟩)
      rw [e]
      refine ⟨genL_len _ _, 1, ext_gen rfl (by omega) fun j hj => ?_⟩
      by_cases e1 : j + 1 = a.length
      · rw [if_pos e1]
        have hp := mvA_perd (N := N) (a := a) 0 (-1) (by omega) ((0 : Nat) : Int)
        rw [mvA_at 0 (-1) 0 hi, if_pos rfl, hN] at hp
        rw [show (j : Int) + 1 = ((0 : Nat) : Int) + (a.length : Int) by omega, hp]
        omega
      · rw [if_neg e1, show (j : Int) + 1 = ((j + 1 : Nat) : Int) by omega, mvA_at 0 (-1) (j + 1) (by omega), if_neg (by omega)]
        omega

/-- What a move changes in a sum. -/
theorem farG_mv (i : Nat) (d : Int) (hi : i < a.length) (s : Int) :
    farG (mvA N a i d) (extB N b) a.length s - farS N a b s = absI (extB N a i + d - extB N b (i + s)) - absI (extB N a i - extB N b (i + s)) := by
  unfold farS farG
  rw [sigN_one hi (fun j hj hne => by
    show absI (mvA N a i d j - _) = _
    rw [mvA_at i d j hj, if_neg hne, extB_at N a j hj, Int.add_zero])]
  rw [mvA_at i d i hi, if_pos rfl, extB_at N a i hi]
theorem farS_mv (h : RhOk N a) (hl : a.length = b.length) {i : Nat} (hi : i < a.length) {d : Int} (hd : d = 1 ∨ d = -1) (hq : (a.getD i 0 + d) % N ∉ a) :
    ∃ e, ∀ s, farS N (ofL (a.set i ((a.getD i 0 + d) % N)) N) b s = farG (mvA N a i d) (extB N b) a.length (s - e) := by
  obtain ⟨hlen, e, he⟩ := mv_ext h hi hd hq
  refine ⟨e, fun s => ?_⟩
  have hp := mvA_perd (N := N) (a := a) i d (by omega)
  have hb := extB_perd N b (by omega)
  rw [← hl] at hb
  rw [← farG_shift hp hb s e]
  unfold farS
  rw [hlen]
  congr 1
  funext t
  exact he t
theorem mv_lip (ha : RhOk N a) (hb : RhOk N b) (hl : a.length = b.length) {i : Nat} (hi : i < a.length) {d : Int} (hd : d = 1 ∨ d = -1) (hq : (a.getD i 0 + d) % N ∉ a) :
    farV N a b - 1 ≤ farV N (ofL (a.set i ((a.getD i 0 + d) % N)) N) b := by
  obtain ⟨e, he⟩ := farS_mv ha hl hi hd hq
  obtain ⟨s, hs⟩ := farV_ex N (ofL (a.set i ((a.getD i 0 + d) % N)) N) b
  rw [hs, he s]
  have h1 := farV_le ha hb hl (s - e)
  have h2 := farG_mv (N := N) (a := a) (b := b) i d hi (s - e)
  unfold absI at h2
  rcases hd with rfl | rfl
  · split at h2 <;> split at h2 <;> omega
  · split at h2 <;> split at h2 <;> omega
theorem mv_down (ha : RhOk N a) (hb : RhOk N b) (hl : a.length = b.length) {s : Int} (hs : farV N a b = farS N a b s) {i : Nat} (hi : i < a.length) {d : Int} (hq : (a.getD i 0 + d) % N ∉ a)
    (hd : d = 1 ∧ extB N a i < extB N b (i + s) ∨ d = -1 ∧ extB N b (i + s) < extB N a i) :
    farV N (ofL (a.set i ((a.getD i 0 + d) % N)) N) b ≤ farV N a b - 1 := by
  have hd' : d = 1 ∨ d = -1 := by rcases hd with h | h; exact .inl h.1; exact .inr h.1
  obtain ⟨e, he⟩ := farS_mv ha hl hi hd' hq
  have hlen := (mv_ext ha hi hd' hq).1
  have h1 : 1 ≤ N := by have := ha.1; omega
  have h2 : N ≤ 24 := by have := ha.2.1; omega
  have h3 := farV_le (ofL_ok (a.set i ((a.getD i 0 + d) % N)) h1 h2) hb (hlen.trans hl) (s + e)
  rw [he, show s + e - e = s by omega] at h3
  have h4 := farG_mv (N := N) (a := a) (b := b) i d hi s
  unfold absI at h4
  rcases hd with ⟨rfl, hd⟩ | ⟨rfl, hd⟩
  · split at h4 <;> split at h4 <;> omega
  · split at h4 <;> split at h4 <;> omega
end

end Go.Proofs.YthookknmeajojaaGreatDoor

namespace Go.Proofs.YthookknmeajojaaGreatDoor
open Go.RowKit
set_option linter.unusedVariables false
set_option linter.unusedSimpArgs false

section
variable {N : Nat} {a b : List Int}
theorem ext_ge (h : RhOk N a) (hk : 1 ≤ a.length) {t u : Int} (htu : t ≤ u) : extB N a t + (u - t) ≤ extB N a u := by
  obtain ⟨j, hj⟩ := Int.eq_ofNat_of_zero_le (show 0 ≤ u - t by omega)
  have := ext_mono h hk t j
  rw [show t + (j : Int) = u by omega] at this
  omega
theorem ext_place (hk : 1 ≤ a.length) (t : Int) : ∃ i : Nat, i < a.length ∧ ∃ c : Int, t = i + c * a.length ∧ extB N a t = a.getD i 0 + c * N := by
  have h0 := Int.emod_nonneg t (show (a.length : Int) ≠ 0 by omega)
  have h1 := Int.emod_lt_of_pos t (show (0 : Int) < a.length by omega)
  obtain ⟨i, hi⟩ := Int.eq_ofNat_of_zero_le h0
  have hil : i < a.length := by omega
  refine ⟨i, hil, t / a.length, ?_, ?_⟩
  · have := Int.emod_add_mul_ediv t a.length
    rw [Int.mul_comm] at this; omega
  · have := (extB_perd N a hk).red t
    rw [hi, extB_at N a i hil] at this
    exact this
theorem mem_at {q : Int} (h : q ∈ a) : ∃ j, j < a.length ∧ a.getD j 0 = q := by
  obtain ⟨i, hi, rfl⟩ := List.getElem_of_mem h
  exact ⟨i, hi, by rw [List.getD_eq_getElem?_getD, List.getElem?_eq_getElem hi]; rfl⟩
theorem free_at (h : RhOk N a) (hk : 1 ≤ a.length) {t c d : Int} {i : Nat} (hi : i < a.length) (ht : t = i + c * a.length) (hd : ∀ u, extB N a u ≠ extB N a t + d) : (a.getD i 0 + d) % N ∉ a := by
  intro hm
  obtain ⟨j, hj, e⟩ := mem_at hm
  have hp := extB_perd N a hk
  have e1 := hp.muli j ((a.getD i 0 + d) / N + c)
  have e2 := hp.muli i c
  rw [← ht] at e2
  rw [extB_at N a j hj, e, Int.add_mul] at e1
  rw [extB_at N a i hi] at e2
  have e3 := Int.emod_add_mul_ediv (a.getD i 0 + d) N
  rw [Int.mul_comm] at e3
  have := Int.add_mul ((a.getD i 0 + d) / N) c N
  exact hd (j + ((a.getD i 0 + d) / ↑N + c) * a.length) (by rw [Int.add_mul]; omega)
theorem full_zero (ha : RhOk N a) (hb : RhOk N b) (hl : a.length = b.length) (hf : a.length = N) : farV N a b = 0 := by
  have full : ∀ {a : List Int}, RhOk N a → a.length = N → ∀ i : Nat, i < a.length → extB N a i = i := by
    intro a ha hf i hi
    have h1 := ext_ge (N := N) ha (by omega) (show (0 : Int) ≤ i by omega)
    have h2 := ext_ge (N := N) ha (by omega) (show (i : Int) ≤ ((a.length - 1 : Nat) : Int) by omega)
    have h3 := ext_range ha 0 (by omega)
    have h4 := ext_range ha (a.length - 1) (by omega)
    rw [show ((0 : Nat) : Int) = 0 from rfl] at h3
    omega
  have h1 := farV_le ha hb hl 0
  have h2 : farS N a b 0 = 0 := sigN_zero fun i hi => by
    have e1 := full ha hf i hi
    have e2 := full hb (by omega) i (by omega)
    rw [Int.add_zero, e1, e2]
    unfold absI
    split <;> omega
  have := farV_nonneg N a b
  omega
theorem mv_some (ha : RhOk N a) (hb : RhOk N b) (hl : a.length = b.length) (hpos : 0 < farV N a b) :
    ∃ i d, i < a.length ∧ (d = 1 ∨ d = -1) ∧ (a.getD i 0 + d) % N ∉ a ∧ farV N (ofL (a.set i ((a.getD i 0 + d) % N)) N) b ≤ farV N a b - 1 := by
  obtain ⟨s, hs⟩ := farV_ex N a b
  have hk : 1 ≤ a.length := by
    rcases Nat.eq_zero_or_pos a.length with h0 | h0
    · have : farS N a b s = 0 := by unfold farS farG; rw [h0]; rfl
      omega
    · exact h0
  have hkb : 1 ≤ b.length := by omega
  have hfull : a.length ≠ N := fun h => by have := full_zero ha hb hl h; omega
  have hpa := extB_perd N a hk
  have hpb := extB_perd N b hkb
  rw [← hl] at hpb
  have back : ∀ (t c : Int) (i : Nat), t = i + c * a.length → extB N a t = extB N a i + c * N ∧ extB N b (t + s) = extB N b (i + s) + c * N := fun t c i ht => by
    have e1 := hpa.muli i c
    have e2 := hpb.muli (i + s) c
    rw [← ht] at e1
    rw [show (i : Int) + s + c * a.length = t + s by omega] at e2
    exact ⟨e1, e2⟩
  by_cases hup : ∃ t, extB N a t < extB N b (t + s)
  · obtain ⟨t0, h0⟩ := hup
    have hex : ∃ t, extB N a t < extB N b (t + s) ∧ extB N a (t + 1) ≠ extB N a t + 1 := by
      refine Classical.byContradiction fun hno => ?_
      have hall : ∀ t, extB N a t < extB N b (t + s) → extB N a (t + 1) = extB N a t + 1 := fun t ht =>
        Classical.byContradiction fun h => hno ⟨t, ht, h⟩
      have hind : ∀ j : Nat, extB N a (t0 + j) = extB N a t0 + j ∧ extB N a (t0 + j) < extB N b (t0 + j + s) := by
        intro j
        induction j with
        | zero => simpa using h0
        | succ j ih =>
          have h1 := hall _ ih.2
          have h2 := ext_step hb hkb (t0 + j + s)
          rw [show t0 + ((j + 1 : Nat) : Int) = t0 + j + 1 by omega, show t0 + (j : Int) + 1 + s = t0 + j + s + 1 by omega]
          omega
      have := (hind a.length).1
      have := hpa t0
      omega
    obtain ⟨t, h1, h2⟩ := hex
    obtain ⟨i, hi, c, ht, _⟩ := ext_place (N := N) hk t
    have hfree := free_at ha hk hi ht (d := 1) (fun u e => by
      rcases Int.lt_or_le t u with hu | hu
      · have h3 := ext_ge (N := N) ha hk (show t + 1 ≤ u by omega)
        have h4 := ext_step ha hk t
        by_cases e2 : u = t + 1
        · subst e2; exact h2 e
        · omega
      · have h3 := ext_ge (N := N) ha hk hu
        omega)
    obtain ⟨b1, b2⟩ := back t c i ht
    exact ⟨i, 1, hi, .inl rfl, hfree, mv_down ha hb hl hs hi hfree (.inl ⟨rfl, by omega⟩)⟩
  by_cases hdn : ∃ t, extB N b (t + s) < extB N a t
  · obtain ⟨t0, h0⟩ := hdn
    have hex : ∃ t, extB N b (t + s) < extB N a t ∧ extB N a (t - 1) ≠ extB N a t - 1 := by
      refine Classical.byContradiction fun hno => ?_
      have hall : ∀ t, extB N b (t + s) < extB N a t → extB N a (t - 1) = extB N a t - 1 := fun t ht =>
        Classical.byContradiction fun h => hno ⟨t, ht, h⟩
      have hind : ∀ j : Nat, extB N a (t0 - j) = extB N a t0 - j ∧ extB N b (t0 - j + s) < extB N a (t0 - j) := by
        intro j
        induction j with
        | zero => simpa using h0
        | succ j ih =>
          have h1 := hall _ ih.2
          have h2 := ext_step hb hkb (t0 - (j + 1 : Nat) + s)
          rw [show t0 - (j : Int) - 1 = t0 - ((j + 1 : Nat) : Int) by omega] at h1
          rw [show t0 - ((j + 1 : Nat) : Int) + s + 1 = t0 - j + s by omega] at h2
          omega
      have h5 := (hind a.length).1
      have h6 := hpa (t0 - a.length)
      rw [show t0 - (a.length : Int) + a.length = t0 by omega] at h6
      omega
    obtain ⟨t, h1, h2⟩ := hex
    obtain ⟨i, hi, c, ht, _⟩ := ext_place (N := N) hk t
    have hfree := free_at ha hk hi ht (d := -1) (fun u e => by
      rcases Int.lt_or_le u t with hu | hu
      · have h3 := ext_ge (N := N) ha hk (show u ≤ t - 1 by omega)
        have h4 := ext_step ha hk (t - 1)
        rw [show t - 1 + 1 = t by omega] at h4
        by_cases e2 : u = t - 1
        · subst e2; exact h2 (by omega)
        · omega
      · have h3 := ext_ge (N := N) ha hk hu
        omega)
    obtain ⟨b1, b2⟩ := back t c i ht
    exact ⟨i, -1, hi, .inr rfl, hfree, mv_down ha hb hl hs hi hfree (.inr ⟨rfl, by omega⟩)⟩
  · exfalso
    have : farS N a b s = 0 := sigN_zero fun i hi => by
      have n1 : ¬ extB N a i < extB N b (i + s) := fun h => hup ⟨i, h⟩
      have n2 : ¬ extB N b (i + s) < extB N a i := fun h => hdn ⟨i, h⟩
      unfold absI
      split <;> omega
    omega
theorem mvL_mem {y : List Int} : ∀ {m : Nat}, y ∈ mvL N a m ↔ ∃ j, j < m ∧ hasB a (mvQ N a j) = false ∧ y = mvX N a j
  | 0 => by simp [mvL]
  | m + 1 => by
    have ih := mvL_mem (y := y) (m := m)
    unfold mvL
    cases hb : hasB a (mvQ N a m)
    · rw [if_neg (by decide), List.mem_append, List.mem_singleton, ih]
      constructor
      · rintro (⟨j, h1, h2⟩ | rfl)
        · exact ⟨j, by omega, h2⟩
        · exact ⟨m, by omega, hb, rfl⟩
      · rintro ⟨j, h1, h2, rfl⟩
        by_cases e : j = m
        · subst e; exact .inr rfl
        · exact .inl ⟨j, by omega, h2, rfl⟩
    · rw [if_pos rfl, ih]
      constructor
      · rintro ⟨j, h1, h2⟩; exact ⟨j, by omega, h2⟩
      · rintro ⟨j, h1, h2, rfl⟩
        by_cases e : j = m
        · subst e; rw [hb] at h2; cases h2
        · exact ⟨j, by omega, h2, rfl⟩
theorem mvD_cases (j : Nat) : mvD j = 1 ∨ mvD j = -1 := by unfold mvD; split <;> simp
/-- Each move: as many beats, and no nearer than by one. -/
theorem moves_each (ha : RhOk N a) (hb : RhOk N b) (hl : a.length = b.length) {y : List Int} (hy : y ∈ insL N a (2 * a.length)) : RhOk N y ∧ y.length = a.length ∧ farV N a b - 1 ≤ farV N y b := by
  have h1 : 1 ≤ N := by have := ha.1; omega
  have h2 : N ≤ 24 := by have := ha.2.1; omega
  obtain ⟨hd, hm⟩ := insL_desc a h1 h2 (2 * a.length)
  obtain ⟨j, hj, hb', rfl⟩ := mvL_mem.1 ((hm y).1 hy)
  have hq : (a.getD (j / 2) 0 + mvD j) % N ∉ a := by
    unfold hasB mvQ at hb'
    rwa [decide_eq_false_iff_not] at hb'
  exact ⟨hd.2 _ hy, (mv_ext ha (by omega) (mvD_cases j) hq).1, mv_lip ha hb hl (by omega) (mvD_cases j) hq⟩
theorem moves_some (ha : RhOk N a) (hb : RhOk N b) (hl : a.length = b.length) (hpos : 0 < farV N a b) : ∃ y ∈ insL N a (2 * a.length), farV N y b < farV N a b := by
  have h1 : 1 ≤ N := by have := ha.1; omega
  have h2 : N ≤ 24 := by have := ha.2.1; omega
  obtain ⟨i, d, hi, hd, hq, hf⟩ := mv_some ha hb hl hpos
  refine ⟨ofL (a.set i ((a.getD i 0 + d) % N)) N, ((insL_desc a h1 h2 (2 * a.length)).2 _).2 (mvL_mem.2 ?_), by omega⟩
  rcases hd with rfl | rfl
  · have e : mvQ N a (2 * i) = (a.getD i 0 + 1) % N := by
      unfold mvQ mvD
      rw [show 2 * i / 2 = i by omega, if_pos (by omega)]
    refine ⟨2 * i, by omega, ?_, ?_⟩
    · rw [e]; unfold hasB; rw [decide_eq_false_iff_not]; exact hq
    · unfold mvX; rw [e, show 2 * i / 2 = i by omega]
  · have e : mvQ N a (2 * i + 1) = (a.getD i 0 + -1) % N := by
      unfold mvQ mvD
      rw [show (2 * i + 1) / 2 = i by omega, if_neg (by omega)]
    refine ⟨2 * i + 1, by omega, ?_, ?_⟩
    · rw [e]; unfold hasB; rw [decide_eq_false_iff_not]; exact hq
    · unfold mvX; rw [e, show (2 * i + 1) / 2 = i by omega]

/-- The first move that lies nearer than 'left'. -/
def nxtP (N : Nat) (b : List Int) (left : Int) (L : List (List Int)) : Nat := L.findIdx fun x => decide (farV N x b < left)
def wayAt (N : Nat) (a b : List Int) : Nat → List Int
  | 0 => a
  | j + 1 => (insL N (wayAt N a b j) (2 * (wayAt N a b j).length)).getD (nxtP N b (farV N a b - j) (insL N (wayAt N a b j) (2 * (wayAt N a b j).length))) []
theorem nxtP_spec {left : Int} {L : List (List Int)} (h : ∃ y ∈ L, farV N y b < left) : nxtP N b left L < L.length ∧ farV N (L.getD (nxtP N b left L) []) b < left ∧ ∀ p, p < nxtP N b left L → ¬ farV N (L.getD p []) b < left := by
  have hlt : nxtP N b left L < L.length := by
    unfold nxtP
    rw [List.findIdx_lt_length]
    obtain ⟨y, hy, hf⟩ := h
    exact ⟨y, hy, decide_eq_true hf⟩
  refine ⟨hlt, ?_, fun p hp => ?_⟩
  · have := List.findIdx_getElem (w := hlt)
    rw [decide_eq_true_eq] at this
    rwa [List.getD_eq_getElem?_getD, List.getElem?_eq_getElem hlt]
  · have := List.not_of_lt_findIdx hp
    rw [List.getD_eq_getElem?_getD, List.getElem?_eq_getElem (by omega : p < L.length)]
    simpa using this
theorem wayAt_ok (ha : RhOk N a) (hb : RhOk N b) (hl : a.length = b.length) : ∀ j : Nat, (j : Int) ≤ farV N a b → RhOk N (wayAt N a b j) ∧ (wayAt N a b j).length = a.length ∧ farV N (wayAt N a b j) b = farV N a b - j
  | 0, _ => ⟨ha, rfl, by show farV N a b = _; omega⟩
  | j + 1, h => by
    obtain ⟨i1, i2, i3⟩ := wayAt_ok ha hb hl j (by omega)
    have hs := moves_some i1 hb (i2.trans hl) (by omega)
    rw [i3] at hs
    obtain ⟨s1, s2, _⟩ := nxtP_spec hs
    have hm : wayAt N a b (j + 1) ∈ insL N (wayAt N a b j) (2 * (wayAt N a b j).length) := by
      show List.getD _ _ _ ∈ _
      rw [List.getD_eq_getElem?_getD, List.getElem?_eq_getElem s1]
      exact List.getElem_mem s1
    obtain ⟨e1, e2, e3⟩ := moves_each i1 hb (i2.trans hl) hm
    have s2' : farV N (wayAt N a b (j + 1)) b < farV N a b - j := s2
    exact ⟨e1, e2.trans i2, by omega⟩
theorem sigN_bnd {f : Nat → Int} {B : Int} : ∀ {m : Nat}, (∀ i, i < m → f i ≤ B) → sigN f m ≤ m * B
  | 0, _ => by simp [sigN]
  | m + 1, h => by
    have h1 := sigN_bnd (f := f) (B := B) (m := m) (fun i hi => h i (by omega))
    have h2 := h m (by omega)
    unfold sigN
    rw [Int.natCast_add, Int.add_mul]
    simp only [Int.natCast_one, Int.one_mul]
    omega
theorem farV_small (ha : RhOk N a) (hb : RhOk N b) (hl : a.length = b.length) : farV N a b ≤ 576 := by
  have h1 := farV_le ha hb hl 0
  have h2 : farS N a b 0 ≤ a.length * 24 := sigN_bnd fun i hi => by
    have r := ext_range ha i hi
    have q := ext_range hb i (by omega)
    have := ha.2.1
    rw [Int.add_zero]
    unfold absI
    split <;> omega
  have h3 := rhok_len ha
  have := ha.2.1
  omega
end

/-- The ways, as far as they are laid. -/
def wayP (N : Nat) (a b : List Int) (q : Nat) : List (Int × List Int) := (List.range q).map fun j => ((N : Int), wayAt N a b j)
theorem wayP_succ (N : Nat) (a b : List Int) (q : Nat) : wayP N a b (q + 1) = wayP N a b q ++ [((N : Int), wayAt N a b q)] := by simp [wayP, List.range_succ]
theorem wayP_len (N : Nat) (a b : List Int) (q : Nat) : (wayP N a b q).length = q := by simp [wayP]
noncomputable def movedB (n m : Int) (a b : List Int) : Bool := rhB n a && rhB m b && decide (n = m) && decide (a.length = b.length)
noncomputable def wayV (n m : Int) (a b : List Int) : List (Int × List Int) := if movedB n m a b = true then wayP n.toNat a b ((farV n a b).toNat + 1) else []

end Go.Proofs.YthookknmeajojaaGreatDoor

namespace Go.Proofs.YthookknmeajojaaGreatDoor
open Go.RowKit
set_option linter.unusedVariables false
set_option linter.unusedSimpArgs false

def comN (a b : List Int) : Nat → Nat
  | 0 => 0
  | i + 1 => comN a b i + (if hasB b (a.getD i 0) = true then 1 else 0)
theorem comN_le (a b : List Int) : ∀ i, comN a b i ≤ i
  | 0 => Nat.le_refl _
  | i + 1 => by
    have := comN_le a b i
    unfold comN
    split <;> omega

end Go.Proofs.YthookknmeajojaaGreatDoor

namespace Go.Proofs.YthookknmeajojaaGreatDoor
open Go.RowKit
set_option linter.unusedVariables false
set_option linter.unusedSimpArgs false

theorem absI_neg (x : Int) : absI (-x) = absI x := by unfold absI; split <;> split <;> omega
theorem absI_tri (x y : Int) : absI (x + y) ≤ absI x + absI y := by unfold absI; split <;> split <;> split <;> omega
theorem absI_zero {x : Int} (h : absI x = 0) : x = 0 := by unfold absI at h; split at h <;> omega
theorem sigN_add (f g : Nat → Int) : ∀ m, sigN (fun i => f i + g i) m = sigN f m + sigN g m
  | 0 => rfl
  | m + 1 => by unfold sigN; rw [sigN_add f g m]; omega
theorem sigN_all0 {f : Nat → Int} : ∀ {m : Nat}, (∀ i, i < m → 0 ≤ f i) → sigN f m = 0 → ∀ i, i < m → f i = 0
  | 0, _, _, i, h => by omega
  | m + 1, h0, h, i, hi => by
    unfold sigN at h
    have h1 := sigN_nonneg (f := f) (m := m) (fun i hi => h0 i (by omega))
    have h2 := h0 m (by omega)
    by_cases e : i = m
    · subst e; omega
    · exact sigN_all0 (m := m) (fun i hi => h0 i (by omega)) (by omega) i (by omega)

section
variable {N : Nat} {a b c : List Int}
theorem farS_sym (hl : a.length = b.length) (s : Int) : farS N b a (-s) = farS N a b s := by
  by_cases hk : 1 ≤ a.length
  · have hA := extB_perd N a hk
    have hB := extB_perd N b (by omega)
    rw [← hl] at hB
    have := farG_shift hA hB 0 (-s)
    rw [show (0 : Int) - -s = s by omega] at this
    unfold farS
    rw [← hl, ← this]
    unfold farG
    refine sigN_congr fun i _ => ?_
    show absI (extB N b i - extB N a (i + -s)) = absI (extB N a (i + -s) - extB N b (i + 0))
    rw [← absI_neg, show (i : Int) + 0 = i by omega]
    congr 1
    omega
  · unfold farS farG
    rw [← hl, show a.length = 0 by omega]; rfl
theorem farV_sym_le (ha : RhOk N a) (hb : RhOk N b) (hl : a.length = b.length) : farV N a b ≤ farV N b a := by
  obtain ⟨s, hs⟩ := farV_ex N b a
  have h1 := farV_le ha hb hl (-s)
  rw [farS_sym hl.symm] at h1
  omega
theorem farV_sym (ha : RhOk N a) (hb : RhOk N b) (hl : a.length = b.length) : farV N a b = farV N b a :=
  Int.le_antisymm (farV_sym_le ha hb hl) (farV_sym_le hb ha hl.symm)
theorem farV_tri (ha : RhOk N a) (hb : RhOk N b) (hc : RhOk N c) (h1 : a.length = b.length) (h2 : b.length = c.length) : farV N a c ≤ farV N a b + farV N b c := by
  obtain ⟨s, hs⟩ := farV_ex N a b
  obtain ⟨t, ht⟩ := farV_ex N b c
  refine Int.le_trans (farV_le ha hc (h1.trans h2) (s + t)) ?_
  rw [hs, ht]
  by_cases hk : 1 ≤ a.length
  · have hB := extB_perd N b (by omega)
    rw [← h1] at hB
    have hC := extB_perd N c (by omega)
    rw [← h2, ← h1] at hC
    have e := farG_shift hB hC (s + t) s
    rw [show s + t - s = t by omega] at e
    unfold farS
    rw [← h1, ← e]
    unfold farG
    rw [← sigN_add]
    refine sigN_le fun i _ => ?_
    show absI (extB N a i - extB N c (i + (s + t))) ≤ absI (extB N a i - extB N b (i + s)) + absI (extB N b (i + s) - extB N c (i + (s + t)))
    have := absI_tri (extB N a i - extB N b (i + s)) (extB N b (i + s) - extB N c (i + (s + t)))
    rwa [show extB N a i - extB N b (i + s) + (extB N b (i + s) - extB N c (i + (s + t))) = extB N a i - extB N c (i + (s + t)) by omega] at this
  · unfold farS farG
    rw [← h1, show a.length = 0 by omega]; exact Int.le_refl _
theorem farV_self (ha : RhOk N a) : farV N a a = 0 := by
  have h1 := farV_le ha ha rfl 0
  have h2 := farV_nonneg N a a
  have h3 : farS N a a 0 = 0 := sigN_zero fun i _ => by
    show absI (extB N a i - extB N a (i + 0)) = 0
    rw [show (i : Int) + 0 = i by omega, Int.sub_self]; rfl
  omega
theorem farV_zero (ha : RhOk N a) (hb : RhOk N b) (hl : a.length = b.length) (h : farV N a b = 0) : a = b := by
  by_cases hk : 1 ≤ a.length
  · obtain ⟨s, hs⟩ := farV_ex N a b
    rw [h] at hs
    have h0 := sigN_all0 (f := fun i => absI (extB N a i - extB N b (i + s))) (fun i _ => absI_nonneg _) hs.symm
    have hE : ∀ i : Nat, i < a.length → extB N a i = extB N b (i + s) := fun i hi => by
      have := absI_zero (h0 i hi); omega
    have hkb : 1 ≤ b.length := by omega
    have e0 := hE 0 (by omega)
    have el := hE (a.length - 1) (by omega)
    have r0 := ext_range ha 0 (by omega)
    have rl := ext_range ha (a.length - 1) (by omega)
    have p0 := extB_perd N b hkb 0
    have pl := extB_perd N b hkb (-1)
    have q0 := ext_range hb 0 (by omega)
    have ql := ext_range hb (b.length - 1) (by omega)
    rw [show (-1 : Int) + b.length = ((b.length - 1 : Nat) : Int) by omega] at pl
    rw [show (0 : Int) + b.length = ((b.length : Nat) : Int) by omega] at p0
    have c0 : ((0 : Nat) : Int) = 0 := rfl
    rw [c0] at e0 r0 q0
    rw [Int.zero_add] at e0
    have hs0 : 0 ≤ s := by
      apply Classical.byContradiction
      intro hn
      have := ext_ge hb hkb (show s ≤ -1 by omega)
      omega
    have hs1 : s ≤ 0 := by
      apply Classical.byContradiction
      intro hn
      have := ext_ge hb hkb (show (b.length : Int) ≤ ((a.length - 1 : Nat) : Int) + s by omega)
      omega
    have hse : s = 0 := by omega
    subst hse
    refine List.ext_getElem hl fun i h1 h2 => ?_
    have := hE i h1
    rw [show (i : Int) + 0 = i by omega, extB_at N a i h1, extB_at N b i h2, List.getD_eq_getElem?_getD, List.getD_eq_getElem?_getD, List.getElem?_eq_getElem h1, List.getElem?_eq_getElem h2] at this
    exact this
  · have e1 : a = [] := List.eq_nil_of_length_eq_zero (by omega)
    have e2 : b = [] := List.eq_nil_of_length_eq_zero (by omega)
    rw [e1, e2]

/-- A move, by its beat and its way. -/
theorem mv_get (ha : RhOk N a) {y : List Int} (hy : y ∈ insL N a (2 * a.length)) : ∃ i d, i < a.length ∧ (d = 1 ∨ d = -1) ∧ (a.getD i 0 + d) % N ∉ a ∧ y = ofL (a.set i ((a.getD i 0 + d) % N)) N := by
  have h1 : 1 ≤ N := by have := ha.1; omega
  have h2 : N ≤ 24 := by have := ha.2.1; omega
  obtain ⟨j, hj, hh, e⟩ := mvL_mem.1 (((insL_desc a h1 h2 (2 * a.length)).2 y).1 hy)
  refine ⟨j / 2, mvD j, by omega, mvD_cases j, ?_, e⟩
  unfold hasB at hh
  exact of_decide_eq_false hh
theorem mv_mem (ha : RhOk N a) {i : Nat} {d : Int} (hi : i < a.length) (hd : d = 1 ∨ d = -1) (hq : (a.getD i 0 + d) % N ∉ a) : ofL (a.set i ((a.getD i 0 + d) % N)) N ∈ insL N a (2 * a.length) := by
  have h1 : 1 ≤ N := by have := ha.1; omega
  have h2 : N ≤ 24 := by have := ha.2.1; omega
  rw [(insL_desc a h1 h2 (2 * a.length)).2, mvL_mem]
  have key : ∀ j, j / 2 = i → mvD j = d → j < 2 * a.length → ∃ j, j < 2 * a.length ∧ hasB a (mvQ N a j) = false ∧ ofL (a.set i ((a.getD i 0 + d) % N)) N = mvX N a j := fun j e1 e2 e3 => by
    refine ⟨j, e3, ?_, ?_⟩
    · unfold hasB mvQ
      rw [e1, e2]; exact decide_eq_false hq
    · unfold mvX mvQ
      rw [e1, e2]
  rcases hd with rfl | rfl
  · exact key (2 * i) (by omega) (by unfold mvD; rw [if_pos (by omega)]) (by omega)
  · exact key (2 * i + 1) (by omega) (by unfold mvD; rw [if_neg (by omega)]) (by omega)
theorem rh_inj (h : RhOk N a) {i j : Nat} (hi : i < a.length) (hj : j < a.length) (e : a.getD i 0 = a.getD j 0) : i = j := by
  rcases Nat.lt_trichotomy i j with h1 | h1 | h1
  · have := rh_lt h h1 hj; omega
  · exact h1
  · have := rh_lt h h1 hi; omega
theorem set_asc (ha : RhOk N a) {i : Nat} {v x : Int} (hi : i < a.length) : x ∈ a.set i v ↔ x = v ∨ (x ∈ a ∧ x ≠ a.getD i 0) := by
  rw [set_mem hi]
  constructor
  · rintro ⟨j, hj, e⟩
    by_cases h : j = i
    · rw [if_pos h] at e; exact .inl e.symm
    · rw [if_neg h] at e
      refine .inr ⟨?_, fun e2 => h (rh_inj ha hj hi (e.trans e2))⟩
      rw [← e, List.getD_eq_getElem?_getD, List.getElem?_eq_getElem hj]; exact List.getElem_mem hj
  · rintro (rfl | ⟨h1, h2⟩)
    · exact ⟨i, hi, by rw [if_pos rfl]⟩
    · obtain ⟨j, hj, e⟩ := mem_at h1
      exact ⟨j, hj, by rw [if_neg (fun h => h2 (by rw [← e, h]))]; exact e⟩
theorem ofL_in {xs : List Int} {x : Int} (h0 : 0 ≤ x) (h1 : x < N) : x ∈ ofL xs N ↔ x ∈ xs := by
  rw [ofL_mem]
  constructor
  · rintro ⟨t, _, hb, rfl⟩
    unfold hasB at hb
    rwa [decide_eq_true_eq] at hb
  · intro h
    obtain ⟨t, ht⟩ := Int.eq_ofNat_of_zero_le h0
    exact ⟨t, by omega, by unfold hasB; rw [decide_eq_true_eq, ← ht]; exact h, ht⟩
theorem mv_in (ha : RhOk N a) {i : Nat} {q x : Int} (hi : i < a.length) (h0 : 0 ≤ q) (h1 : q < N) : x ∈ ofL (a.set i q) N ↔ x = q ∨ (x ∈ a ∧ x ≠ a.getD i 0) := by
  rw [← set_asc ha hi]
  constructor
  · intro h
    obtain ⟨t, ht, _, e⟩ := ofL_mem.1 h
    exact (ofL_in (N := N) (by omega) (by omega)).1 h
  · intro h
    have hr : 0 ≤ x ∧ x < N := by
      rcases (set_asc ha hi).1 h with rfl | ⟨h2, _⟩
      · exact ⟨h0, h1⟩
      · exact rhok_range ha x h2
    exact (ofL_in hr.1 hr.2).2 h

theorem mv_props (ha : RhOk N a) {y : List Int} (hy : y ∈ insL N a (2 * a.length)) :
    RhOk N y ∧ y.length = a.length ∧ farV N a y = 1 ∧ comN a y a.length = a.length - 1 ∧ a ∈ insL N y (2 * y.length) := by
  have h1 : 1 ≤ N := by have := ha.1; omega
  have h2 : N ≤ 24 := by have := ha.2.1; omega
  have hok := (moves_each ha ha rfl hy).1
  have hyl := (moves_each ha ha rfl hy).2.1
  have hle := (moves_each ha hok hyl.symm hy).2.2
  rw [farV_self hok] at hle
  obtain ⟨i, d, hi, hd, hq, e⟩ := mv_get ha hy
  obtain ⟨q, hqe⟩ : ∃ q, (a.getD i 0 + d) % (N : Int) = q := ⟨_, rfl⟩
  have hq0 : 0 ≤ q ∧ q < N := by rw [← hqe]; exact ⟨Int.emod_nonneg _ (by omega), Int.emod_lt_of_pos _ (by omega)⟩
  rw [hqe] at hq e
  have hin : ∀ x, x ∈ y ↔ x = q ∨ (x ∈ a ∧ x ≠ a.getD i 0) := fun x => by rw [e]; exact mv_in ha hi hq0.1 hq0.2
  have hai : a.getD i 0 ∈ a := by rw [List.getD_eq_getElem?_getD, List.getElem?_eq_getElem hi]; exact List.getElem_mem hi
  have hne : a ≠ y := fun h => hq (by rw [h, hin]; exact .inl rfl)
  refine ⟨hok, hyl, ?_, ?_, ?_⟩
  · have := farV_nonneg N a y
    have : farV N a y ≠ 0 := fun h => hne (farV_zero ha hok hyl.symm h)
    omega
  · have key : ∀ m, m ≤ a.length → comN a y m = m - (if i < m then 1 else 0) := by
      intro m
      induction m with
      | zero => intro _; rfl
      | succ m ih =>
        intro hm
        have ih := ih (by omega)
        unfold comN
        rw [ih]
        have hmm : a.getD m 0 ∈ a := by rw [List.getD_eq_getElem?_getD, List.getElem?_eq_getElem (by omega)]; exact List.getElem_mem _
        by_cases hmi : m = i
        · subst hmi
          have : ¬ hasB y (a.getD m 0) = true := by
            unfold hasB
            rw [decide_eq_true_eq, hin]
            rintro (h | ⟨_, h⟩)
            · exact hq (h ▸ hmm)
            · exact h rfl
          rw [if_neg this, if_neg (by omega), if_pos (by omega)]; omega
        · have : hasB y (a.getD m 0) = true := by
            unfold hasB
            rw [decide_eq_true_eq, hin]
            exact .inr ⟨hmm, fun h => hmi (rh_inj ha (by omega) hi h)⟩
          rw [if_pos this]
          by_cases him : i < m
          · rw [if_pos him, if_pos (by omega)]; omega
          · rw [if_neg him, if_neg (by omega)]; omega
    rw [key _ (Nat.le_refl _), if_pos hi]
  · obtain ⟨j, hj, ej⟩ := mem_at ((hin q).2 (.inl rfl))
    have hback : (y.getD j 0 + -d) % (N : Int) = a.getD i 0 := by
      have ri := ha.2.2.1 i hi
      rw [ej, ← hqe, Int.emod_add_emod, show a.getD i 0 + d + -d = a.getD i 0 by omega]
      exact Int.emod_eq_of_lt ri.1 ri.2
    have hna : (y.getD j 0 + -d) % (N : Int) ∉ y := by
      rw [hback, hin]
      rintro (h | ⟨_, h⟩)
      · exact hq (h ▸ hai)
      · exact h rfl
    have hm := mv_mem hok (d := -d) hj (by rcases hd with rfl | rfl <;> simp) hna
    rw [hback] at hm
    have hr := rhok_range ha _ hai
    have : ofL (y.set j (a.getD i 0)) N = a := by
      refine asc_unique (ofL_sorted _ _) (rhok_asc ha) fun x => ?_
      rw [mv_in hok hj hr.1 hr.2, ej, hin]
      constructor
      · rintro (rfl | ⟨h3 | ⟨h3, _⟩, h4⟩)
        · exact hai
        · exact absurd h3 h4
        · exact h3
      · intro hx
        by_cases h3 : x = a.getD i 0
        · exact .inl h3
        · exact .inr ⟨.inr ⟨hx, h3⟩, fun h => hq (h ▸ hx)⟩
    rwa [this] at hm

theorem way_step (ha : RhOk N a) (hb : RhOk N b) (hl : a.length = b.length) (j : Nat) (hj : ((j : Int) + 1) ≤ farV N a b) : wayAt N a b (j + 1) ∈ insL N (wayAt N a b j) (2 * (wayAt N a b j).length) := by
  obtain ⟨o1, o2, o3⟩ := wayAt_ok ha hb hl j (by omega)
  obtain ⟨p1, _, _⟩ := nxtP_spec (moves_some o1 hb (o2.trans hl) (by omega))
  show List.getD _ _ _ ∈ _
  rw [o3] at p1
  rw [List.getD_eq_getElem?_getD, List.getElem?_eq_getElem p1]
  exact List.getElem_mem p1
theorem way_from (ha : RhOk N a) (hb : RhOk N b) (hl : a.length = b.length) : ∀ j : Nat, (j : Int) ≤ farV N a b → farV N a (wayAt N a b j) = j := by
  have up : ∀ j : Nat, (j : Int) ≤ farV N a b → farV N a (wayAt N a b j) ≤ j := by
    intro j
    induction j with
    | zero =>
      intro _
      show farV N a a ≤ _
      rw [farV_self ha]; exact Int.le_refl _
    | succ j ih =>
      intro hj
      have ih := ih (by omega)
      obtain ⟨o1, o2, _⟩ := wayAt_ok ha hb hl j (by omega)
      obtain ⟨p1, p2, p3, _, _⟩ := mv_props o1 (way_step ha hb hl j (by omega))
      have := farV_tri ha o1 p1 o2.symm p2.symm
      omega
  intro j hj
  obtain ⟨o1, o2, o3⟩ := wayAt_ok ha hb hl j hj
  have := farV_tri ha o1 hb o2.symm (o2.trans hl)
  have := up j hj
  omega
end

end Go.Proofs.YthookknmeajojaaGreatDoor

namespace Go.Proofs.YthookknmeajojaaGreatDoor
open Go.RowKit
set_option linter.unusedVariables false
set_option linter.unusedSimpArgs false

def evL (k n m q : Nat) : List Int := (List.range q).map fun i => (((i * n + m) / k : Nat) : Int)
theorem evL_succ (k n m q : Nat) : evL k n m (q + 1) = evL k n m q ++ [(((q * n + m) / k : Nat) : Int)] := by simp [evL, List.range_succ]
theorem evL_len (k n m q : Nat) : (evL k n m q).length = q := by simp [evL]
theorem evL_gen (k n m q : Nat) : evL k n m q = genL q fun i => (((i * n + m) / k : Nat) : Int) := rfl
def evB (n k : Nat) : List Int := evL k n 0 k
theorem evB_len (n k : Nat) : (evB n k).length = k := evL_len _ _ _ _
theorem evB_ok {n k : Nat} (h1 : 1 ≤ n) (h2 : n ≤ 24) (hk : k ≤ n) : RhOk n (evB n k) := by
  unfold evB
  rw [evL_gen]
  refine ⟨by omega, by omega, fun i hi => ?_, fun i hi => ?_⟩
  · rw [genL_len] at hi
    rw [genL_at hi]
    have : (i * n + 0) / k < n := Nat.div_lt_of_lt_mul (by
      have := Nat.mul_lt_mul_of_pos_right (show i < k from hi) (show 0 < n by omega)
      omega)
    exact ⟨Int.natCast_nonneg _, Int.ofNat_lt.2 this⟩
  · rw [genL_len] at hi
    rw [genL_at hi, genL_at (by omega)]
    have h3 : (i * n + 0 + k) / k = (i * n + 0) / k + 1 := Nat.add_div_right _ (by omega)
    have h4 : (i * n + 0 + k) / k ≤ ((i + 1) * n + 0) / k := Nat.div_le_div_right (by rw [Nat.add_mul]; omega)
    have : (i * n + 0) / k < ((i + 1) * n + 0) / k := by omega
    exact Int.ofNat_lt.2 this
theorem ofL_rh {N : Nat} {a : List Int} (h : RhOk N a) : ofL a N = a := by
  refine asc_unique (ofL_sorted _ _) (rhok_asc h) fun x => ?_
  rw [ofL_mem]
  constructor
  · rintro ⟨t, ht, hb, rfl⟩
    unfold hasB at hb
    rwa [decide_eq_true_eq] at hb
  · intro hx
    have := rhok_range h x hx
    obtain ⟨t, ht⟩ := Int.eq_ofNat_of_zero_le this.1
    exact ⟨t, by omega, by unfold hasB; rw [decide_eq_true_eq, ← ht]; exact hx, ht⟩

/-- The first of the least of f at 0, .., m - 1. -/
def bestK (f : Nat → Int) : Nat → Nat
  | 0 => 0
  | m + 1 => if f m < f (bestK f m) then m else bestK f m
theorem bestK_one (f : Nat → Int) : bestK f 1 = 0 := by unfold bestK; show (if f 0 < f 0 then 0 else 0) = 0; split <;> rfl
theorem bestK_lt (f : Nat → Int) : ∀ m, 1 ≤ m → bestK f m < m
  | 0, h => by omega
  | 1, _ => by rw [bestK_one]; omega
  | m + 2, _ => by
    have := bestK_lt f (m + 1) (by omega)
    unfold bestK
    split <;> omega
theorem bestK_le (f : Nat → Int) : ∀ m i, i < m → f (bestK f m) ≤ f i
  | 0, i, h => by omega
  | m + 1, i, h => by
    have ih := bestK_le f m
    unfold bestK
    by_cases e : i = m
    · subst e; split <;> omega
    · have := ih i (by omega)
      split <;> omega

theorem asc_nodup {l : List Int} (h : l.Pairwise (fun a b => a < b)) : l.Nodup := List.Pairwise.imp (fun {a b} hab e => by omega) h
theorem ofL_length {N : Nat} {xs : List Int} (hn : xs.Nodup) (hr : ∀ x ∈ xs, 0 ≤ x ∧ x < N) : (ofL xs N).length = xs.length := by
  refine List.Perm.length_eq ((List.perm_ext_iff_of_nodup (asc_nodup (ofL_sorted xs N)) hn).2 fun x => ?_)
  rw [ofL_mem]
  constructor
  · rintro ⟨t, _, hb, rfl⟩
    unfold hasB at hb
    rwa [decide_eq_true_eq] at hb
  · intro hx
    have := hr x hx
    obtain ⟨t, ht⟩ := Int.eq_ofNat_of_zero_le this.1
    exact ⟨t, by omega, by unfold hasB; rw [decide_eq_true_eq, ← ht]; exact hx, ht⟩
theorem rotL_ok {N : Nat} {bs : List Int} (h : RhOk N bs) (k : Int) : RhOk N (rotL N bs k) ∧ (rotL N bs k).length = bs.length := by
  have h1 : 1 ≤ N := by have := h.1; omega
  have h2 : N ≤ 24 := by have := h.2.1; omega
  rw [← rotL_of h k]
  refine ⟨ofL_ok _ h1 h2, ?_⟩
  have hl : (mapL 1 k N bs bs.length).length = bs.length := by unfold mapL; rw [List.length_map, List.take_length]
  refine (ofL_length ?_ fun x hx => ?_).trans hl
  · unfold mapL
    rw [List.take_length]
    refine List.pairwise_map.2 (List.Pairwise.imp_of_mem (fun {a b} ha hb hab e => ?_) (rhok_asc h))
    have ra := rhok_range h a ha
    have rb := rhok_range h b hb
    have e2 : (1 * a + k - (1 * b + k)) % (N : Int) = 0 := Int.emod_emod_of_dvd _ (Int.dvd_refl _) ▸ (Int.emod_eq_emod_iff_emod_sub_eq_zero.1 e)
    rw [show 1 * a + k - (1 * b + k) = a - b by omega] at e2
    have e3 := Int.emod_add_mul_ediv (a - b) N
    rw [e2] at e3
    have hq : (a - b) / (N : Int) = 0 ∨ (a - b) / (N : Int) ≤ -1 ∨ 1 ≤ (a - b) / (N : Int) := by omega
    rcases hq with hq | hq | hq
    · rw [hq] at e3; omega
    · have := Int.mul_le_mul_of_nonneg_left hq (show (0 : Int) ≤ N by omega); omega
    · have := Int.mul_le_mul_of_nonneg_left hq (show (0 : Int) ≤ N by omega); omega
  · unfold mapL at hx
    rw [List.mem_map] at hx
    obtain ⟨y, _, rfl⟩ := hx
    exact ⟨Int.emod_nonneg _ (by omega), Int.emod_lt_of_pos _ (by omega)⟩

/-- The nearest even rhythm by moves; the number of moves. -/
def fewK (N : Nat) (a : List Int) : Nat := bestK (fun k => farV N a (rotL N (evB N a.length) (k : Int))) N
def fewX (N : Nat) (a : List Int) : List Int := rotL N (evB N a.length) (fewK N a : Int)

end Go.Proofs.YthookknmeajojaaGreatDoor

