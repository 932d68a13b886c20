/-
  The windows of the program: sorted, each once, from last to first.
-/
import Derived.Test.YthookknmeajojaaGreatDoorWdw
import Derived.Test.YthookknmeajojaaGreatDoorWinSrt
import Derived.Test.YthookknmeajojaaGreatDoorL28
import Derived.Test.YthookknmeajojaaGreatDoorEaD
import Derived.Test.YthookknmeajojaaGreatDoorShS
import Derived.Lib.RowBridge
namespace Go.Proofs.YthookknmeajojaaGreatDoor
open Go.RowKit Go.Shelf Go.Sort
set_option linter.unusedVariables false
set_option linter.unusedSimpArgs false

theorem OwnS.row {w : World} {base g cap : Nat} {xs : List Txt} (h : OwnS w base (.slice (some ⟨g, 0, none⟩) xs.length cap) xs) : RowE encStr 9 w base g cap xs := by
  rcases h.2 with ⟨hv, h0⟩ | ⟨g', cap', cur, hv, hg, hh, hnc, hm, hs, ht⟩
  · cases hv
  · injection hv with h1 h2 h3
    injection h1 with h1
    injection h1 with h1
    subst h1 h3
    exact ⟨hg, hnc, hm, cur, hh, by simpa using hs, by rw [Nat.mul_one] at ht; exact ht⟩
theorem RowE.own {w : World} {base g cap : Nat} {xs : List Txt} (h : RowE encStr 9 w base g cap xs) : OwnS w base (.slice (some ⟨g, 0, none⟩) xs.length cap) xs := by
  obtain ⟨hb, hl, hm, cur, hh, hs, ht⟩ := h
  exact ⟨by simp, .inr ⟨g, cap, cur, rfl, hb, hh, hl, hm, by rw [Nat.mul_one]; exact hs, by rw [Nat.mul_one]; exact ht⟩⟩

theorem sort_strs (g cap base : Nat) (xs : List Txt) (w : World) (h : RowE encStr 9 w base g cap xs) (hl : xs.length ≤ 1048576) :
    Calls Tryz.prog 91 #[.slice (some ⟨g, 0, none⟩) xs.length cap] w fun e w' => e = .returned (.tuple #[]) ∧ RowE encStr 9 w' base g cap (xs.mergeSort fun x y => decide (x ≤ y)) ∧ Below base w w' :=
  (Any.slices_Sort_string Tryz.lays190 g 0 cap xs w h.holds h.lt (by omega)).mono fun e w' ⟨he, n, os, hw⟩ => by
    have := h.put (ys := xs.mergeSort fun x y => decide (x ≤ y)) (List.length_mergeSort _) hw
    exact ⟨he, this.1, this.2⟩

theorem compact_strs (g cap base : Nat) (xs : List Txt) (w : World) (h : RowE encStr 9 w base g cap xs) (hl : xs.length ≤ 1048576) :
    Calls Tryz.prog 92 #[.slice (some ⟨g, 0, none⟩) xs.length cap] w fun e w' => e = .returned (.slice (some ⟨g, 0, none⟩) (Lib.compact xs).length cap) ∧ RowE encStr 9 w' base g cap (Lib.compact xs) ∧ Below base w w' :=
  (Any.slices_Compact_string Tryz.lays194 g 0 cap xs w h.holds (by omega) h.2.1).mono fun e w' ⟨he, q, hw⟩ => by
    have hle := Lib.compact_length_le xs
    have := h.put (ys := Lib.compact xs ++ List.replicate (xs.length - (Lib.compact xs).length) []) (by simp; omega) (n := q) (os := #[]) (hw.trans (grow_empty _).symm)
    exact ⟨he, this.1.cut, this.2⟩

theorem reverse_strs (g cap base : Nat) (xs : List Txt) (w : World) (h : RowE encStr 9 w base g cap xs) (hl : xs.length ≤ 1048576) :
    Calls Tryz.prog 93 #[.slice (some ⟨g, 0, none⟩) xs.length cap] w fun e w' => e = .returned (.tuple #[]) ∧ RowE encStr 9 w' base g cap xs.reverse ∧ Below base w w' :=
  (Any.slices_Reverse_string Tryz.lays17 g 0 cap xs w h.holds (by omega)).mono fun e w' ⟨he, q, hw⟩ => by
    have := h.put (ys := xs.reverse) (by simp) (n := q) (os := #[]) (hw.trans (grow_empty _).symm)
    exact ⟨he, this.1, this.2⟩

set_option maxRecDepth 100000 in
set_option maxHeartbeats 2000000 in
theorem impl_windows_any (N : Nat) (A : Option Addr) (cap : Nat) (bs : List Int) (k : Nat) (w : World) (hA : Ints w w.heap.size A bs) (hok : RhOk N bs) (hk : k ≤ 1000) :
    Calls Tryz.prog 52 #[.agg #[.int .i64 N, .slice A bs.length cap], .int .i64 k] w (RetStr w (allD N bs k N)) := by
  have hn1 : 1 ≤ N := by have := hok.1; omega
  have hn2 : N ≤ 24 := by have := hok.2.1; omega
  have HWD := Lib.hid (fun (p : Nat) (hp : p ≤ 1000) (V : World) (hV : Ints V V.heap.size A bs) => impl_window_any N A cap bs p k V hV hok hp hk)
  have HA := Lib.hid hA
  have HALL := Lib.hid (wins_allD N bs k N)
  clear hA hok
  have hW0 := (Below.refl w.heap.size w).alloc (Nat.le_refl _) (.cells #[.int .i64 N, .slice A bs.length cap] 26)
  have HW := Lib.hid hW0
  clear hW0
  obtain ⟨c0, c1⟩ := box2 (Below.refl (w.heap.size + 1) (w.alloc (.cells #[.int .i64 N, .slice A bs.length cap] 26)))
  go_enter Tryz.func52, Tryz.ntmps52
  go_wp2_with fail
  go_loopw [5, 9] (fun so sp wr => ∃ (q : Nat), q ≤ N ∧ sp = .int .i64 q ∧ OwnS wr (w.heap.size + 1) so (winsL N bs k q) ∧ Below (w.heap.size + 1) (w.alloc (.cells #[.int .i64 N, .slice A bs.length cap] 26)) wr) (fun _ sp _ => N - (intOf sp).toNat)
  case atStart => exact ⟨0, Nat.zero_le _, rfl, OwnS.nil _ _, Below.refl _ _⟩
  case round =>
    obtain ⟨q, hq, rfl, hown, hbel⟩ := hrel
    obtain ⟨wo, rfl⟩ : ∃ wo : World, wo = wr := ⟨_, rfl⟩
    have hll := winsL_len (N : Int) bs k q
    have HLL := Lib.hid hll
    clear hll
    have hws : w.heap.size + 1 ≤ wo.heap.size := by have := hbel.size; simpa using this
    by_cases hlt : q < N
    · obtain ⟨d0, d1⟩ := box2 hbel
      have HOW := Lib.hid hown
      have HBE := Lib.hid hbel
      have HWW := Lib.hid (HW.out.trans (hbel.mono (by omega)))
      have HSU := Lib.hid (winsL_succ (N : Int) bs k q)
      obtain ⟨A5, c5, rfl, _⟩ := hown.form
      clear hown hbel c0 c1
      go_wp2_with fail
      refine (HWD.out q (by omega) _ (HA.out.lift HWW.out)).mono ?_
      rintro e w1 ⟨rfl, hb1⟩
      have HO1 := Lib.hid (HOW.out.grown hb1)
      have hz1 := hb1.size
      have HB1 := Lib.hid (HBE.out.trans (hb1.mono hws))
      obtain ⟨T, hT⟩ : ∃ T, mkS (winL N bs q k) = T := ⟨_, rfl⟩
      rw [hT]
      have HT := Lib.hid hT
      clear hb1 hT d0 d1
      go_wp2_with (at_builtin; refine wpList_append_str rfl (.tmp 12) (.tmp 17) rfl (w.heap.size + 1) _ (winsL N bs k q) rfl (HO1.out.alloc _) w1.heap.size (winL N bs q k) (by rfl) (by unfold emS; rw [HT.out]; exact cell_new1 _ _ _) (by rw [HLL.out]; omega) (by simp; omega) ?_; intro v2 w2 hown2 hb2)
      have HO2 := Lib.hid hown2
      have HB2 := Lib.hid ((HB1.out.alloc (by omega) _).trans hb2)
      clear hown2 hb2
      go_wp2_with fail
      go_roundw
      case rel => exact ⟨q + 1, by omega, by go_num, by rw [HSU.out]; exact HO2.out, HB2.out⟩
      case measure => simp [intOf]; omega
    · have hqe : q = N := by omega
      obtain ⟨g, c, rfl, hlc, hcm, hgb, hgs⟩ := hown.pos (by rw [HLL.out]; omega)
      have HRW := Lib.hid hown.row
      have HBE := Lib.hid (HW.out.trans (hbel.mono (by omega)))
      have hsrt := fun V h => sort_strs g c (w.heap.size + 1) (winsL N bs k q) V h (by rw [HLL.out]; omega)
      have hcmp := fun V h => compact_strs g c (w.heap.size + 1) ((winsL N bs k q).mergeSort fun x y => decide (x ≤ y)) V h (by rw [List.length_mergeSort, HLL.out]; omega)
      have hcl := Lib.compact_length_le ((winsL N bs k q).mergeSort fun x y => decide (x ≤ y))
      rw [List.length_mergeSort, HLL.out] at hcl
      have hrev := fun V h => reverse_strs g c (w.heap.size + 1) (Lib.compact ((winsL N bs k q).mergeSort fun x y => decide (x ≤ y))) V h (by omega)
      rw [HLL.out] at hsrt
      rw [List.length_mergeSort, HLL.out] at hcmp
      subst hqe
      have hres := HALL.out
      generalize hC : Lib.compact ((winsL q bs k q).mergeSort fun x y => decide (x ≤ y)) = C at hcmp hrev hcl hres
      generalize hM : ((winsL q bs k q).mergeSort fun x y => decide (x ≤ y)) = M at hsrt hcmp
      have HS := Lib.hid hsrt
      have HC := Lib.hid hcmp
      have HR := Lib.hid hrev
      have HRES := Lib.hid hres
      rw [HLL.out]
      clear hown hbel hsrt hcmp hrev hC hM hres c0 c1
      go_wp2_with fail
      refine (HS.out _ HRW.out).mono ?_
      rintro e w1 ⟨rfl, hr1, hb1⟩
      have HR1 := Lib.hid hr1
      have HB1 := Lib.hid (HBE.out.trans (hb1.mono (by omega)))
      clear hr1 hb1
      go_wp2_with fail
      refine (HC.out _ HR1.out).mono ?_
      rintro e w2 ⟨rfl, hr2, hb2⟩
      have HR2 := Lib.hid hr2
      have HB2 := Lib.hid (HB1.out.trans (hb2.mono (by omega)))
      clear hr2 hb2
      go_wp2_with fail
      refine (HR.out _ HR2.out).mono ?_
      rintro e w3 ⟨rfl, hr3, hb3⟩
      have hfin := hr3.own
      rw [HRES.out] at hfin
      have hlen : C.length = (allD (q : Int) bs k q).length := by rw [← HRES.out, List.length_reverse]
      have HF := Lib.hid hfin
      have HL := Lib.hid hlen
      have HB3 := Lib.hid (HB2.out.trans (hb3.mono (by omega)))
      clear hr3 hb3 hfin hlen
      go_wp2_with fail
      go_ret
      exact ⟨_, by rw [HL.out]; rfl, HF.out.mono (Nat.le_succ _), HB3.out⟩

end Go.Proofs.YthookknmeajojaaGreatDoor
