/-
  Numbers as texts, joined by commas: numbersText of the program; FormatNumbers of both.
-/
import Derived.Test.YtjoeglekcnaebaaDoorFmtI
import Derived.Test.YtjoeglekcnaebaaDoorJoin
namespace Go.Proofs.YtjoeglekcnaebaaDoor
open Go.RowKit
set_option linter.unusedVariables false
set_option linter.unusedSimpArgs false

def numsT (xs : List Int) : Txt := if xs = [] then [45] else joinT (xs.map itoL) [44]
theorem nums_take (xs : List Int) (k : Nat) (h : k < xs.length) : (xs.take (k + 1)).map itoL = (xs.take k).map itoL ++ [itoL (xs.getD k 0)] := by
  rw [List.take_succ_eq_append_getElem h, List.map_append, List.getD_eq_getElem?_getD, List.getElem?_eq_getElem h]; rfl
theorem nums_mem {xs : List Int} (h : ∀ x ∈ xs, Fits x) : ∀ t ∈ xs.map itoL, t.length ≤ 20 := by
  intro t ht
  obtain ⟨x, hx, rfl⟩ := List.mem_map.1 ht
  exact itoL_len x (h x hx)
theorem fits_at {xs : List Int} (h : ∀ x ∈ xs, Fits x) {k : Nat} (hk : k < xs.length) : Fits (xs.getD k 0) := by
  rw [List.getD_eq_getElem?_getD, List.getElem?_eq_getElem hk]; exact h _ (List.getElem_mem hk)

set_option maxRecDepth 100000 in
set_option maxHeartbeats 1000000 in
theorem impl_numbersText_any (A : Option Addr) (cap : Nat) (xs : List Int) (w : World) (hI : Ints w w.heap.size A xs) (hl : xs.length ≤ 1048576) (hP : Pow w) :
    Calls Tryd.prog 31 #[.slice A xs.length cap] w fun e w' => e = .returned (.string (mkS (joinT (xs.map itoL) [44]))) ∧ Below w.heap.size w w' := by
  have HF := Lib.hid hI.2.1
  have HC := Lib.hid hI.2.2
  have HP := Lib.hid hP
  clear hI hP
  have hsep : (⟨#[44]⟩ : ByteArray) = mkS [44] := rfl
  go_enter Tryd.func31, Tryd.ntmps31
  go_wp2_with fail
  go_loopw [3, 8] (fun so si wr => ∃ (k : Nat), k ≤ xs.length ∧ si = .int .i64 k ∧ OwnS wr w.heap.size so ((xs.take k).map itoL) ∧ Below w.heap.size w wr) (fun _ si _ => xs.length - (intOf si).toNat)
  case atStart => exact ⟨0, Nat.zero_le _, rfl, OwnS.nil _ _, Below.refl _ _⟩
  case round =>
    obtain ⟨k, hk, rfl, hown, hbel⟩ := hrel
    obtain ⟨wo, rfl⟩ : ∃ wo : World, wo = wr := ⟨_, rfl⟩
    have hln : ((xs.take k).map itoL).length = k := by rw [List.length_map, List.length_take]; omega
    obtain ⟨ys, hys⟩ : ∃ ys, (xs.take k).map itoL = ys := ⟨_, rfl⟩
    rw [hys] at hown hln
    have HYS := Lib.hid hys
    have HOW := Lib.hid hown
    have HBE := Lib.hid hbel
    have HLN := Lib.hid hln
    clear hys hln
    obtain ⟨A5, c5, rfl, hlc, _, _⟩ := hown.form
    by_cases hlt : k < xs.length
    · obtain ⟨b, off, rfl, hBo, hc⟩ := HC.out (by omega)
      have hcell := hc k hlt
      rw [← hbel.cell (p := ⟨b, off + k, none⟩) hBo] at hcell
      have HX := Lib.hid (fits_at HF.out hlt)
      have HTK := Lib.hid (show (xs.take (k + 1)).map itoL = ys ++ [itoL (xs.getD k 0)] by rw [nums_take xs k hlt, HYS.out])
      generalize xs.getD k 0 = x at hcell HX HTK
      have HFI := Lib.hid (impl_FormatInt_any x HX.out wo (HP.out.below hbel))
      clear hc hown hbel
      go_wp2_with fail
      refine HFI.out.mono ?_
      rintro e w1 ⟨rfl, hb1⟩
      have HO1 := Lib.hid (HOW.out.grown hb1)
      have hz1 := hb1.size
      have HB1 := Lib.hid (HBE.out.trans (hb1.mono HBE.out.size))
      obtain ⟨T, hT⟩ : ∃ T, mkS (itoL x) = T := ⟨_, rfl⟩
      rw [hT]
      have HT := Lib.hid hT
      have hbs := HB1.out.size
      clear hb1 hT
      go_wp2_with (at_builtin; refine wpList_append_str rfl (.tmp 12) (.tmp 15) rfl w.heap.size _ ys rfl (HO1.out.alloc _) w1.heap.size (itoL x) (by rfl) (by unfold emS; rw [HT.out]; exact cell_new1 _ _ _) (by rw [HLN.out]; omega) (by simp; omega) ?_; intro v2 w2 hown2 hb2)
      have HO2 := Lib.hid hown2
      have HB2 := Lib.hid ((HB1.out.alloc hbs _).trans hb2)
      clear hown2 hb2
      go_wp2_with fail
      go_roundw
      case rel => exact ⟨k + 1, by omega, by go_num, by rw [HTK.out]; exact HO2.out, HB2.out⟩
      case measure => simp [intOf]; omega
    · have hke : k = xs.length := by omega
      have hall : ys = xs.map itoL := by rw [← HYS.out, List.take_of_length_le (by omega)]
      have HJ := Lib.hid (fun W (hS : Strs W W.heap.size A5 ys) => impl_Join_any A5 c5 ys [44] 20 W hS hlc (by rw [hall]; exact nums_mem HF.out) (by simp))
      have HST := Lib.hid (HOW.out.strs (by rw [HLN.out]; omega))
      obtain ⟨X, hX⟩ : ∃ X, mkS (joinT ys [44]) = X := ⟨_, rfl⟩
      rw [hX] at HJ
      have HX := Lib.hid (show X = mkS (joinT (xs.map itoL) [44]) by rw [← hX, hall])
      clear hown hbel hall hke hX
      go_wp2_with fail
      try rw [hsep]
      refine (HJ.out _ HST.out).mono ?_
      rintro e w1 ⟨rfl, hb1⟩
      have HB1 := Lib.hid (HBE.out.trans (hb1.mono HBE.out.size))
      clear hb1
      go_wp2_with fail
      go_ret
      exact ⟨ret_str HX.out, HB1.out⟩

end Go.Proofs.YtjoeglekcnaebaaDoor
