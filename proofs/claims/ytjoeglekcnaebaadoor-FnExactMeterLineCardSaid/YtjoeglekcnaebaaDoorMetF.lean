/-
  FormatMeter and MeterLine of both.
-/
import Derived.Test.YtjoeglekcnaebaaDoorMetB
import Derived.Test.YtjoeglekcnaebaaDoorStpT
import Derived.Test.YtjoeglekcnaebaaDoorRepl
import Derived.Test.YtjoeglekcnaebaaDoorShP
import Derived.Shelf.Strings.Replace
import Derived.Lib.SplitLaws
namespace Go.Proofs.YtjoeglekcnaebaaDoor
open Go.RowKit Go.Shelf
set_option linter.unusedVariables false
set_option linter.unusedSimpArgs false

/-- internal/bytealg.MaxLen holds some number. -/
def MaxL (w : World) : Prop := ∃ m, w.cell? ⟨Tryd.lays155_ren.g 1, 0, none⟩ = some (.int .i64 m)
theorem MaxL.below {w w' : World} (h : MaxL w) (hb : Below w.heap.size w w') : MaxL w' := by
  obtain ⟨m, hm⟩ := h
  exact ⟨m, (hb.cell (p := ⟨Tryd.lays155_ren.g 1, 0, none⟩) (World.block_lt_of_cell? _ _ hm)).trans hm⟩

def starC (c : UInt8) : UInt8 := if c = 44 then 42 else c
theorem map_star {l : Txt} (h : ∀ c ∈ l, c ≠ 44) : l.map starC = l := by
  conv => rhs; rw [← List.map_id l]
  exact List.map_congr_left fun c hc => by unfold starC; rw [if_neg (h c hc)]; rfl
theorem star_join (xs : List Int) : (joinT (xs.map itoL) [44]).map starC = joinT (xs.map itoL) [42] := by
  have htail : ∀ r : List Int, (Lib.joinTail [44] (r.map itoL)).map starC = Lib.joinTail [42] (r.map itoL) := by
    intro r
    induction r with
    | nil => rfl
    | cons y r ih =>
      have e : ∀ sep : Txt, Lib.joinTail sep ((y :: r).map itoL) = (sep ++ itoL y) ++ Lib.joinTail sep (r.map itoL) := fun sep => by unfold Lib.joinTail; simp
      rw [e, e, List.map_append, List.map_append, ih, map_star (itoL_char y)]
      rfl
  cases xs with
  | nil => rfl
  | cons x r =>
    have e : ∀ sep : Txt, joinT ((x :: r).map itoL) sep = itoL x ++ Lib.joinTail sep (r.map itoL) := fun sep => by
      unfold joinT; rw [List.map_cons, Lib.join_cons]
    rw [e, e, List.map_append, htail, map_star (itoL_char x)]
noncomputable def fmtM (xs : List Int) : Txt := joinT (xs.map itoL) [42]
theorem fmtM_len {xs : List Int} (h : MetOk xs) : (fmtM xs).length ≤ 105 := by
  have hf : ∀ x ∈ xs, Fits x := fun x hx => by have := h.2.2.1 x hx; unfold Fits; omega
  have := joinT_len [42] 20 (xs.map itoL) (nums_mem hf)
  rw [List.length_map] at this
  have h5 : xs.length * (20 + 1) ≤ 5 * 21 := Nat.mul_le_mul h.2.1 (Nat.le_refl _)
  exact Nat.le_trans this h5

set_option maxRecDepth 100000 in
set_option maxHeartbeats 1000000 in
theorem impl_FormatMeter_any (A : Option Addr) (cap : Nat) (xs : List Int) (w : World) (hA : Ints w w.heap.size A xs) (hm : MetOk xs) (hP : Pow w) (hM : MaxL w) :
    Calls Tryd.prog 16 #[.slice A xs.length cap] w fun e w' => e = .returned (.string (mkS (fmtM xs))) ∧ Below w.heap.size w w' := by
  have hx5 := hm.2.1
  have hf : ∀ x ∈ xs, Fits x := fun x hx => by have := hm.2.2.1 x hx; unfold Fits; omega
  have HMO := Lib.hid (fun V h => impl_MeterOk_any A cap xs V h hm)
  have HNT := Lib.hid (fun V h hb => impl_numbersText_any A cap xs V h (by omega) (hP.below hb))
  have HA := Lib.hid hA
  have HM := Lib.hid hM
  have HV := Lib.hid (show fmtM xs = (joinT (xs.map itoL) [44]).map starC from (star_join xs).symm)
  have hjl := joinT_len [44] 20 (xs.map itoL) (nums_mem hf)
  rw [List.length_map] at hjl
  have HJL := Lib.hid (show (joinT (xs.map itoL) [44]).length ≤ 24 * 21 by
    have : xs.length * (20 + 1) ≤ 24 * 21 := Nat.mul_le_mul (by omega) (Nat.le_refl _)
    exact Nat.le_trans hjl this)
  generalize fmtM xs = v at HV ⊢
  generalize joinT (xs.map itoL) [44] = T at *
  clear hA hP hM hjl hf hm
  have HR := Lib.hid (fun (V : World) (hb : Below w.heap.size w V) => by
    obtain ⟨m, hm⟩ := HM.out.below hb
    have hsz : (mkS T).size ≤ 504 := by rw [mkS_size]; exact HJL.out
    have hcnt := Lib.countB_le (⟨#[44]⟩ : ByteArray) (by decide) (mkS T).size (mkS T) (Nat.le_refl _)
    have := Any.strings_ReplaceAll Tryd.lays155 Tryd.bx155 (mkS T) ⟨#[44]⟩ ⟨#[42]⟩ m V (by omega) hm (by decide) (by have h1 : (⟨#[42]⟩ : ByteArray).size = 1 := rfl; rw [h1]; omega)
    rw [show (⟨#[44]⟩ : ByteArray).data.toList = [44] from rfl, show (⟨#[42]⟩ : ByteArray).data.toList = [42] from rfl, replAll1, show (mkS T).data.toList = T from str_mk _] at this
    exact this)
  go_enter Tryd.func16, Tryd.ntmps16
  go_wp2_with fail
  refine (HMO.out _ HA.out).mono ?_
  rintro e w1 ⟨rfl, hb1⟩
  have HB1 := Lib.hid hb1
  clear hb1
  go_wp2_with fail
  refine (HNT.out _ (HA.out.lift HB1.out) HB1.out).mono ?_
  rintro e w2 ⟨rfl, hb2⟩
  have HB2 := Lib.hid (HB1.out.trans (hb2.mono HB1.out.size))
  clear hb2
  go_wp2_with fail
  refine (HR.out _ HB2.out).mono ?_
  rintro e w3 ⟨rfl, hb3⟩
  have HB3 := Lib.hid (HB2.out.trans (hb3.mono HB2.out.size))
  clear hb3
  go_wp2_with fail
  go_ret
  exact ⟨ret_str (by rw [HV.out]; rfl), HB3.out⟩

set_option maxRecDepth 100000 in
set_option maxHeartbeats 1000000 in
theorem spec_FormatMeter_any (A : Option Addr) (cap : Nat) (xs : List Int) (w : World) (hI : Ints w w.heap.size A xs) (hm : MetOk xs) :
    Calls Tryd.prog 11 #[.slice A xs.length cap] w fun e w' => e = .returned (.string (mkS (fmtM xs))) ∧ Below w.heap.size w w' := by
  have HMO := Lib.hid (spec_MeterOk_any A cap xs w hI hm)
  have hl := hm.2.1
  have HF := Lib.hid hI.2.1
  have HC := Lib.hid hI.2.2
  clear hI hm
  have hsep : (⟨#[42]⟩ : ByteArray) = mkS [42] := rfl
  go_enter Tryd.func11, Tryd.ntmps11
  go_wp2_with fail
  refine HMO.out.mono ?_
  rintro e w0 ⟨rfl, hb0⟩
  have HB0 := Lib.hid hb0
  have hz0 := hb0.size
  clear hb0
  go_wp2_with fail
  go_loopw [3, 12] (fun so si wr => ∃ (k : Nat), k ≤ xs.length ∧ si = .int .i64 k ∧ OwnS wr w.heap.size so ((xs.take k).map itoL) ∧ Below w.heap.size w wr) (fun _ si _ => xs.length - (intOf si).toNat)
  case atStart => exact ⟨0, Nat.zero_le _, rfl, OwnS.empty_at _ _ _ rfl hz0, HB0.out.alloc hz0 _⟩
  case round =>
    obtain ⟨k, hk, rfl, hown, hbel⟩ := hrel
    obtain ⟨wo, rfl⟩ : ∃ wo : World, wo = wr := ⟨_, rfl⟩
    have hln : ((xs.take k).map itoL).length = k := by rw [List.length_map, List.length_take]; omega
    obtain ⟨ys, hys⟩ : ∃ ys, (xs.take k).map itoL = ys := ⟨_, rfl⟩
    rw [hys] at hown hln
    have HYS := Lib.hid hys
    have HOW := Lib.hid hown
    have HBE := Lib.hid hbel
    have HLN := Lib.hid hln
    clear hys hln
    obtain ⟨A5, c5, rfl, hlc, _, _⟩ := hown.form
    by_cases hlt : k < xs.length
    · obtain ⟨b, off, rfl, hBo, hc⟩ := HC.out (by omega)
      have hcell := hc k hlt
      rw [← hbel.cell (p := ⟨b, off + k, none⟩) hBo] at hcell
      have HX := Lib.hid (fits_at HF.out hlt)
      have HTK := Lib.hid (show (xs.take (k + 1)).map itoL = ys ++ [itoL (xs.getD k 0)] by rw [nums_take xs k hlt, HYS.out])
      generalize xs.getD k 0 = x at hcell HX HTK
      have HFI := Lib.hid (spec_FormatInt_any x HX.out wo)
      clear hc hown hbel
      go_wp2_with fail
      refine HFI.out.mono ?_
      rintro e w1 ⟨rfl, hb1⟩
      have HO1 := Lib.hid (HOW.out.grown hb1)
      have hz1 := hb1.size
      have HB1 := Lib.hid (HBE.out.trans (hb1.mono HBE.out.size))
      obtain ⟨T, hT⟩ : ∃ T, mkS (itoL x) = T := ⟨_, rfl⟩
      rw [hT]
      have HT := Lib.hid hT
      have hbs := HB1.out.size
      clear hb1 hT
      go_wp2_with (at_builtin; refine wpList_append_str rfl (.tmp 16) (.tmp 19) rfl w.heap.size _ ys rfl (HO1.out.alloc _) w1.heap.size (itoL x) (by rfl) (by unfold emS; rw [HT.out]; exact cell_new1 _ _ _) (by rw [HLN.out]; omega) (by simp; omega) ?_; intro v2 w2 hown2 hb2)
      have HO2 := Lib.hid hown2
      have HB2 := Lib.hid ((HB1.out.alloc hbs _).trans hb2)
      clear hown2 hb2
      go_wp2_with fail
      go_roundw
      case rel => exact ⟨k + 1, by omega, by go_num, by rw [HTK.out]; exact HO2.out, HB2.out⟩
      case measure => simp [intOf]; omega
    · have hke : k = xs.length := by omega
      have hall : ys = xs.map itoL := by rw [← HYS.out, List.take_of_length_le (by omega)]
      have HJ := Lib.hid (fun W (hS : Strs W W.heap.size A5 ys) => spec_Join_any A5 c5 ys [42] 20 W hS (by rw [hall]; exact nums_mem HF.out) (by simp))
      have HST := Lib.hid (HOW.out.strs (by rw [HLN.out]; omega))
      have HX := Lib.hid (show joinT ys [42] = fmtM xs by rw [hall]; rfl)
      generalize joinT ys [42] = X at *
      clear hown hbel hall hke
      go_wp2_with fail
      try rw [hsep]
      refine (HJ.out _ HST.out).mono ?_
      rintro e w2 ⟨rfl, rfl⟩
      go_wp2_with fail
      go_ret
      exact ⟨ret_str (by rw [HX.out]), HBE.out⟩

end Go.Proofs.YtjoeglekcnaebaaDoor
