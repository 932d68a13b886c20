/-
  FormatRhythm of the reference; FormatSteps of both.
-/
import Derived.Test.YtcolbkgceaboaabGreatDoorText
import Derived.Test.YtcolbkgceaboaabGreatDoorStepsOf
import Derived.Test.YtcolbkgceaboaabGreatDoorStpT
import Derived.Test.YtcolbkgceaboaabGreatDoorRepl
import Derived.Test.YtcolbkgceaboaabGreatDoorShP
import Derived.Shelf.Strings.Replace
import Derived.Lib.SplitLaws
namespace Go.Proofs.YtcolbkgceaboaabGreatDoor
open Go.RowKit Go.Shelf
set_option linter.unusedVariables false
set_option linter.unusedSimpArgs false

/-- internal/bytealg.MaxLen holds some number. -/
def MaxL (w : World) : Prop := ∃ m, w.cell? ⟨Tryz.lays155_ren.g 1, 0, none⟩ = some (.int .i64 m)
theorem MaxL.below {w w' : World} (h : MaxL w) (hb : Below w.heap.size w w') : MaxL w' := by
  obtain ⟨m, hm⟩ := h
  exact ⟨m, (hb.cell (p := ⟨Tryz.lays155_ren.g 1, 0, none⟩) (World.block_lt_of_cell? _ _ hm)).trans hm⟩

noncomputable def stpV (n : Int) (bs : List Int) : Txt := joinT ((stepsOf n bs).map itoL) [43]

set_option maxRecDepth 100000 in
set_option maxHeartbeats 1000000 in
theorem impl_FormatSteps_any (n : Int) (A : Option Addr) (cap : Nat) (bs : List Int) (w : World) (hn : Fits n) (hA : Ints w w.heap.size A bs) (hP : Pow w) (hM : MaxL w) :
    Calls Tryz.prog 6 #[.agg #[.int .i64 n, .slice A bs.length cap]] w fun e w' => e = .returned (.string (mkS (stpV n bs))) ∧ Below w.heap.size w w' := by
  have HS := Lib.hid (fun V h => impl_StepsOf_any n A cap bs V hn h)
  have hsf := stepsOf_fit n bs
  have HF := Lib.hid hsf.2
  have HL := Lib.hid hsf.1
  have HA := Lib.hid hA
  have HP := Lib.hid hP
  have HM := Lib.hid hM
  have HV := Lib.hid (show stpV n bs = (joinT ((stepsOf n bs).map itoL) [44]).map plusC from (plus_join _).symm)
  have hjl := joinT_len [44] 20 ((stepsOf n bs).map itoL) (nums_mem (fun x hx => by have := hsf.2 x hx; unfold Fits; omega))
  rw [List.length_map] at hjl
  have HJL := Lib.hid (show (joinT ((stepsOf n bs).map itoL) [44]).length ≤ 24 * 21 by
    have : (stepsOf n bs).length * (20 + 1) ≤ 24 * 21 := Nat.mul_le_mul hsf.1 (Nat.le_refl _)
    exact Nat.le_trans hjl this)
  generalize stepsOf n bs = S at HS HF HL HV HJL
  generalize stpV n bs = v at HV ⊢
  clear hA hsf hP hM hjl
  have HR := Lib.hid (fun (V : World) (hb : Below w.heap.size w V) => by
    obtain ⟨m, hm⟩ := HM.out.below hb
    have hsz : (mkS (joinT (S.map itoL) [44])).size ≤ 504 := by rw [mkS_size]; exact HJL.out
    have hcnt := Lib.countB_le (⟨#[44]⟩ : ByteArray) (by decide) (mkS (joinT (S.map itoL) [44])).size (mkS (joinT (S.map itoL) [44])) (Nat.le_refl _)
    have := Any.strings_ReplaceAll Tryz.lays155 Tryz.bx155 (mkS (joinT (S.map itoL) [44])) ⟨#[44]⟩ ⟨#[43]⟩ m V (by omega) hm (by decide) (by have h1 : (⟨#[43]⟩ : ByteArray).size = 1 := rfl; rw [h1]; omega)
    rw [show (⟨#[44]⟩ : ByteArray).data.toList = [44] from rfl, show (⟨#[43]⟩ : ByteArray).data.toList = [43] from rfl, replAll1, show (mkS (joinT (S.map itoL) [44])).data.toList = joinT (S.map itoL) [44] from str_mk _] at this
    exact this)
  go_enter Tryz.func6, Tryz.ntmps6
  go_wp2_with fail
  refine (HS.out _ (HA.out.lift (by repeat (first | exact Below.refl _ _ | assumption | (refine Below.alloc ?_ (by first | exact Nat.le_refl _ | (simp; done) | (simp; omega) | omega) _) | (refine Below.drew ?_) | (refine Below.setCell ?_ (by first | exact Nat.le_refl _ | (simp; done) | (simp; omega) | omega) _))))).mono ?_
  rintro e w1 ⟨A1, c1, rfl, hI1, hb1⟩
  have HB1 := Lib.hid (((Below.refl w.heap.size w).alloc (Nat.le_refl _) (.cells #[.int .i64 n, .slice A bs.length cap] 25)).trans (hb1.mono (by simp)))
  have HI1 := Lib.hid hI1
  clear hI1 hb1
  go_wp2_with fail
  refine (impl_numbersText_any A1 c1 S _ HI1.out (by have := HL.out; omega) (HP.out.below HB1.out)).mono ?_
  rintro e w2 ⟨rfl, hb2⟩
  have HB2 := Lib.hid (HB1.out.trans (hb2.mono HB1.out.size))
  clear hb2
  go_wp2_with fail
  refine (HR.out _ HB2.out).mono ?_
  rintro e w3 ⟨rfl, hb3⟩
  have HB3 := Lib.hid (HB2.out.trans (hb3.mono HB2.out.size))
  clear hb3
  go_wp2_with fail
  go_ret
  exact ⟨ret_str (by rw [HV.out]; rfl), HB3.out⟩

end Go.Proofs.YtcolbkgceaboaabGreatDoor
