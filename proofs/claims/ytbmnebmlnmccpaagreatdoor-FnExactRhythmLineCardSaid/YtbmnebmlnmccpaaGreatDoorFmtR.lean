/-
  FormatRhythm of the reference; FormatSteps of both.
-/
import Derived.Test.YtbmnebmlnmccpaaGreatDoorText
import Derived.Test.YtbmnebmlnmccpaaGreatDoorStepsOf
import Derived.Test.YtbmnebmlnmccpaaGreatDoorStpT
import Derived.Test.YtbmnebmlnmccpaaGreatDoorRepl
import Derived.Test.YtbmnebmlnmccpaaGreatDoorShP
import Derived.Shelf.Strings.Replace
import Derived.Lib.SplitLaws
namespace Go.Proofs.YtbmnebmlnmccpaaGreatDoor
open Go.RowKit Go.Shelf
set_option linter.unusedVariables false
set_option linter.unusedSimpArgs false

set_option maxRecDepth 100000 in
set_option maxHeartbeats 1000000 in
theorem spec_FormatRhythm_ok (N : Nat) (A : Option Addr) (cap : Nat) (bs : List Int) (w : World) (hA : Ints w w.heap.size A bs) (hok : RhOk N bs) :
    Calls Tryz.prog 12 #[.agg #[.int .i64 N, .slice A bs.length cap]] w fun e w' => e = .returned (.string (mkS (textF N bs (fun _ => 120)))) ∧ Below w.heap.size w w' := by
  have hlen := hA.1
  unfold maxLen at hlen
  have hn1 : 1 ≤ N := by have := hok.1; omega
  have hn2 : N ≤ 24 := by have := hok.2.1; omega
  have hro := fun (V : World) (hV : Ints V V.heap.size A bs) => spec_RhythmOk_any N A cap bs V hV
  rw [rhB_iff.2 hok] at hro
  have HRO := Lib.hid hro
  have HA := Lib.hid hA
  clear hA hok hro
  have HW := Lib.hid ((Below.refl w.heap.size w).alloc (Nat.le_refl _) (.cells #[.int .i64 N, .slice A bs.length cap] 27))
  obtain ⟨c0, c1⟩ := box2 (Below.refl (w.heap.size + 1) (w.alloc (.cells #[.int .i64 N, .slice A bs.length cap] 27)))
  go_enter Tryz.func12, Tryz.ntmps12
  go_wp2_with fail
  refine (HRO.out _ (HA.out.lift HW.out)).mono ?_
  rintro e w0 ⟨rfl, hb0⟩
  have hb0' := (bcellB hb0).1
  have e0 := (hb0' w.heap.size 0 (by first | exact Nat.le_refl _ | (simp; done) | (simp; omega) | omega)).trans c0
  have e1 := (hb0' w.heap.size 1 (by first | exact Nat.le_refl _ | (simp; done) | (simp; omega) | omega)).trans c1
  have HW1 := Lib.hid (HW.out.trans (hb0.mono (by first | exact Nat.le_refl _ | (simp; done) | (simp; omega) | omega)))
  have HI := Lib.hid (HA.out.lift HW1.out)
  clear c0 c1 hb0 hb0'
  go_wp2_with fail
  go_loop [3, 4] (fun s p => ∃ (q : Nat) (u : ByteArray), q ≤ N ∧ p = .int .i64 q ∧ s = .string u ∧ Str u (tabL q (txF bs (fun _ => 120)))) (fun _ p => N - (intOf p).toNat)
  case atStart => exact ⟨0, _, Nat.zero_le _, rfl, rfl, str_nil⟩
  case round =>
    obtain ⟨q, u, hq, rfl, rfl, hu⟩ := hrel
    by_cases hlt : q < N
    · have hsz := hu.size
      rw [tabL_len] at hsz
      have hsz' : u.size ≤ 1000 := by omega
      clear hsz
      have hs := tabL_succ q (txF bs (fun _ => 120))
      have HH := fun V hV => spec_l02Has_any A cap bs (q : Int) V V.heap.size hV
      cases hh : hasB bs (q : Int)
      · rw [show txF bs (fun _ => 120) q = 46 by unfold txF; rw [hh]; rfl] at hs
        rw [hh] at HH
        have HS := Lib.hid hs
        have HHH := Lib.hid HH
        clear hs HH hh
        go_wp2_with fail
        refine (HHH.out _ HI.out).mono ?_
        rintro e w' ⟨rfl, rfl⟩
        go_wp2_with fail
        go_round
        case rel => exact ⟨q + 1, _, by omega, by go_num, rfl, by rw [HS.out]; exact hu.app (str_one _)⟩
        case measure => simp [intOf]; omega
      · rw [show txF bs (fun _ => 120) q = 120 by unfold txF; rw [hh]; rfl] at hs
        rw [hh] at HH
        have HS := Lib.hid hs
        have HHH := Lib.hid HH
        clear hs HH hh
        go_wp2_with fail
        refine (HHH.out _ HI.out).mono ?_
        rintro e w' ⟨rfl, rfl⟩
        go_wp2_with fail
        go_round
        case rel => exact ⟨q + 1, _, by omega, by go_num, rfl, by rw [HS.out]; exact hu.app (str_one _)⟩
        case measure => simp [intOf]; omega
    · have hqe : q = N := by omega
      subst hqe
      have HU := Lib.hid hu.eq
      clear hu
      go_wp2_with fail
      go_ret
      exact ⟨ret_str HU.out, HW1.out⟩

/-- internal/bytealg.MaxLen holds some number. -/
def MaxL (w : World) : Prop := ∃ m, w.cell? ⟨Tryz.lays155_ren.g 1, 0, none⟩ = some (.int .i64 m)
theorem MaxL.below {w w' : World} (h : MaxL w) (hb : Below w.heap.size w w') : MaxL w' := by
  obtain ⟨m, hm⟩ := h
  exact ⟨m, (hb.cell (p := ⟨Tryz.lays155_ren.g 1, 0, none⟩) (World.block_lt_of_cell? _ _ hm)).trans hm⟩

noncomputable def stpV (n : Int) (bs : List Int) : Txt := joinT ((stepsOf n bs).map itoL) [43]

set_option maxRecDepth 100000 in
set_option maxHeartbeats 1000000 in
theorem impl_FormatSteps_any (n : Int) (A : Option Addr) (cap : Nat) (bs : List Int) (w : World) (hn : Fits n) (hA : Ints w w.heap.size A bs) (hP : Pow w) (hM : MaxL w) :
    Calls Tryz.prog 19 #[.agg #[.int .i64 n, .slice A bs.length cap]] w fun e w' => e = .returned (.string (mkS (stpV n bs))) ∧ Below w.heap.size w w' := by
  have HS := Lib.hid (fun V h => impl_StepsOf_any n A cap bs V hn h)
  have hsf := stepsOf_fit n bs
  have HF := Lib.hid hsf.2
  have HL := Lib.hid hsf.1
  have HA := Lib.hid hA
  have HP := Lib.hid hP
  have HM := Lib.hid hM
  have HV := Lib.hid (show stpV n bs = (joinT ((stepsOf n bs).map itoL) [44]).map plusC from (plus_join _).symm)
  have hjl := joinT_len [44] 20 ((stepsOf n bs).map itoL) (nums_mem (fun x hx => by have := hsf.2 x hx; unfold Fits; omega))
  rw [List.length_map] at hjl
  have HJL := Lib.hid (show (joinT ((stepsOf n bs).map itoL) [44]).length ≤ 24 * 21 by
    have : (stepsOf n bs).length * (20 + 1) ≤ 24 * 21 := Nat.mul_le_mul hsf.1 (Nat.le_refl _)
    exact Nat.le_trans hjl this)
  generalize stepsOf n bs = S at HS HF HL HV HJL
  generalize stpV n bs = v at HV ⊢
  clear hA hsf hP hM hjl
  have HR := Lib.hid (fun (V : World) (hb : Below w.heap.size w V) => by
    obtain ⟨m, hm⟩ := HM.out.below hb
    have hsz : (mkS (joinT (S.map itoL) [44])).size ≤ 504 := by rw [mkS_size]; exact HJL.out
    have hcnt := Lib.countB_le (⟨#[44]⟩ : ByteArray) (by decide) (mkS (joinT (S.map itoL) [44])).size (mkS (joinT (S.map itoL) [44])) (Nat.le_refl _)
    have := Any.strings_ReplaceAll Tryz.lays155 Tryz.bx155 (mkS (joinT (S.map itoL) [44])) ⟨#[44]⟩ ⟨#[43]⟩ m V (by omega) hm (by decide) (by have h1 : (⟨#[43]⟩ : ByteArray).size = 1 := rfl; rw [h1]; omega)
    rw [show (⟨#[44]⟩ : ByteArray).data.toList = [44] from rfl, show (⟨#[43]⟩ : ByteArray).data.toList = [43] from rfl, replAll1, show (mkS (joinT (S.map itoL) [44])).data.toList = joinT (S.map itoL) [44] from str_mk _] at this
    exact this)
  go_enter Tryz.func19, Tryz.ntmps19
  go_wp2_with fail
  refine (HS.out _ (HA.out.lift (by repeat (first | exact Below.refl _ _ | assumption | (refine Below.alloc ?_ (by first | exact Nat.le_refl _ | (simp; done) | (simp; omega) | omega) _) | (refine Below.drew ?_) | (refine Below.setCell ?_ (by first | exact Nat.le_refl _ | (simp; done) | (simp; omega) | omega) _))))).mono ?_
  rintro e w1 ⟨A1, c1, rfl, hI1, hb1⟩
  have HB1 := Lib.hid (((Below.refl w.heap.size w).alloc (Nat.le_refl _) (.cells #[.int .i64 n, .slice A bs.length cap] 27)).trans (hb1.mono (by simp)))
  have HI1 := Lib.hid hI1
  clear hI1 hb1
  go_wp2_with fail
  refine (impl_numbersText_any A1 c1 S _ HI1.out (by have := HL.out; omega) (HP.out.below HB1.out)).mono ?_
  rintro e w2 ⟨rfl, hb2⟩
  have HB2 := Lib.hid (HB1.out.trans (hb2.mono HB1.out.size))
  clear hb2
  go_wp2_with fail
  refine (HR.out _ HB2.out).mono ?_
  rintro e w3 ⟨rfl, hb3⟩
  have HB3 := Lib.hid (HB2.out.trans (hb3.mono HB2.out.size))
  clear hb3
  go_wp2_with fail
  go_ret
  exact ⟨ret_str (by rw [HV.out]; rfl), HB3.out⟩

end Go.Proofs.YtbmnebmlnmccpaaGreatDoor
