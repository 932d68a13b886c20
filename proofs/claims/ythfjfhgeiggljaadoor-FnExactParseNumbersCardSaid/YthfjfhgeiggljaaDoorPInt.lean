/-
  ParseInt of the program, at any text.
-/
import Derived.Test.YthfjfhgeiggljaaDoorShA
import Derived.Test.YthfjfhgeiggljaaDoorFmtI
import Derived.Lib.SmallJoins
namespace Go.Proofs.YthfjfhgeiggljaaDoor
open Go.RowKit Go.Shelf
set_option linter.unusedVariables false
set_option linter.unusedSimpArgs false

/-- A variable that holds an error, or none. -/
def ErrAt (w : World) (g : Nat) : Prop := ∃ ev, w.cell? ⟨g, 0, none⟩ = some ev ∧ (ev = .nilIface ∨ ∃ te pe, ev = .iface te pe)
theorem ErrAt.below {w w' : World} {g : Nat} (h : ErrAt w g) (hb : Below w.heap.size w w') : ErrAt w' g := by
  obtain ⟨ev, h1, h2⟩ := h
  exact ⟨ev, (hb.cell (p := ⟨g, 0, none⟩) (World.block_lt_of_cell? _ _ h1)).trans h1, h2⟩
def Errs (w : World) : Prop := ErrAt w (Tryd.laysC172_ren.g 15) ∧ ErrAt w (Tryd.laysC172_ren.g 16)
theorem Errs.below {w w' : World} (h : Errs w) (hb : Below w.heap.size w w') : Errs w' := ⟨h.1.below hb, h.2.below hb⟩

def pintV (s : ByteArray) : Option Int := match Lib.atoiAll s.data.toList with
  | .ok v => if itoL v = s.data.toList then some v else none
  | _ => none
theorem pintV_ok {s : ByteArray} {v : Int} (h : Lib.atoiAll s.data.toList = .ok v) : pintV s = if itoL v = s.data.toList then some v else none := by unfold pintV; rw [h]

set_option maxRecDepth 100000 in
set_option maxHeartbeats 1000000 in
theorem impl_ParseInt_any (s : ByteArray) (hs : s.size ≤ 281474976710656) (w : World) (hE : Errs w) (hP : Pow w) :
    Calls Tryd.prog 49 #[.string s] w fun e w' => e = .returned (.tuple #[.int .i64 ((pintV s).getD 0), .bool (pintV s).isSome]) ∧ Below w.heap.size w w' := by
  cases ha : Lib.atoiAll s.data.toList with
  | ok v =>
    obtain ⟨vb0, vb1⟩ := Lib.atoiAll_bounds ha
    have hf : Fits v := ⟨by omega, by omega⟩
    have HA := Lib.hid (Any.strconv_Atoi_ok Tryd.laysC172 s (by omega) v ha w)
    have HF := Lib.hid (fun V (hV : Pow V) => impl_FormatInt_any v hf V hV)
    have HP := Lib.hid hP
    have HV := Lib.hid (pintV_ok ha)
    generalize pintV s = pv at HV ⊢
    clear ha hE hP vb0 vb1 hf
    have HEQ := Lib.hid (show ((mkS (itoL v)).toList == s.toList) = decide (itoL v = s.data.toList) by
      rw [Lib.toList_data, Lib.toList_data, show (mkS (itoL v)).data.toList = itoL v from str_mk _]
      by_cases h : itoL v = s.data.toList
      · rw [h]; simp
      · rw [decide_eq_false h, beq_eq_false_iff_ne]; exact h)
    generalize mkS (itoL v) = X at HF HEQ
    by_cases hc : itoL v = s.data.toList
    · have hpv := HV.out
      rw [if_pos hc] at hpv
      subst hpv
      have heq := HEQ.out
      rw [decide_eq_true hc] at heq
      clear hc
      go_enter Tryd.func49, Tryd.ntmps49
      go_wp2_with fail
      refine HA.out.mono ?_
      rintro e w1 ⟨rfl, hw1⟩
      have hb1 : Below w.heap.size w w1 := by
        rcases hw1 with rfl | ⟨t, rfl⟩
        · exact Below.refl _ _
        · exact Go.Joins.below_bytesWorld _ _ _ _ (Nat.le_refl _)
      clear hw1
      go_wp2_with fail
      refine (HF.out _ (HP.out.below hb1)).mono ?_
      rintro e w2 ⟨rfl, hb2⟩
      go_wp2_with fail
      go_ret2
      exact ⟨rfl, hb1.trans (hb2.mono hb1.size)⟩
    · have hpv := HV.out
      rw [if_neg hc] at hpv
      subst hpv
      have heq := HEQ.out
      rw [decide_eq_false hc] at heq
      clear hc
      go_enter Tryd.func49, Tryd.ntmps49
      go_wp2_with fail
      refine HA.out.mono ?_
      rintro e w1 ⟨rfl, hw1⟩
      have hb1 : Below w.heap.size w w1 := by
        rcases hw1 with rfl | ⟨t, rfl⟩
        · exact Below.refl _ _
        · exact Go.Joins.below_bytesWorld _ _ _ _ (Nat.le_refl _)
      clear hw1
      go_wp2_with fail
      refine (HF.out _ (HP.out.below hb1)).mono ?_
      rintro e w2 ⟨rfl, hb2⟩
      go_wp2_with fail
      go_ret2
      exact ⟨rfl, hb1.trans (hb2.mono hb1.size)⟩
  | range =>
    obtain ⟨ev, h1, h2⟩ := hE.2
    have HA := Lib.hid (Any.strconv_Atoi_range Tryd.laysC172 s hs ha ev w h1 h2)
    have HV := Lib.hid (show pintV s = none by unfold pintV; rw [ha])
    clear ha hE hP h1 h2
    go_enter Tryd.func49, Tryd.ntmps49
    go_wp2_with fail
    refine HA.out.mono ?_
    rintro e w1 ⟨N, rfl, _, _, hb1⟩
    go_wp2_with fail
    go_ret2
    exact ⟨by rw [HV.out]; rfl, hb1⟩
  | _ =>
    obtain ⟨ev, h1, h2⟩ := hE.1
    have HA := Lib.hid (Any.strconv_Atoi_syntax Tryd.laysC172 s hs ha ev w h1 h2)
    have HV := Lib.hid (show pintV s = none by unfold pintV; rw [ha])
    clear ha hE hP h1 h2
    go_enter Tryd.func49, Tryd.ntmps49
    go_wp2_with fail
    refine HA.out.mono ?_
    rintro e w1 ⟨N, rfl, _, _, hb1⟩
    go_wp2_with fail
    go_ret2
    exact ⟨by rw [HV.out]; rfl, hb1⟩

end Go.Proofs.YthfjfhgeiggljaaDoor
