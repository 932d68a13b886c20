/-
  The period of a pattern and its least period, of the reference.
-/
import Derived.Test.YtcolbkgceaboaaaDoorBlkS
import Derived.Test.YtcolbkgceaboaaaDoorBlkU
namespace Go.Proofs.YtcolbkgceaboaaaDoor
open Go.RowKit
set_option linter.unusedVariables false
set_option linter.unusedSimpArgs false

def RetPer (w : World) (p : Int) (es : List Int) (t : Int) (e : Ending) (w' : World) : Prop := ∃ A cap, e = .returned (.tuple #[.int .i64 p, .slice A es.length cap, .int .i64 t]) ∧ Ints w' w'.heap.size A es ∧ Below w.heap.size w w'

set_option maxRecDepth 100000 in
set_option maxHeartbeats 2000000 in
theorem spec_l13Period_ok (A : Option Addr) (cap : Nat) (xs : List Int) (w : World) (hA : Ints w w.heap.size A xs) (hp : patB xs = true) :
    Calls Tryd.prog 23 #[.slice A xs.length cap] w (RetPer w (lperV xs) (lentV xs) (lfailV xs)) := by
  have HMK := Lib.hid (spec_l13Mask_ok A cap xs w hA hp)
  obtain ⟨hpos, hpat⟩ := pat_all hp
  have hMs : patM xs < 8192 := mk_small hpat xs.length (Nat.le_refl _)
  have hMo : patM xs % 2 = 1 := mk_odd hpat xs.length hpos (Nat.le_refl _)
  have hbc := blk_cases hMs hMo
  have HEF := Lib.hid (lentV_fits xs)
  obtain ⟨M, hM⟩ : ∃ M, patM xs = M := ⟨_, rfl⟩
  have HV := Lib.hid (show ((blk M).1 = 2 → lperV xs = (blk M).2.1 ∧ lentV xs = castL (blk M).2.2 ∧ lfailV xs = -1) ∧ ((blk M).1 = 1 → lperV xs = 0 ∧ lentV xs = [] ∧ lfailV xs = (blk M).2.1) by
    constructor
    · intro h
      have hc : lcanV xs = true := by unfold lcanV; rw [hp, hM, h]; rfl
      unfold lperV lentV lfailV
      rw [hc, hp, hM]
      exact ⟨rfl, rfl, rfl⟩
    · intro h
      have hc : lcanV xs = false := by unfold lcanV; rw [hp, hM, h]; rfl
      unfold lperV lentV lfailV
      rw [hc, hp, hM]
      exact ⟨rfl, rfl, rfl⟩)
  rw [hM] at HMK hMs hMo hbc
  have HBC := Lib.hid hbc
  generalize lperV xs = P at HV ⊢
  generalize lentV xs = L at HV HEF ⊢
  generalize lfailV xs = F at HV ⊢
  clear hA hp hpos hpat hM hbc
  go_enter Tryd.func23, Tryd.ntmps23
  go_wp2_with fail
  refine HMK.out.mono ?_
  rintro e w1 ⟨rfl, rfl⟩
  go_wp2_with fail
  have HW0 := Lib.hid ((Below.refl w.heap.size w).alloc (Nat.le_refl _) (.cells #[] 3))
  go_loopg [6, 7, 8] 13 (fun f v b a wr => ∃ (s t : Nat) (es : List Nat), a = .int .i64 s ∧ b = .int .i64 t ∧ es.length + f = 13 ∧ t + 14 * f ≤ 182 ∧ runB f M s t es = blk M ∧ s < 8192 ∧ OwnI wr w.heap.size v (castL es) ∧ Below w.heap.size w wr)
  case atStart => exact ⟨0, 0, [], rfl, rfl, rfl, by omega, rfl, by omega, OwnI.empty_at _ _ _ rfl (Nat.le_refl _), HW0.out⟩
  case round =>
    obtain ⟨s, t, es, rfl, rfl, hel, ht, hrun, hs, hown, hbel⟩ := hrel
    obtain ⟨wo, rfl⟩ : ∃ wo : World, wo = wr := ⟨_, rfl⟩
    cases gk with
    | zero =>
      exfalso
      have e0 : (0 : Nat) = (blk M).1 := congrArg Prod.fst hrun
      rcases HBC.out with h | h <;> omega
    | succ f =>
      have HOW := Lib.hid hown
      have HBE := Lib.hid hbel
      have HRU := Lib.hid hrun
      obtain ⟨A5, c5, rfl⟩ := hown.form
      have hcl : (castL es).length ≤ 13 := by rw [castL_len]; omega
      have HSN := Lib.hid (castL_snoc es t)
      have HCL := Lib.hid (castL_len es)
      generalize castL es = ys at HOW hcl HSN HCL
      clear hown hbel hrun
      by_cases hsm : s &&& M = 0
      · have hzo := sum_odd hsm hMo
        obtain ⟨s', hs'⟩ : ∃ z, (strF 14 (s + M)).1 = z := ⟨_, rfl⟩
        obtain ⟨n, hn⟩ : ∃ z, (strF 14 (s + M)).2 = z := ⟨_, rfl⟩
        have hst : strF 14 (s + M) = (s', n) := Prod.ext hs' hn
        have hsl := str_half hzo (by omega)
        have hnl := (strF_lt 14 (s + M)).2
        rw [hs'] at hsl
        rw [hn] at hnl
        have HLY := Lib.hid (spec_l13Step_yes s M s' n wo hs hMs hsm hst)
        have HST := Lib.hid hst
        have HSM := Lib.hid hsm
        obtain ⟨u, hu⟩ : ∃ u, t + n = u := ⟨_, rfl⟩
        have hui : (t : Int) + (n : Int) = (u : Int) := by omega
        have hwu : IntKind.i64.wrap (u : Int) = (u : Int) := i64w (by omega)
        have HU := Lib.hid hu
        obtain ⟨ys', hys'⟩ : ∃ l, ys ++ [(t : Int)] = l := ⟨_, rfl⟩
        rw [hys'] at HSN
        have HYS := Lib.hid hys'
        clear hst hs' hn hsm hzo hu hys' hnl
        go_wp2_with fail
        refine HLY.out.mono ?_
        rintro e w3 ⟨rfl, rfl⟩
        by_cases hz : s' = 0
        · have HRR := Lib.hid (runB_back (f := f) (t := t) (es := es) HSM.out (by rw [HST.out, hz] : strF 14 (s + M) = (0, n)))
          subst hz
          have hr := HRU.out.symm.trans HRR.out
          have hv := HV.out.1 (by rw [hr])
          rw [hr] at hv
          have a1 : P = u := hv.1.trans HU.out
          have a2 : L = ys' := hv.2.1.trans HSN.out
          have a3 : F = -1 := hv.2.2
          clear hr hv
          subst a1 a2 a3
          go_wp2_with (at_builtin; refine wpList_append_int rfl (.tmp 25) (.tmp 27) rfl w.heap.size _ ys rfl (HOW.out.alloc _) wo.heap.size t (by rfl) (cell_new1 _ _ _) (by omega) (by have := HBE.out.size; simp only [World.size_alloc]; omega) ?_; intro v2 w2 hown2 hb2; rw [HYS.out] at hown2; obtain ⟨A6, c6, rfl⟩ := hown2.form)
          have HI3 := Lib.hid (hown2.ints (fun x hx => by have := HEF.out.1 x hx; unfold Fits; omega))
          have HB3 := Lib.hid ((HBE.out.alloc HBE.out.size (.cells #[.int .i64 t] 3)).trans hb2)
          clear hown2 hb2
          go_wp2_with fail
          refine bodyPost_ret (v := .tuple #[.int .i64 P, .slice A6 L.length c6, .int .i64 (-1)]) (by simp [results, Tryd.results23, go_sem]) rfl ⟨A6, c6, rfl, HI3.out, HB3.out⟩
        · have HRR := Lib.hid (runB_on (f := f) (t := t) (es := es) HSM.out HST.out hz)
          have hzn : ((s' : Int) == 0) = false := beq_eq_false_iff_ne.2 (by omega)
          have hzn2 : ¬ (s' : Int) = 0 := by omega
          clear hz
          go_wp2_with (at_builtin; refine wpList_append_int rfl (.tmp 25) (.tmp 27) rfl w.heap.size _ ys rfl (HOW.out.alloc _) wo.heap.size t (by rfl) (cell_new1 _ _ _) (by omega) (by have := HBE.out.size; simp only [World.size_alloc]; omega) ?_; intro v2 w2 hown2 hb2; rw [HYS.out] at hown2)
          have HO3 := Lib.hid hown2
          have HB3 := Lib.hid ((HBE.out.alloc HBE.out.size (.cells #[.int .i64 t] 3)).trans hb2)
          clear hown2 hb2
          go_wp2_with fail
          go_roundg f
          case measure => exact Nat.lt_succ_self _
          case rel => exact ⟨s', u, es ++ [t], rfl, rfl, by rw [List.length_append]; show es.length + 1 + f = 13; omega, by have := HU.out; have := (strF_lt 14 (s + M)).2; rw [HST.out] at this; have : n ≤ 14 := this; omega, by rw [← HU.out]; exact HRR.out.symm.trans HRU.out, hsl, by rw [HSN.out]; exact HO3.out, HB3.out⟩
      · have HLY := Lib.hid (spec_l13Step_no s M wo hs hMs hsm)
        have hr := HRU.out.symm.trans (runB_fail (f := f) (t := t) (es := es) hsm)
        have hv := HV.out.2 (by rw [hr])
        rw [hr] at hv
        have a1 : P = 0 := hv.1
        have a2 : L = [] := hv.2.1
        have a3 : F = t := hv.2.2
        clear hr hv hsm
        subst a1 a2 a3
        go_wp2_with fail
        refine HLY.out.mono ?_
        rintro e w3 ⟨rfl, rfl⟩
        go_wp2_with fail
        refine bodyPost_ret (v := .tuple #[.int .i64 0, .slice none 0 0, .int .i64 t]) (by simp [results, Tryd.results23, go_sem]) rfl ⟨none, 0, rfl, ints_none _ _, HBE.out⟩

end Go.Proofs.YtcolbkgceaboaaaDoor
