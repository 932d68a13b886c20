/-
  The block of a pattern, of the program; what it says of a pattern.
-/
import Derived.Test.YtcolbkgceaboaaaDoorBlkI
namespace Go.Proofs.YtcolbkgceaboaaaDoor
open Go.RowKit
set_option linter.unusedVariables false
set_option linter.unusedSimpArgs false

theorem str_half {z : Nat} (h : z % 2 = 1) (hz : z < 16384) : (strF 14 z).1 < 8192 := by
  rw [strF_odd (f := 13) h]
  have := (strF_lt 13 (z / 2)).1
  show (strF 13 (z / 2)).1 < 8192
  omega
theorem sum_odd {s M : Nat} (h : s &&& M = 0) (hM : M % 2 = 1) : (s + M) % 2 = 1 := by
  by_cases hs : s % 2 = 1
  · exfalso
    have e := Nat.testBit_and s M 0
    rw [h, Nat.testBit_zero, Nat.testBit_zero, Nat.testBit_zero, decide_eq_true hs, decide_eq_true hM] at e
    exact absurd e (by decide)
  · omega
theorem OwnI.frm3 {w w' : World} {base : Nat} {v : Value} {xs : List Int} {S : Nat → Prop} (h : OwnI w base v xs) (hf : Frm S w w') (hS : ∀ c, base ≤ c → ¬ S c) : OwnI w' base v xs := by
  refine ⟨h.1, ?_⟩
  rcases h.2 with h0 | ⟨g, cap, cur, e, hg, hh, rest⟩
  · exact .inl h0
  · have hlt : g < w.heap.size := (Array.getElem?_eq_some_iff.1 hh).1
    exact .inr ⟨g, cap, cur, e, hg, by rw [hf.block g hlt (hS g hg)]; exact hh, rest⟩
def castL (es : List Nat) : List Int := es.map fun (t : Nat) => (t : Int)
theorem castL_len (es : List Nat) : (castL es).length = es.length := by simp [castL]
theorem castL_snoc (es : List Nat) (t : Nat) : castL (es ++ [t]) = castL es ++ [(t : Int)] := by simp [castL]
theorem lentV_fits (xs : List Int) : (∀ x ∈ lentV xs, 0 ≤ x ∧ x < 24) ∧ (lentV xs).length ≤ 13 := by
  unfold lentV
  cases hc : lcanV xs
  · exact ⟨fun x hx => by simp at hx, by simp⟩
  · rw [if_pos rfl]
    unfold lcanV at hc
    rw [Bool.and_eq_true, beq_iff_eq] at hc
    obtain ⟨hpos, hpat⟩ := pat_all hc.1
    rcases blk_cases (mk_small hpat xs.length (Nat.le_refl _)) (mk_odd hpat xs.length hpos (Nat.le_refl _)) with ⟨h, _⟩ | ⟨_, h1, h2, h3, h4, _⟩
    · have := hc.2; unfold patM at this; omega
    · refine ⟨fun x hx => ?_, ?_⟩
      · obtain ⟨t, ht, rfl⟩ := List.mem_map.1 hx
        have := h4 t ht
        unfold patM at *
        omega
      · rw [List.length_map]; exact h3

/-- What the block of a pattern tells. -/
def blkT (xs : List Int) : Nat := if patB xs then (blk (patM xs)).2.1 else 0
theorem blkT_le (xs : List Int) : blkT xs ≤ 24 := by
  unfold blkT
  cases hp : patB xs
  · exact Nat.zero_le _
  · rw [if_pos rfl]
    obtain ⟨hpos, hpat⟩ := pat_all hp
    rcases blk_cases (mk_small hpat xs.length (Nat.le_refl _)) (mk_odd hpat xs.length hpos (Nat.le_refl _)) with ⟨_, h⟩ | ⟨_, _, h, _⟩
    · exact h
    · exact h
def RetBlk (w : World) (t : Int) (es : List Int) (ok : Bool) (e : Ending) (w' : World) : Prop := ∃ A cap, e = .returned (.tuple #[.int .i64 t, .slice A es.length cap, .bool ok]) ∧ Ints w' w'.heap.size A es ∧ Below w.heap.size w w'
theorem ints_none (w : World) (B : Nat) : Ints w B none [] := ⟨Nat.zero_le _, fun x hx => by simp at hx, fun h => by simp at h⟩

set_option maxRecDepth 100000 in
set_option maxHeartbeats 2000000 in
theorem impl_block_any (A : Option Addr) (cap : Nat) (xs : List Int) (w : World) (hA : Ints w w.heap.size A xs) :
    Calls Tryd.prog 27 #[.slice A xs.length cap] w (RetBlk w (blkT xs) (lentV xs) (lcanV xs)) := by
  have HPO := Lib.hid (impl_PatternOk_any A cap xs w hA)
  cases hp : patB xs
  · rw [hp] at HPO
    have HV := Lib.hid (show blkT xs = 0 ∧ lentV xs = [] ∧ lcanV xs = false by unfold blkT lentV lcanV; rw [hp]; exact ⟨rfl, rfl, rfl⟩)
    obtain ⟨e1, e2, e3⟩ := HV.out
    rw [e1, e2, e3]
    clear e1 e2 e3 hA hp HV
    go_enter Tryd.func27, Tryd.ntmps27
    go_wp2_with fail
    refine HPO.out.mono ?_
    rintro e w1 ⟨rfl, rfl⟩
    go_wp2_with fail
    refine bodyPost_ret (v := .tuple #[.int .i64 0, .slice none 0 0, .bool false]) (by simp [results, Tryd.results27, go_sem]) rfl ⟨none, 0, rfl, ints_none _ _, Below.refl _ _⟩
  rw [hp] at HPO
  have HNL := Lib.hid (impl_newLine_ok A cap xs w hA hp)
  obtain ⟨hpos, hpat⟩ := pat_all hp
  have hMs : patM xs < 8192 := mk_small hpat xs.length (Nat.le_refl _)
  have hMo : patM xs % 2 = 1 := mk_odd hpat xs.length hpos (Nat.le_refl _)
  have hbc := blk_cases hMs hMo
  have HEF := Lib.hid (lentV_fits xs)
  obtain ⟨M, hM⟩ : ∃ M, patM xs = M := ⟨_, rfl⟩
  have HV := Lib.hid (show blkT xs = (blk M).2.1 ∧ lentV xs = (if (blk M).1 = 2 then castL (blk M).2.2 else []) ∧ lcanV xs = ((blk M).1 == 2) by
    unfold blkT lentV lcanV castL
    rw [hp, hM]
    refine ⟨rfl, ?_, rfl⟩
    by_cases h2 : (blk M).1 = 2
    · rw [if_pos h2, h2]; rfl
    · rw [if_neg h2, beq_eq_false_iff_ne.2 h2]; rfl)
  rw [hM] at HNL hMs hMo hbc
  have HBC := Lib.hid hbc
  generalize blkT xs = T at HV ⊢
  generalize lentV xs = L at HV HEF ⊢
  generalize lcanV xs = B at HV ⊢
  clear hA hp hpos hpat hM hbc
  go_enter Tryd.func27, Tryd.ntmps27
  go_wp2_with fail
  refine HPO.out.mono ?_
  rintro e w1 ⟨rfl, rfl⟩
  go_wp2_with fail
  refine HNL.out.mono ?_
  rintro e w1 ⟨rfl, hl1, hb1⟩
  have HL1 := Lib.hid hl1
  have HB1 := Lib.hid hb1
  obtain ⟨g, hg⟩ : ∃ g, w.heap.size = g := ⟨_, rfl⟩
  rw [hg] at HL1 ⊢
  clear hl1 hb1
  go_wp2_with fail
  have hg1 : g + 1 ≤ w1.heap.size := HL1.out.1
  go_loopg [6] 13 (fun f v wr => ∃ (s t : Nat) (es : List Nat), es.length + f = 13 ∧ t + 14 * f ≤ 182 ∧ runB f M s t es = blk M ∧ s < 8192 ∧ OwnI wr (g + 1) v (castL es) ∧ Lin3 wr g t s M ∧ Below w.heap.size w wr ∧ g + 1 ≤ wr.heap.size)
  case atStart => exact ⟨0, 0, [], rfl, by omega, rfl, by omega, OwnI.nil _ _, HL1.out, HB1.out, hg1⟩
  case round =>
    obtain ⟨s, t, es, hel, ht, hrun, hs, hown, hlin, hbel, hgs⟩ := hrel
    obtain ⟨wo, rfl⟩ : ∃ wo : World, wo = wr := ⟨_, rfl⟩
    cases gk with
    | zero =>
      exfalso
      have e0 : (0 : Nat) = (blk M).1 := congrArg Prod.fst hrun
      rcases HBC.out with h | h <;> omega
    | succ f =>
      have HOW := Lib.hid hown
      have HLI := Lib.hid hlin
      have HBE := Lib.hid hbel
      have HRU := Lib.hid hrun
      obtain ⟨A5, c5, rfl⟩ := hown.form
      obtain ⟨_, c0, c1, c2, f0, f1⟩ := hlin
      have hcl : (castL es).length ≤ 13 := by rw [castL_len]; omega
      have HSN := Lib.hid (castL_snoc es t)
      have HCL := Lib.hid (castL_len es)
      generalize castL es = ys at HOW hcl HSN HCL
      have hle : (ys.length : Int) ≤ 8192 := by omega
      clear hown hbel hrun f0 f1
      go_wp2_with (at_builtin; refine wpList_append_int rfl (.tmp 15) (.tmp 20) rfl (g + 1) _ ys rfl (HOW.out.alloc _) wo.heap.size t (by rfl) (cell_new1 _ _ _) (by omega) (by simp only [World.size_alloc]; omega) ?_; intro v2 w2 hown2 hb2)
      obtain ⟨ys', hys'⟩ : ∃ l, ys ++ [(t : Int)] = l := ⟨_, rfl⟩
      rw [hys'] at hown2 HSN
      have HO2 := Lib.hid hown2
      have HB2 := Lib.hid ((HBE.out.alloc HBE.out.size (.cells #[.int .i64 t] 3)).trans (hb2.mono (by omega)))
      have HL2 := Lib.hid ((HLI.out.frm (Frm.pure ((Below.refl _ _).alloc (Nat.le_refl _) (.cells #[.int .i64 t] 3)) (fun _ => False)) (fun h => h)).below hb2 (Nat.lt_succ_self _))
      have hg2 : g + 1 ≤ w2.heap.size := by have := hb2.size; simp only [World.size_alloc] at this; omega
      obtain ⟨A6, c6, rfl⟩ := hown2.form
      clear hown2 hb2 c0 c1 c2 hys'
      go_wp2_with fail
      by_cases hsm : s &&& M = 0
      · have hzo := sum_odd hsm hMo
        obtain ⟨s', hs'⟩ : ∃ z, (strF 14 (s + M)).1 = z := ⟨_, rfl⟩
        obtain ⟨n, hn⟩ : ∃ z, (strF 14 (s + M)).2 = z := ⟨_, rfl⟩
        have hst : strF 14 (s + M) = (s', n) := Prod.ext hs' hn
        have hsl := str_half hzo (by omega)
        have hnl := (strF_lt 14 (s + M)).2
        rw [hs'] at hsl
        rw [hn] at hnl
        have HLY := Lib.hid (impl_lay_yes g t s M s' n w2 HL2.out hs hMs hsm (by omega) hst)
        refine HLY.out.mono ?_
        rintro e w3 ⟨rfl, hl3, hf3⟩
        obtain ⟨u, hu⟩ : ∃ u, t + n = u := ⟨_, rfl⟩
        rw [hu] at hl3
        have HL3 := Lib.hid hl3
        have HO3 := Lib.hid (HO2.out.frm3 hf3 (fun c hc e => by omega))
        have HB3 := Lib.hid (HB2.out.trans (hf3.below (B := w.heap.size) (fun c hc => by omega) (by omega)))
        have hg3 : g + 1 ≤ w3.heap.size := Nat.le_trans hg2 hf3.size
        obtain ⟨_, c0, c1, c2, f0, f1⟩ := hl3
        clear hf3 f0 f1
        by_cases hz : s' = 0
        · have HRR := Lib.hid (runB_back (f := f) (t := t) (es := es) hsm (by rw [hst, hz] : strF 14 (s + M) = (0, n)))
          subst hz
          have hr := HRU.out.symm.trans HRR.out
          obtain ⟨e1, e2, e3⟩ := HV.out
          rw [hr] at e1 e2 e3
          have a2 : L = castL (es ++ [t]) := e2
          have a3 : B = true := e3
          have a1 : T = u := e1.trans hu
          rw [HSN.out] at a2
          clear e1 e2 e3
          subst a1 a2 a3
          have HI3 := Lib.hid (HO3.out.ints (fun x hx => by have := HEF.out.1 x hx; unfold Fits; omega))
          clear hst hs' hn hsm hzo hr hu hsl hnl
          go_wp2_with fail
          refine bodyPost_ret (v := .tuple #[.int .i64 T, .slice A6 L.length c6, .bool true]) (by simp [results, Tryd.results27, go_sem]) rfl ⟨A6, c6, rfl, HI3.out, HB3.out⟩
        · have HRR := Lib.hid (runB_on (f := f) (t := t) (es := es) hsm hst hz)
          have hzn : ((s' : Int) == 0) = false := beq_eq_false_iff_ne.2 (by omega)
          have hzn2 : ¬ (s' : Int) = 0 := by omega
          have HU := Lib.hid hu
          clear hst hs' hn hsm hzo hz hu
          go_wp2_with fail
          go_roundg f
          case measure => exact Nat.lt_succ_self _
          case rel => exact ⟨s', u, es ++ [t], by rw [List.length_append]; show es.length + 1 + f = 13; omega, by have := HU.out; omega, by rw [← HU.out]; exact HRR.out.symm.trans HRU.out, hsl, by rw [HSN.out]; exact HO3.out, HL3.out, HB3.out, hg3⟩
      · have HLY := Lib.hid (impl_lay_no g t s M w2 HL2.out hs hMs hsm)
        have hr := HRU.out.symm.trans (runB_fail (f := f) (t := t) (es := es) hsm)
        obtain ⟨e1, e2, e3⟩ := HV.out
        rw [hr] at e1 e2 e3
        have a2 : L = [] := e2
        have a3 : B = false := e3
        have a1 : T = t := e1
        clear e1 e2 e3
        subst a1 a2 a3
        clear hsm hr
        refine HLY.out.mono ?_
        rintro e w3 ⟨rfl, hb3⟩
        have HB3 := Lib.hid (HB2.out.trans (hb3.mono HB2.out.size))
        obtain ⟨_, c0, c1, c2, f0, f1⟩ := HL2.out.below hb3 (by omega)
        clear hb3 f0 f1
        go_wp2_with fail
        refine bodyPost_ret (v := .tuple #[.int .i64 T, .slice none 0 0, .bool false]) (by simp [results, Tryd.results27, go_sem]) rfl ⟨none, 0, rfl, ints_none _ _, HB3.out⟩

end Go.Proofs.YtcolbkgceaboaaaDoor
