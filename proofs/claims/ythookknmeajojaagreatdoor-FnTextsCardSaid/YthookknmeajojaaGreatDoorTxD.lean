/-
  MakeBar, MakeTimes and MakeMeter of the reference.
-/
import Derived.Test.YthookknmeajojaaGreatDoorDraw
import Derived.Test.YthookknmeajojaaGreatDoorTyE
import Derived.Test.YthookknmeajojaaGreatDoorTyI
namespace Go.Proofs.YthookknmeajojaaGreatDoor
open Go.RowKit
set_option linter.unusedVariables false
set_option linter.unusedSimpArgs false

/-- Numbers of which P is known. -/
def RetP2 (P : List Int → Prop) (w' : World) (e : Ending) : Prop := ∃ ps A c, e = .returned (.slice A ps.length c) ∧ P ps ∧ Ints w' w'.heap.size A ps

set_option maxRecDepth 100000 in
set_option maxHeartbeats 1000000 in
theorem spec_l19Draw_any (g : Nat) (A : Option Addr) (cap : Nat) (xs : List Int) (w : World) (hC : Cur w g A cap xs) :
    Calls Tryz.prog 59 #[.pointer (some ⟨g, 0, none⟩)] w fun e w' => RetP2 (fun ps => 1 ≤ ps.length ∧ ps.length ≤ 6 ∧ ∀ x ∈ ps, 2 ≤ x ∧ x ≤ 3) w' e ∧ Frm (fun c => c = g) w w' := by
  have hgw : g < w.heap.size := hC.2.1
  have HBW := Lib.hid (fun n (h1 : 1 ≤ n) (h2 : n ≤ 256) V (hV : Cur V g A cap xs) => spec_l01Below_any g A cap xs n V hV h1 h2)
  have HAL := Lib.hid ((Below.refl w.heap.size w).alloc (Nat.le_refl _) (.cells #[] 3))
  have HC1 := Lib.hid (hC.frm (Frm.pure HAL.out (fun _ => False)) (fun _ h => h.elim))
  have HF1 := Lib.hid ((Frm.refl (fun c => c = g) w).alloc (.cells #[] 3))
  have HO1 := Lib.hid (OwnI.empty_at w w.heap.size w.heap.size rfl (Nat.le_refl _))
  clear hC
  go_enter Tryz.func59, Tryz.ntmps59
  go_wp2_with fail
  refine (HBW.out 6 (by decide) (by decide) _ HC1.out).mono ?_
  rintro e w3 ⟨⟨n, rfl, hn⟩, hc3, hf3⟩
  have HC3 := Lib.hid hc3
  have HF3 := Lib.hid (HF1.out.trans hf3)
  have HO3 := Lib.hid (HO1.out.frm hf3 (fun c hc e => by omega))
  have hz3 := hf3.size
  simp only [World.size_alloc] at hz3
  obtain ⟨m, hm⟩ : ∃ m, n + 1 = m := ⟨_, rfl⟩
  have hmi : IntKind.i64.wrap (1 + (n : Int)) = (m : Int) := by rw [← hm, Int.natCast_add, Int.add_comm]; exact i64w (by omega)
  have hm1 : 1 ≤ m := by omega
  have hm6 : m ≤ 6 := by omega
  clear hc3 hf3 hm
  go_wp2_with fail
  go_loopw [3, 4] (fun v b wr => ∃ (k : Nat) (ps : List Int), b = .int .i64 k ∧ ps.length + k = m ∧ (∀ x ∈ ps, 2 ≤ x ∧ x ≤ 3) ∧ OwnI wr w.heap.size v ps ∧ Cur wr g A cap xs ∧ Frm (fun c => c = g) w wr ∧ w.heap.size ≤ wr.heap.size) (fun _ b _ => (intOf b).toNat)
  case atStart => exact ⟨m, [], rfl, by simp, by simp, HO3.out, HC3.out, HF3.out, by omega⟩
  case round =>
    obtain ⟨k, ps, rfl, hpl, hps, hown, hcur, hfrm, hws⟩ := hrel
    obtain ⟨wo, rfl⟩ : ∃ wo : World, wo = wr := ⟨_, rfl⟩
    have HOW := Lib.hid hown
    have HCU := Lib.hid hcur
    have HFR := Lib.hid hfrm
    have HPS := Lib.hid hps
    obtain ⟨A5, c5, rfl⟩ := hown.form
    clear hown hcur hfrm hps
    by_cases hk0 : 0 < k
    · have hk0i : (0 : Int) < (k : Int) := by omega
      go_wp2_with fail
      refine (HBW.out 2 (by decide) (by decide) _ HCU.out).mono ?_
      rintro e w4 ⟨⟨d, rfl, hd⟩, hc4, hf4⟩
      have HC4 := Lib.hid hc4
      have HF4 := Lib.hid (HFR.out.trans hf4)
      have HO4 := Lib.hid (HOW.out.frm hf4 (fun c hc e => by omega))
      have hz4 := hf4.size
      obtain ⟨y, hy⟩ : ∃ y, 2 + (d : Int) = y := ⟨_, rfl⟩
      have hwy : IntKind.i64.wrap y = y := i64w (by omega)
      have hy2 : 2 ≤ y ∧ y ≤ 3 := by omega
      have hkw : IntKind.i64.wrap ((k : Int) - 1) = ((k - 1 : Nat) : Int) := by rw [show (k : Int) - 1 = ((k - 1 : Nat) : Int) by omega]; exact i64w (by omega)
      have hkw2 : (k : Int) - 1 = ((k - 1 : Nat) : Int) := by omega
      clear hc4 hf4
      go_wp2_with (at_builtin; refine wpList_append_int rfl (.tmp 13) (.tmp 17) rfl w.heap.size _ ps rfl (HO4.out.alloc _) w4.heap.size y (by rfl) (cell_new1 _ _ _) (by omega) (by simp only [World.size_alloc]; omega) ?_; intro v2 w5 hown5 hb5)
      have HO5 := Lib.hid hown5
      have hbb := ((Below.refl w.heap.size w4).alloc (by omega) (.cells #[.int .i64 y] 3)).trans hb5
      have HF5 := Lib.hid (frm_below_new HF4.out hbb (Nat.le_refl _))
      have HC5 := Lib.hid (HC4.out.frm (Frm.of_below (S := fun c => w.heap.size ≤ c) hbb (fun c h1 h2 => h2)) (fun c hc => by omega))
      have hz5 := hbb.size
      clear hown5 hb5 hbb
      go_wp2_with fail
      go_roundw
      case rel =>
        refine ⟨k - 1, ps ++ [y], by go_num, by rw [List.length_append]; show ps.length + 1 + (k - 1) = m; omega, fun x hx => ?_, HO5.out, HC5.out, HF5.out, by omega⟩
        rcases List.mem_append.1 hx with h | h
        · exact HPS.out x h
        · rw [List.mem_singleton.1 h]; exact hy2
      case measure => simp [intOf]; omega
    · have hk0i : ¬ (0 : Int) < (k : Int) := by omega
      have HI := Lib.hid (HOW.out.ints (fun x hx => by have := HPS.out x hx; unfold Fits; omega))
      go_wp2_with fail
      go_ret
      exact ⟨⟨ps, A5, c5, rfl, ⟨by omega, by omega, HPS.out⟩, HI.out⟩, HFR.out⟩

set_option maxRecDepth 100000 in
set_option maxHeartbeats 1000000 in
theorem spec_l22Draw_any (g : Nat) (A : Option Addr) (cap : Nat) (xs : List Int) (w : World) (hC : Cur w g A cap xs) :
    Calls Tryz.prog 60 #[.pointer (some ⟨g, 0, none⟩)] w fun e w' => RetP2 (fun ps => ps.length ≤ 6 ∧ ∀ x ∈ ps, 0 ≤ x ∧ x ≤ 1000) w' e ∧ Frm (fun c => c = g) w w' := by
  have hgw : g < w.heap.size := hC.2.1
  have HBW := Lib.hid (fun n (h1 : 1 ≤ n) (h2 : n ≤ 256) V (hV : Cur V g A cap xs) => spec_l01Below_any g A cap xs n V hV h1 h2)
  have HAL := Lib.hid ((Below.refl w.heap.size w).alloc (Nat.le_refl _) (.cells #[] 3))
  have HC1 := Lib.hid (hC.frm (Frm.pure HAL.out (fun _ => False)) (fun _ h => h.elim))
  have HF1 := Lib.hid ((Frm.refl (fun c => c = g) w).alloc (.cells #[] 3))
  have HO1 := Lib.hid (OwnI.empty_at w w.heap.size w.heap.size rfl (Nat.le_refl _))
  clear hC
  go_enter Tryz.func60, Tryz.ntmps60
  go_wp2_with fail
  refine (HBW.out 30 (by decide) (by decide) _ HC1.out).mono ?_
  rintro e w2 ⟨⟨t0, rfl, ht0⟩, hc2, hf2⟩
  have HC2 := Lib.hid hc2
  have HF2 := Lib.hid (HF1.out.trans hf2)
  have HO2 := Lib.hid (HO1.out.frm hf2 (fun c hc e => by omega))
  have hz2 := hf2.size
  simp only [World.size_alloc] at hz2
  clear hc2 hf2
  go_wp2_with fail
  refine (HBW.out 7 (by decide) (by decide) _ HC2.out).mono ?_
  rintro e w3 ⟨⟨n, rfl, hn⟩, hc3, hf3⟩
  have HC3 := Lib.hid hc3
  have HF3 := Lib.hid (HF2.out.trans hf3)
  have HO3 := Lib.hid (HO2.out.frm hf3 (fun c hc e => by omega))
  have hz3 := hf3.size
  clear hc3 hf3
  go_wp2_with fail
  go_loopw [3, 4, 5] (fun v a b wr => ∃ (t k : Nat) (ps : List Int), a = .int .i64 t ∧ b = .int .i64 k ∧ k ≤ 6 ∧ t + 60 * k ≤ 400 ∧ ps.length + k ≤ 6 ∧ (∀ x ∈ ps, 0 ≤ x ∧ x ≤ 1000) ∧ OwnI wr w.heap.size v ps ∧ Cur wr g A cap xs ∧ Frm (fun c => c = g) w wr ∧ w.heap.size ≤ wr.heap.size) (fun _ _ b _ => (intOf b).toNat)
  case atStart => exact ⟨t0, n, [], rfl, rfl, by omega, by omega, by simp; omega, by simp, HO3.out, HC3.out, HF3.out, by omega⟩
  case round =>
    obtain ⟨t, k, ps, rfl, rfl, hk6, htk, hpl, hps, hown, hcur, hfrm, hws⟩ := hrel
    obtain ⟨wo, rfl⟩ : ∃ wo : World, wo = wr := ⟨_, rfl⟩
    have HOW := Lib.hid hown
    have HCU := Lib.hid hcur
    have HFR := Lib.hid hfrm
    have HPS := Lib.hid hps
    obtain ⟨A5, c5, rfl⟩ := hown.form
    clear hown hcur hfrm hps
    by_cases hk0 : 0 < k
    · have hk0i : (0 : Int) < (k : Int) := by omega
      have hkw : IntKind.i64.wrap ((k : Int) - 1) = ((k - 1 : Nat) : Int) := by rw [show (k : Int) - 1 = ((k - 1 : Nat) : Int) by omega]; exact i64w (by omega)
      have hkw2 : (k : Int) - 1 = ((k - 1 : Nat) : Int) := by omega
      go_wp2_with (at_builtin; refine wpList_append_int rfl (.tmp 15) (.tmp 17) rfl w.heap.size _ ps rfl (HOW.out.alloc _) wo.heap.size t (by rfl) (cell_new1 _ _ _) (by omega) (by simp only [World.size_alloc]; omega) ?_; intro v2 w5 hown5 hb5)
      have HO5 := Lib.hid hown5
      have hbb := ((Below.refl w.heap.size wo).alloc (by omega) (.cells #[.int .i64 t] 3)).trans hb5
      have HF5 := Lib.hid (frm_below_new HFR.out hbb (Nat.le_refl _))
      have HC5 := Lib.hid (HCU.out.frm (Frm.of_below (S := fun c => w.heap.size ≤ c) hbb (fun c h1 h2 => h2)) (fun c hc => by omega))
      have hz5 := hbb.size
      clear hown5 hb5 hbb
      refine (HBW.out 60 (by decide) (by decide) _ HC5.out).mono ?_
      rintro e w4 ⟨⟨d, rfl, hd⟩, hc4, hf4⟩
      have HC4 := Lib.hid hc4
      have HF4 := Lib.hid (HF5.out.trans hf4)
      have HO4 := Lib.hid (HO5.out.frm hf4 (fun c hc e => by omega))
      have hz4 := hf4.size
      obtain ⟨y, hy⟩ : ∃ y, t + d = y := ⟨_, rfl⟩
      have hyi : (t : Int) + (d : Int) = (y : Int) := by omega
      have hwy : IntKind.i64.wrap (y : Int) = (y : Int) := i64w (by omega)
      have hy2 : y + 60 * (k - 1) ≤ 400 := by omega
      clear hc4 hf4 hy
      go_wp2_with fail
      go_roundw
      case rel =>
        refine ⟨y, k - 1, ps ++ [(t : Int)], rfl, by go_num, by omega, by omega, by rw [List.length_append]; show ps.length + 1 + (k - 1) ≤ 6; omega, fun x hx => ?_, HO4.out, HC4.out, HF4.out, by omega⟩
        rcases List.mem_append.1 hx with h | h
        · exact HPS.out x h
        · rw [List.mem_singleton.1 h]; omega
      case measure => simp [intOf]; omega
    · have hk0i : ¬ (0 : Int) < (k : Int) := by omega
      have HI := Lib.hid (HOW.out.ints (fun x hx => by have := HPS.out x hx; unfold Fits; omega))
      go_wp2_with fail
      go_ret
      exact ⟨⟨ps, A5, c5, rfl, ⟨by omega, HPS.out⟩, HI.out⟩, HFR.out⟩

set_option maxHeartbeats 400000 in
theorem spec_l01Pick_any (g b c : Nat) (A : Option Addr) (cap : Nat) (xs ys : List Int) (w : World) (hC : Cur w g A cap xs) (hbg : b ≠ g) (hb : b < w.heap.size)
    (hy : ∀ i, i < ys.length → w.cell? ⟨b, i, none⟩ = some (.int .i64 (ys.getD i 0))) (h1 : 1 ≤ ys.length) (h2 : ys.length ≤ 256) :
    Calls Tryz.prog 97 #[.pointer (some ⟨g, 0, none⟩), .slice (some ⟨b, 0, none⟩) ys.length c] w fun e w' => (∃ y, e = .returned (.int .i64 y) ∧ y ∈ ys) ∧ Cur w' g A cap xs ∧ Frm (fun c => c = g) w w' := by
  have HBW := Lib.hid (spec_l01Below_any g A cap xs ys.length w hC h1 h2)
  have HY := Lib.hid hy
  clear hC hy
  go_enter Tryz.func97, Tryz.ntmps97
  go_wp2_with fail
  refine HBW.out.mono ?_
  rintro e w1 ⟨⟨n, rfl, hn⟩, hc1, hf1⟩
  have hcell := (hf1.cell hb hbg).trans (HY.out n hn)
  have HM := Lib.hid (show ys.getD n 0 ∈ ys by rw [List.getD_eq_getElem?_getD, List.getElem?_eq_getElem hn]; exact List.getElem_mem hn)
  have HC1 := Lib.hid hc1
  have HF1 := Lib.hid hf1
  have hni : (n : Int) < (ys.length : Int) := by omega
  generalize ys.getD n 0 = y at *
  clear hc1 hf1
  go_wp2_with fail
  go_ret
  exact ⟨⟨y, rfl, HM.out⟩, HC1.out, HF1.out⟩

def pickN : List Int := [2, 3, 4, 6, 8, 9, 12, 16, 18, 24]
theorem pickN_ok {y : Int} (h : y ∈ pickN) : ∃ N : Nat, y = N ∧ 1 ≤ N ∧ N ≤ 24 ∧ 1 ≤ (mtrL N).length := by
  have key : ∀ z ∈ pickN, (0 ≤ z ∧ 1 ≤ z.toNat ∧ z.toNat ≤ 24 ∧ 1 ≤ (mtrL z.toNat).length) := by decide +kernel
  obtain ⟨h0, h1, h2, h3⟩ := key y h
  exact ⟨y.toNat, by omega, h1, h2, h3⟩

set_option maxRecDepth 100000 in
set_option maxHeartbeats 1000000 in
theorem spec_l18Draw_any (g : Nat) (A : Option Addr) (cap : Nat) (xs : List Int) (w : World) (hC : Cur w g A cap xs) :
    Calls Tryz.prog 58 #[.pointer (some ⟨g, 0, none⟩)] w fun e w' => RetP2 MetOk w' e ∧ Frm (fun c => c = g) w w' := by
  have hgw : g < w.heap.size := hC.2.1
  have HAL := Lib.hid ((Below.refl w.heap.size w).alloc (Nat.le_refl _) (.cells (pickN.map (Value.int .i64)).toArray 3))
  have HC1 := Lib.hid (hC.frm (Frm.pure HAL.out (fun _ => False)) (fun _ h => h.elim))
  have HF1 := Lib.hid ((Frm.refl (fun c => c = g) w).alloc (.cells (pickN.map (Value.int .i64)).toArray 3))
  have hpc : ∀ i, i < pickN.length → (w.alloc (.cells (pickN.map (Value.int .i64)).toArray 3)).cell? ⟨w.heap.size, i, none⟩ = some (.int .i64 (pickN.getD i 0)) := fun i hi => by
    rw [cell_of_row _ _ _ _ _ _ (heap_alloc_new w (.cells (pickN.map (Value.int .i64)).toArray 3)), ← Array.getElem?_toList, List.getElem?_map, List.getD_eq_getElem?_getD, List.getElem?_eq_getElem hi]
    rfl
  have hp := spec_l01Pick_any g w.heap.size 10 A cap xs pickN _ HC1.out (by omega) (by simp) hpc (by decide) (by decide)
  have he : (pickN.map (Value.int .i64)).toArray = #[.int .i64 2, .int .i64 3, .int .i64 4, .int .i64 6, .int .i64 8, .int .i64 9, .int .i64 12, .int .i64 16, .int .i64 18, .int .i64 24] := rfl
  rw [he, show pickN.length = 10 from rfl] at hp
  rw [he] at HC1 HF1
  have HP := Lib.hid hp
  clear hp he hpc HAL
  clear hC
  go_enter Tryz.func58, Tryz.ntmps58
  go_wp2_with fail
  refine HP.out.mono ?_
  rintro e w1 ⟨⟨y, rfl, hy⟩, hc1, hf1⟩
  obtain ⟨N, rfl, n1, n2, n3⟩ := pickN_ok hy
  have HC2 := Lib.hid hc1
  have HF2 := Lib.hid (HF1.out.trans hf1)
  have HMT := Lib.hid (spec_MetersOf_new N w1 n1 n2)
  have HOK := Lib.hid (fun x (hx : x ∈ mtrL N) => (mtrL_ok n2 hx).1)
  have hml := mtrL_len n2
  generalize mtrL N = L at *
  have hz1 := hf1.size
  simp only [World.size_alloc] at hz1
  clear hc1 hf1 hy HC1 HP
  go_wp2_with fail
  refine HMT.out.mono ?_
  rintro e w2 ⟨v, rs, rfl, ho2, ⟨hrs, hnk⟩, hb2⟩
  have HNK := Lib.hid hnk
  clear hnk
  obtain ⟨A2, c2, rfl⟩ := ho2.form
  have hrl1 : 1 ≤ rs.length ∧ rs.length ≤ 100 := by have : rs.length = L.length := by rw [← hrs, List.length_map]
                                                    omega
  have HO2 := Lib.hid ho2
  have HC3 := Lib.hid (HC2.out.frm (Frm.pure hb2 (fun _ => False)) (fun _ h => h.elim))
  have HF3 := Lib.hid (frm_below_new HF2.out hb2 (by omega))
  have HRS := Lib.hid hrs
  have hz2 := hb2.size
  clear ho2 hb2 hrs
  go_wp2_with fail
  refine (spec_l01Below_any g A cap xs rs.length w2 HC3.out (by omega) (by omega)).mono ?_
  rintro e w3 ⟨⟨n, rfl, hn⟩, hc3, hf3⟩
  obtain ⟨gg, rfl, gg1, gg2, gg3⟩ := HO2.out.cells (by omega)
  have hcell := (hf3.cell gg2 (by omega)).trans (gg3 n hn)
  have hrd := HO2.out.2 rs[n] (List.getElem_mem hn)
  have HRD := Lib.hid (show Ints w3 w3.heap.size rs[n].A rs[n].xs by
    obtain ⟨i1, i2, i3⟩ := hrd.2.1
    refine ⟨i1, i2, fun hn' => ?_⟩
    obtain ⟨bb, off, e, q1, q2⟩ := i3 hn'
    obtain ⟨bb2, off2, t2, e2, q3⟩ := HNK.out rs[n] (List.getElem_mem hn) hn'
    rw [e] at e2
    injection e2 with e2
    injection e2 with e3
    exact ⟨bb, off, e, Nat.lt_of_lt_of_le q1 hf3.size, fun i hi => (hf3.cell q1 (by omega)).trans (q2 i hi)⟩)
  have HOX := Lib.hid (HOK.out rs[n].xs (by rw [← HRS.out]; exact List.mem_map.2 ⟨rs[n], List.getElem_mem hn, rfl⟩))
  have HF4 := Lib.hid (HF3.out.trans hf3)
  have hni : (n : Int) < (rs.length : Int) := by omega
  obtain ⟨r, hr⟩ : ∃ r, rs[n] = r := ⟨_, rfl⟩
  rw [hr] at hcell HRD HOX
  have hsl : r.slc = .slice r.A r.xs.length r.c := rfl
  rw [hsl] at hcell
  clear hc3 hf3 hrd gg3 hr
  go_wp2_with fail
  go_ret
  exact ⟨⟨r.xs, r.A, r.c, rfl, HOX.out, HRD.out⟩, HF4.out⟩

end Go.Proofs.YthookknmeajojaaGreatDoor
