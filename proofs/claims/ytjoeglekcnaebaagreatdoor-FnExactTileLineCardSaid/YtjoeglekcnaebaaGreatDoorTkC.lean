/-
  Several texts of this proof in one: TilV, TilF, TilG, TilH, TilX, TilW.
-/
import Derived.Test.YtjoeglekcnaebaaGreatDoorTkB
import Derived.Test.YtjoeglekcnaebaaGreatDoorColl
namespace Go.Proofs.YtjoeglekcnaebaaGreatDoor
open Go.RowKit
set_option linter.unusedVariables false
set_option linter.unusedSimpArgs false

set_option maxHeartbeats 400000 in
theorem slices_Clip_none (w : World) :
    Calls Tryz.prog 133 #[.slice none 0 0] w fun e w' => e = .returned (.slice none 0 0) ∧ w = w' := by
  go_enter Tryz.func133, Tryz.ntmps133
  go_wp2_with fail
  go_ret
  exact ⟨rfl, rfl⟩

set_option maxRecDepth 100000 in
set_option maxHeartbeats 1000000 in
theorem impl_ended_none (w : World) :
    Calls Tryz.prog 122 #[.slice none 0 0] w fun e w' => e = .returned (.slice none 0 0) ∧ w = w' := by
  have HCL := Lib.hid (slices_Clip_none w)
  go_enter Tryz.func122, Tryz.ntmps122
  go_wp2_with fail
  go_loop [0] (fun a => a = .slice none 0 0) (fun _ => 0)
  case atStart => exact rfl
  case round =>
    obtain rfl := hrel
    go_wp2_with fail
    refine HCL.out.mono ?_
    rintro e w1 ⟨rfl, rfl⟩
    go_wp2_with fail
    go_ret
    exact ⟨rfl, rfl⟩
theorem impl_ended_zero (A : Option Addr) (c : Nat) (w : World) (base : Nat) (h : OwnI w base (.slice A ([] : List Int).length c) []) :
    Calls Tryz.prog 122 #[.slice A 0 c] w fun e w' => (∃ A', e = .returned (.slice A' 0 0)) ∧ w = w' := by
  rcases h.2 with ⟨hv, _⟩ | ⟨g, cap', cur, hv, _⟩
  · injection hv with h1 h2 h3
    subst h1 h3
    refine (impl_ended_none w).mono ?_
    rintro e w' ⟨rfl, rfl⟩
    exact ⟨⟨_, rfl⟩, rfl⟩
  · injection hv with h1 h2 h3
    subst h1
    refine (impl_ended_any g 0 c (fun _ => 0) 0 w w.heap.size ⟨Nat.zero_le _, (by intro x hx; cases hx), fun h => absurd h (Nat.lt_irrefl 0)⟩ (by omega) (Nat.zero_le _)).mono ?_
    rintro e w' ⟨rfl, rfl⟩
    exact ⟨⟨_, rfl⟩, rfl⟩

set_option maxRecDepth 100000 in
set_option maxHeartbeats 2000000 in
theorem impl_divided_zero (A1 A2 : Option Addr) (c1 c2 : Nat) (b : List Int) (w : World) (hb1 : 1 ≤ b.length) (hb2 : b.length ≤ 100) :
    Calls Tryz.prog 101 #[.slice A1 0 c1, .slice A2 b.length c2] w fun e w' => (∃ A3 A4, e = .returned (.tuple #[.slice A3 0 0, .slice A4 0 0])) ∧ Below w.heap.size w w' := by
  have HCL := Lib.hid (clone_ints A1 c1 [] w ⟨Nat.zero_le _, (by intro x hx; cases hx), fun h => absurd h (Nat.lt_irrefl 0)⟩ (by decide))
  have hmk : ∀ V : World, (Instr.makeSlice 22 (.int .i64 0) (.int .i64 0)).run Tryz.prog V = .ok (.slice (some ⟨V.heap.size, 0, none⟩) 0 0) (V.alloc (.cells (madeCells #[.int .i64 0] 0) 3)) := fun V => run_make_int 0 (by omega) V
  have HE1 := Lib.hid (fun g V => impl_ended_any g 0 0 (fun _ => 0) 0 V V.heap.size ⟨Nat.zero_le _, (by intro x hx; cases hx), fun h => absurd h (Nat.lt_irrefl 0)⟩ (by omega) (Nat.le_refl _))
  go_enter Tryz.func101, Tryz.ntmps101
  go_wp2_with fail
  refine HCL.out.mono ?_
  rintro e w1 ⟨v1, rfl, hown, hb⟩
  obtain ⟨AR, cR, rfl⟩ := hown.form
  have HB1 := Lib.hid hb
  have hz1 := hb.size
  have HO := Lib.hid hown
  clear hown hb
  have hbn : (b = []) = False := eq_false (fun h => by subst h; simp at hb1)
  have hw0 : IntKind.i64.wrap (-(b.length : Int)) = -(b.length : Int) := i64w (by omega)
  have hw1 : IntKind.i64.wrap (0 - (b.length : Int)) = -(b.length : Int) := by rw [i64w (by omega)]; omega
  go_wp2_with fail
  have HB2 := Lib.hid (HB1.out.alloc hz1 (.cells (madeCells #[.int .i64 0] 0) 3))
  have HO2 := Lib.hid (HO.out.alloc (.cells (madeCells #[.int .i64 0] 0) 3))
  generalize w1.alloc (.cells (madeCells #[.int .i64 0] 0) 3) = W at *
  obtain ⟨gQ, hgQ⟩ : ∃ g, w1.heap.size = g := ⟨_, rfl⟩
  rw [hgQ]
  go_loopw [8] (fun i wr => i = .int .i64 (-(b.length : Int)) ∧ wr = W) (fun _ _ => 0)
  case atStart => exact ⟨rfl, rfl⟩
  case round =>
    obtain ⟨rfl, rfl⟩ := hrel
    have HE2 := Lib.hid (impl_ended_zero AR cR _ _ HO2.out)
    go_wp2_with fail
    refine (HE1.out gQ _).mono ?_
    rintro e w2 ⟨rfl, rfl⟩
    go_wp2_with fail
    refine HE2.out.mono ?_
    rintro e w3 ⟨⟨A5, rfl⟩, rfl⟩
    rw [show trimN (fun _ => 0) 0 = 0 from rfl]
    go_wp2_with fail
    refine bodyPost_ret (v := .tuple #[.slice (some ⟨gQ, 0, none⟩) 0 0, .slice A5 0 0]) (by simp [results, Tryz.results101, go_sem]) rfl ?_
    exact ⟨⟨_, _, rfl⟩, HB2.out⟩

theorem polL_fits (N : Nat) (bs : List Int) : ∀ x ∈ polL N bs, Fits x := fun x hx => by
  unfold polL endF lstF at hx
  rw [List.mem_map] at hx
  obtain ⟨t, _, rfl⟩ := hx
  unfold polF Fits; split <;> omega
/-- How much is left when the rhythm's polynomial is divided by the d-th cyclotomic one. -/
def rstN (N : Nat) (bs : List Int) (d : Nat) : Nat := (rstL (polL N bs) (cycI 24 d)).length
theorem rstN_zero {N : Nat} {bs : List Int} {d : Nat} (h : (polL N bs).length = 0) : rstN N bs d = 0 := by
  have := endF_len (divF (polL N bs) (cycI 24 d) (divM (polL N bs) (cycI 24 d))) (polL N bs).length
  unfold rstN rstL
  omega

set_option maxRecDepth 100000 in
set_option maxHeartbeats 2000000 in
theorem impl_RestBy_any (N d : Nat) (A : Option Addr) (cap : Nat) (bs : List Int) (w : World) (hA : Ints w w.heap.size A bs) (hok : RhOk N bs) (hd1 : 1 ≤ d) (hd2 : d ≤ 24) :
    Calls Tryz.prog 86 #[.agg #[.int .i64 N, .slice A bs.length cap], .int .i64 d] w fun e w' => (∃ A' c, e = .returned (.slice A' (rstN N bs d) c)) ∧ Below w.heap.size w w' := by
  have hn1 : 1 ≤ N := by have := hok.1; omega
  have hn2 : N ≤ 24 := by have := hok.2.1; omega
  have hfN : Fits (N : Int) := by unfold Fits; omega
  have hr : rhB N bs = true := rhB_iff.2 hok
  have HRO := Lib.hid (fun V h => hr ▸ impl_RhythmOk_any N A cap bs V hfN h)
  have HPO := Lib.hid (fun V h => impl_polynomial_any N A cap bs V h hok)
  have hoc := okC_all d (by omega) hd1
  have HCY := Lib.hid (fun V => impl_cyclotomic_any 24 d V hd1 hd2 hoc)
  obtain ⟨hcs, hcl, hcm⟩ := cyc_same 24 d hd1 hoc
  have hc1 : 1 ≤ (cycI 24 d).length := by rw [hcs]; exact hcm.1
  have hc2 : (cycI 24 d).length ≤ 100 := by rw [hcs, hcl]; have := lenC_le 24 d hoc; omega
  have hpl : (polL N bs).length ≤ 24 := Nat.le_trans (endF_len _ _) hn2
  have hin : inB (d : Int) 1 24 = true := inB_true ⟨by omega, by omega⟩
  have HBW := Lib.hid ((Below.refl w.heap.size w).alloc (Nat.le_refl _) (.cells #[.int .i64 N, .slice A (bs).length cap] 27))
  have HVA := Lib.hid (Hav.boxed hA N cap)
  have HDV := Lib.hid (fun (h : 1 ≤ (polL N bs).length) A1 A2 c1 c2 V h1 h2 => impl_divided_any A1 A2 c1 c2 (polL N bs) (cycI 24 d) V h1 h2 h (by omega) hc1 hc2)
  have HDZ := Lib.hid (fun A1 A2 c1 c2 V => impl_divided_zero A1 A2 c1 c2 (cycI 24 d) V hc1 hc2)
  have HRZ := Lib.hid (fun (h : (polL N bs).length = 0) => (rstN_zero h : rstN N bs d = 0))
  have HRN := Lib.hid (show rstN N bs d = (rstL (polL N bs) (cycI 24 d)).length from rfl)
  generalize rstN N bs d = rn at *
  generalize cycI 24 d = Y at *
  generalize polL N bs = X at *
  clear hA hok hr hoc hcs hcl hcm
  obtain ⟨⟨p0, p1, _, _, _⟩, _⟩ := HVA.out
  go_enter Tryz.func86, Tryz.ntmps86
  go_wp2_with fail
  generalize w.alloc (.cells #[.int .i64 N, .slice A (bs).length cap] 27) = W at *
  refine (HRO.out _ HVA.out.2).mono ?_
  rintro e w1 ⟨rfl, hb⟩
  have HBW := Lib.hid (HBW.out.trans (hb.mono HBW.out.size))
  try have HVA := Lib.hid (HVA.out.lift hb)
  try have HVB := Lib.hid (HVB.out.lift hb)
  try have HVC := Lib.hid (HVC.out.lift hb)
  try have HVT := Lib.hid (HVT.out.lift hb)
  try have HVX := Lib.hid (HVX.out.lift hb)
  try have HVM := Lib.hid (HVM.out.lift hb)
  try have HVF := Lib.hid (HVF.out.lift hb)
  try have HVP := Lib.hid (HVP.out.lift hb)
  try have HVQ := Lib.hid (HVQ.out.lift hb)
  try have HLA := Lib.hid (HLA.out.lift hb)
  try have HLW := Lib.hid (HLW.out.lift hb)
  try have HI := Lib.hid (HI.out.lift hb)
  try have HRB := Lib.hid (HRB.out.trans (hb.mono HRB.out.size))
  try have HWW := Lib.hid (HWW.out.trans (hb.mono HWW.out.size))
  clear hb
  clear p0 p1
  obtain ⟨⟨p0, p1, _, _, _⟩, _⟩ := HVA.out
  go_wp2_with (go_at_call 42; refine (within_any _ _ _ _).mono ?_; rintro e w' ⟨rfl, rfl⟩)
  refine (HPO.out _ HVA.out.2).mono ?_
  rintro e w2 ⟨A2, rfl, hI2, _, hb⟩
  have HBW := Lib.hid (HBW.out.trans (hb.mono HBW.out.size))
  try have HVA := Lib.hid (HVA.out.lift hb)
  try have HVB := Lib.hid (HVB.out.lift hb)
  try have HVC := Lib.hid (HVC.out.lift hb)
  try have HVT := Lib.hid (HVT.out.lift hb)
  try have HVX := Lib.hid (HVX.out.lift hb)
  try have HVM := Lib.hid (HVM.out.lift hb)
  try have HVF := Lib.hid (HVF.out.lift hb)
  try have HVP := Lib.hid (HVP.out.lift hb)
  try have HVQ := Lib.hid (HVQ.out.lift hb)
  try have HLA := Lib.hid (HLA.out.lift hb)
  try have HLW := Lib.hid (HLW.out.lift hb)
  try have HI := Lib.hid (HI.out.lift hb)
  try have HRB := Lib.hid (HRB.out.trans (hb.mono HRB.out.size))
  try have HWW := Lib.hid (HWW.out.trans (hb.mono HWW.out.size))
  clear hb
  have HVX := Lib.hid hI2
  clear hI2 p0 p1
  go_wp2_with fail
  refine (HCY.out _).mono ?_
  rintro e w3 ⟨g3, c3, rfl, hI3, hb⟩
  have HBW := Lib.hid (HBW.out.trans (hb.mono HBW.out.size))
  try have HVA := Lib.hid (HVA.out.lift hb)
  try have HVB := Lib.hid (HVB.out.lift hb)
  try have HVC := Lib.hid (HVC.out.lift hb)
  try have HVT := Lib.hid (HVT.out.lift hb)
  try have HVX := Lib.hid (HVX.out.lift hb)
  try have HVM := Lib.hid (HVM.out.lift hb)
  try have HVF := Lib.hid (HVF.out.lift hb)
  try have HVP := Lib.hid (HVP.out.lift hb)
  try have HVQ := Lib.hid (HVQ.out.lift hb)
  try have HLA := Lib.hid (HLA.out.lift hb)
  try have HLW := Lib.hid (HLW.out.lift hb)
  try have HI := Lib.hid (HI.out.lift hb)
  try have HRB := Lib.hid (HRB.out.trans (hb.mono HRB.out.size))
  try have HWW := Lib.hid (HWW.out.trans (hb.mono HWW.out.size))
  clear hb
  have HVT := Lib.hid hI3
  clear hI3
  by_cases h0 : X.length = 0
  · have HZ := Lib.hid (HRZ.out h0)
    have hX0 : X = [] := List.eq_nil_of_length_eq_zero h0
    subst hX0
    go_wp2_with fail
    refine (HDZ.out A2 _ 0 c3 _).mono ?_
    rintro e w4 ⟨⟨A4, A5, rfl⟩, hb⟩
    have HBW := Lib.hid (HBW.out.trans (hb.mono HBW.out.size))
    try have HVA := Lib.hid (HVA.out.lift hb)
    try have HVB := Lib.hid (HVB.out.lift hb)
    try have HVC := Lib.hid (HVC.out.lift hb)
    try have HVT := Lib.hid (HVT.out.lift hb)
    try have HVX := Lib.hid (HVX.out.lift hb)
    try have HVM := Lib.hid (HVM.out.lift hb)
    try have HVF := Lib.hid (HVF.out.lift hb)
    try have HVP := Lib.hid (HVP.out.lift hb)
    try have HVQ := Lib.hid (HVQ.out.lift hb)
    try have HLA := Lib.hid (HLA.out.lift hb)
    try have HLW := Lib.hid (HLW.out.lift hb)
    try have HI := Lib.hid (HI.out.lift hb)
    try have HRB := Lib.hid (HRB.out.trans (hb.mono HRB.out.size))
    try have HWW := Lib.hid (HWW.out.trans (hb.mono HWW.out.size))
    clear hb
    go_wp2_with fail
    go_ret
    exact ⟨⟨A5, 0, by rw [HZ.out]; rfl⟩, HBW.out⟩
  · have HD := Lib.hid (HDV.out (by omega))
    go_wp2_with fail
    refine (HD.out _ _ _ _ _ HVX.out HVT.out).mono ?_
    rintro e w4 ⟨g4, g5, rfl, _, _, hb⟩
    have HBW := Lib.hid (HBW.out.trans (hb.mono HBW.out.size))
    try have HVA := Lib.hid (HVA.out.lift hb)
    try have HVB := Lib.hid (HVB.out.lift hb)
    try have HVC := Lib.hid (HVC.out.lift hb)
    try have HVT := Lib.hid (HVT.out.lift hb)
    try have HVX := Lib.hid (HVX.out.lift hb)
    try have HVM := Lib.hid (HVM.out.lift hb)
    try have HVF := Lib.hid (HVF.out.lift hb)
    try have HVP := Lib.hid (HVP.out.lift hb)
    try have HVQ := Lib.hid (HVQ.out.lift hb)
    try have HLA := Lib.hid (HLA.out.lift hb)
    try have HLW := Lib.hid (HLW.out.lift hb)
    try have HI := Lib.hid (HI.out.lift hb)
    try have HRB := Lib.hid (HRB.out.trans (hb.mono HRB.out.size))
    try have HWW := Lib.hid (HWW.out.trans (hb.mono HWW.out.size))
    clear hb
    go_wp2_with fail
    go_ret
    exact ⟨⟨some ⟨g5, 0, none⟩, _, by rw [HRN.out]; rfl⟩, HBW.out⟩

def vanB (N : Nat) (bs : List Int) (d : Nat) : Bool := decide (rstN N bs d = 0)

set_option maxRecDepth 100000 in
set_option maxHeartbeats 2000000 in
theorem impl_VanishesAt_any (N d : Nat) (A : Option Addr) (cap : Nat) (bs : List Int) (w : World) (hA : Ints w w.heap.size A bs) (hok : RhOk N bs) (hd1 : 1 ≤ d) (hd2 : d ≤ 24) :
    Calls Tryz.prog 63 #[.agg #[.int .i64 N, .slice A bs.length cap], .int .i64 d] w fun e w' => e = .returned (.bool (vanB N bs d)) ∧ Below w.heap.size w w' := by
  have hn2 : N ≤ 24 := by have := hok.2.1; omega
  have hfN : Fits (N : Int) := by unfold Fits; omega
  have hr : rhB N bs = true := rhB_iff.2 hok
  have HRO := Lib.hid (fun V h => hr ▸ impl_RhythmOk_any N A cap bs V hfN h)
  have HRB := Lib.hid (fun V h => impl_RestBy_any N d A cap bs V h hok hd1 hd2)
  have hin : inB (d : Int) 1 24 = true := inB_true ⟨by omega, by omega⟩
  have HV := Lib.hid (show vanB N bs d = ((rstN N bs d : Int) == 0) by
    unfold vanB
    cases h : ((rstN N bs d : Int) == 0)
    · rw [beq_eq_false_iff_ne] at h; exact decide_eq_false (by omega)
    · rw [beq_iff_eq] at h; exact decide_eq_true (by omega))
  have HBW := Lib.hid ((Below.refl w.heap.size w).alloc (Nat.le_refl _) (.cells #[.int .i64 N, .slice A (bs).length cap] 27))
  have HVA := Lib.hid (Hav.boxed hA N cap)
  generalize rstN N bs d = rn at *
  clear hA hok hr
  obtain ⟨⟨p0, p1, _, _, _⟩, _⟩ := HVA.out
  go_enter Tryz.func63, Tryz.ntmps63
  go_wp2_with fail
  generalize w.alloc (.cells #[.int .i64 N, .slice A (bs).length cap] 27) = W at *
  refine (HRO.out _ HVA.out.2).mono ?_
  rintro e w1 ⟨rfl, hb⟩
  have HBW := Lib.hid (HBW.out.trans (hb.mono HBW.out.size))
  try have HVA := Lib.hid (HVA.out.lift hb)
  try have HVB := Lib.hid (HVB.out.lift hb)
  try have HVC := Lib.hid (HVC.out.lift hb)
  try have HVT := Lib.hid (HVT.out.lift hb)
  try have HVX := Lib.hid (HVX.out.lift hb)
  try have HVM := Lib.hid (HVM.out.lift hb)
  try have HVF := Lib.hid (HVF.out.lift hb)
  try have HVP := Lib.hid (HVP.out.lift hb)
  try have HVQ := Lib.hid (HVQ.out.lift hb)
  try have HLA := Lib.hid (HLA.out.lift hb)
  try have HLW := Lib.hid (HLW.out.lift hb)
  try have HI := Lib.hid (HI.out.lift hb)
  try have HRB := Lib.hid (HRB.out.trans (hb.mono HRB.out.size))
  try have HWW := Lib.hid (HWW.out.trans (hb.mono HWW.out.size))
  clear hb
  clear p0 p1
  obtain ⟨⟨p0, p1, _, _, _⟩, _⟩ := HVA.out
  go_wp2_with (go_at_call 42; refine (within_any _ _ _ _).mono ?_; rintro e w' ⟨rfl, rfl⟩)
  refine (HRB.out _ HVA.out.2).mono ?_
  rintro e w2 ⟨⟨A2, c2, rfl⟩, hb⟩
  have HBW := Lib.hid (HBW.out.trans (hb.mono HBW.out.size))
  try have HVA := Lib.hid (HVA.out.lift hb)
  try have HVB := Lib.hid (HVB.out.lift hb)
  try have HVC := Lib.hid (HVC.out.lift hb)
  try have HVT := Lib.hid (HVT.out.lift hb)
  try have HVX := Lib.hid (HVX.out.lift hb)
  try have HVM := Lib.hid (HVM.out.lift hb)
  try have HVF := Lib.hid (HVF.out.lift hb)
  try have HVP := Lib.hid (HVP.out.lift hb)
  try have HVQ := Lib.hid (HVQ.out.lift hb)
  try have HLA := Lib.hid (HLA.out.lift hb)
  try have HLW := Lib.hid (HLW.out.lift hb)
  try have HI := Lib.hid (HI.out.lift hb)
  try have HRB := Lib.hid (HRB.out.trans (hb.mono HRB.out.size))
  try have HWW := Lib.hid (HWW.out.trans (hb.mono HWW.out.size))
  clear hb
  go_wp2_with fail
  go_ret
  exact ⟨ret_bool HV.out.symm, HBW.out⟩

end Go.Proofs.YtjoeglekcnaebaaGreatDoor

namespace Go.Proofs.YtjoeglekcnaebaaGreatDoor
open Go.RowKit
set_option linter.unusedVariables false
set_option linter.unusedSimpArgs false

set_option maxHeartbeats 1000000 in
theorem impl_VanishingOrders1_any (N d g : Nat) (A : Option Addr) (cap : Nat) (bs : List Int) (w : World) (hA : Hav w N g A cap bs) (hok : RhOk N bs) (hd1 : 1 ≤ d) (hd2 : d ≤ 24) :
    Calls Tryz.prog 62 #[.int .i64 d, .pointer (some ⟨g, 0, none⟩)] w fun e w' => e = .returned (.bool (decide (d = 1) || !vanB N bs d)) ∧ Below w.heap.size w w' := by
  have HVV := Lib.hid (fun V h => impl_VanishesAt_any N d A cap bs V h hok hd1 hd2)
  have HVA := Lib.hid hA
  generalize vanB N bs d = v at *
  clear hA hok
  obtain ⟨⟨p0, p1, _, _, _⟩, _⟩ := HVA.out
  go_enter Tryz.func62, Tryz.ntmps62
  by_cases hd : (d : Int) = 1
  · have hd' : d = 1 := by omega
    subst hd'
    go_wp2_with fail
    go_ret
    exact ⟨rfl, Below.refl _ _⟩
  · have hd' : ¬ d = 1 := by omega
    have HD1 := Lib.hid (show decide (d = 1) = false from decide_eq_false hd')
    rw [HD1.out, Bool.false_or]
    go_wp2_with fail
    refine (HVV.out _ HVA.out.2).mono ?_
    rintro e w1 ⟨rfl, hb⟩
    go_wp2_with fail
    go_ret
    exact ⟨ret_bool (by rw [show ((d : Int) == 1) = false from beq_eq_false_iff_ne.2 hd, Bool.false_or]), hb⟩

end Go.Proofs.YtjoeglekcnaebaaGreatDoor

namespace Go.Proofs.YtjoeglekcnaebaaGreatDoor
open Go.RowKit
set_option linter.unusedVariables false
set_option linter.unusedSimpArgs false

/-- What the closure drops: 1, and every order at which the rhythm does not vanish. -/
def drpB (N : Nat) (bs : List Int) (x : Int) : Bool := decide (x = 1) || !vanB N bs x.toNat
theorem impl_VanishingOrders1_int (N g : Nat) (x : Int) (A : Option Addr) (cap : Nat) (bs : List Int) (w : World) (hA : Hav w N g A cap bs) (hok : RhOk N bs) (hx : 1 ≤ x ∧ x ≤ 24) :
    Calls Tryz.prog 62 #[.int .i64 x, .pointer (some ⟨g, 0, none⟩)] w fun e w' => e = .returned (.bool (drpB N bs x)) ∧ Below w.heap.size w w' := by
  obtain ⟨d, rfl⟩ : ∃ d : Nat, x = d := ⟨x.toNat, by omega⟩
  have h := impl_VanishingOrders1_any N d g A cap bs w hA hok (by omega) (by omega)
  have e1 : drpB N bs (d : Int) = (decide (d = 1) || !vanB N bs d) := by
    unfold drpB
    rw [Int.toNat_natCast]
    by_cases hd : d = 1
    · subst hd; rfl
    · rw [decide_eq_false hd, decide_eq_false (by omega)]
  rw [e1]
  exact h

set_option maxHeartbeats 1000000 in
theorem slices_IndexFuncV_any (N g : Nat) (A C : Option Addr) (cap cap' : Nat) (bs xs : List Int) (w : World) (hA : Hav w N g A cap bs) (hok : RhOk N bs) (hC : Ints w w.heap.size C xs) (hxs : ∀ x ∈ xs, 1 ≤ x ∧ x ≤ 24) :
    Calls Tryz.prog 85 #[.slice C xs.length cap', .func (.func 62) #[] #[.pointer (some ⟨g, 0, none⟩)]] w fun e w' => (∃ r : Int, e = .returned (.int .i64 r) ∧ ((r = -1 ∧ ∀ j, j < xs.length → drpB N bs (xs.getD j 0) = false) ∨ (∃ k : Nat, r = k ∧ k < xs.length ∧ drpB N bs (xs.getD k 0) = true ∧ ∀ j, j < k → drpB N bs (xs.getD j 0) = false))) ∧ Below w.heap.size w w' := by
  obtain ⟨hlen, hfit, hcells⟩ := hC
  unfold maxLen at hlen
  have HC := Lib.hid hcells
  have HIN := Lib.hid (fun (k : Nat) (h : k < xs.length) => hxs (xs.getD k 0) (by rw [List.getD_eq_getElem?_getD, List.getElem?_eq_getElem h]; exact List.getElem_mem h))
  have HCL := Lib.hid (fun (x : Int) (V : World) (hV : Below w.heap.size w V) (hx : 1 ≤ x ∧ x ≤ 24) => impl_VanishingOrders1_int N g x A cap bs V (hA.lift hV) hok hx)
  clear hfit hcells hA hok hxs
  go_enter Tryz.func85, Tryz.ntmps85
  go_wp2
  go_loopw [5, 8] (fun _ i wr => ∃ k : Nat, k ≤ xs.length ∧ i = .int .i64 k ∧ Below w.heap.size w wr ∧ ∀ j, j < k → drpB N bs (xs.getD j 0) = false) (fun _ i _ => xs.length - (intOf i).toNat)
  case atStart => exact ⟨0, Nat.zero_le _, rfl, Below.refl _ _, fun j h => by omega⟩
  case round =>
    obtain ⟨k, hk, rfl, hbel, hno⟩ := hrel
    have HNO := Lib.hid hno
    clear hno
    by_cases hlt : k < xs.length
    · obtain ⟨b, off, rfl, hB, hc⟩ := HC.out (by omega)
      have hcell := hc k hlt
      rw [← hbel.cell (p := ⟨b, off + k, none⟩) hB] at hcell
      have hin := HIN.out k hlt
      obtain ⟨y, hy⟩ : ∃ y, xs.getD k 0 = y := ⟨_, rfl⟩
      rw [hy] at hcell hin
      have HY := Lib.hid hy
      clear hy hc
      have HCY := Lib.hid (HCL.out y wr hbel hin)
      clear hin
      cases hxy : drpB N bs y
      · have HX := Lib.hid hxy
        rw [hxy] at HCY
        clear hxy
        go_wp2_with (go_at_call 62; refine HCY.out.mono ?_; rintro e w1 ⟨rfl, hb1⟩)
        go_roundw
        case rel =>
          refine ⟨k + 1, by omega, by go_num, hbel.trans (hb1.mono hbel.size), fun j hj => ?_⟩
          by_cases e : j = k
          · subst e; rw [HY.out]; exact HX.out
          · exact HNO.out j (by omega)
        case measure => simp [intOf]; omega
      · have HX := Lib.hid hxy
        rw [hxy] at HCY
        clear hxy
        go_wp2_with (go_at_call 62; refine HCY.out.mono ?_; rintro e w1 ⟨rfl, hb1⟩)
        go_ret
        exact ⟨⟨_, rfl, Or.inr ⟨k, rfl, hlt, by rw [HY.out]; exact HX.out, HNO.out⟩⟩, hbel.trans (hb1.mono hbel.size)⟩
    · go_wp2
      go_ret
      exact ⟨⟨_, rfl, Or.inl ⟨rfl, fun j hj => HNO.out j (by omega)⟩⟩, hbel⟩

end Go.Proofs.YtjoeglekcnaebaaGreatDoor

namespace Go.Proofs.YtjoeglekcnaebaaGreatDoor
open Go.RowKit
set_option linter.unusedVariables false
set_option linter.unusedSimpArgs false

/-- The kept ones among the first k. -/
def kpt (p : Int → Bool) (f : Nat → Int) (k : Nat) : List Int := (lstF f k).filter (fun x => !p x)
theorem kpt_zero (p : Int → Bool) (f : Nat → Int) : kpt p f 0 = [] := rfl
theorem kpt_succ (p : Int → Bool) (f : Nat → Int) (k : Nat) : kpt p f (k + 1) = if p (f k) then kpt p f k else kpt p f k ++ [f k] := by
  unfold kpt lstF
  rw [List.range_succ, List.map_append, List.filter_append]
  cases h : p (f k) <;> simp [h]
theorem kpt_all (p : Int → Bool) (f : Nat → Int) : ∀ k, (∀ j, j < k → p (f j) = false) → kpt p f k = lstF f k := by
  intro k h
  unfold kpt
  rw [List.filter_eq_self]
  intro x hx
  obtain ⟨j, hj, rfl⟩ := List.mem_map.1 hx
  rw [h j (List.mem_range.1 hj)]
  rfl
theorem kpt_le (p : Int → Bool) (f : Nat → Int) (k : Nat) : (kpt p f k).length ≤ k := by
  unfold kpt
  exact Nat.le_trans (List.length_filter_le _ _) (by rw [lstF_len]; exact Nat.le_refl _)
/-- Between rounds: the kept ones stand first, the rest from k on is as it was. -/
def kptF (p : Int → Bool) (f : Nat → Int) (k t : Nat) : Int := if t < (kpt p f k).length then (kpt p f k).getD t 0 else f t
theorem kptF_skip {p : Int → Bool} {f : Nat → Int} {k : Nat} (h : p (f k) = true) (t : Nat) : kptF p f (k + 1) t = kptF p f k t := by
  unfold kptF
  rw [kpt_succ, if_pos h]
theorem kptF_last {p : Int → Bool} {f : Nat → Int} {k : Nat} (h : p (f k) = false) : kptF p f (k + 1) (kpt p f k).length = f k := by
  have e : kpt p f (k + 1) = kpt p f k ++ [f k] := by rw [kpt_succ, if_neg (by rw [h]; exact Bool.false_ne_true)]
  unfold kptF
  rw [e, if_pos (by simp)]
  simp [List.getD_eq_getElem?_getD]
theorem kptF_keep {p : Int → Bool} {f : Nat → Int} {k : Nat} (h : p (f k) = false) {t : Nat} (ht : t ≠ (kpt p f k).length) : kptF p f (k + 1) t = kptF p f k t := by
  have e : kpt p f (k + 1) = kpt p f k ++ [f k] := by rw [kpt_succ, if_neg (by rw [h]; exact Bool.false_ne_true)]
  unfold kptF
  rw [e]
  by_cases hl : t < (kpt p f k).length
  · rw [if_pos hl, if_pos (by simp; omega), List.getD_eq_getElem?_getD, List.getD_eq_getElem?_getD, List.getElem?_append_left hl]
  · rw [if_neg hl, if_neg (by simp; omega)]
theorem kptF_at {p : Int → Bool} {f : Nat → Int} {k t : Nat} (h : k ≤ t) : kptF p f k t = f t := by
  unfold kptF
  rw [if_neg (by have := kpt_le p f k; omega)]
theorem kptF_lst (p : Int → Bool) (f : Nat → Int) (n : Nat) : lstF (kptF p f n) (kpt p f n).length = kpt p f n := by
  rw [lstF_congr (g := fun t => (kpt p f n).getD t 0) (fun t ht => by unfold kptF; rw [if_pos ht]), lstF_of]
theorem Tab.pastT {w : World} {b N : Nat} {f : Nat → Int} (h : Tab w b N f) (j : Nat) (u : Value) (hj : N ≤ j) : Tab (w.setCell ⟨b, j, none⟩ u) b N f := by
  refine ⟨by simpa [World.setCell] using h.1, fun t ht => ⟨?_, ?_⟩⟩
  · rw [World.cell?_setCell_other w _ _ _ (fun q => by injection q; omega), (h.2 t ht).1]
  · rw [World.frozen?_setCell]; exact (h.2 t ht).2
theorem Tab.clearT {b N : Nat} {f : Nat → Int} : ∀ (vs : List Value) (o : Nat) (w : World), Tab w b N f → N ≤ o → Tab (w.setCells b o vs) b N f
  | [], _, _, h, _ => h
  | v :: vs, o, w, h, ho => Tab.clearT vs (o + 1) _ (h.pastT o v ho) (by omega)
end Go.Proofs.YtjoeglekcnaebaaGreatDoor

namespace Go.Proofs.YtjoeglekcnaebaaGreatDoor
open Go.RowKit
set_option linter.unusedVariables false
set_option linter.unusedSimpArgs false

theorem below_setCellsT {B b : Nat} {a : World} (hb : B ≤ b) : ∀ (vs : List Value) (o : Nat) (w : World), Below B a w → Below B a (w.setCells b o vs)
  | [], _, _, h => h
  | v :: r, o, w, h => below_setCellsT hb r (o + 1) _ (h.setCell (by exact hb) v)

set_option maxRecDepth 100000 in
set_option maxHeartbeats 2000000 in
theorem slices_DeleteFuncV_any (N g b n c : Nat) (A : Option Addr) (cap : Nat) (bs : List Int) (f : Nat → Int) (w0 w : World) (hA : Hav w0 N g A cap bs) (hok : RhOk N bs) (hbel0 : Below w0.heap.size w0 w) (hT : Tab w b n f) (hb0 : w0.heap.size ≤ b) (hn : n ≤ 24) (hnc : n ≤ c)
    (hf : ∀ j, j < n → 1 ≤ f j ∧ f j ≤ 24) :
    Calls Tryz.prog 60 #[.slice (some ⟨b, 0, none⟩) n c, .func (.func 62) #[] #[.pointer (some ⟨g, 0, none⟩)]] w fun e w' => e = .returned (.slice (some ⟨b, 0, none⟩) (kpt (drpB N bs) f n).length c) ∧ Tab w' b (kpt (drpB N bs) f n).length (kptF (drpB N bs) f n) ∧ Below w0.heap.size w0 w' := by
  have HII := Lib.hid (slices_IndexFuncV_any N g A (some ⟨b, 0, none⟩) cap c bs (lstF f n) w (hA.lift hbel0) hok (hT.intsT (by unfold maxLen; omega) (fun t ht => by unfold Fits; have := hf t ht; omega) c) (fun x hx => by obtain ⟨j, hj, rfl⟩ := List.mem_map.1 hx; exact hf j (List.mem_range.1 hj)))
  rw [lstF_len] at HII
  have HCL := Lib.hid (fun (x : Int) (V : World) (hV : Below w0.heap.size w0 V) (hx : 1 ≤ x ∧ x ≤ 24) => impl_VanishingOrders1_int N g x A cap bs V (hA.lift hV) hok hx)
  have HF := Lib.hid hf
  have HT := Lib.hid hT
  have HB0 := Lib.hid hbel0
  clear hA hok hf hT hbel0
  generalize drpB N bs = p at *
  go_enter Tryz.func60, Tryz.ntmps60
  go_wp2_with fail
  refine HII.out.mono ?_
  rintro e w1 ⟨⟨r, rfl, hr⟩, hb⟩
  have HT := Lib.hid (HT.out.below hb HT.out.1)
  have HB0 := Lib.hid (HB0.out.trans (hb.mono HB0.out.size))
  rcases hr with ⟨rfl, hno⟩ | ⟨k0, rfl, hk0, hyes, hno⟩
  · have HE := Lib.hid (kpt_all p f n (fun j hj => by have := hno j hj; rwa [lstF_at f hj] at this))
    clear hno hb
    go_wp2_with fail
    go_ret
    refine ⟨?_, ?_, HB0.out⟩
    · rw [HE.out, lstF_len]; rfl
    · rw [HE.out, lstF_len]
      exact HT.out.congr (fun t ht => by unfold kptF; rw [HE.out, lstF_len, if_pos ht, lstF_at f ht])
  · have HK0 := Lib.hid (kpt_all p f k0 (fun j hj => by have := hno j hj; rwa [lstF_at f (by omega)] at this))
    rw [lstF_at f hk0] at hyes
    have hk1 : (kpt p f (k0 + 1)).length = k0 := by rw [kpt_succ, if_pos hyes, HK0.out, lstF_len]
    have HT := Lib.hid (HT.out.congr (g := kptF p f (k0 + 1)) (fun t ht => by
      unfold kptF
      rw [hk1]
      by_cases h : t < k0
      · rw [if_pos h, kpt_succ, if_pos hyes, HK0.out, lstF_at f h]
      · rw [if_neg h]))
    clear hno hb hyes
    have HK1 := Lib.hid hk1
    clear hk1
    go_wp2_with fail
    go_loopw [5, 6, 7] (fun i j _ wr => ∃ k : Nat, i = .int .i64 (kpt p f k).length ∧ j = .int .i64 k ∧ k ≤ n ∧ (kpt p f k).length < k ∧ Tab wr b n (kptF p f k) ∧ Below w0.heap.size w0 wr) (fun _ j _ _ => n - (intOf j).toNat)
    case atStart => exact ⟨k0 + 1, by rw [HK1.out], rfl, hk0, by rw [HK1.out]; omega, HT.out, HB0.out⟩
    case round =>
      obtain ⟨k, rfl, rfl, hk, hlt, htab, hbel⟩ := hrel
      have HTB := Lib.hid htab
      have HBL := Lib.hid hbel
      obtain ⟨i, hi⟩ : ∃ i, (kpt p f k).length = i := ⟨_, rfl⟩
      rw [hi] at hlt
      rw [hi]
      have HI := Lib.hid hi
      clear hi
      by_cases hkn : k < n
      · have hck := htab.get hkn (kptF_at (Nat.le_refl k))
        have hin := HF.out k hkn
        have hci := (htab.2 i (by omega)).1
        have hfi := (htab.2 i (by omega)).2
        have hbs := htab.1
        clear htab hbel
        obtain ⟨y, hy⟩ : ∃ y, f k = y := ⟨_, rfl⟩
        rw [hy] at hck hin
        have HY := Lib.hid hy
        clear hy
        have HCY := Lib.hid (HCL.out y wr HBL.out hin)
        clear hin
        cases hxy : p y
        · have HX := Lib.hid hxy
          rw [hxy] at HCY
          clear hxy
          clear hci hfi
          go_wp2_with (go_at_call 62; refine HCY.out.mono ?_; rintro e w2 ⟨rfl, hb1⟩; have HTB := Lib.hid (HTB.out.below hb1 HTB.out.1); have HBL := Lib.hid (HBL.out.trans (hb1.mono HBL.out.size)); have hci := (HTB.out.2 i (by omega)).1; have hfi := (HTB.out.2 i (by omega)).2)
          go_roundw
          case rel =>
            refine ⟨_, _, _, _, _, _, _, _, _, _, _, _, _, _, _, _, _, _, _, _, _, _, _, ?_, rfl⟩
            have hp' : p (f k) = false := by rw [HY.out]; exact HX.out
            have hl' : (kpt p f (k + 1)).length = i + 1 := by rw [kpt_succ, if_neg (by rw [hp']; exact Bool.false_ne_true), List.length_append, HI.out]; rfl
            refine ⟨k + 1, by rw [hl']; go_num, by go_num, by omega, by omega, ?_, ?_⟩
            · exact HTB.out.set_ i y (by omega) (by rw [← HI.out, kptF_last hp', HY.out]) (fun t ht hne => kptF_keep hp' (by rw [HI.out]; exact hne))
            · exact HBL.out.setCell (p := ⟨b, i, none⟩) hb0 _
          case measure => simp [intOf]; omega
        · have HX := Lib.hid hxy
          rw [hxy] at HCY
          clear hxy
          go_wp2_with (go_at_call 62; refine HCY.out.mono ?_; rintro e w2 ⟨rfl, hb1⟩)
          go_roundw
          case rel =>
            refine ⟨_, _, _, _, _, _, _, _, _, _, _, _, _, _, _, _, _, _, _, _, _, _, _, ?_, rfl⟩
            have hp' : p (f k) = true := by rw [HY.out]; exact HX.out
            have hl' : kpt p f (k + 1) = kpt p f k := by rw [kpt_succ, if_pos hp']
            exact ⟨k + 1, by rw [hl', HI.out], by go_num, by omega, by rw [hl', HI.out]; omega, (HTB.out.below hb1 HTB.out.1).congr (fun t _ => (kptF_skip hp' t).symm), HBL.out.trans (hb1.mono HBL.out.size)⟩
          case measure => simp [intOf]; omega
      · obtain rfl : k = n := by omega
        have hcl : ∀ ty, (Builtin.clear_ #[22] ty #[.slice (some ⟨b, i, none⟩) (k - i) (c - i)]).run Tryz.prog wr = .ok (.tuple #[]) (wr.setCells b i (List.replicate (k - i) (.int .i64 0))) :=
          fun ty => Lib.run_clear_slice wr _ 3 ty _ rfl (fun _ => rfl) rfl rfl b i _ _ (by omega) (fun t ht => by rw [(HTB.out.2 (i + t) (by omega)).1]; rfl) (fun t ht => (HTB.out.2 (i + t) (by omega)).2)
        clear htab hbel
        go_wp2_with fail
        go_ret
        refine ⟨by rw [HI.out]; rfl, ?_, ?_⟩
        · rw [HI.out]
          exact Tab.clearT _ _ _ ⟨HTB.out.1, fun t ht => HTB.out.2 t (by omega)⟩ (Nat.le_refl _)
        · exact below_setCellsT hb0 _ _ _ HBL.out

end Go.Proofs.YtjoeglekcnaebaaGreatDoor

namespace Go.Proofs.YtjoeglekcnaebaaGreatDoor
open Go.RowKit
set_option linter.unusedVariables false
set_option linter.unusedSimpArgs false

theorem OwnI.tabW {w : World} {base g cap : Nat} {xs : List Int} (h : OwnI w base (.slice (some ⟨g, 0, none⟩) xs.length cap) xs) : base ≤ g ∧ xs.length ≤ cap ∧ Tab w g xs.length (fun t => xs.getD t 0) := by
  obtain ⟨hb, hl, hm, cur, hh, hs, ht⟩ := h.rowC
  refine ⟨hb, hl, (Array.getElem?_eq_some_iff.1 hh).1, fun t htt => ⟨?_, frozen_of_row _ _ _ _ _ hh⟩⟩
  rw [cell_of_row _ _ _ _ _ _ hh, ← Array.getElem?_toList]
  have : (cur.toList.take xs.length)[t]? = (xs.map (Value.int .i64))[t]? := by rw [ht]
  rw [List.getElem?_take_of_lt htt] at this
  rw [this, List.getElem?_map, List.getElem?_eq_getElem htt]
  simp [List.getD_eq_getElem?_getD, htt]

end Go.Proofs.YtjoeglekcnaebaaGreatDoor

