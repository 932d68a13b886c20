/-
  TileLine of both: the walks.
-/
import Derived.Test.YtjoeglekcnaebaaGreatDoorParP
import Derived.Test.YtjoeglekcnaebaaGreatDoorTkD
import Derived.Test.YtjoeglekcnaebaaGreatDoorFrh
import Derived.Test.YtjoeglekcnaebaaGreatDoorTkH
namespace Go.Proofs.YtjoeglekcnaebaaGreatDoor
open Go.RowKit
set_option linter.unusedVariables false
set_option linter.unusedSimpArgs false

theorem numsT_len5 {xs : List Int} (h : ∀ x ∈ xs, Fits x) (hl : xs.length ≤ 24) : (numsT xs).length ≤ 504 := by
  unfold numsT
  split
  · simp
  · have hjl := joinT_len [44] 20 (xs.map itoL) (nums_mem h)
    rw [List.length_map] at hjl
    have : xs.length * (20 + [(44 : UInt8)].length) ≤ 24 * 21 := Nat.mul_le_mul hl (Nat.le_refl _)
    omega
theorem vanL_le {N : Nat} (bs : List Int) (h1 : 1 ≤ N) (h2 : N ≤ 24) : (vanL N bs).length ≤ 24 ∧ ∀ x ∈ vanL N bs, Fits x := by
  obtain ⟨ha, _, hc⟩ := dvs_ok N h2 h1
  unfold vanL
  refine ⟨Nat.le_trans (List.length_filter_le _ _) hc, fun x hx => ?_⟩
  have := ha x (List.mem_filter.1 hx).1
  unfold Fits; omega
def parT (N : Nat) (bs : List Int) : Txt := match parV N bs with
  | none => [110, 111, 110, 101]
  | some y => textF N y (fun _ => 120)
theorem parT_len {N : Nat} {bs : List Int} (h2 : N ≤ 24) : (parT N bs).length ≤ 504 := by
  unfold parT
  split
  · simp
  · rw [textF_len]; omega
noncomputable def tilL (N : Nat) (bs : List Int) : Txt := joinT [[111, 114, 100, 101, 114, 115], numsT (vanL N bs), [112, 97, 114, 116, 110, 101, 114], parT N bs] [32]
noncomputable def tilV (n : Int) (bs : List Int) : Txt := if rhB n bs = true then tilL n.toNat bs else [110, 111, 110, 101]
theorem tilL_eq (N : Nat) (bs : List Int) : tilL N bs = [111, 114, 100, 101, 114, 115, 32] ++ numsT (vanL N bs) ++ [32, 112, 97, 114, 116, 110, 101, 114, 32] ++ parT N bs := by
  unfold tilL joinT
  rw [Lib.join_cons]
  unfold Lib.joinTail
  simp

set_option maxHeartbeats 400000 in
theorem impl_TileLine_no (n : Int) (A : Option Addr) (cap : Nat) (bs : List Int) (w : World) (hn : Fits n) (hA : Ints w w.heap.size A bs) (hno : rhB n bs = false) :
    Calls Tryz.prog 11 #[.agg #[.int .i64 n, .slice A bs.length cap]] w fun e w' => e = .returned (.string (mkS [110, 111, 110, 101])) ∧ Below w.heap.size w w' := by
  have HRO := Lib.hid (fun V h => impl_RhythmOk_any n A cap bs V hn h)
  rw [hno] at HRO
  have HA := Lib.hid hA
  clear hA hno
  go_enter Tryz.func11, Tryz.ntmps11
  go_wp2_with fail
  refine (HRO.out _ (HA.out.lift (by repeat (first | exact Below.refl _ _ | assumption | (refine Below.alloc ?_ (by first | exact Nat.le_refl _ | (simp; done) | (simp; omega) | omega) _) | (refine Below.drew ?_) | (refine Below.setCell ?_ (by first | exact Nat.le_refl _ | (simp; done) | (simp; omega) | omega) _))))).mono ?_
  rintro e w1 ⟨rfl, hb⟩
  go_wp2_with fail
  go_ret
  exact ⟨rfl, ((Below.refl w.heap.size w).alloc (Nat.le_refl _) _).trans (hb.mono (by first | exact Nat.le_refl _ | (simp; done) | (simp; omega) | omega))⟩

set_option maxHeartbeats 400000 in
theorem spec_TileLine_no (n : Int) (A : Option Addr) (cap : Nat) (bs : List Int) (w : World) (hn : Fits n) (hA : Ints w w.heap.size A bs) (hno : rhB n bs = false) :
    Calls Tryz.prog 10 #[.agg #[.int .i64 n, .slice A bs.length cap]] w fun e w' => e = .returned (.string (mkS [110, 111, 110, 101])) ∧ Below w.heap.size w w' := by
  have HRO := Lib.hid (fun V h => spec_RhythmOk_any n A cap bs V h)
  rw [hno] at HRO
  have HA := Lib.hid hA
  clear hA hno
  go_enter Tryz.func10, Tryz.ntmps10
  go_wp2_with fail
  refine (HRO.out _ (HA.out.lift (by repeat (first | exact Below.refl _ _ | assumption | (refine Below.alloc ?_ (by first | exact Nat.le_refl _ | (simp; done) | (simp; omega) | omega) _) | (refine Below.drew ?_) | (refine Below.setCell ?_ (by first | exact Nat.le_refl _ | (simp; done) | (simp; omega) | omega) _))))).mono ?_
  rintro e w1 ⟨rfl, hb⟩
  go_wp2_with fail
  go_ret
  exact ⟨rfl, ((Below.refl w.heap.size w).alloc (Nat.le_refl _) _).trans (hb.mono (by first | exact Nat.le_refl _ | (simp; done) | (simp; omega) | omega))⟩

set_option maxRecDepth 100000 in
set_option maxHeartbeats 4000000 in
theorem impl_TileLine_ok (N : Nat) (A : Option Addr) (cap : Nat) (bs : List Int) (w : World) (hA : Ints w w.heap.size A bs) (hok : RhOk N bs) (hP : Pow w) :
    Calls Tryz.prog 11 #[.agg #[.int .i64 N, .slice A bs.length cap]] w fun e w' => e = .returned (.string (mkS (tilL N bs))) ∧ Below w.heap.size w w' := by
  have hn1 : 1 ≤ N := by have := hok.1; omega
  have hn2 : N ≤ 24 := by have := hok.2.1; omega
  have hfN : Fits (N : Int) := by unfold Fits; omega
  have HRO := Lib.hid (fun V h => rhB_iff.2 hok ▸ impl_RhythmOk_any N A cap bs V hfN h)
  obtain ⟨hd1, hd2, hd3⟩ := dvs_ok N hn2 hn1
  have HVO := Lib.hid (fun V h => impl_VanishingOrders_any N A cap bs V h hok hd1 hd2 hd3)
  have HFP := Lib.hid (fun V h => impl_FirstPartner_any N A cap bs V h hok)
  have HTX := Lib.hid (fun y (hy : parV N bs = some y) A c V h => impl_text_any N A c y V h (parV_ok hok hy))
  obtain ⟨hvl, hvf⟩ := vanL_le bs hn1 hn2
  have HVF := Lib.hid hvf
  have HFN := Lib.hid (fun A c V (hb : Below w.heap.size w V) h => impl_FormatNumbers_any A c (vanL N bs) V h (by omega) (hP.below hb))
  have hnl := numsT_len5 hvf hvl
  have hpl := parT_len (bs := bs) hn2
  have HPN := Lib.hid (fun (h : parV N bs = none) => show parT N bs = [110, 111, 110, 101] by unfold parT; rw [h])
  have HPY := Lib.hid (fun y (h : parV N bs = some y) => show parT N bs = textF N y (fun _ => 120) by unfold parT; rw [h])
  have HLN := Lib.hid (show tilL N bs = joinT [[111, 114, 100, 101, 114, 115], numsT (vanL N bs), [112, 97, 114, 116, 110, 101, 114], parT N bs] [32] from rfl)
  have hb0 := (Below.refl w.heap.size w).alloc (Nat.le_refl _) (.cells #[.int .i64 N, .slice A (bs).length cap] 27)
  have HBW := Lib.hid hb0
  have HVA := Lib.hid (Hav.boxed hA N cap)
  have HB5 := Lib.hid (show Below w.heap.size w w from Below.refl _ _)
  clear hA hok hb0 hd1 hd2 hd3 hP
  obtain ⟨⟨p0, p1, _, _, _⟩, _⟩ := HVA.out
  obtain ⟨VL, hVL⟩ : ∃ v, vanL N bs = v := ⟨_, rfl⟩
  rw [hVL] at HVO HFN HLN hnl hvl HVF
  clear hVL hvf
  obtain ⟨NT, hNT⟩ : ∃ t, numsT VL = t := ⟨_, rfl⟩
  rw [hNT] at HFN HLN hnl
  clear hNT
  obtain ⟨PT, hPT⟩ : ∃ t, parT N bs = t := ⟨_, rfl⟩
  rw [hPT] at HLN hpl HPN HPY
  clear hPT
  have HJ := Lib.hid (fun V g (hg : V.heap.size = g) => impl_Join_any (some ⟨g, 0, none⟩) 4 [[111, 114, 100, 101, 114, 115], NT, [112, 97, 114, 116, 110, 101, 114], PT] [32] 504 _ (strs_cells V g _ (by simp) hg) (by simp) (by
    intro x hx
    simp at hx
    rcases hx with rfl | rfl | rfl | rfl <;> first | assumption | (simp; done) | omega) (by simp))
  rw [← HLN.out] at HJ
  obtain ⟨W, hW⟩ : ∃ W, w.alloc (.cells #[.int .i64 N, .slice A (bs).length cap] 27) = W := ⟨_, rfl⟩
  rw [hW] at HBW HVA p0 p1
  go_enter Tryz.func11, Tryz.ntmps11
  go_wp2_with fail
  clear hW
  refine (HRO.out W HVA.out.2).mono ?_
  rintro e w1 ⟨rfl, hb⟩
  have HBW := Lib.hid (HBW.out.trans (hb.mono HBW.out.size))
  try have HVA := Lib.hid (HVA.out.lift hb)
  try have HVB := Lib.hid (HVB.out.lift hb)
  try have HVC := Lib.hid (HVC.out.lift hb)
  try have HVT := Lib.hid (HVT.out.lift hb)
  try have HVX := Lib.hid (HVX.out.lift hb)
  try have HVM := Lib.hid (HVM.out.lift hb)
  try have HVF := Lib.hid (HVF.out.lift hb)
  try have HVP := Lib.hid (HVP.out.lift hb)
  try have HVQ := Lib.hid (HVQ.out.lift hb)
  try have HLA := Lib.hid (HLA.out.lift hb)
  try have HLW := Lib.hid (HLW.out.lift hb)
  try have HI := Lib.hid (HI.out.lift hb)
  try have HRB := Lib.hid (HRB.out.trans (hb.mono HRB.out.size))
  try have HWW := Lib.hid (HWW.out.trans (hb.mono HWW.out.size))
  clear hb
  clear p0 p1
  obtain ⟨⟨p0, p1, _, _, _⟩, _⟩ := HVA.out
  go_wp2_with fail
  refine (HFP.out w1 HVA.out.2).mono ?_
  rintro e w2 ⟨h1, hb⟩
  have HBW := Lib.hid (HBW.out.trans (hb.mono HBW.out.size))
  try have HVA := Lib.hid (HVA.out.lift hb)
  try have HVB := Lib.hid (HVB.out.lift hb)
  try have HVC := Lib.hid (HVC.out.lift hb)
  try have HVT := Lib.hid (HVT.out.lift hb)
  try have HVX := Lib.hid (HVX.out.lift hb)
  try have HVM := Lib.hid (HVM.out.lift hb)
  try have HVF := Lib.hid (HVF.out.lift hb)
  try have HVP := Lib.hid (HVP.out.lift hb)
  try have HVQ := Lib.hid (HVQ.out.lift hb)
  try have HLA := Lib.hid (HLA.out.lift hb)
  try have HLW := Lib.hid (HLW.out.lift hb)
  try have HI := Lib.hid (HI.out.lift hb)
  try have HRB := Lib.hid (HRB.out.trans (hb.mono HRB.out.size))
  try have HWW := Lib.hid (HWW.out.trans (hb.mono HWW.out.size))
  clear hb
  clear p0 p1
  cases he : parV N bs with
  | none =>
    rw [he] at h1
    obtain rfl : e = .returned (.tuple #[.agg #[.int .i64 0, .slice none 0 0], .bool false]) := h1
    have hpt := HPN.out he
    subst hpt
    clear he
    have hb := (Below.refl w2.heap.size w2).alloc (Nat.le_refl _) (.cells #[.int .i64 0, .slice none 0 0] 27)
    have HBW := Lib.hid (HBW.out.trans (hb.mono HBW.out.size))
    try have HVA := Lib.hid (HVA.out.lift hb)
    try have HVB := Lib.hid (HVB.out.lift hb)
    try have HVC := Lib.hid (HVC.out.lift hb)
    try have HVT := Lib.hid (HVT.out.lift hb)
    try have HVX := Lib.hid (HVX.out.lift hb)
    try have HVM := Lib.hid (HVM.out.lift hb)
    try have HVF := Lib.hid (HVF.out.lift hb)
    try have HVP := Lib.hid (HVP.out.lift hb)
    try have HVQ := Lib.hid (HVQ.out.lift hb)
    try have HLA := Lib.hid (HLA.out.lift hb)
    try have HLW := Lib.hid (HLW.out.lift hb)
    try have HI := Lib.hid (HI.out.lift hb)
    try have HRB := Lib.hid (HRB.out.trans (hb.mono HRB.out.size))
    try have HWW := Lib.hid (HWW.out.trans (hb.mono HWW.out.size))
    clear hb
    obtain ⟨⟨p0, p1, _, _, _⟩, _⟩ := HVA.out
    go_wp2_with fail
    generalize w2.alloc (.cells #[.int .i64 0, .slice none 0 0] 27) = w3 at *
    refine (HVO.out w3 HVA.out.2).mono ?_
    rintro e w4 ⟨⟨gv, cv, hf, rfl, hgv, htab, hlst⟩, hb⟩
    have HIV := Lib.hid (show Ints w4 w4.heap.size (some ⟨gv, 0, none⟩) VL by
      have := htab.intsT (by unfold maxLen; omega) (fun t ht => by
        have hm : hf t ∈ VL := by rw [← hlst]; unfold lstF; rw [List.mem_map]; exact ⟨t, by rw [List.mem_range]; exact ht, rfl⟩
        exact HVF.out _ hm) 0
      rwa [hlst] at this)
    have HBW := Lib.hid (HBW.out.trans (hb.mono HBW.out.size))
    try have HVA := Lib.hid (HVA.out.lift hb)
    try have HVB := Lib.hid (HVB.out.lift hb)
    try have HVC := Lib.hid (HVC.out.lift hb)
    try have HVT := Lib.hid (HVT.out.lift hb)
    try have HVX := Lib.hid (HVX.out.lift hb)
    try have HVM := Lib.hid (HVM.out.lift hb)
    try have HVF := Lib.hid (HVF.out.lift hb)
    try have HVP := Lib.hid (HVP.out.lift hb)
    try have HVQ := Lib.hid (HVQ.out.lift hb)
    try have HLA := Lib.hid (HLA.out.lift hb)
    try have HLW := Lib.hid (HLW.out.lift hb)
    try have HI := Lib.hid (HI.out.lift hb)
    try have HRB := Lib.hid (HRB.out.trans (hb.mono HRB.out.size))
    try have HWW := Lib.hid (HWW.out.trans (hb.mono HWW.out.size))
    clear hb
    clear p0 p1 htab hlst hgv
    go_wp2_with fail
    refine (HFN.out _ cv w4 HBW.out HIV.out).mono ?_
    rintro e w5 ⟨rfl, hb⟩
    have HBW := Lib.hid (HBW.out.trans (hb.mono HBW.out.size))
    try have HVA := Lib.hid (HVA.out.lift hb)
    try have HVB := Lib.hid (HVB.out.lift hb)
    try have HVC := Lib.hid (HVC.out.lift hb)
    try have HVT := Lib.hid (HVT.out.lift hb)
    try have HVX := Lib.hid (HVX.out.lift hb)
    try have HVM := Lib.hid (HVM.out.lift hb)
    try have HVF := Lib.hid (HVF.out.lift hb)
    try have HVP := Lib.hid (HVP.out.lift hb)
    try have HVQ := Lib.hid (HVQ.out.lift hb)
    try have HLA := Lib.hid (HLA.out.lift hb)
    try have HLW := Lib.hid (HLW.out.lift hb)
    try have HI := Lib.hid (HI.out.lift hb)
    try have HRB := Lib.hid (HRB.out.trans (hb.mono HRB.out.size))
    try have HWW := Lib.hid (HWW.out.trans (hb.mono HWW.out.size))
    clear hb
    go_wp2_with fail
    refine (HJ.out w5 w5.heap.size rfl).mono ?_
    rintro e w6 ⟨rfl, hb⟩
    have HB6 := Lib.hid (HBW.out.trans (((Below.refl w5.heap.size w5).alloc (Nat.le_refl _) _).mono HBW.out.size |>.trans (hb.mono (Nat.le_trans HBW.out.size (by simp)))))
    clear hb
    go_wp2_with fail
    go_ret
    exact ⟨rfl, HB6.out⟩
  | some y =>
    rw [he] at h1
    have h1' : ∃ A c, e = .returned (.tuple #[.agg #[.int .i64 N, .slice A y.length c], .bool true]) ∧ Ints w2 w2.heap.size A y := h1
    obtain ⟨A5, c5, rfl, hi5⟩ := h1'
    have hpt := HPY.out y he
    subst hpt
    have HTX := Lib.hid (HTX.out y he)
    have HVP := Lib.hid (Hav.boxed hi5 N c5)
    clear he hi5 h1
    have hb := (Below.refl w2.heap.size w2).alloc (Nat.le_refl _) (.cells #[.int .i64 N, .slice A5 (y).length c5] 27)
    have HVA := Lib.hid (HVA.out.lift hb)
    have HBW := Lib.hid (HBW.out.trans (hb.mono HBW.out.size))
    clear hb
    obtain ⟨wx, hwx⟩ : ∃ V, w2.alloc (.cells #[.int .i64 N, .slice A5 (y).length c5] 27) = V := ⟨_, rfl⟩
    rw [hwx] at HVA HBW HVP
    obtain ⟨⟨q0, q1, _, _, _⟩, _⟩ := HVP.out
    go_wp2_with fail
    clear hwx
    refine (HTX.out A5 c5 wx HVP.out.2).mono ?_
    rintro e w3 ⟨rfl, hb⟩
    have HVA := Lib.hid (HVA.out.lift hb)
    have HBW := Lib.hid (HBW.out.trans (hb.mono HBW.out.size))
    clear hb q0 q1
    obtain ⟨⟨p0, p1, _, _, _⟩, _⟩ := HVA.out
    go_wp2_with fail
    refine (HVO.out w3 HVA.out.2).mono ?_
    rintro e w4 ⟨⟨gv, cv, hf, rfl, hgv, htab, hlst⟩, hb⟩
    have HIV := Lib.hid (show Ints w4 w4.heap.size (some ⟨gv, 0, none⟩) VL by
      have := htab.intsT (by unfold maxLen; omega) (fun t ht => by
        have hm : hf t ∈ VL := by rw [← hlst]; unfold lstF; rw [List.mem_map]; exact ⟨t, by rw [List.mem_range]; exact ht, rfl⟩
        exact HVF.out _ hm) 0
      rwa [hlst] at this)
    have HBW := Lib.hid (HBW.out.trans (hb.mono HBW.out.size))
    try have HVA := Lib.hid (HVA.out.lift hb)
    try have HVB := Lib.hid (HVB.out.lift hb)
    try have HVC := Lib.hid (HVC.out.lift hb)
    try have HVT := Lib.hid (HVT.out.lift hb)
    try have HVX := Lib.hid (HVX.out.lift hb)
    try have HVM := Lib.hid (HVM.out.lift hb)
    try have HVF := Lib.hid (HVF.out.lift hb)
    try have HVP := Lib.hid (HVP.out.lift hb)
    try have HVQ := Lib.hid (HVQ.out.lift hb)
    try have HLA := Lib.hid (HLA.out.lift hb)
    try have HLW := Lib.hid (HLW.out.lift hb)
    try have HI := Lib.hid (HI.out.lift hb)
    try have HRB := Lib.hid (HRB.out.trans (hb.mono HRB.out.size))
    try have HWW := Lib.hid (HWW.out.trans (hb.mono HWW.out.size))
    clear hb
    clear p0 p1 htab hlst hgv
    go_wp2_with fail
    refine (HFN.out _ cv w4 HBW.out HIV.out).mono ?_
    rintro e w5 ⟨rfl, hb⟩
    have HBW := Lib.hid (HBW.out.trans (hb.mono HBW.out.size))
    try have HVA := Lib.hid (HVA.out.lift hb)
    try have HVB := Lib.hid (HVB.out.lift hb)
    try have HVC := Lib.hid (HVC.out.lift hb)
    try have HVT := Lib.hid (HVT.out.lift hb)
    try have HVX := Lib.hid (HVX.out.lift hb)
    try have HVM := Lib.hid (HVM.out.lift hb)
    try have HVF := Lib.hid (HVF.out.lift hb)
    try have HVP := Lib.hid (HVP.out.lift hb)
    try have HVQ := Lib.hid (HVQ.out.lift hb)
    try have HLA := Lib.hid (HLA.out.lift hb)
    try have HLW := Lib.hid (HLW.out.lift hb)
    try have HI := Lib.hid (HI.out.lift hb)
    try have HRB := Lib.hid (HRB.out.trans (hb.mono HRB.out.size))
    try have HWW := Lib.hid (HWW.out.trans (hb.mono HWW.out.size))
    clear hb
    go_wp2_with fail
    refine (HJ.out w5 w5.heap.size rfl).mono ?_
    rintro e w6 ⟨rfl, hb⟩
    have HB6 := Lib.hid (HBW.out.trans (((Below.refl w5.heap.size w5).alloc (Nat.le_refl _) _).mono HBW.out.size |>.trans (hb.mono (Nat.le_trans HBW.out.size (by simp)))))
    clear hb
    go_wp2_with fail
    go_ret
    exact ⟨rfl, HB6.out⟩

set_option maxRecDepth 100000 in
set_option maxHeartbeats 4000000 in
theorem spec_TileLine_ok (N : Nat) (A : Option Addr) (cap : Nat) (bs : List Int) (w : World) (hA : Ints w w.heap.size A bs) (hok : RhOk N bs) :
    Calls Tryz.prog 10 #[.agg #[.int .i64 N, .slice A bs.length cap]] w fun e w' => e = .returned (.string (mkS (tilL N bs))) ∧ Below w.heap.size w w' := by
  have hn1 : 1 ≤ N := by have := hok.1; omega
  have hn2 : N ≤ 24 := by have := hok.2.1; omega
  have HRO := Lib.hid (fun V h => rhB_iff.2 hok ▸ spec_RhythmOk_any N A cap bs V h)
  have HVO := Lib.hid (fun V h => spec_VanishingOrders_any N A cap bs V h hok)
  have HFP := Lib.hid (fun V h => spec_FirstPartner_any N A cap bs V h hok)
  have HTX := Lib.hid (fun y (hy : parV N bs = some y) A c V h => spec_FormatRhythm_ok N A c y V h (parV_ok hok hy))
  obtain ⟨hvl, hvf⟩ := vanL_le bs hn1 hn2
  have HVF := Lib.hid hvf
  have HFN := Lib.hid (fun A c V h => spec_FormatNumbers_any A c (vanL N bs) V h (by omega))
  have hnl := numsT_len5 hvf hvl
  have hpl := parT_len (bs := bs) hn2
  have HPN := Lib.hid (fun (h : parV N bs = none) => show parT N bs = [110, 111, 110, 101] by unfold parT; rw [h])
  have HPY := Lib.hid (fun y (h : parV N bs = some y) => show parT N bs = textF N y (fun _ => 120) by unfold parT; rw [h])
  have HLN := Lib.hid (tilL_eq N bs)
  have hb0 := (Below.refl w.heap.size w).alloc (Nat.le_refl _) (.cells #[.int .i64 N, .slice A (bs).length cap] 27)
  have HBW := Lib.hid hb0
  have HVA := Lib.hid (Hav.boxed hA N cap)
  clear hA hok hb0
  obtain ⟨⟨p0, p1, _, _, _⟩, _⟩ := HVA.out
  obtain ⟨VL, hVL⟩ : ∃ v, vanL N bs = v := ⟨_, rfl⟩
  rw [hVL] at HVO HFN HLN hnl hvl HVF
  clear hVL hvf
  obtain ⟨NT, hNT⟩ : ∃ t, numsT VL = t := ⟨_, rfl⟩
  rw [hNT] at HFN HLN hnl
  clear hNT
  obtain ⟨LL, hLL⟩ : ∃ t, tilL N bs = t := ⟨_, rfl⟩
  rw [hLL] at HLN ⊢
  clear hLL
  obtain ⟨PT, hPT⟩ : ∃ t, parT N bs = t := ⟨_, rfl⟩
  rw [hPT] at HLN hpl HPN HPY
  clear hPT
  have z1 : (mkS NT).size ≤ 504 := by rw [mkS_size]; exact hnl
  have z2 : (mkS PT).size ≤ 504 := by rw [mkS_size]; exact hpl
  have y1 : ((⟨#[111, 114, 100, 101, 114, 115, 32]⟩ : ByteArray) ++ mkS NT).size ≤ 511 := by rw [ByteArray.size_append]; show 7 + _ ≤ 511; omega
  have y2 : ((⟨#[111, 114, 100, 101, 114, 115, 32]⟩ : ByteArray) ++ mkS NT ++ ⟨#[32, 112, 97, 114, 116, 110, 101, 114, 32]⟩).size ≤ 520 := by rw [ByteArray.size_append]; show _ + 9 ≤ 520; omega
  have HRES := Lib.hid (show (⟨#[111, 114, 100, 101, 114, 115, 32]⟩ : ByteArray) ++ mkS NT ++ ⟨#[32, 112, 97, 114, 116, 110, 101, 114, 32]⟩ ++ mkS PT = mkS LL by
    rw [HLN.out]
    exact Str.eq ((((str_mk [111, 114, 100, 101, 114, 115, 32]).app (str_mk NT)).app (str_mk [32, 112, 97, 114, 116, 110, 101, 114, 32])).app (str_mk PT)))
  obtain ⟨W, hW⟩ : ∃ W, w.alloc (.cells #[.int .i64 N, .slice A (bs).length cap] 27) = W := ⟨_, rfl⟩
  rw [hW] at HBW HVA p0 p1
  have HYY := Lib.hid (And.intro hpl (And.intro z2 HRES.out))
  clear hpl z2 HRES
  go_enter Tryz.func10, Tryz.ntmps10
  go_wp2_with fail
  clear hW
  refine (HRO.out W HVA.out.2).mono ?_
  rintro e w1 ⟨rfl, hb⟩
  have HBW := Lib.hid (HBW.out.trans (hb.mono HBW.out.size))
  try have HVA := Lib.hid (HVA.out.lift hb)
  try have HVB := Lib.hid (HVB.out.lift hb)
  try have HVC := Lib.hid (HVC.out.lift hb)
  try have HVT := Lib.hid (HVT.out.lift hb)
  try have HVX := Lib.hid (HVX.out.lift hb)
  try have HVM := Lib.hid (HVM.out.lift hb)
  try have HVF := Lib.hid (HVF.out.lift hb)
  try have HVP := Lib.hid (HVP.out.lift hb)
  try have HVQ := Lib.hid (HVQ.out.lift hb)
  try have HLA := Lib.hid (HLA.out.lift hb)
  try have HLW := Lib.hid (HLW.out.lift hb)
  try have HI := Lib.hid (HI.out.lift hb)
  try have HRB := Lib.hid (HRB.out.trans (hb.mono HRB.out.size))
  try have HWW := Lib.hid (HWW.out.trans (hb.mono HWW.out.size))
  clear hb
  clear p0 p1
  obtain ⟨⟨p0, p1, _, _, _⟩, _⟩ := HVA.out
  go_wp2_with fail
  refine (HFP.out w1 HVA.out.2).mono ?_
  rintro e w2 ⟨h1, hb⟩
  have HBW := Lib.hid (HBW.out.trans (hb.mono HBW.out.size))
  try have HVA := Lib.hid (HVA.out.lift hb)
  try have HVB := Lib.hid (HVB.out.lift hb)
  try have HVC := Lib.hid (HVC.out.lift hb)
  try have HVT := Lib.hid (HVT.out.lift hb)
  try have HVX := Lib.hid (HVX.out.lift hb)
  try have HVM := Lib.hid (HVM.out.lift hb)
  try have HVF := Lib.hid (HVF.out.lift hb)
  try have HVP := Lib.hid (HVP.out.lift hb)
  try have HVQ := Lib.hid (HVQ.out.lift hb)
  try have HLA := Lib.hid (HLA.out.lift hb)
  try have HLW := Lib.hid (HLW.out.lift hb)
  try have HI := Lib.hid (HI.out.lift hb)
  try have HRB := Lib.hid (HRB.out.trans (hb.mono HRB.out.size))
  try have HWW := Lib.hid (HWW.out.trans (hb.mono HWW.out.size))
  clear hb
  clear p0 p1
  cases he : parV N bs with
  | none =>
    rw [he] at h1
    obtain rfl : e = .returned (.tuple #[.agg #[.int .i64 0, .slice none 0 0], .bool false]) := h1
    have hpt := HPN.out he
    subst hpt
    obtain ⟨hpl, z2, HRES0⟩ := HYY.out
    have HRES := Lib.hid HRES0
    clear he HRES0
    have hb := (Below.refl w2.heap.size w2).alloc (Nat.le_refl _) (.cells #[.int .i64 0, .slice none 0 0] 27)
    have HBW := Lib.hid (HBW.out.trans (hb.mono HBW.out.size))
    try have HVA := Lib.hid (HVA.out.lift hb)
    try have HVB := Lib.hid (HVB.out.lift hb)
    try have HVC := Lib.hid (HVC.out.lift hb)
    try have HVT := Lib.hid (HVT.out.lift hb)
    try have HVX := Lib.hid (HVX.out.lift hb)
    try have HVM := Lib.hid (HVM.out.lift hb)
    try have HVF := Lib.hid (HVF.out.lift hb)
    try have HVP := Lib.hid (HVP.out.lift hb)
    try have HVQ := Lib.hid (HVQ.out.lift hb)
    try have HLA := Lib.hid (HLA.out.lift hb)
    try have HLW := Lib.hid (HLW.out.lift hb)
    try have HI := Lib.hid (HI.out.lift hb)
    try have HRB := Lib.hid (HRB.out.trans (hb.mono HRB.out.size))
    try have HWW := Lib.hid (HWW.out.trans (hb.mono HWW.out.size))
    clear hb
    obtain ⟨⟨p0, p1, _, _, _⟩, _⟩ := HVA.out
    go_wp2_with fail
    generalize w2.alloc (.cells #[.int .i64 0, .slice none 0 0] 27) = w3 at *
    refine (HVO.out w3 HVA.out.2).mono ?_
    rintro e w4 ⟨v4, rfl, hown, hb⟩
    obtain ⟨A4, c4, rfl⟩ := hown.form
    have HIV := Lib.hid (hown.ints HVF.out)
    have HBW := Lib.hid (HBW.out.trans (hb.mono HBW.out.size))
    try have HVA := Lib.hid (HVA.out.lift hb)
    try have HVB := Lib.hid (HVB.out.lift hb)
    try have HVC := Lib.hid (HVC.out.lift hb)
    try have HVT := Lib.hid (HVT.out.lift hb)
    try have HVX := Lib.hid (HVX.out.lift hb)
    try have HVM := Lib.hid (HVM.out.lift hb)
    try have HVF := Lib.hid (HVF.out.lift hb)
    try have HVP := Lib.hid (HVP.out.lift hb)
    try have HVQ := Lib.hid (HVQ.out.lift hb)
    try have HLA := Lib.hid (HLA.out.lift hb)
    try have HLW := Lib.hid (HLW.out.lift hb)
    try have HI := Lib.hid (HI.out.lift hb)
    try have HRB := Lib.hid (HRB.out.trans (hb.mono HRB.out.size))
    try have HWW := Lib.hid (HWW.out.trans (hb.mono HWW.out.size))
    clear hb
    clear p0 p1 hown
    go_wp2_with fail
    refine (HFN.out A4 c4 w4 HIV.out).mono ?_
    rintro e w5 ⟨rfl, hb⟩
    have HBW := Lib.hid (HBW.out.trans (hb.mono HBW.out.size))
    try have HVA := Lib.hid (HVA.out.lift hb)
    try have HVB := Lib.hid (HVB.out.lift hb)
    try have HVC := Lib.hid (HVC.out.lift hb)
    try have HVT := Lib.hid (HVT.out.lift hb)
    try have HVX := Lib.hid (HVX.out.lift hb)
    try have HVM := Lib.hid (HVM.out.lift hb)
    try have HVF := Lib.hid (HVF.out.lift hb)
    try have HVP := Lib.hid (HVP.out.lift hb)
    try have HVQ := Lib.hid (HVQ.out.lift hb)
    try have HLA := Lib.hid (HLA.out.lift hb)
    try have HLW := Lib.hid (HLW.out.lift hb)
    try have HI := Lib.hid (HI.out.lift hb)
    try have HRB := Lib.hid (HRB.out.trans (hb.mono HRB.out.size))
    try have HWW := Lib.hid (HWW.out.trans (hb.mono HWW.out.size))
    clear hb
    go_wp2_with fail
    go_ret
    exact ⟨ret_str HRES.out, HBW.out⟩
  | some y =>
    rw [he] at h1
    have h1' : ∃ A c, e = .returned (.tuple #[.agg #[.int .i64 N, .slice A y.length c], .bool true]) ∧ Ints w2 w2.heap.size A y := h1
    obtain ⟨A5, c5, rfl, hi5⟩ := h1'
    have hpt := HPY.out y he
    subst hpt
    obtain ⟨hpl, z2, HRES0⟩ := HYY.out
    have HRES := Lib.hid HRES0
    have HTX := Lib.hid (HTX.out y he)
    have HVP := Lib.hid (Hav.boxed hi5 N c5)
    clear he hi5 h1 HRES0
    have hb := (Below.refl w2.heap.size w2).alloc (Nat.le_refl _) (.cells #[.int .i64 N, .slice A5 (y).length c5] 27)
    have HVA := Lib.hid (HVA.out.lift hb)
    have HBW := Lib.hid (HBW.out.trans (hb.mono HBW.out.size))
    clear hb
    obtain ⟨wx, hwx⟩ : ∃ V, w2.alloc (.cells #[.int .i64 N, .slice A5 (y).length c5] 27) = V := ⟨_, rfl⟩
    rw [hwx] at HVA HBW HVP
    obtain ⟨⟨q0, q1, _, _, _⟩, _⟩ := HVP.out
    go_wp2_with fail
    clear hwx
    refine (HTX.out A5 c5 wx HVP.out.2).mono ?_
    rintro e w3 ⟨rfl, hb⟩
    have HVA := Lib.hid (HVA.out.lift hb)
    have HBW := Lib.hid (HBW.out.trans (hb.mono HBW.out.size))
    clear hb q0 q1
    obtain ⟨⟨p0, p1, _, _, _⟩, _⟩ := HVA.out
    go_wp2_with fail
    refine (HVO.out w3 HVA.out.2).mono ?_
    rintro e w4 ⟨v4, rfl, hown, hb⟩
    obtain ⟨A4, c4, rfl⟩ := hown.form
    have HIV := Lib.hid (hown.ints HVF.out)
    have HBW := Lib.hid (HBW.out.trans (hb.mono HBW.out.size))
    try have HVA := Lib.hid (HVA.out.lift hb)
    try have HVB := Lib.hid (HVB.out.lift hb)
    try have HVC := Lib.hid (HVC.out.lift hb)
    try have HVT := Lib.hid (HVT.out.lift hb)
    try have HVX := Lib.hid (HVX.out.lift hb)
    try have HVM := Lib.hid (HVM.out.lift hb)
    try have HVF := Lib.hid (HVF.out.lift hb)
    try have HVP := Lib.hid (HVP.out.lift hb)
    try have HVQ := Lib.hid (HVQ.out.lift hb)
    try have HLA := Lib.hid (HLA.out.lift hb)
    try have HLW := Lib.hid (HLW.out.lift hb)
    try have HI := Lib.hid (HI.out.lift hb)
    try have HRB := Lib.hid (HRB.out.trans (hb.mono HRB.out.size))
    try have HWW := Lib.hid (HWW.out.trans (hb.mono HWW.out.size))
    clear hb
    clear p0 p1 hown
    go_wp2_with fail
    refine (HFN.out A4 c4 w4 HIV.out).mono ?_
    rintro e w5 ⟨rfl, hb⟩
    have HBW := Lib.hid (HBW.out.trans (hb.mono HBW.out.size))
    try have HVA := Lib.hid (HVA.out.lift hb)
    try have HVB := Lib.hid (HVB.out.lift hb)
    try have HVC := Lib.hid (HVC.out.lift hb)
    try have HVT := Lib.hid (HVT.out.lift hb)
    try have HVX := Lib.hid (HVX.out.lift hb)
    try have HVM := Lib.hid (HVM.out.lift hb)
    try have HVF := Lib.hid (HVF.out.lift hb)
    try have HVP := Lib.hid (HVP.out.lift hb)
    try have HVQ := Lib.hid (HVQ.out.lift hb)
    try have HLA := Lib.hid (HLA.out.lift hb)
    try have HLW := Lib.hid (HLW.out.lift hb)
    try have HI := Lib.hid (HI.out.lift hb)
    try have HRB := Lib.hid (HRB.out.trans (hb.mono HRB.out.size))
    try have HWW := Lib.hid (HWW.out.trans (hb.mono HWW.out.size))
    clear hb
    go_wp2_with fail
    go_ret
    exact ⟨ret_str HRES.out, HBW.out⟩

theorem impl_TileLine_any (n : Int) (A : Option Addr) (cap : Nat) (bs : List Int) (w : World) (hn : Fits n) (hA : Ints w w.heap.size A bs) (hP : Pow w) :
    Calls Tryz.prog 11 #[.agg #[.int .i64 n, .slice A bs.length cap]] w fun e w' => e = .returned (.string (mkS (tilV n bs))) ∧ Below w.heap.size w w' := by
  unfold tilV
  cases h : rhB n bs
  · exact impl_TileLine_no n A cap bs w hn hA h
  · have hok := rhB_iff.1 h
    obtain ⟨N, rfl⟩ := Int.eq_ofNat_of_zero_le (show 0 ≤ n by have := hok.1; omega)
    exact impl_TileLine_ok N A cap bs w hA hok hP
theorem spec_TileLine_any (n : Int) (A : Option Addr) (cap : Nat) (bs : List Int) (w : World) (hn : Fits n) (hA : Ints w w.heap.size A bs) :
    Calls Tryz.prog 10 #[.agg #[.int .i64 n, .slice A bs.length cap]] w fun e w' => e = .returned (.string (mkS (tilV n bs))) ∧ Below w.heap.size w w' := by
  unfold tilV
  cases h : rhB n bs
  · exact spec_TileLine_no n A cap bs w hn hA h
  · have hok := rhB_iff.1 h
    obtain ⟨N, rfl⟩ := Int.eq_ofNat_of_zero_le (show 0 ≤ n by have := hok.1; omega)
    exact spec_TileLine_ok N A cap bs w hA hok

end Go.Proofs.YtjoeglekcnaebaaGreatDoor
