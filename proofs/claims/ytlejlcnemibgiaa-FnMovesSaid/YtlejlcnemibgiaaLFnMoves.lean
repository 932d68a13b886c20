/-
  The law FnMoves: the walk.
-/
import Derived.Test.YtlejlcnemibgiaaHav
import Derived.Deep.CutRange
import Derived.Test.YtlejlcnemibgiaaSam
import Derived.Test.YtlejlcnemibgiaaMvZ
import Derived.Test.YtlejlcnemibgiaaMkOf
namespace Go.Proofs.Ytlejlcnemibgiaa
open Go.RowKit
set_option linter.unusedVariables false
set_option linter.unusedSimpArgs false

theorem mdV_ok {N : Nat} {a b : List Int} (ha : RhOk N a) (hb : RhOk N b) (hl : a.length = b.length) : mdV N N a b = farV N a b := by
  unfold mdV movedB
  rw [rhB_iff.2 ha, rhB_iff.2 hb]
  simp [hl]
theorem mdV_no {N : Nat} {a b : List Int} (hl : a.length ≠ b.length) : mdV N N a b = -1 := by
  unfold mdV movedB
  rw [if_neg]
  simp [hl]
theorem movV_ins {N : Nat} {a : List Int} (ha : RhOk N a) : movV N a = (insL N a (2 * a.length)).map fun x => ((N : Int), x) := by
  unfold movV
  rw [if_pos (rhB_iff.2 ha), Int.toNat_natCast, movP_ins N a (by have := ha.1; omega) (by have := ha.2.1; omega)]
theorem RdR.drewR_ {w : World} {A : Option Addr} {rs : List RV} (h : RdR w w.heap.size A rs) : RdR w.drew w.drew.heap.size A rs := h

set_option maxRecDepth 100000 in
set_option maxHeartbeats 16000000 in
theorem law_FnMoves {w : World} (A : Option Addr) (cap : Nat) (xs : List Int) (hA : Byt w w.heap.size A xs) :
    Calls Try.prog 3 #[.slice A xs.length cap] w fun e w' => e = .returned (.bool true) ∧ Below w.heap.size w w' := by
  have HA := Lib.hid hA
  have hml := hA.1
  unfold maxLen at hml
  clear hA
  by_cases hbig : 1048576 < xs.length
  · go_enter Try.func3, Try.ntmps3
    go_wp2_with fail
    go_ret
    exact ⟨rfl, Below.refl _ _⟩
  go_enter Try.func3, Try.ntmps3
  go_wp2_with fail
  refine (spec_MakeNum_any A cap xs 0 w HA.out (by decide)).mono ?_
  rintro e w1 ⟨⟨x, rfl, hx0, hx1⟩, hb⟩
  have HBW := Lib.hid hb
  clear hb
  obtain ⟨x, rfl⟩ := Int.eq_ofNat_of_zero_le hx0
  have hwx : IntKind.i64.wrap (1 + (x : Int) % 9) = 1 + (x : Int) % 9 := i64w (by omega)
  obtain ⟨N, hN⟩ := Int.eq_ofNat_of_zero_le (show 0 ≤ 1 + (x : Int) % 9 by omega)
  rw [hN] at hwx
  have hn1 : 1 ≤ N := by omega
  have hn2 : N ≤ 9 := by omega
  have hfN : Fits (N : Int) := by unfold Fits; omega
  go_wp2_with fail
  try rw [hN]
  clear hwx hN hx0 hx1
  refine (spec_MakeOf_any A cap xs 2 N w1 (HA.out.lift HBW.out) (by decide) hn1 (by omega)).mono ?_
  rintro e wz ⟨⟨a, Aa, ca, rfl, hoa, hr⟩, hb⟩
  have HOA := Lib.hid hoa
  have hla : a.length ≤ N := rhok_len hoa
  have hI0 := hr.ints (rh_fits hoa)
  have hb := hb.trans (((Below.refl wz.heap.size wz).alloc (Nat.le_refl _) (.cells #[.int .i64 N, .slice Aa (a).length ca] 26)).mono hb.size)
  have HBW := Lib.hid (HBW.out.trans (hb.mono HBW.out.size))
  try have HVA := Lib.hid (HVA.out.lift hb)
  try have HVB := Lib.hid (HVB.out.lift hb)
  try have HVC := Lib.hid (HVC.out.lift hb)
  try have HVT := Lib.hid (HVT.out.lift hb)
  try have HVX := Lib.hid (HVX.out.lift hb)
  try have HVM := Lib.hid (HVM.out.lift hb)
  try have HVF := Lib.hid (HVF.out.lift hb)
  try have HVP := Lib.hid (HVP.out.lift hb)
  try have HVQ := Lib.hid (HVQ.out.lift hb)
  try have HLA := Lib.hid (HLA.out.lift hb)
  try have HLW := Lib.hid (HLW.out.lift hb)
  try have HI := Lib.hid (HI.out.lift hb)
  try have HRB := Lib.hid (HRB.out.trans (hb.mono HRB.out.size))
  try have HWW := Lib.hid (HWW.out.trans (hb.mono HWW.out.size))
  clear hb
  have HVA := Lib.hid (Hav.boxed hI0 N ca)
  clear hI0
  clear hr hoa
  go_wp2_with fail
  generalize wz.alloc (.cells #[.int .i64 N, .slice Aa a.length ca] 26) = w2 at *
  generalize wz.heap.size = qa at *
  refine (spec_MakeOf_any A cap xs 20 N w2 (HA.out.lift HBW.out) (by decide) hn1 (by omega)).mono ?_
  rintro e wz ⟨⟨b, Ab, cb, rfl, hob, hr⟩, hb⟩
  have HOB := Lib.hid hob
  have hlb : b.length ≤ N := rhok_len hob
  have hI0 := hr.ints (rh_fits hob)
  have hb := hb.trans (((Below.refl wz.heap.size wz).alloc (Nat.le_refl _) (.cells #[.int .i64 N, .slice Ab (b).length cb] 26)).mono hb.size)
  have HBW := Lib.hid (HBW.out.trans (hb.mono HBW.out.size))
  try have HVA := Lib.hid (HVA.out.lift hb)
  try have HVB := Lib.hid (HVB.out.lift hb)
  try have HVC := Lib.hid (HVC.out.lift hb)
  try have HVT := Lib.hid (HVT.out.lift hb)
  try have HVX := Lib.hid (HVX.out.lift hb)
  try have HVM := Lib.hid (HVM.out.lift hb)
  try have HVF := Lib.hid (HVF.out.lift hb)
  try have HVP := Lib.hid (HVP.out.lift hb)
  try have HVQ := Lib.hid (HVQ.out.lift hb)
  try have HLA := Lib.hid (HLA.out.lift hb)
  try have HLW := Lib.hid (HLW.out.lift hb)
  try have HI := Lib.hid (HI.out.lift hb)
  try have HRB := Lib.hid (HRB.out.trans (hb.mono HRB.out.size))
  try have HWW := Lib.hid (HWW.out.trans (hb.mono HWW.out.size))
  clear hb
  have HVB := Lib.hid (Hav.boxed hI0 N cb)
  clear hI0
  clear hr hob
  go_wp2_with fail
  generalize wz.alloc (.cells #[.int .i64 N, .slice Ab b.length cb] 26) = w3 at *
  generalize wz.heap.size = qb at *
  refine (spec_MakeOf_any A cap xs 40 N w3 (HA.out.lift HBW.out) (by decide) hn1 (by omega)).mono ?_
  rintro e wz ⟨⟨c, Ac, cc, rfl, hoc, hr⟩, hb⟩
  have HOC := Lib.hid hoc
  have hlc : c.length ≤ N := rhok_len hoc
  have hI0 := hr.ints (rh_fits hoc)
  have hb := hb.trans (((Below.refl wz.heap.size wz).alloc (Nat.le_refl _) (.cells #[.int .i64 N, .slice Ac (c).length cc] 26)).mono hb.size)
  have HBW := Lib.hid (HBW.out.trans (hb.mono HBW.out.size))
  try have HVA := Lib.hid (HVA.out.lift hb)
  try have HVB := Lib.hid (HVB.out.lift hb)
  try have HVC := Lib.hid (HVC.out.lift hb)
  try have HVT := Lib.hid (HVT.out.lift hb)
  try have HVX := Lib.hid (HVX.out.lift hb)
  try have HVM := Lib.hid (HVM.out.lift hb)
  try have HVF := Lib.hid (HVF.out.lift hb)
  try have HVP := Lib.hid (HVP.out.lift hb)
  try have HVQ := Lib.hid (HVQ.out.lift hb)
  try have HLA := Lib.hid (HLA.out.lift hb)
  try have HLW := Lib.hid (HLW.out.lift hb)
  try have HI := Lib.hid (HI.out.lift hb)
  try have HRB := Lib.hid (HRB.out.trans (hb.mono HRB.out.size))
  try have HWW := Lib.hid (HWW.out.trans (hb.mono HWW.out.size))
  clear hb
  have HVC := Lib.hid (Hav.boxed hI0 N cc)
  clear hI0
  clear hr hoc
  obtain ⟨⟨ca0, ca1, _, _, _⟩, hIa⟩ := HVA.out
  obtain ⟨⟨cb0, cb1, _, _, _⟩, hIb⟩ := HVB.out
  have HIa := Lib.hid hIa
  have HIb := Lib.hid hIb
  clear hIa hIb
  go_wp2_with fail
  generalize wz.alloc (.cells #[.int .i64 N, .slice Ac c.length cc] 26) = w4 at *
  generalize wz.heap.size = qc at *
  refine (impl_MoveDistance_any N N Aa Ab ca cb a b w4 hfN hfN HIa.out HIb.out).mono ?_
  rintro e w5 ⟨rfl, hb⟩
  have HBW := Lib.hid (HBW.out.trans (hb.mono HBW.out.size))
  try have HVA := Lib.hid (HVA.out.lift hb)
  try have HVB := Lib.hid (HVB.out.lift hb)
  try have HVC := Lib.hid (HVC.out.lift hb)
  try have HVT := Lib.hid (HVT.out.lift hb)
  try have HVX := Lib.hid (HVX.out.lift hb)
  try have HVM := Lib.hid (HVM.out.lift hb)
  try have HVF := Lib.hid (HVF.out.lift hb)
  try have HVP := Lib.hid (HVP.out.lift hb)
  try have HVQ := Lib.hid (HVQ.out.lift hb)
  try have HLA := Lib.hid (HLA.out.lift hb)
  try have HLW := Lib.hid (HLW.out.lift hb)
  try have HI := Lib.hid (HI.out.lift hb)
  try have HRB := Lib.hid (HRB.out.trans (hb.mono HRB.out.size))
  try have HWW := Lib.hid (HWW.out.trans (hb.mono HWW.out.size))
  clear hb
  obtain ⟨D, hD⟩ : ∃ D, mdV N N a b = D := ⟨_, rfl⟩
  obtain ⟨q, hq1, hq2, hdq0⟩ : ∃ q : Bool, decide (0 ≤ D) = q ∧ ((a.length : Int) == (b.length : Int)) = q ∧ (q = true → a.length = b.length ∧ D = farV N a b ∧ 0 ≤ D) := by
    by_cases hl : a.length = b.length
    · rw [mdV_ok HOA.out HOB.out hl] at hD
      have := farV_nonneg N a b
      exact ⟨true, decide_eq_true (by omega), beq_iff_eq.2 (by omega), fun _ => ⟨hl, hD.symm, by omega⟩⟩
    · rw [mdV_no hl] at hD
      exact ⟨false, decide_eq_false (by omega), beq_eq_false_iff_ne.2 (by omega), fun h => by cases h⟩
  have HDQ := Lib.hid hdq0
  clear hdq0
  rw [hD]
  clear hD ca0 ca1 cb0 cb1 HIa HIb
  obtain ⟨⟨ca0, ca1, _, _, _⟩, hIa⟩ := HVA.out
  obtain ⟨⟨cb0, cb1, _, _, _⟩, _⟩ := HVB.out
  have HIa := Lib.hid hIa
  clear hIa
  go_wp2_with fail
  have hMV := impl_MovesOf_any N Aa ca a w5 hfN HIa.out
  rw [movV_ins HOA.out] at hMV
  refine hMV.mono ?_
  rintro e w6 ⟨v, rs, rfl, hkey, hown, hb⟩
  clear hMV
  obtain ⟨Al, cl, rfl⟩ := hown.form
  obtain ⟨k1, k2⟩ := key_split hkey
  have hLL := insN_len N a (2 * a.length)
  have hrl : rs.length ≤ 48 := by
    have := congrArg List.length k1
    rw [List.length_map] at this
    omega
  have HX := Lib.hid (show ∀ i (h : i < rs.length), rs[i].n = N ∧ rs[i].xs ∈ insL N a (2 * a.length) from fun i h => ⟨k2 _ (List.getElem_mem h), by rw [← k1]; exact List.mem_map.2 ⟨_, List.getElem_mem h, rfl⟩⟩)
  have hLA := hown.rd (by omega) (fun r hr => by
    obtain ⟨i, hi, rfl⟩ := List.getElem_of_mem hr
    exact rh_fits' (mv_props HOA.out (HX.out i hi).2).1)
  have HBW := Lib.hid (HBW.out.trans (hb.mono HBW.out.size))
  try have HVA := Lib.hid (HVA.out.lift hb)
  try have HVB := Lib.hid (HVB.out.lift hb)
  try have HVC := Lib.hid (HVC.out.lift hb)
  try have HVT := Lib.hid (HVT.out.lift hb)
  try have HVX := Lib.hid (HVX.out.lift hb)
  try have HVM := Lib.hid (HVM.out.lift hb)
  try have HVF := Lib.hid (HVF.out.lift hb)
  try have HVP := Lib.hid (HVP.out.lift hb)
  try have HVQ := Lib.hid (HVQ.out.lift hb)
  try have HLA := Lib.hid (HLA.out.lift hb)
  try have HLW := Lib.hid (HLW.out.lift hb)
  try have HI := Lib.hid (HI.out.lift hb)
  try have HRB := Lib.hid (HRB.out.trans (hb.mono HRB.out.size))
  try have HWW := Lib.hid (HWW.out.trans (hb.mono HWW.out.size))
  clear hb
  have HLA := Lib.hid hLA
  clear hLA hkey hown k1 k2 ca0 ca1 cb0 cb1 HIa hLL
  go_wp2_with fail
  go_loopw [51] (fun v wr => ∃ i : Nat, i ≤ rs.length ∧ v = .int .i64 i ∧ Below w6.heap.size w6 wr) (fun v _ => rs.length - (intOf v).toNat)
  case atStart => exact ⟨0, Nat.zero_le _, rfl, Below.refl _ _⟩
  case round =>
    obtain ⟨i, hi, rfl, hb⟩ := hrel
    have HRB := Lib.hid hb
    have HBW := Lib.hid (HBW.out.trans (hb.mono HBW.out.size))
    try have HVA := Lib.hid (HVA.out.lift hb)
    try have HVB := Lib.hid (HVB.out.lift hb)
    try have HVC := Lib.hid (HVC.out.lift hb)
    try have HVT := Lib.hid (HVT.out.lift hb)
    try have HVX := Lib.hid (HVX.out.lift hb)
    try have HVM := Lib.hid (HVM.out.lift hb)
    try have HVF := Lib.hid (HVF.out.lift hb)
    try have HVP := Lib.hid (HVP.out.lift hb)
    try have HVQ := Lib.hid (HVQ.out.lift hb)
    try have HLA := Lib.hid (HLA.out.lift hb)
    try have HLW := Lib.hid (HLW.out.lift hb)
    try have HI := Lib.hid (HI.out.lift hb)
    try have HRB := Lib.hid (HRB.out.trans (hb.mono HRB.out.size))
    try have HWW := Lib.hid (HWW.out.trans (hb.mono HWW.out.size))
    clear hb
    by_cases hlt : i < rs.length
    · as_aux_lemma =>
      have hki : (i : Int) < (rs.length : Int) := by omega
      have hk0 : (0 : Int) ≤ (i : Int) := Int.natCast_nonneg _
      obtain ⟨gl, rfl, hgl, hc⟩ := HLA.out.2.2 (by omega)
      obtain ⟨r0, r1⟩ := hc i hlt
      have hIy := HLA.out.2.1 _ (List.getElem_mem hlt)
      obtain ⟨e1, e2⟩ := HX.out i hlt
      obtain ⟨r, hr⟩ : ∃ r, rs[i] = r := ⟨_, rfl⟩
      rw [hr] at r0 r1 hIy e1 e2
      unfold RV.slc at r1
      rw [e1] at r0
      generalize r.xs = y at *
      generalize r.A = Ay at *
      generalize r.c = cy at *
      obtain ⟨p1, p2, p3, p4, p5⟩ := mv_props HOA.out e2
      have HYM := Lib.hid e2
      have HOY := Lib.hid p1
      have HYB := Lib.hid p5
      have HMD := Lib.hid (fun V h1 h2 => impl_MoveDistance_any N N Aa Ay ca cy a y V hfN hfN h1 h2)
      rw [mdV_ok HOA.out p1 p2.symm, p3] at HMD
      have HCB := Lib.hid (fun V h1 h2 => impl_CommonBeats_ok N Aa Ay ca cy a y V h1 h2 HOA.out p1)
      rw [p4] at HCB
      have hal1 : 1 ≤ a.length := by
        obtain ⟨j, d, hj, _⟩ := mv_get HOA.out e2
        omega
      have hwl : IntKind.i64.wrap ((a.length : Int) - 1) = ((a.length - 1 : Nat) : Int) := by rw [Int.natCast_sub (by omega)]; exact i64w (by omega)
      clear hr e1 e2 hc p1 p2 p3 p4 p5
      have hb := (Below.refl wr.heap.size wr).alloc (Nat.le_refl _) (.cells #[.int .i64 N, .slice Ay y.length cy] 26)
      have HBW := Lib.hid (HBW.out.trans (hb.mono HBW.out.size))
      try have HVA := Lib.hid (HVA.out.lift hb)
      try have HVB := Lib.hid (HVB.out.lift hb)
      try have HVC := Lib.hid (HVC.out.lift hb)
      try have HVT := Lib.hid (HVT.out.lift hb)
      try have HVX := Lib.hid (HVX.out.lift hb)
      try have HVM := Lib.hid (HVM.out.lift hb)
      try have HVF := Lib.hid (HVF.out.lift hb)
      try have HVP := Lib.hid (HVP.out.lift hb)
      try have HVQ := Lib.hid (HVQ.out.lift hb)
      try have HLA := Lib.hid (HLA.out.lift hb)
      try have HLW := Lib.hid (HLW.out.lift hb)
      try have HI := Lib.hid (HI.out.lift hb)
      try have HRB := Lib.hid (HRB.out.trans (hb.mono HRB.out.size))
      try have HWW := Lib.hid (HWW.out.trans (hb.mono HWW.out.size))
      clear hb
      have HVX := Lib.hid (Hav.boxed hIy N cy)
      clear hIy
      obtain ⟨⟨c0, c1, _, _, _⟩, _⟩ := HVA.out
      obtain ⟨⟨d0, d1, _, _, _⟩, _⟩ := HVX.out
      go_wp2_with fail
      generalize wr.alloc (.cells #[.int .i64 N, .slice Ay y.length cy] 26) = wx at *
      generalize wr.heap.size = qx at *
      have HBW := Lib.hid (Below.drewH_ HBW.out)
      try have HRB := Lib.hid (Below.drewH_ HRB.out)
      try have HWW := Lib.hid (Below.drewH_ HWW.out)
      try have HVA := Lib.hid HVA.out.drew
      try have HVB := Lib.hid HVB.out.drew
      try have HVC := Lib.hid HVC.out.drew
      try have HVT := Lib.hid HVT.out.drew
      try have HVX := Lib.hid HVX.out.drew
      try have HVM := Lib.hid HVM.out.drew
      try have HVF := Lib.hid HVF.out.drew
      try have HVP := Lib.hid HVP.out.drew
      try have HVQ := Lib.hid HVQ.out.drew
      try have HLA := Lib.hid HLA.out.drewR_
      try have HLW := Lib.hid HLW.out.drewR_
      (refine wp_region_held_drew (S := (fun w' => w'.cell? ⟨qa, 0, none⟩ = some (.int .i64 N) ∧ w'.cell? ⟨qa, 1, none⟩ = some (.slice Aa (a).length ca) ∧ w'.cell? ⟨qx, 0, none⟩ = some (.int .i64 N) ∧ w'.cell? ⟨qx, 1, none⟩ = some (.slice Ay (y).length cy))) (by kernel_rfl) ?_ (fun hHeld => ?_); (focus ((try dsimp only); exact ⟨c0, c1, d0, d1⟩)))
      ((refine wpAnyH_take (i := 0) (v := ?_) rfl (by kernel_rfl) (by kernel_rfl) (by kernel_rfl) (fun _ _ _ h => h) (Or.inl ⟨by rfl, ?_⟩) (by assumption) ?_; rotate_left; (focus (intro wS hSw; (try dsimp only at hSw); go_simp; (try with_reducible rfl))); (try simp only [Act.put, List.getElem_toArray, List.getElem_cons_zero, List.getElem_cons_succ, List.setIfInBounds_toArray, List.set_cons_zero, List.set_cons_succ])); (refine wpAnyH_take (i := 1) (v := ?_) rfl (by kernel_rfl) (by kernel_rfl) (by kernel_rfl) (fun _ _ _ h => h) (Or.inl ⟨by rfl, ?_⟩) (by assumption) ?_; rotate_left; (focus (intro wS hSw; (try dsimp only at hSw); go_simp; (try with_reducible rfl))); (try simp only [Act.put, List.getElem_toArray, List.getElem_cons_zero, List.getElem_cons_succ, List.setIfInBounds_toArray, List.set_cons_zero, List.set_cons_succ])))
      (refine wpAnyH_ready (rs := [2]) (by kernel_rfl) (by simp) ?_; refine AllReadyH.cons rfl (fun K hK => ?_) AllReadyH.nil; go_simp)
      go_at_call 9
      refine (impl_IsMove_yes N Aa Ay ca cy a y _ HVA.out.2 HVX.out.2 HOA.out HOY.out HYM.out).mono ?_
      rintro e wn ⟨rfl, hb⟩
      have HBW := Lib.hid (HBW.out.trans (hb.mono HBW.out.size))
      try have HVA := Lib.hid (HVA.out.lift hb)
      try have HVB := Lib.hid (HVB.out.lift hb)
      try have HVC := Lib.hid (HVC.out.lift hb)
      try have HVT := Lib.hid (HVT.out.lift hb)
      try have HVX := Lib.hid (HVX.out.lift hb)
      try have HVM := Lib.hid (HVM.out.lift hb)
      try have HVF := Lib.hid (HVF.out.lift hb)
      try have HVP := Lib.hid (HVP.out.lift hb)
      try have HVQ := Lib.hid (HVQ.out.lift hb)
      try have HLA := Lib.hid (HLA.out.lift hb)
      try have HLW := Lib.hid (HLW.out.lift hb)
      try have HI := Lib.hid (HI.out.lift hb)
      try have HRB := Lib.hid (HRB.out.trans (hb.mono HRB.out.size))
      try have HWW := Lib.hid (HWW.out.trans (hb.mono HWW.out.size))
      clear hb
      clear c0 c1 d0 d1
      obtain ⟨⟨c0, c1, _, _, _⟩, _⟩ := HVA.out
      obtain ⟨⟨d0, d1, _, _, _⟩, _⟩ := HVX.out
      go_wp2_with fail
      (refine hK.out _ _ ?_ (fun hHeld2 => ?_); (focus ((try dsimp only); exact ⟨c0, c1, d0, d1⟩)); (clear hK K); (try simp only [Act.put, List.getElem_toArray, List.getElem_cons_zero, List.getElem_cons_succ, List.setIfInBounds_toArray, List.set_cons_zero, List.set_cons_succ]))
      ((refine wpAnyH_take (i := 3) (v := ?_) rfl (by kernel_rfl) (by kernel_rfl) (by kernel_rfl) (fun _ _ _ h => h) (Or.inl ⟨by rfl, ?_⟩) (by assumption) ?_; rotate_left; (focus (intro wS hSw; (try dsimp only at hSw); go_simp; (try with_reducible rfl))); (try simp only [Act.put, List.getElem_toArray, List.getElem_cons_zero, List.getElem_cons_succ, List.setIfInBounds_toArray, List.set_cons_zero, List.set_cons_succ])); (refine wpAnyH_take (i := 4) (v := ?_) rfl (by kernel_rfl) (by kernel_rfl) (by kernel_rfl) (fun _ _ _ h => h) (Or.inl ⟨by rfl, ?_⟩) (by assumption) ?_; rotate_left; (focus (intro wS hSw; (try dsimp only at hSw); go_simp; (try with_reducible rfl))); (try simp only [Act.put, List.getElem_toArray, List.getElem_cons_zero, List.getElem_cons_succ, List.setIfInBounds_toArray, List.set_cons_zero, List.set_cons_succ])); (refine wpAnyH_take (i := 5) (v := ?_) rfl (by kernel_rfl) (by kernel_rfl) (by kernel_rfl) (fun _ _ _ h => h) (Or.inl ⟨by rfl, ?_⟩) (by assumption) ?_; rotate_left; (focus (intro wS hSw; (try dsimp only at hSw); go_simp; (try with_reducible rfl))); (try simp only [Act.put, List.getElem_toArray, List.getElem_cons_zero, List.getElem_cons_succ, List.setIfInBounds_toArray, List.set_cons_zero, List.set_cons_succ])); (refine wpAnyH_take (i := 6) (v := ?_) rfl (by kernel_rfl) (by kernel_rfl) (by kernel_rfl) (fun _ _ _ h => h) (Or.inl ⟨by rfl, ?_⟩) (by assumption) ?_; rotate_left; (focus (intro wS hSw; (try dsimp only at hSw); go_simp; (try with_reducible rfl))); (try simp only [Act.put, List.getElem_toArray, List.getElem_cons_zero, List.getElem_cons_succ, List.setIfInBounds_toArray, List.set_cons_zero, List.set_cons_succ])))
      (refine wpAnyH_ready (rs := [7]) (by kernel_rfl) (by simp) ?_; refine AllReadyH.cons rfl (fun K hK => ?_) AllReadyH.nil; go_simp)
      go_at_call 9
      refine (impl_IsMove_yes N Ay Aa cy ca y a _ HVX.out.2 HVA.out.2 HOY.out HOA.out HYB.out).mono ?_
      rintro e wn ⟨rfl, hb⟩
      have HBW := Lib.hid (HBW.out.trans (hb.mono HBW.out.size))
      try have HVA := Lib.hid (HVA.out.lift hb)
      try have HVB := Lib.hid (HVB.out.lift hb)
      try have HVC := Lib.hid (HVC.out.lift hb)
      try have HVT := Lib.hid (HVT.out.lift hb)
      try have HVX := Lib.hid (HVX.out.lift hb)
      try have HVM := Lib.hid (HVM.out.lift hb)
      try have HVF := Lib.hid (HVF.out.lift hb)
      try have HVP := Lib.hid (HVP.out.lift hb)
      try have HVQ := Lib.hid (HVQ.out.lift hb)
      try have HLA := Lib.hid (HLA.out.lift hb)
      try have HLW := Lib.hid (HLW.out.lift hb)
      try have HI := Lib.hid (HI.out.lift hb)
      try have HRB := Lib.hid (HRB.out.trans (hb.mono HRB.out.size))
      try have HWW := Lib.hid (HWW.out.trans (hb.mono HWW.out.size))
      clear hb
      clear c0 c1 d0 d1
      obtain ⟨⟨c0, c1, _, _, _⟩, _⟩ := HVA.out
      obtain ⟨⟨d0, d1, _, _, _⟩, _⟩ := HVX.out
      go_wp2_with fail
      (refine hK.out _ _ ?_ (fun hHeld2 => ?_); (focus ((try dsimp only); exact ⟨c0, c1, d0, d1⟩)); (clear hK K); (try simp only [Act.put, List.getElem_toArray, List.getElem_cons_zero, List.getElem_cons_succ, List.setIfInBounds_toArray, List.set_cons_zero, List.set_cons_succ]))
      ((refine wpAnyH_take (i := 8) (v := ?_) rfl (by kernel_rfl) (by kernel_rfl) (by kernel_rfl) (fun _ _ _ h => h) (Or.inl ⟨by rfl, ?_⟩) (by assumption) ?_; rotate_left; (focus (intro wS hSw; (try dsimp only at hSw); go_simp; (try with_reducible rfl))); (try simp only [Act.put, List.getElem_toArray, List.getElem_cons_zero, List.getElem_cons_succ, List.setIfInBounds_toArray, List.set_cons_zero, List.set_cons_succ])); (refine wpAnyH_take (i := 9) (v := ?_) rfl (by kernel_rfl) (by kernel_rfl) (by kernel_rfl) (fun _ _ _ h => h) (Or.inl ⟨by rfl, ?_⟩) (by assumption) ?_; rotate_left; (focus (intro wS hSw; (try dsimp only at hSw); go_simp; (try with_reducible rfl))); (try simp only [Act.put, List.getElem_toArray, List.getElem_cons_zero, List.getElem_cons_succ, List.setIfInBounds_toArray, List.set_cons_zero, List.set_cons_succ])); (refine wpAnyH_take (i := 10) (v := ?_) rfl (by kernel_rfl) (by kernel_rfl) (by kernel_rfl) (fun _ _ _ h => h) (Or.inl ⟨by rfl, ?_⟩) (by assumption) ?_; rotate_left; (focus (intro wS hSw; (try dsimp only at hSw); go_simp; (try with_reducible rfl))); (try simp only [Act.put, List.getElem_toArray, List.getElem_cons_zero, List.getElem_cons_succ, List.setIfInBounds_toArray, List.set_cons_zero, List.set_cons_succ])); (refine wpAnyH_take (i := 11) (v := ?_) rfl (by kernel_rfl) (by kernel_rfl) (by kernel_rfl) (fun _ _ _ h => h) (Or.inl ⟨by rfl, ?_⟩) (by assumption) ?_; rotate_left; (focus (intro wS hSw; (try dsimp only at hSw); go_simp; (try with_reducible rfl))); (try simp only [Act.put, List.getElem_toArray, List.getElem_cons_zero, List.getElem_cons_succ, List.setIfInBounds_toArray, List.set_cons_zero, List.set_cons_succ])); (refine wpAnyH_take (i := 12) (v := ?_) rfl (by kernel_rfl) (by kernel_rfl) (by kernel_rfl) (fun _ _ _ h => h) (Or.inl ⟨by rfl, ?_⟩) (by assumption) ?_; rotate_left; (focus (intro wS hSw; (try dsimp only at hSw); go_simp; (try with_reducible rfl))); (try simp only [Act.put, List.getElem_toArray, List.getElem_cons_zero, List.getElem_cons_succ, List.setIfInBounds_toArray, List.set_cons_zero, List.set_cons_succ])))
      (refine wpAnyH_ready (rs := [13]) (by kernel_rfl) (by simp) ?_; refine AllReadyH.cons rfl (fun K hK => ?_) AllReadyH.nil; go_simp)
      go_at_call 7
      refine (HMD.out _ HVA.out.2 HVX.out.2).mono ?_
      rintro e wn ⟨rfl, hb⟩
      have HBW := Lib.hid (HBW.out.trans (hb.mono HBW.out.size))
      try have HVA := Lib.hid (HVA.out.lift hb)
      try have HVB := Lib.hid (HVB.out.lift hb)
      try have HVC := Lib.hid (HVC.out.lift hb)
      try have HVT := Lib.hid (HVT.out.lift hb)
      try have HVX := Lib.hid (HVX.out.lift hb)
      try have HVM := Lib.hid (HVM.out.lift hb)
      try have HVF := Lib.hid (HVF.out.lift hb)
      try have HVP := Lib.hid (HVP.out.lift hb)
      try have HVQ := Lib.hid (HVQ.out.lift hb)
      try have HLA := Lib.hid (HLA.out.lift hb)
      try have HLW := Lib.hid (HLW.out.lift hb)
      try have HI := Lib.hid (HI.out.lift hb)
      try have HRB := Lib.hid (HRB.out.trans (hb.mono HRB.out.size))
      try have HWW := Lib.hid (HWW.out.trans (hb.mono HWW.out.size))
      clear hb
      clear c0 c1 d0 d1
      obtain ⟨⟨c0, c1, _, _, _⟩, _⟩ := HVA.out
      obtain ⟨⟨d0, d1, _, _, _⟩, _⟩ := HVX.out
      go_wp2_with fail
      (refine hK.out _ _ ?_ (fun hHeld2 => ?_); (focus ((try dsimp only); exact ⟨c0, c1, d0, d1⟩)); (clear hK K); (try simp only [Act.put, List.getElem_toArray, List.getElem_cons_zero, List.getElem_cons_succ, List.setIfInBounds_toArray, List.set_cons_zero, List.set_cons_succ]))
      ((refine wpAnyH_take (i := 14) (v := ?_) rfl (by kernel_rfl) (by kernel_rfl) (by kernel_rfl) (fun _ _ _ h => h) (Or.inl ⟨by rfl, ?_⟩) (by assumption) ?_; rotate_left; (focus (intro wS hSw; (try dsimp only at hSw); go_simp; (try with_reducible rfl))); (try simp only [Act.put, List.getElem_toArray, List.getElem_cons_zero, List.getElem_cons_succ, List.setIfInBounds_toArray, List.set_cons_zero, List.set_cons_succ])); (refine wpAnyH_take (i := 15) (v := ?_) rfl (by kernel_rfl) (by kernel_rfl) (by kernel_rfl) (fun _ _ _ h => h) (Or.inl ⟨by rfl, ?_⟩) (by assumption) ?_; rotate_left; (focus (intro wS hSw; (try dsimp only at hSw); go_simp; (try with_reducible rfl))); (try simp only [Act.put, List.getElem_toArray, List.getElem_cons_zero, List.getElem_cons_succ, List.setIfInBounds_toArray, List.set_cons_zero, List.set_cons_succ])); (refine wpAnyH_take (i := 16) (v := ?_) rfl (by kernel_rfl) (by kernel_rfl) (by kernel_rfl) (fun _ _ _ h => h) (Or.inl ⟨by rfl, ?_⟩) (by assumption) ?_; rotate_left; (focus (intro wS hSw; (try dsimp only at hSw); go_simp; (try with_reducible rfl))); (try simp only [Act.put, List.getElem_toArray, List.getElem_cons_zero, List.getElem_cons_succ, List.setIfInBounds_toArray, List.set_cons_zero, List.set_cons_succ])); (refine wpAnyH_take (i := 17) (v := ?_) rfl (by kernel_rfl) (by kernel_rfl) (by kernel_rfl) (fun _ _ _ h => h) (Or.inl ⟨by rfl, ?_⟩) (by assumption) ?_; rotate_left; (focus (intro wS hSw; (try dsimp only at hSw); go_simp; (try with_reducible rfl))); (try simp only [Act.put, List.getElem_toArray, List.getElem_cons_zero, List.getElem_cons_succ, List.setIfInBounds_toArray, List.set_cons_zero, List.set_cons_succ])); (refine wpAnyH_take (i := 18) (v := ?_) rfl (by kernel_rfl) (by kernel_rfl) (by kernel_rfl) (fun _ _ _ h => h) (Or.inl ⟨by rfl, ?_⟩) (by assumption) ?_; rotate_left; (focus (intro wS hSw; (try dsimp only at hSw); go_simp; (try with_reducible rfl))); (try simp only [Act.put, List.getElem_toArray, List.getElem_cons_zero, List.getElem_cons_succ, List.setIfInBounds_toArray, List.set_cons_zero, List.set_cons_succ])); (refine wpAnyH_take (i := 20) (v := ?_) rfl (by kernel_rfl) (by kernel_rfl) (by kernel_rfl) (fun _ _ _ h => h) (Or.inl ⟨by rfl, ?_⟩) (by assumption) ?_; rotate_left; (focus (intro wS hSw; (try dsimp only at hSw); go_simp; (try with_reducible rfl))); (try simp only [Act.put, List.getElem_toArray, List.getElem_cons_zero, List.getElem_cons_succ, List.setIfInBounds_toArray, List.set_cons_zero, List.set_cons_succ])); (refine wpAnyH_take (i := 21) (v := ?_) rfl (by kernel_rfl) (by kernel_rfl) (by kernel_rfl) (fun _ _ _ h => h) (Or.inl ⟨by rfl, ?_⟩) (by assumption) ?_; rotate_left; (focus (intro wS hSw; (try dsimp only at hSw); go_simp; (try with_reducible rfl))); (try simp only [Act.put, List.getElem_toArray, List.getElem_cons_zero, List.getElem_cons_succ, List.setIfInBounds_toArray, List.set_cons_zero, List.set_cons_succ])); (refine wpAnyH_take (i := 22) (v := ?_) rfl (by kernel_rfl) (by kernel_rfl) (by kernel_rfl) (fun _ _ _ h => h) (Or.inl ⟨by rfl, ?_⟩) (by assumption) ?_; rotate_left; (focus (intro wS hSw; (try dsimp only at hSw); go_simp; (try with_reducible rfl))); (try simp only [Act.put, List.getElem_toArray, List.getElem_cons_zero, List.getElem_cons_succ, List.setIfInBounds_toArray, List.set_cons_zero, List.set_cons_succ])); (refine wpAnyH_take (i := 23) (v := ?_) rfl (by kernel_rfl) (by kernel_rfl) (by kernel_rfl) (fun _ _ _ h => h) (Or.inl ⟨by rfl, ?_⟩) (by assumption) ?_; rotate_left; (focus (intro wS hSw; (try dsimp only at hSw); go_simp; (try with_reducible rfl))); (try simp only [Act.put, List.getElem_toArray, List.getElem_cons_zero, List.getElem_cons_succ, List.setIfInBounds_toArray, List.set_cons_zero, List.set_cons_succ])))
      (refine wpAnyH_ready (rs := [19]) (by kernel_rfl) (by simp) ?_; refine AllReadyH.cons rfl (fun K hK => ?_) AllReadyH.nil; go_simp)
      go_at_call 10
      refine (HCB.out _ HVA.out.2 HVX.out.2).mono ?_
      rintro e wn ⟨rfl, hb⟩
      have HBW := Lib.hid (HBW.out.trans (hb.mono HBW.out.size))
      try have HVA := Lib.hid (HVA.out.lift hb)
      try have HVB := Lib.hid (HVB.out.lift hb)
      try have HVC := Lib.hid (HVC.out.lift hb)
      try have HVT := Lib.hid (HVT.out.lift hb)
      try have HVX := Lib.hid (HVX.out.lift hb)
      try have HVM := Lib.hid (HVM.out.lift hb)
      try have HVF := Lib.hid (HVF.out.lift hb)
      try have HVP := Lib.hid (HVP.out.lift hb)
      try have HVQ := Lib.hid (HVQ.out.lift hb)
      try have HLA := Lib.hid (HLA.out.lift hb)
      try have HLW := Lib.hid (HLW.out.lift hb)
      try have HI := Lib.hid (HI.out.lift hb)
      try have HRB := Lib.hid (HRB.out.trans (hb.mono HRB.out.size))
      try have HWW := Lib.hid (HWW.out.trans (hb.mono HWW.out.size))
      clear hb
      clear c0 c1 d0 d1
      obtain ⟨⟨c0, c1, _, _, _⟩, _⟩ := HVA.out
      obtain ⟨⟨d0, d1, _, _, _⟩, _⟩ := HVX.out
      go_wp2_with fail
      (refine hK.out _ _ ?_ (fun hHeld2 => ?_); (focus ((try dsimp only); exact ⟨c0, c1, d0, d1⟩)); (clear hK K); (try simp only [Act.put, List.getElem_toArray, List.getElem_cons_zero, List.getElem_cons_succ, List.setIfInBounds_toArray, List.set_cons_zero, List.set_cons_succ]))
      ((refine wpAnyH_take (i := 24) (v := ?_) rfl (by kernel_rfl) (by kernel_rfl) (by kernel_rfl) (fun _ _ _ h => h) (Or.inl ⟨by rfl, ?_⟩) (by assumption) ?_; rotate_left; (focus (intro wS hSw; (try dsimp only at hSw); go_simp; (try with_reducible rfl))); (try simp only [Act.put, List.getElem_toArray, List.getElem_cons_zero, List.getElem_cons_succ, List.setIfInBounds_toArray, List.set_cons_zero, List.set_cons_succ])); (refine wpAnyH_take (i := 25) (v := ?_) rfl (by kernel_rfl) (by kernel_rfl) (by kernel_rfl) (fun _ _ _ h => h) (Or.inl ⟨by rfl, ?_⟩) (by assumption) ?_; rotate_left; (focus (intro wS hSw; (try dsimp only at hSw); go_simp; (try with_reducible rfl))); (try simp only [Act.put, List.getElem_toArray, List.getElem_cons_zero, List.getElem_cons_succ, List.setIfInBounds_toArray, List.set_cons_zero, List.set_cons_succ])))
      refine wpAnyH_done (by kernel_rfl) ?_ _
      clear c0 c1 d0 d1
      go_wp2_with fail
      go_roundw
      case rel => exact ⟨i + 1, by omega, by go_num, HRB.out⟩
      case measure => simp [intOf]; omega
    · have hki : ¬ (i : Int) < (rs.length : Int) := by omega
      clear hlt hi HRB HLA HX
      obtain ⟨⟨c0, c1, _, _, _⟩, _⟩ := HVA.out
      go_wp2_with fail
      go_cut [10, 11, 82] from 83 to 90 (fun sp sk _ wx => ∃ (qt : Nat) (At : Option Addr) (ct : Nat) (r : Nat), sp = .pointer (some ⟨qt, 0, none⟩) ∧ sk = .bool true ∧ r < N ∧ Hav wx N qt At ct (rotL N a r) ∧ Below wr.heap.size wr wx)
      case first =>
        have HRB := Lib.hid (Below.refl wr.heap.size wr)
        have HVA0 := HVA
        have hnz : (N = 0) = False := eq_false (by omega)
        have hfl : ∀ z : Int, 0 ≤ z → ∃ r : Nat, z % (N : Int) = r ∧ r < N := fun z _ => by
          have h0 := Int.emod_nonneg z (show (N : Int) ≠ 0 by omega)
          have h1 := Int.emod_lt_of_pos z (show (0 : Int) < N by omega)
          obtain ⟨r, hr⟩ := Int.eq_ofNat_of_zero_le h0
          exact ⟨r, hr, by omega⟩
        have HFL := Lib.hid hfl
        clear hfl
        have HBW := Lib.hid (Below.drewH_ HBW.out)
        try have HRB := Lib.hid (Below.drewH_ HRB.out)
        try have HWW := Lib.hid (Below.drewH_ HWW.out)
        try have HVA := Lib.hid HVA.out.drew
        try have HVB := Lib.hid HVB.out.drew
        try have HVC := Lib.hid HVC.out.drew
        try have HVT := Lib.hid HVT.out.drew
        try have HVX := Lib.hid HVX.out.drew
        try have HVM := Lib.hid HVM.out.drew
        try have HVF := Lib.hid HVF.out.drew
        try have HVP := Lib.hid HVP.out.drew
        try have HVQ := Lib.hid HVQ.out.drew
        try have HLA := Lib.hid HLA.out.drewR_
        try have HLW := Lib.hid HLW.out.drewR_
        (refine wp_region_held_drew (S := (fun w' => w'.cell? ⟨qa, 0, none⟩ = some (.int .i64 N) ∧ w'.cell? ⟨qa, 1, none⟩ = some (.slice Aa a.length ca))) (by kernel_rfl) ?_ (fun hHeld => ?_); (focus ((try dsimp only); exact ⟨c0, c1⟩)))
        generalize wr.drew = wg at *
        ((refine wpAnyH_take (i := 0) (v := ?_) rfl (by kernel_rfl) (by kernel_rfl) (by kernel_rfl) (fun _ _ _ h => h) (Or.inl ⟨by rfl, ?_⟩) (by assumption) ?_; rotate_left; (focus (intro wS hSw; (try dsimp only at hSw); go_simp; (try with_reducible rfl))); (try simp only [Act.put, List.getElem_toArray, List.getElem_cons_zero, List.getElem_cons_succ, List.setIfInBounds_toArray, List.set_cons_zero, List.set_cons_succ])); (refine wpAnyH_take (i := 1) (v := ?_) rfl (by kernel_rfl) (by kernel_rfl) (by kernel_rfl) (fun _ _ _ h => h) (Or.inl ⟨by rfl, ?_⟩) (by assumption) ?_; rotate_left; (focus (intro wS hSw; (try dsimp only at hSw); go_simp; (try with_reducible rfl))); (try simp only [Act.put, List.getElem_toArray, List.getElem_cons_zero, List.getElem_cons_succ, List.setIfInBounds_toArray, List.set_cons_zero, List.set_cons_succ])); (refine wpAnyH_take (i := 3) (v := ?_) rfl (by kernel_rfl) (by kernel_rfl) (by kernel_rfl) (fun _ _ _ h => h) (Or.inl ⟨by rfl, ?_⟩) (by assumption) ?_; rotate_left; (focus (intro wS hSw; (try dsimp only at hSw); go_simp; (try with_reducible rfl))); (try simp only [Act.put, List.getElem_toArray, List.getElem_cons_zero, List.getElem_cons_succ, List.setIfInBounds_toArray, List.set_cons_zero, List.set_cons_succ])))
        refine wpAnyH_ready (rs := [2, 9]) (by kernel_rfl) (by simp) ?_
        refine AllReadyH.cons rfl (fun K hK => ?_) (AllReadyH.cons rfl (fun K hK => ?_) AllReadyH.nil)
        · go_simp
          go_at_call 5
          refine (spec_MakeNum_any A cap xs 60 _ (HA.out.lift HBW.out) (by decide)).mono ?_
          rintro e wn ⟨⟨z, rfl, hz0, hz1⟩, hb⟩
          have hqs := hb.size
          try have HG := Lib.hid (HG.out.below hb HG.out.2.2.2.2)
          have HBW := Lib.hid (HBW.out.trans (hb.mono HBW.out.size))
          try have HVA := Lib.hid (HVA.out.lift hb)
          try have HVB := Lib.hid (HVB.out.lift hb)
          try have HVC := Lib.hid (HVC.out.lift hb)
          try have HVT := Lib.hid (HVT.out.lift hb)
          try have HVX := Lib.hid (HVX.out.lift hb)
          try have HVM := Lib.hid (HVM.out.lift hb)
          try have HVF := Lib.hid (HVF.out.lift hb)
          try have HVP := Lib.hid (HVP.out.lift hb)
          try have HVQ := Lib.hid (HVQ.out.lift hb)
          try have HLA := Lib.hid (HLA.out.lift hb)
          try have HLW := Lib.hid (HLW.out.lift hb)
          try have HI := Lib.hid (HI.out.lift hb)
          try have HRB := Lib.hid (HRB.out.trans (hb.mono HRB.out.size))
          try have HWW := Lib.hid (HWW.out.trans (hb.mono HWW.out.size))
          clear hb
          clear c0 c1
          obtain ⟨⟨c0, c1, _, _, _⟩, _⟩ := HVA.out
          obtain ⟨r, hr1, hr2⟩ := HFL.out z hz0
          have hrt : z.tmod N = r := by rw [Int.tmod_eq_emod_of_nonneg hz0]; exact hr1
          go_wp2_with fail
          (refine hK.out _ _ ?_ (fun hHeld2 => ?_); (focus ((try dsimp only); exact ⟨c0, c1⟩)); (clear hK K); (try simp only [Act.put, List.getElem_toArray, List.getElem_cons_zero, List.getElem_cons_succ, List.setIfInBounds_toArray, List.set_cons_zero, List.set_cons_succ]))
          (refine wpAnyH_take (i := 4) (v := ?_) rfl (by kernel_rfl) (by kernel_rfl) (by kernel_rfl) (fun _ _ _ h => h) (Or.inl ⟨by rfl, ?_⟩) (by assumption) ?_; rotate_left; (focus (intro wS hSw; (try dsimp only at hSw); go_simp; (try with_reducible rfl))); (try simp only [Act.put, List.getElem_toArray, List.getElem_cons_zero, List.getElem_cons_succ, List.setIfInBounds_toArray, List.set_cons_zero, List.set_cons_succ]))
          refine wpAnyH_ready (rs := [5, 9]) (by kernel_rfl) (by simp) ?_
          refine AllReadyH.cons rfl (fun K hK => ?_) (AllReadyH.cons rfl (fun K hK => ?_) AllReadyH.nil)
          · go_simp
            go_at_call 11
            refine (spec_RotateRhythm_ok N Aa ca a r _ HVA.out.2 HOA.out (by omega) (by omega)).mono ?_
            rintro e wn ⟨At, ct, rfl, hrt, hb⟩
            have HRW := Lib.hid hrt
            have hqb := True.intro
            try have HG := Lib.hid (HG.out.below hb HG.out.2.2.2.2)
            clear hrt
            have HBW := Lib.hid (HBW.out.trans (hb.mono HBW.out.size))
            try have HVA := Lib.hid (HVA.out.lift hb)
            try have HVB := Lib.hid (HVB.out.lift hb)
            try have HVC := Lib.hid (HVC.out.lift hb)
            try have HVT := Lib.hid (HVT.out.lift hb)
            try have HVX := Lib.hid (HVX.out.lift hb)
            try have HVM := Lib.hid (HVM.out.lift hb)
            try have HVF := Lib.hid (HVF.out.lift hb)
            try have HVP := Lib.hid (HVP.out.lift hb)
            try have HVQ := Lib.hid (HVQ.out.lift hb)
            try have HLA := Lib.hid (HLA.out.lift hb)
            try have HLW := Lib.hid (HLW.out.lift hb)
            try have HI := Lib.hid (HI.out.lift hb)
            try have HRB := Lib.hid (HRB.out.trans (hb.mono HRB.out.size))
            try have HWW := Lib.hid (HWW.out.trans (hb.mono HWW.out.size))
            clear hb
            clear c0 c1
            obtain ⟨⟨c0, c1, _, _, _⟩, _⟩ := HVA.out
            go_wp2_with fail
            (refine hK.out _ _ ?_ (fun hHeld2 => ?_); (focus ((try dsimp only); exact ⟨c0, c1⟩)); (clear hK K); (try simp only [Act.put, List.getElem_toArray, List.getElem_cons_zero, List.getElem_cons_succ, List.setIfInBounds_toArray, List.set_cons_zero, List.set_cons_succ]))
            ((refine wpAnyH_take (i := 6) (v := ?_) rfl (by kernel_rfl) (by kernel_rfl) (by kernel_rfl) (fun _ _ _ h => h) (Or.inl ⟨by rfl, ?_⟩) (by assumption) ?_; rotate_left; (focus (intro wS hSw; (try dsimp only at hSw); go_simp; (try with_reducible rfl))); (try simp only [Act.put, List.getElem_toArray, List.getElem_cons_zero, List.getElem_cons_succ, List.setIfInBounds_toArray, List.set_cons_zero, List.set_cons_succ])); (refine wpAnyH_take (i := 7) (v := ?_) rfl (by kernel_rfl) (by kernel_rfl) (by kernel_rfl) (fun _ _ _ h => h) (Or.inl ⟨by rfl, ?_⟩) (by assumption) ?_; rotate_left; (focus (intro wS hSw; (try dsimp only at hSw); go_simp; (try with_reducible rfl))); (try simp only [Act.put, List.getElem_toArray, List.getElem_cons_zero, List.getElem_cons_succ, List.setIfInBounds_toArray, List.set_cons_zero, List.set_cons_succ])); (refine wpAnyH_take (i := 8) (v := ?_) rfl (by kernel_rfl) (by kernel_rfl) (by kernel_rfl) (fun _ _ _ h => h) (Or.inl ⟨by rfl, ?_⟩) (by assumption) ?_; rotate_left; (focus (intro wS hSw; (try dsimp only at hSw); go_simp; (try with_reducible rfl))); (try simp only [Act.put, List.getElem_toArray, List.getElem_cons_zero, List.getElem_cons_succ, List.setIfInBounds_toArray, List.set_cons_zero, List.set_cons_succ])))
            (refine wpAnyH_ready (rs := [9]) (by kernel_rfl) (by simp) ?_; refine AllReadyH.cons rfl (fun K hK => ?_) AllReadyH.nil; go_simp)
            have HG := Lib.hid (Cells2.new wn (.int .i64 0) (.slice none 0 0) 26)
            have hgb : wr.heap.size ≤ (wn).heap.size := HRB.out.size
            have hgs : (wn).heap.size < ((wn).alloc (.cells #[.int .i64 0, .slice none 0 0] 26)).heap.size := by simp
            have hb := (Below.refl (wn).heap.size wn).alloc (Nat.le_refl _) (.cells #[.int .i64 0, .slice none 0 0] 26)
            try have HRQ := Lib.hid ((HRW.out.ints (rh_fits (rotL_ok HOA.out r).1)).below hb)
            have HBW := Lib.hid (HBW.out.trans (hb.mono HBW.out.size))
            try have HVA := Lib.hid (HVA.out.lift hb)
            try have HVB := Lib.hid (HVB.out.lift hb)
            try have HVC := Lib.hid (HVC.out.lift hb)
            try have HVT := Lib.hid (HVT.out.lift hb)
            try have HVX := Lib.hid (HVX.out.lift hb)
            try have HVM := Lib.hid (HVM.out.lift hb)
            try have HVF := Lib.hid (HVF.out.lift hb)
            try have HVP := Lib.hid (HVP.out.lift hb)
            try have HVQ := Lib.hid (HVQ.out.lift hb)
            try have HLA := Lib.hid (HLA.out.lift hb)
            try have HLW := Lib.hid (HLW.out.lift hb)
            try have HI := Lib.hid (HI.out.lift hb)
            try have HRB := Lib.hid (HRB.out.trans (hb.mono HRB.out.size))
            try have HWW := Lib.hid (HWW.out.trans (hb.mono HWW.out.size))
            clear hb
            clear c0 c1
            obtain ⟨⟨c0, c1, _, _, _⟩, _⟩ := HVA.out
            generalize (wn).alloc (.cells #[.int .i64 0, .slice none 0 0] 26) = wy at *
            obtain ⟨qt, hqt⟩ : ∃ g, (wn).heap.size = g := ⟨_, rfl⟩
            simp only [hqt] at *
            clear hqt
            (refine hK.out _ _ ?_ (fun hHeld2 => ?_); (focus ((try dsimp only); exact ⟨c0, c1⟩)); (clear hK K); (try simp only [Act.put, List.getElem_toArray, List.getElem_cons_zero, List.getElem_cons_succ, List.setIfInBounds_toArray, List.set_cons_zero, List.set_cons_succ]))
            obtain ⟨g0, g1, gf0, gf1, _⟩ := HG.out
            (refine wpAnyH_ready (rs := [10]) (by kernel_rfl) (by simp) ?_; refine AllReadyH.cons rfl (fun K hK => ?_) AllReadyH.nil; go_simp)
            have HG9 := Lib.hid ((HG.out.set0 (.int .i64 N)).set1 (.slice At (rotL N a r).length ct))
            have hb9 := Lib.hid (((Below.refl qt wy).setCell (p := ⟨qt, 0, none⟩) (Nat.le_refl _) (.int .i64 N)).setCell (p := ⟨qt, 1, none⟩) (Nat.le_refl _) (.slice At (rotL N a r).length ct))
            have HI9 := Lib.hid (show Ints ((wy).setCell ⟨qt, 0, none⟩ (.int .i64 N) |>.setCell ⟨qt, 1, none⟩ (.slice At (rotL N a r).length ct)) (((wy).setCell ⟨qt, 0, none⟩ (.int .i64 N)).setCell ⟨qt, 1, none⟩ (.slice At (rotL N a r).length ct)).heap.size At (rotL N a r) from (HRQ.out.below hb9.out).mono (Nat.le_trans (Nat.le_of_lt hgs) hb9.out.size))
            have HR9 := Lib.hid ((HRB.out.setCell (p := ⟨qt, 0, none⟩) hgb (.int .i64 N)).setCell (p := ⟨qt, 1, none⟩) hgb (.slice At (rotL N a r).length ct))
            have HV0 := Lib.hid (HVA0.out.1.below HR9.out HVA0.out.1.2.2.2.2)
            clear c0 c1 g0 g1 gf0 gf1
            obtain ⟨c0, c1, _, _, _⟩ := HV0.out
            (refine hK.out _ _ ?_ (fun hHeld2 => ?_); (focus ((try dsimp only); exact ⟨c0, c1⟩)); (clear hK K); (try simp only [Act.put, List.getElem_toArray, List.getElem_cons_zero, List.getElem_cons_succ, List.setIfInBounds_toArray, List.set_cons_zero, List.set_cons_succ]))
            (refine wpAnyH_take (i := 11) (v := ?_) rfl (by kernel_rfl) (by kernel_rfl) (by kernel_rfl) (fun _ _ _ h => h) (Or.inl ⟨by rfl, ?_⟩) (by assumption) ?_; rotate_left; (focus (intro wS hSw; (try dsimp only at hSw); go_simp; (try with_reducible rfl))); (try simp only [Act.put, List.getElem_toArray, List.getElem_cons_zero, List.getElem_cons_succ, List.setIfInBounds_toArray, List.set_cons_zero, List.set_cons_succ]))
            refine wpAnyH_done (by kernel_rfl) ?_ _
            go_wp2_with fail
            go_meet
            exact ⟨qt, At, ct, r, rfl, rfl, hr2, ⟨HG9.out, HI9.out⟩, HR9.out⟩
          · go_simp
            have HG := Lib.hid (Cells2.new wn (.int .i64 0) (.slice none 0 0) 26)
            have hgb : wr.heap.size ≤ (wn).heap.size := HRB.out.size
            have hgs : (wn).heap.size < ((wn).alloc (.cells #[.int .i64 0, .slice none 0 0] 26)).heap.size := by simp
            have hb := (Below.refl (wn).heap.size wn).alloc (Nat.le_refl _) (.cells #[.int .i64 0, .slice none 0 0] 26)
            try have HRQ := Lib.hid ((HRW.out.ints (rh_fits (rotL_ok HOA.out r).1)).below hb)
            have HBW := Lib.hid (HBW.out.trans (hb.mono HBW.out.size))
            try have HVA := Lib.hid (HVA.out.lift hb)
            try have HVB := Lib.hid (HVB.out.lift hb)
            try have HVC := Lib.hid (HVC.out.lift hb)
            try have HVT := Lib.hid (HVT.out.lift hb)
            try have HVX := Lib.hid (HVX.out.lift hb)
            try have HVM := Lib.hid (HVM.out.lift hb)
            try have HVF := Lib.hid (HVF.out.lift hb)
            try have HVP := Lib.hid (HVP.out.lift hb)
            try have HVQ := Lib.hid (HVQ.out.lift hb)
            try have HLA := Lib.hid (HLA.out.lift hb)
            try have HLW := Lib.hid (HLW.out.lift hb)
            try have HI := Lib.hid (HI.out.lift hb)
            try have HRB := Lib.hid (HRB.out.trans (hb.mono HRB.out.size))
            try have HWW := Lib.hid (HWW.out.trans (hb.mono HWW.out.size))
            clear hb
            clear c0 c1
            obtain ⟨⟨c0, c1, _, _, _⟩, _⟩ := HVA.out
            generalize (wn).alloc (.cells #[.int .i64 0, .slice none 0 0] 26) = wy at *
            obtain ⟨qt, hqt⟩ : ∃ g, (wn).heap.size = g := ⟨_, rfl⟩
            simp only [hqt] at *
            clear hqt
            (refine hK.out _ _ ?_ (fun hHeld2 => ?_); (focus ((try dsimp only); exact ⟨c0, c1⟩)); (clear hK K); (try simp only [Act.put, List.getElem_toArray, List.getElem_cons_zero, List.getElem_cons_succ, List.setIfInBounds_toArray, List.set_cons_zero, List.set_cons_succ]))
            (refine wpAnyH_ready (rs := [5]) (by kernel_rfl) (by simp) ?_; refine AllReadyH.cons rfl (fun K hK => ?_) AllReadyH.nil; go_simp)
            go_at_call 11
            refine (spec_RotateRhythm_ok N Aa ca a r _ HVA.out.2 HOA.out (by omega) (by omega)).mono ?_
            rintro e wn ⟨At, ct, rfl, hrt, hb⟩
            have HRW := Lib.hid hrt
            have hqb := hgs
            try have HG := Lib.hid (HG.out.below hb HG.out.2.2.2.2)
            clear hrt
            have HBW := Lib.hid (HBW.out.trans (hb.mono HBW.out.size))
            try have HVA := Lib.hid (HVA.out.lift hb)
            try have HVB := Lib.hid (HVB.out.lift hb)
            try have HVC := Lib.hid (HVC.out.lift hb)
            try have HVT := Lib.hid (HVT.out.lift hb)
            try have HVX := Lib.hid (HVX.out.lift hb)
            try have HVM := Lib.hid (HVM.out.lift hb)
            try have HVF := Lib.hid (HVF.out.lift hb)
            try have HVP := Lib.hid (HVP.out.lift hb)
            try have HVQ := Lib.hid (HVQ.out.lift hb)
            try have HLA := Lib.hid (HLA.out.lift hb)
            try have HLW := Lib.hid (HLW.out.lift hb)
            try have HI := Lib.hid (HI.out.lift hb)
            try have HRB := Lib.hid (HRB.out.trans (hb.mono HRB.out.size))
            try have HWW := Lib.hid (HWW.out.trans (hb.mono HWW.out.size))
            clear hb
            clear c0 c1
            obtain ⟨⟨c0, c1, _, _, _⟩, _⟩ := HVA.out
            go_wp2_with fail
            (refine hK.out _ _ ?_ (fun hHeld2 => ?_); (focus ((try dsimp only); exact ⟨c0, c1⟩)); (clear hK K); (try simp only [Act.put, List.getElem_toArray, List.getElem_cons_zero, List.getElem_cons_succ, List.setIfInBounds_toArray, List.set_cons_zero, List.set_cons_succ]))
            ((refine wpAnyH_take (i := 6) (v := ?_) rfl (by kernel_rfl) (by kernel_rfl) (by kernel_rfl) (fun _ _ _ h => h) (Or.inl ⟨by rfl, ?_⟩) (by assumption) ?_; rotate_left; (focus (intro wS hSw; (try dsimp only at hSw); go_simp; (try with_reducible rfl))); (try simp only [Act.put, List.getElem_toArray, List.getElem_cons_zero, List.getElem_cons_succ, List.setIfInBounds_toArray, List.set_cons_zero, List.set_cons_succ])); (refine wpAnyH_take (i := 7) (v := ?_) rfl (by kernel_rfl) (by kernel_rfl) (by kernel_rfl) (fun _ _ _ h => h) (Or.inl ⟨by rfl, ?_⟩) (by assumption) ?_; rotate_left; (focus (intro wS hSw; (try dsimp only at hSw); go_simp; (try with_reducible rfl))); (try simp only [Act.put, List.getElem_toArray, List.getElem_cons_zero, List.getElem_cons_succ, List.setIfInBounds_toArray, List.set_cons_zero, List.set_cons_succ])); (refine wpAnyH_take (i := 8) (v := ?_) rfl (by kernel_rfl) (by kernel_rfl) (by kernel_rfl) (fun _ _ _ h => h) (Or.inl ⟨by rfl, ?_⟩) (by assumption) ?_; rotate_left; (focus (intro wS hSw; (try dsimp only at hSw); go_simp; (try with_reducible rfl))); (try simp only [Act.put, List.getElem_toArray, List.getElem_cons_zero, List.getElem_cons_succ, List.setIfInBounds_toArray, List.set_cons_zero, List.set_cons_succ])))
            obtain ⟨g0, g1, gf0, gf1, _⟩ := HG.out
            (refine wpAnyH_ready (rs := [10]) (by kernel_rfl) (by simp) ?_; refine AllReadyH.cons rfl (fun K hK => ?_) AllReadyH.nil; go_simp)
            have HG9 := Lib.hid ((HG.out.set0 (.int .i64 N)).set1 (.slice At (rotL N a r).length ct))
            have hb9 := Lib.hid (((Below.refl qt wn).setCell (p := ⟨qt, 0, none⟩) (Nat.le_refl _) (.int .i64 N)).setCell (p := ⟨qt, 1, none⟩) (Nat.le_refl _) (.slice At (rotL N a r).length ct))
            have HI9 := Lib.hid (show Ints ((wn).setCell ⟨qt, 0, none⟩ (.int .i64 N) |>.setCell ⟨qt, 1, none⟩ (.slice At (rotL N a r).length ct)) (((wn).setCell ⟨qt, 0, none⟩ (.int .i64 N)).setCell ⟨qt, 1, none⟩ (.slice At (rotL N a r).length ct)).heap.size At (rotL N a r) from ((HRW.out.far (p := ⟨qt, 0, none⟩) hqb _).far (p := ⟨qt, 1, none⟩) hqb _).ints (rh_fits (rotL_ok HOA.out r).1))
            have HR9 := Lib.hid ((HRB.out.setCell (p := ⟨qt, 0, none⟩) hgb (.int .i64 N)).setCell (p := ⟨qt, 1, none⟩) hgb (.slice At (rotL N a r).length ct))
            have HV0 := Lib.hid (HVA0.out.1.below HR9.out HVA0.out.1.2.2.2.2)
            clear c0 c1 g0 g1 gf0 gf1
            obtain ⟨c0, c1, _, _, _⟩ := HV0.out
            (refine hK.out _ _ ?_ (fun hHeld2 => ?_); (focus ((try dsimp only); exact ⟨c0, c1⟩)); (clear hK K); (try simp only [Act.put, List.getElem_toArray, List.getElem_cons_zero, List.getElem_cons_succ, List.setIfInBounds_toArray, List.set_cons_zero, List.set_cons_succ]))
            (refine wpAnyH_take (i := 11) (v := ?_) rfl (by kernel_rfl) (by kernel_rfl) (by kernel_rfl) (fun _ _ _ h => h) (Or.inl ⟨by rfl, ?_⟩) (by assumption) ?_; rotate_left; (focus (intro wS hSw; (try dsimp only at hSw); go_simp; (try with_reducible rfl))); (try simp only [Act.put, List.getElem_toArray, List.getElem_cons_zero, List.getElem_cons_succ, List.setIfInBounds_toArray, List.set_cons_zero, List.set_cons_succ]))
            refine wpAnyH_done (by kernel_rfl) ?_ _
            go_wp2_with fail
            go_meet
            exact ⟨qt, At, ct, r, rfl, rfl, hr2, ⟨HG9.out, HI9.out⟩, HR9.out⟩
        · go_simp
          have HG := Lib.hid (Cells2.new wg (.int .i64 0) (.slice none 0 0) 26)
          have hgb : wr.heap.size ≤ (wg).heap.size := HRB.out.size
          have hgs : (wg).heap.size < ((wg).alloc (.cells #[.int .i64 0, .slice none 0 0] 26)).heap.size := by simp
          have hb := (Below.refl (wg).heap.size wg).alloc (Nat.le_refl _) (.cells #[.int .i64 0, .slice none 0 0] 26)
          try have HRQ := Lib.hid ((HRW.out.ints (rh_fits (rotL_ok HOA.out r).1)).below hb)
          have HBW := Lib.hid (HBW.out.trans (hb.mono HBW.out.size))
          try have HVA := Lib.hid (HVA.out.lift hb)
          try have HVB := Lib.hid (HVB.out.lift hb)
          try have HVC := Lib.hid (HVC.out.lift hb)
          try have HVT := Lib.hid (HVT.out.lift hb)
          try have HVX := Lib.hid (HVX.out.lift hb)
          try have HVM := Lib.hid (HVM.out.lift hb)
          try have HVF := Lib.hid (HVF.out.lift hb)
          try have HVP := Lib.hid (HVP.out.lift hb)
          try have HVQ := Lib.hid (HVQ.out.lift hb)
          try have HLA := Lib.hid (HLA.out.lift hb)
          try have HLW := Lib.hid (HLW.out.lift hb)
          try have HI := Lib.hid (HI.out.lift hb)
          try have HRB := Lib.hid (HRB.out.trans (hb.mono HRB.out.size))
          try have HWW := Lib.hid (HWW.out.trans (hb.mono HWW.out.size))
          clear hb
          clear c0 c1
          obtain ⟨⟨c0, c1, _, _, _⟩, _⟩ := HVA.out
          generalize (wg).alloc (.cells #[.int .i64 0, .slice none 0 0] 26) = wy at *
          obtain ⟨qt, hqt⟩ : ∃ g, (wg).heap.size = g := ⟨_, rfl⟩
          simp only [hqt] at *
          clear hqt
          (refine hK.out _ _ ?_ (fun hHeld2 => ?_); (focus ((try dsimp only); exact ⟨c0, c1⟩)); (clear hK K); (try simp only [Act.put, List.getElem_toArray, List.getElem_cons_zero, List.getElem_cons_succ, List.setIfInBounds_toArray, List.set_cons_zero, List.set_cons_succ]))
          (refine wpAnyH_ready (rs := [2]) (by kernel_rfl) (by simp) ?_; refine AllReadyH.cons rfl (fun K hK => ?_) AllReadyH.nil; go_simp)
          go_at_call 5
          refine (spec_MakeNum_any A cap xs 60 _ (HA.out.lift HBW.out) (by decide)).mono ?_
          rintro e wn ⟨⟨z, rfl, hz0, hz1⟩, hb⟩
          have hqs := hb.size
          try have HG := Lib.hid (HG.out.below hb HG.out.2.2.2.2)
          have HBW := Lib.hid (HBW.out.trans (hb.mono HBW.out.size))
          try have HVA := Lib.hid (HVA.out.lift hb)
          try have HVB := Lib.hid (HVB.out.lift hb)
          try have HVC := Lib.hid (HVC.out.lift hb)
          try have HVT := Lib.hid (HVT.out.lift hb)
          try have HVX := Lib.hid (HVX.out.lift hb)
          try have HVM := Lib.hid (HVM.out.lift hb)
          try have HVF := Lib.hid (HVF.out.lift hb)
          try have HVP := Lib.hid (HVP.out.lift hb)
          try have HVQ := Lib.hid (HVQ.out.lift hb)
          try have HLA := Lib.hid (HLA.out.lift hb)
          try have HLW := Lib.hid (HLW.out.lift hb)
          try have HI := Lib.hid (HI.out.lift hb)
          try have HRB := Lib.hid (HRB.out.trans (hb.mono HRB.out.size))
          try have HWW := Lib.hid (HWW.out.trans (hb.mono HWW.out.size))
          clear hb
          clear c0 c1
          obtain ⟨⟨c0, c1, _, _, _⟩, _⟩ := HVA.out
          obtain ⟨r, hr1, hr2⟩ := HFL.out z hz0
          have hrt : z.tmod N = r := by rw [Int.tmod_eq_emod_of_nonneg hz0]; exact hr1
          go_wp2_with fail
          (refine hK.out _ _ ?_ (fun hHeld2 => ?_); (focus ((try dsimp only); exact ⟨c0, c1⟩)); (clear hK K); (try simp only [Act.put, List.getElem_toArray, List.getElem_cons_zero, List.getElem_cons_succ, List.setIfInBounds_toArray, List.set_cons_zero, List.set_cons_succ]))
          (refine wpAnyH_take (i := 4) (v := ?_) rfl (by kernel_rfl) (by kernel_rfl) (by kernel_rfl) (fun _ _ _ h => h) (Or.inl ⟨by rfl, ?_⟩) (by assumption) ?_; rotate_left; (focus (intro wS hSw; (try dsimp only at hSw); go_simp; (try with_reducible rfl))); (try simp only [Act.put, List.getElem_toArray, List.getElem_cons_zero, List.getElem_cons_succ, List.setIfInBounds_toArray, List.set_cons_zero, List.set_cons_succ]))
          have hgs := Nat.lt_of_lt_of_le hgs hqs
          (refine wpAnyH_ready (rs := [5]) (by kernel_rfl) (by simp) ?_; refine AllReadyH.cons rfl (fun K hK => ?_) AllReadyH.nil; go_simp)
          go_at_call 11
          refine (spec_RotateRhythm_ok N Aa ca a r _ HVA.out.2 HOA.out (by omega) (by omega)).mono ?_
          rintro e wn ⟨At, ct, rfl, hrt, hb⟩
          have HRW := Lib.hid hrt
          have hqb := hgs
          try have HG := Lib.hid (HG.out.below hb HG.out.2.2.2.2)
          clear hrt
          have HBW := Lib.hid (HBW.out.trans (hb.mono HBW.out.size))
          try have HVA := Lib.hid (HVA.out.lift hb)
          try have HVB := Lib.hid (HVB.out.lift hb)
          try have HVC := Lib.hid (HVC.out.lift hb)
          try have HVT := Lib.hid (HVT.out.lift hb)
          try have HVX := Lib.hid (HVX.out.lift hb)
          try have HVM := Lib.hid (HVM.out.lift hb)
          try have HVF := Lib.hid (HVF.out.lift hb)
          try have HVP := Lib.hid (HVP.out.lift hb)
          try have HVQ := Lib.hid (HVQ.out.lift hb)
          try have HLA := Lib.hid (HLA.out.lift hb)
          try have HLW := Lib.hid (HLW.out.lift hb)
          try have HI := Lib.hid (HI.out.lift hb)
          try have HRB := Lib.hid (HRB.out.trans (hb.mono HRB.out.size))
          try have HWW := Lib.hid (HWW.out.trans (hb.mono HWW.out.size))
          clear hb
          clear c0 c1
          obtain ⟨⟨c0, c1, _, _, _⟩, _⟩ := HVA.out
          go_wp2_with fail
          (refine hK.out _ _ ?_ (fun hHeld2 => ?_); (focus ((try dsimp only); exact ⟨c0, c1⟩)); (clear hK K); (try simp only [Act.put, List.getElem_toArray, List.getElem_cons_zero, List.getElem_cons_succ, List.setIfInBounds_toArray, List.set_cons_zero, List.set_cons_succ]))
          ((refine wpAnyH_take (i := 6) (v := ?_) rfl (by kernel_rfl) (by kernel_rfl) (by kernel_rfl) (fun _ _ _ h => h) (Or.inl ⟨by rfl, ?_⟩) (by assumption) ?_; rotate_left; (focus (intro wS hSw; (try dsimp only at hSw); go_simp; (try with_reducible rfl))); (try simp only [Act.put, List.getElem_toArray, List.getElem_cons_zero, List.getElem_cons_succ, List.setIfInBounds_toArray, List.set_cons_zero, List.set_cons_succ])); (refine wpAnyH_take (i := 7) (v := ?_) rfl (by kernel_rfl) (by kernel_rfl) (by kernel_rfl) (fun _ _ _ h => h) (Or.inl ⟨by rfl, ?_⟩) (by assumption) ?_; rotate_left; (focus (intro wS hSw; (try dsimp only at hSw); go_simp; (try with_reducible rfl))); (try simp only [Act.put, List.getElem_toArray, List.getElem_cons_zero, List.getElem_cons_succ, List.setIfInBounds_toArray, List.set_cons_zero, List.set_cons_succ])); (refine wpAnyH_take (i := 8) (v := ?_) rfl (by kernel_rfl) (by kernel_rfl) (by kernel_rfl) (fun _ _ _ h => h) (Or.inl ⟨by rfl, ?_⟩) (by assumption) ?_; rotate_left; (focus (intro wS hSw; (try dsimp only at hSw); go_simp; (try with_reducible rfl))); (try simp only [Act.put, List.getElem_toArray, List.getElem_cons_zero, List.getElem_cons_succ, List.setIfInBounds_toArray, List.set_cons_zero, List.set_cons_succ])))
          obtain ⟨g0, g1, gf0, gf1, _⟩ := HG.out
          (refine wpAnyH_ready (rs := [10]) (by kernel_rfl) (by simp) ?_; refine AllReadyH.cons rfl (fun K hK => ?_) AllReadyH.nil; go_simp)
          have HG9 := Lib.hid ((HG.out.set0 (.int .i64 N)).set1 (.slice At (rotL N a r).length ct))
          have hb9 := Lib.hid (((Below.refl qt wn).setCell (p := ⟨qt, 0, none⟩) (Nat.le_refl _) (.int .i64 N)).setCell (p := ⟨qt, 1, none⟩) (Nat.le_refl _) (.slice At (rotL N a r).length ct))
          have HI9 := Lib.hid (show Ints ((wn).setCell ⟨qt, 0, none⟩ (.int .i64 N) |>.setCell ⟨qt, 1, none⟩ (.slice At (rotL N a r).length ct)) (((wn).setCell ⟨qt, 0, none⟩ (.int .i64 N)).setCell ⟨qt, 1, none⟩ (.slice At (rotL N a r).length ct)).heap.size At (rotL N a r) from ((HRW.out.far (p := ⟨qt, 0, none⟩) hqb _).far (p := ⟨qt, 1, none⟩) hqb _).ints (rh_fits (rotL_ok HOA.out r).1))
          have HR9 := Lib.hid ((HRB.out.setCell (p := ⟨qt, 0, none⟩) hgb (.int .i64 N)).setCell (p := ⟨qt, 1, none⟩) hgb (.slice At (rotL N a r).length ct))
          have HV0 := Lib.hid (HVA0.out.1.below HR9.out HVA0.out.1.2.2.2.2)
          clear c0 c1 g0 g1 gf0 gf1
          obtain ⟨c0, c1, _, _, _⟩ := HV0.out
          (refine hK.out _ _ ?_ (fun hHeld2 => ?_); (focus ((try dsimp only); exact ⟨c0, c1⟩)); (clear hK K); (try simp only [Act.put, List.getElem_toArray, List.getElem_cons_zero, List.getElem_cons_succ, List.setIfInBounds_toArray, List.set_cons_zero, List.set_cons_succ]))
          (refine wpAnyH_take (i := 11) (v := ?_) rfl (by kernel_rfl) (by kernel_rfl) (by kernel_rfl) (fun _ _ _ h => h) (Or.inl ⟨by rfl, ?_⟩) (by assumption) ?_; rotate_left; (focus (intro wS hSw; (try dsimp only at hSw); go_simp; (try with_reducible rfl))); (try simp only [Act.put, List.getElem_toArray, List.getElem_cons_zero, List.getElem_cons_succ, List.setIfInBounds_toArray, List.set_cons_zero, List.set_cons_succ]))
          refine wpAnyH_done (by kernel_rfl) ?_ _
          go_wp2_with fail
          go_meet
          exact ⟨qt, At, ct, r, rfl, rfl, hr2, ⟨HG9.out, HI9.out⟩, HR9.out⟩
      case rest =>
        obtain ⟨qt, At, ct, r, rfl, rfl, hr, hvt, hb⟩ := hcut
        obtain ⟨hot, hlt⟩ := rotL_ok HOA.out (r : Int)
        have HBW := Lib.hid (HBW.out.trans (hb.mono HBW.out.size))
        try have HVA := Lib.hid (HVA.out.lift hb)
        try have HVB := Lib.hid (HVB.out.lift hb)
        try have HVC := Lib.hid (HVC.out.lift hb)
        try have HVT := Lib.hid (HVT.out.lift hb)
        try have HVX := Lib.hid (HVX.out.lift hb)
        try have HVM := Lib.hid (HVM.out.lift hb)
        try have HVF := Lib.hid (HVF.out.lift hb)
        try have HVP := Lib.hid (HVP.out.lift hb)
        try have HVQ := Lib.hid (HVQ.out.lift hb)
        try have HLA := Lib.hid (HLA.out.lift hb)
        try have HLW := Lib.hid (HLW.out.lift hb)
        try have HI := Lib.hid (HI.out.lift hb)
        try have HRB := Lib.hid (HRB.out.trans (hb.mono HRB.out.size))
        try have HWW := Lib.hid (HWW.out.trans (hb.mono HWW.out.size))
        clear hb
        have HVT := Lib.hid hvt
        have HOT := Lib.hid hot
        generalize rotL N a r = t at *
        clear c0 c1 hvt hot hr
        obtain ⟨E, hE⟩ := Int.eq_ofNat_of_zero_le (farV_nonneg N a t)
        have hE2 : E ≤ 576 := by have := farV_small HOA.out HOT.out hlt.symm; omega
        have hmv : movedB N N a t = true := by
          unfold movedB
          rw [rhB_iff.2 HOA.out, rhB_iff.2 HOT.out]; simp [hlt]
        have HAT := Lib.hid (fun V h1 h2 => impl_MoveDistance_any N N Aa At ca ct a t V hfN hfN h1 h2)
        rw [mdV_ok HOA.out HOT.out hlt.symm, hE] at HAT
        have HTA := Lib.hid (fun V h1 h2 => impl_MoveDistance_any N N At Aa ct ca t a V hfN hfN h1 h2)
        rw [mdV_ok HOT.out HOA.out hlt, farV_sym HOT.out HOA.out hlt, hE] at HTA
        have HWY := Lib.hid (fun V h1 h2 => impl_WayTo_yes N Aa At ca ct a t V h1 h2 hmv)
        rw [hE, Int.toNat_natCast] at HWY
        have HEE := Lib.hid hE
        have HLT := Lib.hid hlt
        have HRAT := Lib.hid (fun V h1 h2 => laws_rhythmsE_any N Aa At ca ct a t V h1 h2 hlt.symm)
        obtain ⟨qe, hqe1, hqe2⟩ : ∃ qe : Bool, eqB a t = qe ∧ ((E : Int) == 0) = qe := by
          refine ⟨_, rfl, ?_⟩
          by_cases h0 : E = 0
          · have e : a = t := farV_zero HOA.out HOT.out hlt.symm (by rw [hE, h0]; rfl)
            rw [e, eqB_self, h0]; rfl
          · have hne : a ≠ t := fun e => by
              have h1 := farV_self HOA.out
              rw [← e] at hE
              omega
            have h2 : eqB a t = false := by unfold eqB; exact decide_eq_false hne
            rw [h2]; exact beq_eq_false_iff_ne.2 (by omega)
        rw [hqe1] at HRAT
        have HMV := Lib.hid hmv
        clear hE hmv hlt hqe1
        obtain ⟨⟨c0, c1, _, _, _⟩, _⟩ := HVA.out
        obtain ⟨⟨d0, d1, _, _, _⟩, _⟩ := HVT.out
        go_wp2_with fail
        refine (HAT.out _ HVA.out.2 HVT.out.2).mono ?_
        rintro e wn ⟨rfl, hb⟩
        have HBW := Lib.hid (HBW.out.trans (hb.mono HBW.out.size))
        try have HVA := Lib.hid (HVA.out.lift hb)
        try have HVB := Lib.hid (HVB.out.lift hb)
        try have HVC := Lib.hid (HVC.out.lift hb)
        try have HVT := Lib.hid (HVT.out.lift hb)
        try have HVX := Lib.hid (HVX.out.lift hb)
        try have HVM := Lib.hid (HVM.out.lift hb)
        try have HVF := Lib.hid (HVF.out.lift hb)
        try have HVP := Lib.hid (HVP.out.lift hb)
        try have HVQ := Lib.hid (HVQ.out.lift hb)
        try have HLA := Lib.hid (HLA.out.lift hb)
        try have HLW := Lib.hid (HLW.out.lift hb)
        try have HI := Lib.hid (HI.out.lift hb)
        try have HRB := Lib.hid (HRB.out.trans (hb.mono HRB.out.size))
        try have HWW := Lib.hid (HWW.out.trans (hb.mono HWW.out.size))
        clear hb
        clear c0 c1 d0 d1
        obtain ⟨⟨c0, c1, _, _, _⟩, _⟩ := HVA.out
        obtain ⟨⟨d0, d1, _, _, _⟩, _⟩ := HVT.out
        go_wp2_with fail
        refine (HWY.out _ HVA.out.2 HVT.out.2).mono ?_
        rintro e ww ⟨v, ws, rfl, hkey, hown, hb⟩
        obtain ⟨Aw, cw, rfl⟩ := hown.form
        have hwl : ws.length = E + 1 := by
          have := congrArg List.length hkey
          rwa [keyR_len, wayP_len] at this
        have hws : ∀ j (h : j < ws.length), ws[j].n = N ∧ ws[j].xs = wayAt N a t j := fun j h => by
          have := congrArg (fun l => l[j]?) hkey
          unfold keyR wayP at this
          simp only [List.getElem?_map, List.getElem?_eq_getElem h, Option.map_some, List.getElem?_range (show j < E + 1 by omega), Option.some.injEq, Prod.mk.injEq] at this
          exact this
        have hway : ∀ j : Nat, j ≤ E → RhOk N (wayAt N a t j) ∧ (wayAt N a t j).length = a.length ∧ farV N (wayAt N a t j) t = (E : Int) - j := fun j hj => by
          have := wayAt_ok HOA.out HOT.out HLT.out.symm j (by rw [HEE.out]; omega)
          rw [HEE.out] at this
          exact this
        have HWS := Lib.hid hws
        have HWA := Lib.hid hway
        have hLW := hown.rd (by omega) (fun r hr => by
          obtain ⟨i, hi, rfl⟩ := List.getElem_of_mem hr
          rw [(hws i hi).2]
          exact rh_fits' (hway i (by omega)).1)
        have HBW := Lib.hid (HBW.out.trans (hb.mono HBW.out.size))
        try have HVA := Lib.hid (HVA.out.lift hb)
        try have HVB := Lib.hid (HVB.out.lift hb)
        try have HVC := Lib.hid (HVC.out.lift hb)
        try have HVT := Lib.hid (HVT.out.lift hb)
        try have HVX := Lib.hid (HVX.out.lift hb)
        try have HVM := Lib.hid (HVM.out.lift hb)
        try have HVF := Lib.hid (HVF.out.lift hb)
        try have HVP := Lib.hid (HVP.out.lift hb)
        try have HVQ := Lib.hid (HVQ.out.lift hb)
        try have HLA := Lib.hid (HLA.out.lift hb)
        try have HLW := Lib.hid (HLW.out.lift hb)
        try have HI := Lib.hid (HI.out.lift hb)
        try have HRB := Lib.hid (HRB.out.trans (hb.mono HRB.out.size))
        try have HWW := Lib.hid (HWW.out.trans (hb.mono HWW.out.size))
        clear hb
        obtain ⟨gw, rfl, hgw, hcw⟩ := hLW.2.2 (by omega)
        have hcel : ∀ j (h : j < ws.length), HavR ww N gw (j * 2) ws[j].A ws[j].c (wayAt N a t j) := fun j h => by
          obtain ⟨r0, r1⟩ := hcw j h
          have hI := hLW.2.1 _ (List.getElem_mem h)
          obtain ⟨e1, e2⟩ := hws j h
          unfold RV.slc at r1
          rw [e1] at r0
          rw [e2] at r1 hI
          exact ⟨⟨hgw, r0, r1⟩, hI⟩
        have HCL := Lib.hid hcel
        have hve := hcel E (by omega)
        have hvp := hcel 0 (by omega)
        have hle : wayAt N a t E = t := by
          obtain ⟨w1, w2, w3⟩ := hway E (Nat.le_refl _)
          exact farV_zero w1 HOT.out (w2.trans HLT.out.symm) (by rw [w3]; omega)
        rw [hle] at hve
        have hvp : HavR ww N gw 0 ws[0].A ws[0].c a := by
          have := hvp
          rw [Nat.zero_mul] at this
          exact this
        have HVQ := Lib.hid hve
        have HVP := Lib.hid hvp
        generalize ws[0].A = Ap at *
        generalize ws[0].c = cp at *
        generalize ws[E].A = Aq at *
        generalize ws[E].c = cq at *
        have HR0 := Lib.hid (fun V h1 h2 => laws_rhythmsE_any N Ap Aa cp ca a a V h1 h2 rfl)
        have HRE := Lib.hid (fun V h1 h2 => laws_rhythmsE_any N Aq At cq ct t t V h1 h2 rfl)
        rw [eqB_self] at HR0 HRE
        rw [hwl]
        have HWL := Lib.hid hwl
        have hp0 : (0 : Int) < (E : Int) + 1 := by omega
        have hp1 : (0 : Int) ≤ (E : Int) := Int.natCast_nonneg _
        have hp2 : (E : Int) < (E : Int) + 1 := by omega
        have hw1 : IntKind.i64.wrap ((E : Int) + 1) = (E : Int) + 1 := i64w (by omega)
        have hE0 : decide ((E : Int) < 0) = false := decide_eq_false (by omega)
        have HWW := Lib.hid (Below.refl ww.heap.size ww)
        clear hws hway hcel hve hvp hle hLW hkey hown hgw hcw hwl
        clear c0 c1 d0 d1
        obtain ⟨⟨c0, c1, _, _, _⟩, _⟩ := HVA.out
        obtain ⟨⟨d0, d1, _, _, _⟩, _⟩ := HVT.out
        obtain ⟨⟨_, p0, p1⟩, _⟩ := HVP.out
        obtain ⟨⟨_, e0, e1⟩, _⟩ := HVQ.out
        go_wp2_with fail
        have HBW := Lib.hid (Below.drewH_ HBW.out)
        try have HRB := Lib.hid (Below.drewH_ HRB.out)
        try have HWW := Lib.hid (Below.drewH_ HWW.out)
        try have HVA := Lib.hid HVA.out.drew
        try have HVB := Lib.hid HVB.out.drew
        try have HVC := Lib.hid HVC.out.drew
        try have HVT := Lib.hid HVT.out.drew
        try have HVX := Lib.hid HVX.out.drew
        try have HVM := Lib.hid HVM.out.drew
        try have HVF := Lib.hid HVF.out.drew
        try have HVP := Lib.hid HVP.out.drew
        try have HVQ := Lib.hid HVQ.out.drew
        try have HLA := Lib.hid HLA.out.drewR_
        try have HLW := Lib.hid HLW.out.drewR_
        (refine wp_region_held_drew (S := (fun w' => w'.cell? ⟨qa, 0, none⟩ = some (.int .i64 N) ∧ w'.cell? ⟨qa, 1, none⟩ = some (.slice Aa a.length ca) ∧ w'.cell? ⟨qt, 0, none⟩ = some (.int .i64 N) ∧ w'.cell? ⟨qt, 1, none⟩ = some (.slice At t.length ct) ∧ w'.cell? ⟨gw, 0, none⟩ = some (.int .i64 N) ∧ w'.cell? ⟨gw, 0 + 1, none⟩ = some (.slice Ap a.length cp) ∧ w'.cell? ⟨gw, E * 2, none⟩ = some (.int .i64 N) ∧ w'.cell? ⟨gw, E * 2 + 1, none⟩ = some (.slice Aq t.length cq))) (by kernel_rfl) ?_ (fun hHeld => ?_); (focus ((try dsimp only); exact ⟨c0, c1, d0, d1, p0, p1, e0, e1⟩)))
        ((refine wpAnyH_take (i := 0) (v := ?_) rfl (by kernel_rfl) (by kernel_rfl) (by kernel_rfl) (fun _ _ _ h => h) (Or.inl ⟨by rfl, ?_⟩) (by assumption) ?_; rotate_left; (focus (intro wS hSw; (try dsimp only at hSw); go_simp; (try with_reducible rfl))); (try simp only [Act.put, List.getElem_toArray, List.getElem_cons_zero, List.getElem_cons_succ, List.setIfInBounds_toArray, List.set_cons_zero, List.set_cons_succ])); (refine wpAnyH_take (i := 1) (v := ?_) rfl (by kernel_rfl) (by kernel_rfl) (by kernel_rfl) (fun _ _ _ h => h) (Or.inl ⟨by rfl, ?_⟩) (by assumption) ?_; rotate_left; (focus (intro wS hSw; (try dsimp only at hSw); go_simp; (try with_reducible rfl))); (try simp only [Act.put, List.getElem_toArray, List.getElem_cons_zero, List.getElem_cons_succ, List.setIfInBounds_toArray, List.set_cons_zero, List.set_cons_succ])); (refine wpAnyH_take (i := 2) (v := ?_) rfl (by kernel_rfl) (by kernel_rfl) (by kernel_rfl) (fun _ _ _ h => h) (Or.inl ⟨by rfl, ?_⟩) (by assumption) ?_; rotate_left; (focus (intro wS hSw; (try dsimp only at hSw); go_simp; (try with_reducible rfl))); (try simp only [Act.put, List.getElem_toArray, List.getElem_cons_zero, List.getElem_cons_succ, List.setIfInBounds_toArray, List.set_cons_zero, List.set_cons_succ])); (refine wpAnyH_take (i := 3) (v := ?_) rfl (by kernel_rfl) (by kernel_rfl) (by kernel_rfl) (fun _ _ _ h => h) (Or.inl ⟨by rfl, ?_⟩) (by assumption) ?_; rotate_left; (focus (intro wS hSw; (try dsimp only at hSw); go_simp; (try with_reducible rfl))); (try simp only [Act.put, List.getElem_toArray, List.getElem_cons_zero, List.getElem_cons_succ, List.setIfInBounds_toArray, List.set_cons_zero, List.set_cons_succ])); (refine wpAnyH_take (i := 4) (v := ?_) rfl (by kernel_rfl) (by kernel_rfl) (by kernel_rfl) (fun _ _ _ h => h) (Or.inl ⟨by rfl, ?_⟩) (by assumption) ?_; rotate_left; (focus (intro wS hSw; (try dsimp only at hSw); go_simp; (try with_reducible rfl))); (try simp only [Act.put, List.getElem_toArray, List.getElem_cons_zero, List.getElem_cons_succ, List.setIfInBounds_toArray, List.set_cons_zero, List.set_cons_succ])); (refine wpAnyH_take (i := 5) (v := ?_) rfl (by kernel_rfl) (by kernel_rfl) (by kernel_rfl) (fun _ _ _ h => h) (Or.inl ⟨by rfl, ?_⟩) (by assumption) ?_; rotate_left; (focus (intro wS hSw; (try dsimp only at hSw); go_simp; (try with_reducible rfl))); (try simp only [Act.put, List.getElem_toArray, List.getElem_cons_zero, List.getElem_cons_succ, List.setIfInBounds_toArray, List.set_cons_zero, List.set_cons_succ])))
        (refine wpAnyH_ready (rs := [6]) (by kernel_rfl) (by simp) ?_; refine AllReadyH.cons rfl (fun K hK => ?_) AllReadyH.nil; go_simp)
        go_at_call 7
        refine (HTA.out _ HVT.out.2 HVA.out.2).mono ?_
        rintro e wn ⟨rfl, hb⟩
        have HBW := Lib.hid (HBW.out.trans (hb.mono HBW.out.size))
        try have HVA := Lib.hid (HVA.out.lift hb)
        try have HVB := Lib.hid (HVB.out.lift hb)
        try have HVC := Lib.hid (HVC.out.lift hb)
        try have HVT := Lib.hid (HVT.out.lift hb)
        try have HVX := Lib.hid (HVX.out.lift hb)
        try have HVM := Lib.hid (HVM.out.lift hb)
        try have HVF := Lib.hid (HVF.out.lift hb)
        try have HVP := Lib.hid (HVP.out.lift hb)
        try have HVQ := Lib.hid (HVQ.out.lift hb)
        try have HLA := Lib.hid (HLA.out.lift hb)
        try have HLW := Lib.hid (HLW.out.lift hb)
        try have HI := Lib.hid (HI.out.lift hb)
        try have HRB := Lib.hid (HRB.out.trans (hb.mono HRB.out.size))
        try have HWW := Lib.hid (HWW.out.trans (hb.mono HWW.out.size))
        clear hb
        clear c0 c1 d0 d1 p0 p1 e0 e1
        obtain ⟨⟨c0, c1, _, _, _⟩, _⟩ := HVA.out
        obtain ⟨⟨d0, d1, _, _, _⟩, _⟩ := HVT.out
        obtain ⟨⟨_, p0, p1⟩, _⟩ := HVP.out
        obtain ⟨⟨_, e0, e1⟩, _⟩ := HVQ.out
        go_wp2_with fail
        (refine hK.out _ _ ?_ (fun hHeld2 => ?_); (focus ((try dsimp only); exact ⟨c0, c1, d0, d1, p0, p1, e0, e1⟩)); (clear hK K); (try simp only [Act.put, List.getElem_toArray, List.getElem_cons_zero, List.getElem_cons_succ, List.setIfInBounds_toArray, List.set_cons_zero, List.set_cons_succ]))
        ((refine wpAnyH_take (i := 7) (v := ?_) rfl (by kernel_rfl) (by kernel_rfl) (by kernel_rfl) (fun _ _ _ h => h) (Or.inl ⟨by rfl, ?_⟩) (by assumption) ?_; rotate_left; (focus (intro wS hSw; (try dsimp only at hSw); go_simp; (try with_reducible rfl))); (try simp only [Act.put, List.getElem_toArray, List.getElem_cons_zero, List.getElem_cons_succ, List.setIfInBounds_toArray, List.set_cons_zero, List.set_cons_succ])); (refine wpAnyH_take (i := 8) (v := ?_) rfl (by kernel_rfl) (by kernel_rfl) (by kernel_rfl) (fun _ _ _ h => h) (Or.inl ⟨by rfl, ?_⟩) (by assumption) ?_; rotate_left; (focus (intro wS hSw; (try dsimp only at hSw); go_simp; (try with_reducible rfl))); (try simp only [Act.put, List.getElem_toArray, List.getElem_cons_zero, List.getElem_cons_succ, List.setIfInBounds_toArray, List.set_cons_zero, List.set_cons_succ])); (refine wpAnyH_take (i := 9) (v := ?_) rfl (by kernel_rfl) (by kernel_rfl) (by kernel_rfl) (fun _ _ _ h => h) (Or.inl ⟨by rfl, ?_⟩) (by assumption) ?_; rotate_left; (focus (intro wS hSw; (try dsimp only at hSw); go_simp; (try with_reducible rfl))); (try simp only [Act.put, List.getElem_toArray, List.getElem_cons_zero, List.getElem_cons_succ, List.setIfInBounds_toArray, List.set_cons_zero, List.set_cons_succ])); (refine wpAnyH_take (i := 10) (v := ?_) rfl (by kernel_rfl) (by kernel_rfl) (by kernel_rfl) (fun _ _ _ h => h) (Or.inl ⟨by rfl, ?_⟩) (by assumption) ?_; rotate_left; (focus (intro wS hSw; (try dsimp only at hSw); go_simp; (try with_reducible rfl))); (try simp only [Act.put, List.getElem_toArray, List.getElem_cons_zero, List.getElem_cons_succ, List.setIfInBounds_toArray, List.set_cons_zero, List.set_cons_succ])); (refine wpAnyH_take (i := 11) (v := ?_) rfl (by kernel_rfl) (by kernel_rfl) (by kernel_rfl) (fun _ _ _ h => h) (Or.inl ⟨by rfl, ?_⟩) (by assumption) ?_; rotate_left; (focus (intro wS hSw; (try dsimp only at hSw); go_simp; (try with_reducible rfl))); (try simp only [Act.put, List.getElem_toArray, List.getElem_cons_zero, List.getElem_cons_succ, List.setIfInBounds_toArray, List.set_cons_zero, List.set_cons_succ])); (refine wpAnyH_take (i := 12) (v := ?_) rfl (by kernel_rfl) (by kernel_rfl) (by kernel_rfl) (fun _ _ _ h => h) (Or.inl ⟨by rfl, ?_⟩) (by assumption) ?_; rotate_left; (focus (intro wS hSw; (try dsimp only at hSw); go_simp; (try with_reducible rfl))); (try simp only [Act.put, List.getElem_toArray, List.getElem_cons_zero, List.getElem_cons_succ, List.setIfInBounds_toArray, List.set_cons_zero, List.set_cons_succ])); (refine wpAnyH_take (i := 13) (v := ?_) rfl (by kernel_rfl) (by kernel_rfl) (by kernel_rfl) (fun _ _ _ h => h) (Or.inl ⟨by rfl, ?_⟩) (by assumption) ?_; rotate_left; (focus (intro wS hSw; (try dsimp only at hSw); go_simp; (try with_reducible rfl))); (try simp only [Act.put, List.getElem_toArray, List.getElem_cons_zero, List.getElem_cons_succ, List.setIfInBounds_toArray, List.set_cons_zero, List.set_cons_succ])))
        (refine wpAnyH_ready (rs := [14]) (by kernel_rfl) (by simp) ?_; refine AllReadyH.cons rfl (fun K hK => ?_) AllReadyH.nil; go_simp)
        go_at_call 13
        refine (HRAT.out _ HVA.out.2 HVT.out.2).mono ?_
        rintro e wn ⟨rfl, hb⟩
        have HBW := Lib.hid (HBW.out.trans (hb.mono HBW.out.size))
        try have HVA := Lib.hid (HVA.out.lift hb)
        try have HVB := Lib.hid (HVB.out.lift hb)
        try have HVC := Lib.hid (HVC.out.lift hb)
        try have HVT := Lib.hid (HVT.out.lift hb)
        try have HVX := Lib.hid (HVX.out.lift hb)
        try have HVM := Lib.hid (HVM.out.lift hb)
        try have HVF := Lib.hid (HVF.out.lift hb)
        try have HVP := Lib.hid (HVP.out.lift hb)
        try have HVQ := Lib.hid (HVQ.out.lift hb)
        try have HLA := Lib.hid (HLA.out.lift hb)
        try have HLW := Lib.hid (HLW.out.lift hb)
        try have HI := Lib.hid (HI.out.lift hb)
        try have HRB := Lib.hid (HRB.out.trans (hb.mono HRB.out.size))
        try have HWW := Lib.hid (HWW.out.trans (hb.mono HWW.out.size))
        clear hb
        clear c0 c1 d0 d1 p0 p1 e0 e1
        obtain ⟨⟨c0, c1, _, _, _⟩, _⟩ := HVA.out
        obtain ⟨⟨d0, d1, _, _, _⟩, _⟩ := HVT.out
        obtain ⟨⟨_, p0, p1⟩, _⟩ := HVP.out
        obtain ⟨⟨_, e0, e1⟩, _⟩ := HVQ.out
        go_wp2_with fail
        (refine hK.out _ _ ?_ (fun hHeld2 => ?_); (focus ((try dsimp only); exact ⟨c0, c1, d0, d1, p0, p1, e0, e1⟩)); (clear hK K); (try simp only [Act.put, List.getElem_toArray, List.getElem_cons_zero, List.getElem_cons_succ, List.setIfInBounds_toArray, List.set_cons_zero, List.set_cons_succ]))
        ((refine wpAnyH_take (i := 15) (v := ?_) rfl (by kernel_rfl) (by kernel_rfl) (by kernel_rfl) (fun _ _ _ h => h) (Or.inl ⟨by rfl, ?_⟩) (by assumption) ?_; rotate_left; (focus (intro wS hSw; (try dsimp only at hSw); go_simp; (try with_reducible rfl))); (try simp only [Act.put, List.getElem_toArray, List.getElem_cons_zero, List.getElem_cons_succ, List.setIfInBounds_toArray, List.set_cons_zero, List.set_cons_succ])); (refine wpAnyH_take (i := 16) (v := ?_) rfl (by kernel_rfl) (by kernel_rfl) (by kernel_rfl) (fun _ _ _ h => h) (Or.inl ⟨by rfl, ?_⟩) (by assumption) ?_; rotate_left; (focus (intro wS hSw; (try dsimp only at hSw); go_simp; (try with_reducible rfl))); (try simp only [Act.put, List.getElem_toArray, List.getElem_cons_zero, List.getElem_cons_succ, List.setIfInBounds_toArray, List.set_cons_zero, List.set_cons_succ])); (refine wpAnyH_take (i := 17) (v := ?_) rfl (by kernel_rfl) (by kernel_rfl) (by kernel_rfl) (fun _ _ _ h => h) (Or.inl ⟨by rfl, ?_⟩) (by assumption) ?_; rotate_left; (focus (intro wS hSw; (try dsimp only at hSw); go_simp; (try with_reducible rfl))); (try simp only [Act.put, List.getElem_toArray, List.getElem_cons_zero, List.getElem_cons_succ, List.setIfInBounds_toArray, List.set_cons_zero, List.set_cons_succ])); (refine wpAnyH_take (i := 18) (v := ?_) rfl (by kernel_rfl) (by kernel_rfl) (by kernel_rfl) (fun _ _ _ h => h) (Or.inl ⟨by rfl, ?_⟩) (by assumption) ?_; rotate_left; (focus (intro wS hSw; (try dsimp only at hSw); go_simp; (try with_reducible rfl))); (try simp only [Act.put, List.getElem_toArray, List.getElem_cons_zero, List.getElem_cons_succ, List.setIfInBounds_toArray, List.set_cons_zero, List.set_cons_succ])); (refine wpAnyH_take (i := 19) (v := ?_) rfl (by kernel_rfl) (by kernel_rfl) (by kernel_rfl) (fun _ _ _ h => h) (Or.inl ⟨by rfl, ?_⟩) (by assumption) ?_; rotate_left; (focus (intro wS hSw; (try dsimp only at hSw); go_simp; (try with_reducible rfl))); (try simp only [Act.put, List.getElem_toArray, List.getElem_cons_zero, List.getElem_cons_succ, List.setIfInBounds_toArray, List.set_cons_zero, List.set_cons_succ])); (refine wpAnyH_take (i := 20) (v := ?_) rfl (by kernel_rfl) (by kernel_rfl) (by kernel_rfl) (fun _ _ _ h => h) (Or.inl ⟨by rfl, ?_⟩) (by assumption) ?_; rotate_left; (focus (intro wS hSw; (try dsimp only at hSw); go_simp; (try with_reducible rfl))); (try simp only [Act.put, List.getElem_toArray, List.getElem_cons_zero, List.getElem_cons_succ, List.setIfInBounds_toArray, List.set_cons_zero, List.set_cons_succ])); (refine wpAnyH_take (i := 21) (v := ?_) rfl (by kernel_rfl) (by kernel_rfl) (by kernel_rfl) (fun _ _ _ h => h) (Or.inl ⟨by rfl, ?_⟩) (by assumption) ?_; rotate_left; (focus (intro wS hSw; (try dsimp only at hSw); go_simp; (try with_reducible rfl))); (try simp only [Act.put, List.getElem_toArray, List.getElem_cons_zero, List.getElem_cons_succ, List.setIfInBounds_toArray, List.set_cons_zero, List.set_cons_succ])); (refine wpAnyH_take (i := 22) (v := ?_) rfl (by kernel_rfl) (by kernel_rfl) (by kernel_rfl) (fun _ _ _ h => h) (Or.inl ⟨by rfl, ?_⟩) (by assumption) ?_; rotate_left; (focus (intro wS hSw; (try dsimp only at hSw); go_simp; (try with_reducible rfl))); (try simp only [Act.put, List.getElem_toArray, List.getElem_cons_zero, List.getElem_cons_succ, List.setIfInBounds_toArray, List.set_cons_zero, List.set_cons_succ])); (refine wpAnyH_take (i := 23) (v := ?_) rfl (by kernel_rfl) (by kernel_rfl) (by kernel_rfl) (fun _ _ _ h => h) (Or.inl ⟨by rfl, ?_⟩) (by assumption) ?_; rotate_left; (focus (intro wS hSw; (try dsimp only at hSw); go_simp; (try with_reducible rfl))); (try simp only [Act.put, List.getElem_toArray, List.getElem_cons_zero, List.getElem_cons_succ, List.setIfInBounds_toArray, List.set_cons_zero, List.set_cons_succ])); (refine wpAnyH_take (i := 24) (v := ?_) rfl (by kernel_rfl) (by kernel_rfl) (by kernel_rfl) (fun _ _ _ h => h) (Or.inl ⟨by rfl, ?_⟩) (by assumption) ?_; rotate_left; (focus (intro wS hSw; (try dsimp only at hSw); go_simp; (try with_reducible rfl))); (try simp only [Act.put, List.getElem_toArray, List.getElem_cons_zero, List.getElem_cons_succ, List.setIfInBounds_toArray, List.set_cons_zero, List.set_cons_succ])); (refine wpAnyH_take (i := 25) (v := ?_) rfl (by kernel_rfl) (by kernel_rfl) (by kernel_rfl) (fun _ _ _ h => h) (Or.inl ⟨by rfl, ?_⟩) (by assumption) ?_; rotate_left; (focus (intro wS hSw; (try dsimp only at hSw); go_simp; (try with_reducible rfl))); (try simp only [Act.put, List.getElem_toArray, List.getElem_cons_zero, List.getElem_cons_succ, List.setIfInBounds_toArray, List.set_cons_zero, List.set_cons_succ])); (refine wpAnyH_take (i := 26) (v := ?_) rfl (by kernel_rfl) (by kernel_rfl) (by kernel_rfl) (fun _ _ _ h => h) (Or.inl ⟨by rfl, ?_⟩) (by assumption) ?_; rotate_left; (focus (intro wS hSw; (try dsimp only at hSw); go_simp; (try with_reducible rfl))); (try simp only [Act.put, List.getElem_toArray, List.getElem_cons_zero, List.getElem_cons_succ, List.setIfInBounds_toArray, List.set_cons_zero, List.set_cons_succ])); (refine wpAnyH_take (i := 27) (v := ?_) rfl (by kernel_rfl) (by kernel_rfl) (by kernel_rfl) (fun _ _ _ h => h) (Or.inl ⟨by rfl, ?_⟩) (by assumption) ?_; rotate_left; (focus (intro wS hSw; (try dsimp only at hSw); go_simp; (try with_reducible rfl))); (try simp only [Act.put, List.getElem_toArray, List.getElem_cons_zero, List.getElem_cons_succ, List.setIfInBounds_toArray, List.set_cons_zero, List.set_cons_succ])); (refine wpAnyH_take (i := 28) (v := ?_) rfl (by kernel_rfl) (by kernel_rfl) (by kernel_rfl) (fun _ _ _ h => h) (Or.inl ⟨by rfl, ?_⟩) (by assumption) ?_; rotate_left; (focus (intro wS hSw; (try dsimp only at hSw); go_simp; (try with_reducible rfl))); (try simp only [Act.put, List.getElem_toArray, List.getElem_cons_zero, List.getElem_cons_succ, List.setIfInBounds_toArray, List.set_cons_zero, List.set_cons_succ])))
        (refine wpAnyH_ready (rs := [29]) (by kernel_rfl) (by simp) ?_; refine AllReadyH.cons rfl (fun K hK => ?_) AllReadyH.nil; go_simp)
        go_at_call 13
        refine (HR0.out _ HVP.out.2 HVA.out.2).mono ?_
        rintro e wn ⟨rfl, hb⟩
        have HBW := Lib.hid (HBW.out.trans (hb.mono HBW.out.size))
        try have HVA := Lib.hid (HVA.out.lift hb)
        try have HVB := Lib.hid (HVB.out.lift hb)
        try have HVC := Lib.hid (HVC.out.lift hb)
        try have HVT := Lib.hid (HVT.out.lift hb)
        try have HVX := Lib.hid (HVX.out.lift hb)
        try have HVM := Lib.hid (HVM.out.lift hb)
        try have HVF := Lib.hid (HVF.out.lift hb)
        try have HVP := Lib.hid (HVP.out.lift hb)
        try have HVQ := Lib.hid (HVQ.out.lift hb)
        try have HLA := Lib.hid (HLA.out.lift hb)
        try have HLW := Lib.hid (HLW.out.lift hb)
        try have HI := Lib.hid (HI.out.lift hb)
        try have HRB := Lib.hid (HRB.out.trans (hb.mono HRB.out.size))
        try have HWW := Lib.hid (HWW.out.trans (hb.mono HWW.out.size))
        clear hb
        clear c0 c1 d0 d1 p0 p1 e0 e1
        obtain ⟨⟨c0, c1, _, _, _⟩, _⟩ := HVA.out
        obtain ⟨⟨d0, d1, _, _, _⟩, _⟩ := HVT.out
        obtain ⟨⟨_, p0, p1⟩, _⟩ := HVP.out
        obtain ⟨⟨_, e0, e1⟩, _⟩ := HVQ.out
        go_wp2_with fail
        (refine hK.out _ _ ?_ (fun hHeld2 => ?_); (focus ((try dsimp only); exact ⟨c0, c1, d0, d1, p0, p1, e0, e1⟩)); (clear hK K); (try simp only [Act.put, List.getElem_toArray, List.getElem_cons_zero, List.getElem_cons_succ, List.setIfInBounds_toArray, List.set_cons_zero, List.set_cons_succ]))
        ((refine wpAnyH_take (i := 30) (v := ?_) rfl (by kernel_rfl) (by kernel_rfl) (by kernel_rfl) (fun _ _ _ h => h) (Or.inl ⟨by rfl, ?_⟩) (by assumption) ?_; rotate_left; (focus (intro wS hSw; (try dsimp only at hSw); go_simp; (try with_reducible rfl))); (try simp only [Act.put, List.getElem_toArray, List.getElem_cons_zero, List.getElem_cons_succ, List.setIfInBounds_toArray, List.set_cons_zero, List.set_cons_succ])); (refine wpAnyH_take (i := 31) (v := ?_) rfl (by kernel_rfl) (by kernel_rfl) (by kernel_rfl) (fun _ _ _ h => h) (Or.inl ⟨by rfl, ?_⟩) (by assumption) ?_; rotate_left; (focus (intro wS hSw; (try dsimp only at hSw); go_simp; (try with_reducible rfl))); (try simp only [Act.put, List.getElem_toArray, List.getElem_cons_zero, List.getElem_cons_succ, List.setIfInBounds_toArray, List.set_cons_zero, List.set_cons_succ])); (refine wpAnyH_take (i := 32) (v := ?_) rfl (by kernel_rfl) (by kernel_rfl) (by kernel_rfl) (fun _ _ _ h => h) (Or.inl ⟨by rfl, ?_⟩) (by assumption) ?_; rotate_left; (focus (intro wS hSw; (try dsimp only at hSw); go_simp; (try with_reducible rfl))); (try simp only [Act.put, List.getElem_toArray, List.getElem_cons_zero, List.getElem_cons_succ, List.setIfInBounds_toArray, List.set_cons_zero, List.set_cons_succ])); (refine wpAnyH_take (i := 33) (v := ?_) rfl (by kernel_rfl) (by kernel_rfl) (by kernel_rfl) (fun _ _ _ h => h) (Or.inl ⟨by rfl, ?_⟩) (by assumption) ?_; rotate_left; (focus (intro wS hSw; (try dsimp only at hSw); go_simp; (try with_reducible rfl))); (try simp only [Act.put, List.getElem_toArray, List.getElem_cons_zero, List.getElem_cons_succ, List.setIfInBounds_toArray, List.set_cons_zero, List.set_cons_succ])); (refine wpAnyH_take (i := 34) (v := ?_) rfl (by kernel_rfl) (by kernel_rfl) (by kernel_rfl) (fun _ _ _ h => h) (Or.inl ⟨by rfl, ?_⟩) (by assumption) ?_; rotate_left; (focus (intro wS hSw; (try dsimp only at hSw); go_simp; (try with_reducible rfl))); (try simp only [Act.put, List.getElem_toArray, List.getElem_cons_zero, List.getElem_cons_succ, List.setIfInBounds_toArray, List.set_cons_zero, List.set_cons_succ])); (refine wpAnyH_take (i := 35) (v := ?_) rfl (by kernel_rfl) (by kernel_rfl) (by kernel_rfl) (fun _ _ _ h => h) (Or.inl ⟨by rfl, ?_⟩) (by assumption) ?_; rotate_left; (focus (intro wS hSw; (try dsimp only at hSw); go_simp; (try with_reducible rfl))); (try simp only [Act.put, List.getElem_toArray, List.getElem_cons_zero, List.getElem_cons_succ, List.setIfInBounds_toArray, List.set_cons_zero, List.set_cons_succ])); (refine wpAnyH_take (i := 36) (v := ?_) rfl (by kernel_rfl) (by kernel_rfl) (by kernel_rfl) (fun _ _ _ h => h) (Or.inl ⟨by rfl, ?_⟩) (by assumption) ?_; rotate_left; (focus (intro wS hSw; (try dsimp only at hSw); go_simp; (try with_reducible rfl))); (try simp only [Act.put, List.getElem_toArray, List.getElem_cons_zero, List.getElem_cons_succ, List.setIfInBounds_toArray, List.set_cons_zero, List.set_cons_succ])); (refine wpAnyH_take (i := 37) (v := ?_) rfl (by kernel_rfl) (by kernel_rfl) (by kernel_rfl) (fun _ _ _ h => h) (Or.inl ⟨by rfl, ?_⟩) (by assumption) ?_; rotate_left; (focus (intro wS hSw; (try dsimp only at hSw); go_simp; (try with_reducible rfl))); (try simp only [Act.put, List.getElem_toArray, List.getElem_cons_zero, List.getElem_cons_succ, List.setIfInBounds_toArray, List.set_cons_zero, List.set_cons_succ])))
        (refine wpAnyH_ready (rs := [38]) (by kernel_rfl) (by simp) ?_; refine AllReadyH.cons rfl (fun K hK => ?_) AllReadyH.nil; go_simp)
        go_at_call 13
        refine (HRE.out _ HVQ.out.2 HVT.out.2).mono ?_
        rintro e wn ⟨rfl, hb⟩
        have HBW := Lib.hid (HBW.out.trans (hb.mono HBW.out.size))
        try have HVA := Lib.hid (HVA.out.lift hb)
        try have HVB := Lib.hid (HVB.out.lift hb)
        try have HVC := Lib.hid (HVC.out.lift hb)
        try have HVT := Lib.hid (HVT.out.lift hb)
        try have HVX := Lib.hid (HVX.out.lift hb)
        try have HVM := Lib.hid (HVM.out.lift hb)
        try have HVF := Lib.hid (HVF.out.lift hb)
        try have HVP := Lib.hid (HVP.out.lift hb)
        try have HVQ := Lib.hid (HVQ.out.lift hb)
        try have HLA := Lib.hid (HLA.out.lift hb)
        try have HLW := Lib.hid (HLW.out.lift hb)
        try have HI := Lib.hid (HI.out.lift hb)
        try have HRB := Lib.hid (HRB.out.trans (hb.mono HRB.out.size))
        try have HWW := Lib.hid (HWW.out.trans (hb.mono HWW.out.size))
        clear hb
        clear c0 c1 d0 d1 p0 p1 e0 e1
        obtain ⟨⟨c0, c1, _, _, _⟩, _⟩ := HVA.out
        obtain ⟨⟨d0, d1, _, _, _⟩, _⟩ := HVT.out
        obtain ⟨⟨_, p0, p1⟩, _⟩ := HVP.out
        obtain ⟨⟨_, e0, e1⟩, _⟩ := HVQ.out
        go_wp2_with fail
        (refine hK.out _ _ ?_ (fun hHeld2 => ?_); (focus ((try dsimp only); exact ⟨c0, c1, d0, d1, p0, p1, e0, e1⟩)); (clear hK K); (try simp only [Act.put, List.getElem_toArray, List.getElem_cons_zero, List.getElem_cons_succ, List.setIfInBounds_toArray, List.set_cons_zero, List.set_cons_succ]))
        ((refine wpAnyH_take (i := 39) (v := ?_) rfl (by kernel_rfl) (by kernel_rfl) (by kernel_rfl) (fun _ _ _ h => h) (Or.inl ⟨by rfl, ?_⟩) (by assumption) ?_; rotate_left; (focus (intro wS hSw; (try dsimp only at hSw); go_simp; (try with_reducible rfl))); (try simp only [Act.put, List.getElem_toArray, List.getElem_cons_zero, List.getElem_cons_succ, List.setIfInBounds_toArray, List.set_cons_zero, List.set_cons_succ])); (refine wpAnyH_take (i := 40) (v := ?_) rfl (by kernel_rfl) (by kernel_rfl) (by kernel_rfl) (fun _ _ _ h => h) (Or.inl ⟨by rfl, ?_⟩) (by assumption) ?_; rotate_left; (focus (intro wS hSw; (try dsimp only at hSw); go_simp; (try with_reducible rfl))); (try simp only [Act.put, List.getElem_toArray, List.getElem_cons_zero, List.getElem_cons_succ, List.setIfInBounds_toArray, List.set_cons_zero, List.set_cons_succ])))
        refine wpAnyH_done (by kernel_rfl) ?_ _
        clear c0 c1 d0 d1 p0 p1 e0 e1
        go_wp2_with fail
        clear HVP HVQ HR0 HRE HRAT HTA hqe2 hE0 hp0
        go_loopw [14] (fun v wr => ∃ j : Nat, 1 ≤ j ∧ j ≤ E + 1 ∧ v = .int .i64 j ∧ Below wn.heap.size wn wr) (fun v _ => E + 1 - (intOf v).toNat)
        case atStart => exact ⟨1, Nat.le_refl _, by omega, rfl, Below.refl _ _⟩
        case round =>
          obtain ⟨j, hj1, hj, rfl, hb⟩ := hrel
          have HRB := Lib.hid hb
          have HBW := Lib.hid (HBW.out.trans (hb.mono HBW.out.size))
          try have HVA := Lib.hid (HVA.out.lift hb)
          try have HVB := Lib.hid (HVB.out.lift hb)
          try have HVC := Lib.hid (HVC.out.lift hb)
          try have HVT := Lib.hid (HVT.out.lift hb)
          try have HVX := Lib.hid (HVX.out.lift hb)
          try have HVM := Lib.hid (HVM.out.lift hb)
          try have HVF := Lib.hid (HVF.out.lift hb)
          try have HVP := Lib.hid (HVP.out.lift hb)
          try have HVQ := Lib.hid (HVQ.out.lift hb)
          try have HLA := Lib.hid (HLA.out.lift hb)
          try have HLW := Lib.hid (HLW.out.lift hb)
          try have HI := Lib.hid (HI.out.lift hb)
          try have HRB := Lib.hid (HRB.out.trans (hb.mono HRB.out.size))
          try have HWW := Lib.hid (HWW.out.trans (hb.mono HWW.out.size))
          clear hb
          by_cases hjt : j ≤ E
          · as_aux_lemma =>
            obtain ⟨pj, hpj⟩ : ∃ p, j - 1 = p := ⟨_, rfl⟩
            have hwp : IntKind.i64.wrap ((j : Int) - 1) = (pj : Int) := by rw [show (j : Int) - 1 = (pj : Int) by omega]; exact i64w (by omega)
            have hwe : IntKind.i64.wrap ((E : Int) - j) = (E : Int) - j := i64w (by omega)
            have hwj : IntKind.i64.wrap ((j : Int) + 1) = (j : Int) + 1 := i64w (by omega)
            have hkj : (j : Int) ≤ (E : Int) := by omega
            have hk1 : (0 : Int) ≤ (pj : Int) := Int.natCast_nonneg _
            have hk2 : (pj : Int) < (E : Int) + 1 := by omega
            have hk3 : (0 : Int) ≤ (j : Int) := Int.natCast_nonneg _
            have hk4 : (j : Int) < (E : Int) + 1 := by omega
            have HVP := Lib.hid ((HCL.out pj (by rw [HWL.out]; omega)).lift HWW.out)
            have HVQ := Lib.hid ((HCL.out j (by rw [HWL.out]; omega)).lift HWW.out)
            obtain ⟨x1, x2, x3⟩ := HWA.out pj (by omega)
            obtain ⟨y1, y2, y3⟩ := HWA.out j hjt
            have hst := way_step HOA.out HOT.out HLT.out.symm pj (by rw [HEE.out]; omega)
            rw [show pj + 1 = j by omega] at hst
            have hwr1 : pj < ws.length := by rw [HWL.out]; omega
            have hwr2 : j < ws.length := by rw [HWL.out]; omega
            generalize ws[pj].A = Ap at *
            generalize ws[pj].c = cp at *
            generalize ws[j].A = Aq at *
            generalize ws[j].c = cq at *
            generalize wayAt N a t pj = X at *
            generalize wayAt N a t j = Y at *
            have HIM := Lib.hid (fun V h1 h2 => impl_IsMove_yes N Ap Aq cp cq X Y V h1 h2 x1 y1 hst)
            have HQT := Lib.hid (fun V h1 h2 => impl_MoveDistance_any N N Aq At cq ct Y t V hfN hfN h1 h2)
            rw [mdV_ok y1 HOT.out (y2.trans HLT.out.symm), y3] at HQT
            clear x1 x2 x3 y1 y2 y3 hst hpj hwr1 hwr2
            obtain ⟨⟨d0, d1, _, _, _⟩, _⟩ := HVT.out
            obtain ⟨⟨_, p0, p1⟩, _⟩ := HVP.out
            obtain ⟨⟨_, e0, e1⟩, _⟩ := HVQ.out
            go_wp2_with fail
            have HBW := Lib.hid (Below.drewH_ HBW.out)
            try have HRB := Lib.hid (Below.drewH_ HRB.out)
            try have HWW := Lib.hid (Below.drewH_ HWW.out)
            try have HVA := Lib.hid HVA.out.drew
            try have HVB := Lib.hid HVB.out.drew
            try have HVC := Lib.hid HVC.out.drew
            try have HVT := Lib.hid HVT.out.drew
            try have HVX := Lib.hid HVX.out.drew
            try have HVM := Lib.hid HVM.out.drew
            try have HVF := Lib.hid HVF.out.drew
            try have HVP := Lib.hid HVP.out.drew
            try have HVQ := Lib.hid HVQ.out.drew
            try have HLA := Lib.hid HLA.out.drewR_
            try have HLW := Lib.hid HLW.out.drewR_
            (refine wp_region_held_drew (S := (fun w' => w'.cell? ⟨qt, 0, none⟩ = some (.int .i64 N) ∧ w'.cell? ⟨qt, 1, none⟩ = some (.slice At t.length ct) ∧ w'.cell? ⟨gw, pj * 2, none⟩ = some (.int .i64 N) ∧ w'.cell? ⟨gw, pj * 2 + 1, none⟩ = some (.slice Ap X.length cp) ∧ w'.cell? ⟨gw, j * 2, none⟩ = some (.int .i64 N) ∧ w'.cell? ⟨gw, j * 2 + 1, none⟩ = some (.slice Aq Y.length cq))) (by kernel_rfl) ?_ (fun hHeld => ?_); (focus ((try dsimp only); exact ⟨d0, d1, p0, p1, e0, e1⟩)))
            ((refine wpAnyH_take (i := 0) (v := ?_) rfl (by kernel_rfl) (by kernel_rfl) (by kernel_rfl) (fun _ _ _ h => h) (Or.inl ⟨by rfl, ?_⟩) (by assumption) ?_; rotate_left; (focus (intro wS hSw; (try dsimp only at hSw); go_simp; (try with_reducible rfl))); (try simp only [Act.put, List.getElem_toArray, List.getElem_cons_zero, List.getElem_cons_succ, List.setIfInBounds_toArray, List.set_cons_zero, List.set_cons_succ])); (refine wpAnyH_take (i := 1) (v := ?_) rfl (by kernel_rfl) (by kernel_rfl) (by kernel_rfl) (fun _ _ _ h => h) (Or.inl ⟨by rfl, ?_⟩) (by assumption) ?_; rotate_left; (focus (intro wS hSw; (try dsimp only at hSw); go_simp; (try with_reducible rfl))); (try simp only [Act.put, List.getElem_toArray, List.getElem_cons_zero, List.getElem_cons_succ, List.setIfInBounds_toArray, List.set_cons_zero, List.set_cons_succ])); (refine wpAnyH_take (i := 2) (v := ?_) rfl (by kernel_rfl) (by kernel_rfl) (by kernel_rfl) (fun _ _ _ h => h) (Or.inl ⟨by rfl, ?_⟩) (by assumption) ?_; rotate_left; (focus (intro wS hSw; (try dsimp only at hSw); go_simp; (try with_reducible rfl))); (try simp only [Act.put, List.getElem_toArray, List.getElem_cons_zero, List.getElem_cons_succ, List.setIfInBounds_toArray, List.set_cons_zero, List.set_cons_succ])); (refine wpAnyH_take (i := 3) (v := ?_) rfl (by kernel_rfl) (by kernel_rfl) (by kernel_rfl) (fun _ _ _ h => h) (Or.inl ⟨by rfl, ?_⟩) (by assumption) ?_; rotate_left; (focus (intro wS hSw; (try dsimp only at hSw); go_simp; (try with_reducible rfl))); (try simp only [Act.put, List.getElem_toArray, List.getElem_cons_zero, List.getElem_cons_succ, List.setIfInBounds_toArray, List.set_cons_zero, List.set_cons_succ])); (refine wpAnyH_take (i := 4) (v := ?_) rfl (by kernel_rfl) (by kernel_rfl) (by kernel_rfl) (fun _ _ _ h => h) (Or.inl ⟨by rfl, ?_⟩) (by assumption) ?_; rotate_left; (focus (intro wS hSw; (try dsimp only at hSw); go_simp; (try with_reducible rfl))); (try simp only [Act.put, List.getElem_toArray, List.getElem_cons_zero, List.getElem_cons_succ, List.setIfInBounds_toArray, List.set_cons_zero, List.set_cons_succ])); (refine wpAnyH_take (i := 5) (v := ?_) rfl (by kernel_rfl) (by kernel_rfl) (by kernel_rfl) (fun _ _ _ h => h) (Or.inl ⟨by rfl, ?_⟩) (by assumption) ?_; rotate_left; (focus (intro wS hSw; (try dsimp only at hSw); go_simp; (try with_reducible rfl))); (try simp only [Act.put, List.getElem_toArray, List.getElem_cons_zero, List.getElem_cons_succ, List.setIfInBounds_toArray, List.set_cons_zero, List.set_cons_succ])); (refine wpAnyH_take (i := 6) (v := ?_) rfl (by kernel_rfl) (by kernel_rfl) (by kernel_rfl) (fun _ _ _ h => h) (Or.inl ⟨by rfl, ?_⟩) (by assumption) ?_; rotate_left; (focus (intro wS hSw; (try dsimp only at hSw); go_simp; (try with_reducible rfl))); (try simp only [Act.put, List.getElem_toArray, List.getElem_cons_zero, List.getElem_cons_succ, List.setIfInBounds_toArray, List.set_cons_zero, List.set_cons_succ])); (refine wpAnyH_take (i := 7) (v := ?_) rfl (by kernel_rfl) (by kernel_rfl) (by kernel_rfl) (fun _ _ _ h => h) (Or.inl ⟨by rfl, ?_⟩) (by assumption) ?_; rotate_left; (focus (intro wS hSw; (try dsimp only at hSw); go_simp; (try with_reducible rfl))); (try simp only [Act.put, List.getElem_toArray, List.getElem_cons_zero, List.getElem_cons_succ, List.setIfInBounds_toArray, List.set_cons_zero, List.set_cons_succ])); (refine wpAnyH_take (i := 8) (v := ?_) rfl (by kernel_rfl) (by kernel_rfl) (by kernel_rfl) (fun _ _ _ h => h) (Or.inl ⟨by rfl, ?_⟩) (by assumption) ?_; rotate_left; (focus (intro wS hSw; (try dsimp only at hSw); go_simp; (try with_reducible rfl))); (try simp only [Act.put, List.getElem_toArray, List.getElem_cons_zero, List.getElem_cons_succ, List.setIfInBounds_toArray, List.set_cons_zero, List.set_cons_succ])))
            (refine wpAnyH_ready (rs := [9]) (by kernel_rfl) (by simp) ?_; refine AllReadyH.cons rfl (fun K hK => ?_) AllReadyH.nil; go_simp)
            go_at_call 9
            refine (HIM.out _ HVP.out.2 HVQ.out.2).mono ?_
            rintro e wn ⟨rfl, hb⟩
            have HBW := Lib.hid (HBW.out.trans (hb.mono HBW.out.size))
            try have HVA := Lib.hid (HVA.out.lift hb)
            try have HVB := Lib.hid (HVB.out.lift hb)
            try have HVC := Lib.hid (HVC.out.lift hb)
            try have HVT := Lib.hid (HVT.out.lift hb)
            try have HVX := Lib.hid (HVX.out.lift hb)
            try have HVM := Lib.hid (HVM.out.lift hb)
            try have HVF := Lib.hid (HVF.out.lift hb)
            try have HVP := Lib.hid (HVP.out.lift hb)
            try have HVQ := Lib.hid (HVQ.out.lift hb)
            try have HLA := Lib.hid (HLA.out.lift hb)
            try have HLW := Lib.hid (HLW.out.lift hb)
            try have HI := Lib.hid (HI.out.lift hb)
            try have HRB := Lib.hid (HRB.out.trans (hb.mono HRB.out.size))
            try have HWW := Lib.hid (HWW.out.trans (hb.mono HWW.out.size))
            clear hb
            clear d0 d1 p0 p1 e0 e1
            obtain ⟨⟨d0, d1, _, _, _⟩, _⟩ := HVT.out
            obtain ⟨⟨_, p0, p1⟩, _⟩ := HVP.out
            obtain ⟨⟨_, e0, e1⟩, _⟩ := HVQ.out
            go_wp2_with fail
            (refine hK.out _ _ ?_ (fun hHeld2 => ?_); (focus ((try dsimp only); exact ⟨d0, d1, p0, p1, e0, e1⟩)); (clear hK K); (try simp only [Act.put, List.getElem_toArray, List.getElem_cons_zero, List.getElem_cons_succ, List.setIfInBounds_toArray, List.set_cons_zero, List.set_cons_succ]))
            ((refine wpAnyH_take (i := 10) (v := ?_) rfl (by kernel_rfl) (by kernel_rfl) (by kernel_rfl) (fun _ _ _ h => h) (Or.inl ⟨by rfl, ?_⟩) (by assumption) ?_; rotate_left; (focus (intro wS hSw; (try dsimp only at hSw); go_simp; (try with_reducible rfl))); (try simp only [Act.put, List.getElem_toArray, List.getElem_cons_zero, List.getElem_cons_succ, List.setIfInBounds_toArray, List.set_cons_zero, List.set_cons_succ])); (refine wpAnyH_take (i := 11) (v := ?_) rfl (by kernel_rfl) (by kernel_rfl) (by kernel_rfl) (fun _ _ _ h => h) (Or.inl ⟨by rfl, ?_⟩) (by assumption) ?_; rotate_left; (focus (intro wS hSw; (try dsimp only at hSw); go_simp; (try with_reducible rfl))); (try simp only [Act.put, List.getElem_toArray, List.getElem_cons_zero, List.getElem_cons_succ, List.setIfInBounds_toArray, List.set_cons_zero, List.set_cons_succ])); (refine wpAnyH_take (i := 12) (v := ?_) rfl (by kernel_rfl) (by kernel_rfl) (by kernel_rfl) (fun _ _ _ h => h) (Or.inl ⟨by rfl, ?_⟩) (by assumption) ?_; rotate_left; (focus (intro wS hSw; (try dsimp only at hSw); go_simp; (try with_reducible rfl))); (try simp only [Act.put, List.getElem_toArray, List.getElem_cons_zero, List.getElem_cons_succ, List.setIfInBounds_toArray, List.set_cons_zero, List.set_cons_succ])); (refine wpAnyH_take (i := 13) (v := ?_) rfl (by kernel_rfl) (by kernel_rfl) (by kernel_rfl) (fun _ _ _ h => h) (Or.inl ⟨by rfl, ?_⟩) (by assumption) ?_; rotate_left; (focus (intro wS hSw; (try dsimp only at hSw); go_simp; (try with_reducible rfl))); (try simp only [Act.put, List.getElem_toArray, List.getElem_cons_zero, List.getElem_cons_succ, List.setIfInBounds_toArray, List.set_cons_zero, List.set_cons_succ])); (refine wpAnyH_take (i := 14) (v := ?_) rfl (by kernel_rfl) (by kernel_rfl) (by kernel_rfl) (fun _ _ _ h => h) (Or.inl ⟨by rfl, ?_⟩) (by assumption) ?_; rotate_left; (focus (intro wS hSw; (try dsimp only at hSw); go_simp; (try with_reducible rfl))); (try simp only [Act.put, List.getElem_toArray, List.getElem_cons_zero, List.getElem_cons_succ, List.setIfInBounds_toArray, List.set_cons_zero, List.set_cons_succ])); (refine wpAnyH_take (i := 15) (v := ?_) rfl (by kernel_rfl) (by kernel_rfl) (by kernel_rfl) (fun _ _ _ h => h) (Or.inl ⟨by rfl, ?_⟩) (by assumption) ?_; rotate_left; (focus (intro wS hSw; (try dsimp only at hSw); go_simp; (try with_reducible rfl))); (try simp only [Act.put, List.getElem_toArray, List.getElem_cons_zero, List.getElem_cons_succ, List.setIfInBounds_toArray, List.set_cons_zero, List.set_cons_succ])); (refine wpAnyH_take (i := 16) (v := ?_) rfl (by kernel_rfl) (by kernel_rfl) (by kernel_rfl) (fun _ _ _ h => h) (Or.inl ⟨by rfl, ?_⟩) (by assumption) ?_; rotate_left; (focus (intro wS hSw; (try dsimp only at hSw); go_simp; (try with_reducible rfl))); (try simp only [Act.put, List.getElem_toArray, List.getElem_cons_zero, List.getElem_cons_succ, List.setIfInBounds_toArray, List.set_cons_zero, List.set_cons_succ])); (refine wpAnyH_take (i := 18) (v := ?_) rfl (by kernel_rfl) (by kernel_rfl) (by kernel_rfl) (fun _ _ _ h => h) (Or.inl ⟨by rfl, ?_⟩) (by assumption) ?_; rotate_left; (focus (intro wS hSw; (try dsimp only at hSw); go_simp; (try with_reducible rfl))); (try simp only [Act.put, List.getElem_toArray, List.getElem_cons_zero, List.getElem_cons_succ, List.setIfInBounds_toArray, List.set_cons_zero, List.set_cons_succ])); (refine wpAnyH_take (i := 19) (v := ?_) rfl (by kernel_rfl) (by kernel_rfl) (by kernel_rfl) (fun _ _ _ h => h) (Or.inl ⟨by rfl, ?_⟩) (by assumption) ?_; rotate_left; (focus (intro wS hSw; (try dsimp only at hSw); go_simp; (try with_reducible rfl))); (try simp only [Act.put, List.getElem_toArray, List.getElem_cons_zero, List.getElem_cons_succ, List.setIfInBounds_toArray, List.set_cons_zero, List.set_cons_succ])); (refine wpAnyH_take (i := 20) (v := ?_) rfl (by kernel_rfl) (by kernel_rfl) (by kernel_rfl) (fun _ _ _ h => h) (Or.inl ⟨by rfl, ?_⟩) (by assumption) ?_; rotate_left; (focus (intro wS hSw; (try dsimp only at hSw); go_simp; (try with_reducible rfl))); (try simp only [Act.put, List.getElem_toArray, List.getElem_cons_zero, List.getElem_cons_succ, List.setIfInBounds_toArray, List.set_cons_zero, List.set_cons_succ])))
            (refine wpAnyH_ready (rs := [17]) (by kernel_rfl) (by simp) ?_; refine AllReadyH.cons rfl (fun K hK => ?_) AllReadyH.nil; go_simp)
            go_at_call 7
            refine (HQT.out _ HVQ.out.2 HVT.out.2).mono ?_
            rintro e wn ⟨rfl, hb⟩
            have HBW := Lib.hid (HBW.out.trans (hb.mono HBW.out.size))
            try have HVA := Lib.hid (HVA.out.lift hb)
            try have HVB := Lib.hid (HVB.out.lift hb)
            try have HVC := Lib.hid (HVC.out.lift hb)
            try have HVT := Lib.hid (HVT.out.lift hb)
            try have HVX := Lib.hid (HVX.out.lift hb)
            try have HVM := Lib.hid (HVM.out.lift hb)
            try have HVF := Lib.hid (HVF.out.lift hb)
            try have HVP := Lib.hid (HVP.out.lift hb)
            try have HVQ := Lib.hid (HVQ.out.lift hb)
            try have HLA := Lib.hid (HLA.out.lift hb)
            try have HLW := Lib.hid (HLW.out.lift hb)
            try have HI := Lib.hid (HI.out.lift hb)
            try have HRB := Lib.hid (HRB.out.trans (hb.mono HRB.out.size))
            try have HWW := Lib.hid (HWW.out.trans (hb.mono HWW.out.size))
            clear hb
            clear d0 d1 p0 p1 e0 e1
            obtain ⟨⟨d0, d1, _, _, _⟩, _⟩ := HVT.out
            obtain ⟨⟨_, p0, p1⟩, _⟩ := HVP.out
            obtain ⟨⟨_, e0, e1⟩, _⟩ := HVQ.out
            go_wp2_with fail
            (refine hK.out _ _ ?_ (fun hHeld2 => ?_); (focus ((try dsimp only); exact ⟨d0, d1, p0, p1, e0, e1⟩)); (clear hK K); (try simp only [Act.put, List.getElem_toArray, List.getElem_cons_zero, List.getElem_cons_succ, List.setIfInBounds_toArray, List.set_cons_zero, List.set_cons_succ]))
            ((refine wpAnyH_take (i := 21) (v := ?_) rfl (by kernel_rfl) (by kernel_rfl) (by kernel_rfl) (fun _ _ _ h => h) (Or.inl ⟨by rfl, ?_⟩) (by assumption) ?_; rotate_left; (focus (intro wS hSw; (try dsimp only at hSw); go_simp; (try with_reducible rfl))); (try simp only [Act.put, List.getElem_toArray, List.getElem_cons_zero, List.getElem_cons_succ, List.setIfInBounds_toArray, List.set_cons_zero, List.set_cons_succ])); (refine wpAnyH_take (i := 22) (v := ?_) rfl (by kernel_rfl) (by kernel_rfl) (by kernel_rfl) (fun _ _ _ h => h) (Or.inl ⟨by rfl, ?_⟩) (by assumption) ?_; rotate_left; (focus (intro wS hSw; (try dsimp only at hSw); go_simp; (try with_reducible rfl))); (try simp only [Act.put, List.getElem_toArray, List.getElem_cons_zero, List.getElem_cons_succ, List.setIfInBounds_toArray, List.set_cons_zero, List.set_cons_succ])))
            refine wpAnyH_done (by kernel_rfl) ?_ _
            clear d0 d1 p0 p1 e0 e1
            go_wp2_with fail
            go_roundw
            case rel => exact ⟨j + 1, by omega, by omega, by go_num, HRB.out⟩
            case measure => simp [intOf]; omega
          · have hkj : ¬ (j : Int) ≤ (E : Int) := by omega
            clear hjt hj hj1 HRB HCL HWS HWL HWW hp1 hp2 hw1
            go_wp2_with fail
            go_cut [187] from 166 to 187 (fun sc wx => sc = .bool false ∧ Below wr.heap.size wr wx)
            case first =>
              as_aux_lemma =>
              have HRB := Lib.hid (Below.refl wr.heap.size wr)
              obtain ⟨⟨c0, c1, _, _, _⟩, _⟩ := HVA.out
              obtain ⟨⟨d0, d1, _, _, _⟩, _⟩ := HVB.out
              obtain ⟨⟨e0, e1, _, _, _⟩, _⟩ := HVC.out
              have HBW := Lib.hid (Below.drewH_ HBW.out)
              try have HRB := Lib.hid (Below.drewH_ HRB.out)
              try have HWW := Lib.hid (Below.drewH_ HWW.out)
              try have HVA := Lib.hid HVA.out.drew
              try have HVB := Lib.hid HVB.out.drew
              try have HVC := Lib.hid HVC.out.drew
              try have HVT := Lib.hid HVT.out.drew
              try have HVX := Lib.hid HVX.out.drew
              try have HVM := Lib.hid HVM.out.drew
              try have HVF := Lib.hid HVF.out.drew
              try have HVP := Lib.hid HVP.out.drew
              try have HVQ := Lib.hid HVQ.out.drew
              try have HLA := Lib.hid HLA.out.drewR_
              try have HLW := Lib.hid HLW.out.drewR_
              (refine wp_region_held_drew (S := (fun w' => w'.cell? ⟨qa, 0, none⟩ = some (.int .i64 N) ∧ w'.cell? ⟨qa, 1, none⟩ = some (.slice Aa a.length ca) ∧ w'.cell? ⟨qb, 0, none⟩ = some (.int .i64 N) ∧ w'.cell? ⟨qb, 1, none⟩ = some (.slice Ab b.length cb) ∧ w'.cell? ⟨qc, 0, none⟩ = some (.int .i64 N) ∧ w'.cell? ⟨qc, 1, none⟩ = some (.slice Ac c.length cc))) (by kernel_rfl) ?_ (fun hHeld => ?_); (focus ((try dsimp only); exact ⟨c0, c1, d0, d1, e0, e1⟩)))
              cases q
              · ((refine wpAnyH_take (i := 0) (v := ?_) rfl (by kernel_rfl) (by kernel_rfl) (by kernel_rfl) (fun _ _ _ h => h) (Or.inl ⟨by rfl, ?_⟩) (by assumption) ?_; rotate_left; (focus (intro wS hSw; (try dsimp only at hSw); go_simp; (try with_reducible rfl))); (try simp only [Act.put, List.getElem_toArray, List.getElem_cons_zero, List.getElem_cons_succ, List.setIfInBounds_toArray, List.set_cons_zero, List.set_cons_succ])); (refine wpAnyH_take (i := 1) (v := ?_) rfl (by kernel_rfl) (by kernel_rfl) (by kernel_rfl) (fun _ _ _ h => h) (Or.inl ⟨by rfl, ?_⟩) (by assumption) ?_; rotate_left; (focus (intro wS hSw; (try dsimp only at hSw); go_simp; (try with_reducible rfl))); (try simp only [Act.put, List.getElem_toArray, List.getElem_cons_zero, List.getElem_cons_succ, List.setIfInBounds_toArray, List.set_cons_zero, List.set_cons_succ])); (refine wpAnyH_take (i := 2) (v := ?_) rfl (by kernel_rfl) (by kernel_rfl) (by kernel_rfl) (fun _ _ _ h => h) (Or.inl ⟨by rfl, ?_⟩) (by assumption) ?_; rotate_left; (focus (intro wS hSw; (try dsimp only at hSw); go_simp; (try with_reducible rfl))); (try simp only [Act.put, List.getElem_toArray, List.getElem_cons_zero, List.getElem_cons_succ, List.setIfInBounds_toArray, List.set_cons_zero, List.set_cons_succ])))
                ((refine wpAnyH_take (i := 3) (v := undef) rfl (by kernel_rfl) (by kernel_rfl) (by kernel_rfl) (fun _ _ _ h => h) (Or.inr ⟨by rfl, rfl⟩) (by assumption) ?_; (try simp only [Act.put, List.getElem_toArray, List.getElem_cons_zero, List.getElem_cons_succ, List.setIfInBounds_toArray, List.set_cons_zero, List.set_cons_succ])); (refine wpAnyH_take (i := 4) (v := undef) rfl (by kernel_rfl) (by kernel_rfl) (by kernel_rfl) (fun _ _ _ h => h) (Or.inr ⟨by rfl, rfl⟩) (by assumption) ?_; (try simp only [Act.put, List.getElem_toArray, List.getElem_cons_zero, List.getElem_cons_succ, List.setIfInBounds_toArray, List.set_cons_zero, List.set_cons_succ])); (refine wpAnyH_take (i := 5) (v := undef) rfl (by kernel_rfl) (by kernel_rfl) (by kernel_rfl) (fun _ _ _ h => h) (Or.inr ⟨by rfl, rfl⟩) (by assumption) ?_; (try simp only [Act.put, List.getElem_toArray, List.getElem_cons_zero, List.getElem_cons_succ, List.setIfInBounds_toArray, List.set_cons_zero, List.set_cons_succ])); (refine wpAnyH_take (i := 6) (v := undef) rfl (by kernel_rfl) (by kernel_rfl) (by kernel_rfl) (fun _ _ _ h => h) (Or.inr ⟨by rfl, rfl⟩) (by assumption) ?_; (try simp only [Act.put, List.getElem_toArray, List.getElem_cons_zero, List.getElem_cons_succ, List.setIfInBounds_toArray, List.set_cons_zero, List.set_cons_succ])); (refine wpAnyH_take (i := 7) (v := undef) rfl (by kernel_rfl) (by kernel_rfl) (by kernel_rfl) (fun _ _ _ h => h) (Or.inr ⟨by rfl, rfl⟩) (by assumption) ?_; (try simp only [Act.put, List.getElem_toArray, List.getElem_cons_zero, List.getElem_cons_succ, List.setIfInBounds_toArray, List.set_cons_zero, List.set_cons_succ])); (refine wpAnyH_take (i := 8) (v := undef) rfl (by kernel_rfl) (by kernel_rfl) (by kernel_rfl) (fun _ _ _ h => h) (Or.inr ⟨by rfl, rfl⟩) (by assumption) ?_; (try simp only [Act.put, List.getElem_toArray, List.getElem_cons_zero, List.getElem_cons_succ, List.setIfInBounds_toArray, List.set_cons_zero, List.set_cons_succ])); (refine wpAnyH_take (i := 9) (v := undef) rfl (by kernel_rfl) (by kernel_rfl) (by kernel_rfl) (fun _ _ _ h => h) (Or.inr ⟨by rfl, rfl⟩) (by assumption) ?_; (try simp only [Act.put, List.getElem_toArray, List.getElem_cons_zero, List.getElem_cons_succ, List.setIfInBounds_toArray, List.set_cons_zero, List.set_cons_succ])))
                ((refine wpAnyH_take (i := 10) (v := ?_) rfl (by kernel_rfl) (by kernel_rfl) (by kernel_rfl) (fun _ _ _ h => h) (Or.inl ⟨by rfl, ?_⟩) (by assumption) ?_; rotate_left; (focus (intro wS hSw; (try dsimp only at hSw); go_simp; (try with_reducible rfl))); (try simp only [Act.put, List.getElem_toArray, List.getElem_cons_zero, List.getElem_cons_succ, List.setIfInBounds_toArray, List.set_cons_zero, List.set_cons_succ])); (refine wpAnyH_take (i := 11) (v := ?_) rfl (by kernel_rfl) (by kernel_rfl) (by kernel_rfl) (fun _ _ _ h => h) (Or.inl ⟨by rfl, ?_⟩) (by assumption) ?_; rotate_left; (focus (intro wS hSw; (try dsimp only at hSw); go_simp; (try with_reducible rfl))); (try simp only [Act.put, List.getElem_toArray, List.getElem_cons_zero, List.getElem_cons_succ, List.setIfInBounds_toArray, List.set_cons_zero, List.set_cons_succ])))
                ((refine wpAnyH_take (i := 12) (v := undef) rfl (by kernel_rfl) (by kernel_rfl) (by kernel_rfl) (fun _ _ _ h => h) (Or.inr ⟨by rfl, rfl⟩) (by assumption) ?_; (try simp only [Act.put, List.getElem_toArray, List.getElem_cons_zero, List.getElem_cons_succ, List.setIfInBounds_toArray, List.set_cons_zero, List.set_cons_succ])); (refine wpAnyH_take (i := 13) (v := undef) rfl (by kernel_rfl) (by kernel_rfl) (by kernel_rfl) (fun _ _ _ h => h) (Or.inr ⟨by rfl, rfl⟩) (by assumption) ?_; (try simp only [Act.put, List.getElem_toArray, List.getElem_cons_zero, List.getElem_cons_succ, List.setIfInBounds_toArray, List.set_cons_zero, List.set_cons_succ])); (refine wpAnyH_take (i := 14) (v := undef) rfl (by kernel_rfl) (by kernel_rfl) (by kernel_rfl) (fun _ _ _ h => h) (Or.inr ⟨by rfl, rfl⟩) (by assumption) ?_; (try simp only [Act.put, List.getElem_toArray, List.getElem_cons_zero, List.getElem_cons_succ, List.setIfInBounds_toArray, List.set_cons_zero, List.set_cons_succ])); (refine wpAnyH_take (i := 15) (v := undef) rfl (by kernel_rfl) (by kernel_rfl) (by kernel_rfl) (fun _ _ _ h => h) (Or.inr ⟨by rfl, rfl⟩) (by assumption) ?_; (try simp only [Act.put, List.getElem_toArray, List.getElem_cons_zero, List.getElem_cons_succ, List.setIfInBounds_toArray, List.set_cons_zero, List.set_cons_succ])); (refine wpAnyH_take (i := 16) (v := undef) rfl (by kernel_rfl) (by kernel_rfl) (by kernel_rfl) (fun _ _ _ h => h) (Or.inr ⟨by rfl, rfl⟩) (by assumption) ?_; (try simp only [Act.put, List.getElem_toArray, List.getElem_cons_zero, List.getElem_cons_succ, List.setIfInBounds_toArray, List.set_cons_zero, List.set_cons_succ])); (refine wpAnyH_take (i := 17) (v := undef) rfl (by kernel_rfl) (by kernel_rfl) (by kernel_rfl) (fun _ _ _ h => h) (Or.inr ⟨by rfl, rfl⟩) (by assumption) ?_; (try simp only [Act.put, List.getElem_toArray, List.getElem_cons_zero, List.getElem_cons_succ, List.setIfInBounds_toArray, List.set_cons_zero, List.set_cons_succ])); (refine wpAnyH_take (i := 18) (v := undef) rfl (by kernel_rfl) (by kernel_rfl) (by kernel_rfl) (fun _ _ _ h => h) (Or.inr ⟨by rfl, rfl⟩) (by assumption) ?_; (try simp only [Act.put, List.getElem_toArray, List.getElem_cons_zero, List.getElem_cons_succ, List.setIfInBounds_toArray, List.set_cons_zero, List.set_cons_succ])); (refine wpAnyH_take (i := 19) (v := undef) rfl (by kernel_rfl) (by kernel_rfl) (by kernel_rfl) (fun _ _ _ h => h) (Or.inr ⟨by rfl, rfl⟩) (by assumption) ?_; (try simp only [Act.put, List.getElem_toArray, List.getElem_cons_zero, List.getElem_cons_succ, List.setIfInBounds_toArray, List.set_cons_zero, List.set_cons_succ])); (refine wpAnyH_take (i := 20) (v := undef) rfl (by kernel_rfl) (by kernel_rfl) (by kernel_rfl) (fun _ _ _ h => h) (Or.inr ⟨by rfl, rfl⟩) (by assumption) ?_; (try simp only [Act.put, List.getElem_toArray, List.getElem_cons_zero, List.getElem_cons_succ, List.setIfInBounds_toArray, List.set_cons_zero, List.set_cons_succ])))
                (refine wpAnyH_take (i := 21) (v := ?_) rfl (by kernel_rfl) (by kernel_rfl) (by kernel_rfl) (fun _ _ _ h => h) (Or.inl ⟨by rfl, ?_⟩) (by assumption) ?_; rotate_left; (focus (intro wS hSw; (try dsimp only at hSw); go_simp; (try with_reducible rfl))); (try simp only [Act.put, List.getElem_toArray, List.getElem_cons_zero, List.getElem_cons_succ, List.setIfInBounds_toArray, List.set_cons_zero, List.set_cons_succ]))
                refine wpAnyH_done (by kernel_rfl) ?_ _
                clear c0 c1 d0 d1 e0 e1
                go_wp2_with fail
                go_meet
                exact ⟨rfl, HRB.out⟩
              · obtain ⟨hlab, hDv, hD0⟩ := HDQ.out rfl
                obtain ⟨q2, hcq, hcq2⟩ : ∃ q2 : Bool, ((c.length : Int) == (a.length : Int)) = q2 ∧ (q2 = true → c.length = a.length) := ⟨_, rfl, fun h => by have := beq_iff_eq.1 h; omega⟩
                have HCQ := Lib.hid hcq2
                have HDV := Lib.hid hDv
                have HLB := Lib.hid hlab
                clear hcq2 hDv hlab
                ((refine wpAnyH_take (i := 0) (v := ?_) rfl (by kernel_rfl) (by kernel_rfl) (by kernel_rfl) (fun _ _ _ h => h) (Or.inl ⟨by rfl, ?_⟩) (by assumption) ?_; rotate_left; (focus (intro wS hSw; (try dsimp only at hSw); go_simp; (try with_reducible rfl))); (try simp only [Act.put, List.getElem_toArray, List.getElem_cons_zero, List.getElem_cons_succ, List.setIfInBounds_toArray, List.set_cons_zero, List.set_cons_succ])); (refine wpAnyH_take (i := 1) (v := ?_) rfl (by kernel_rfl) (by kernel_rfl) (by kernel_rfl) (fun _ _ _ h => h) (Or.inl ⟨by rfl, ?_⟩) (by assumption) ?_; rotate_left; (focus (intro wS hSw; (try dsimp only at hSw); go_simp; (try with_reducible rfl))); (try simp only [Act.put, List.getElem_toArray, List.getElem_cons_zero, List.getElem_cons_succ, List.setIfInBounds_toArray, List.set_cons_zero, List.set_cons_succ])); (refine wpAnyH_take (i := 2) (v := ?_) rfl (by kernel_rfl) (by kernel_rfl) (by kernel_rfl) (fun _ _ _ h => h) (Or.inl ⟨by rfl, ?_⟩) (by assumption) ?_; rotate_left; (focus (intro wS hSw; (try dsimp only at hSw); go_simp; (try with_reducible rfl))); (try simp only [Act.put, List.getElem_toArray, List.getElem_cons_zero, List.getElem_cons_succ, List.setIfInBounds_toArray, List.set_cons_zero, List.set_cons_succ])); (refine wpAnyH_take (i := 3) (v := ?_) rfl (by kernel_rfl) (by kernel_rfl) (by kernel_rfl) (fun _ _ _ h => h) (Or.inl ⟨by rfl, ?_⟩) (by assumption) ?_; rotate_left; (focus (intro wS hSw; (try dsimp only at hSw); go_simp; (try with_reducible rfl))); (try simp only [Act.put, List.getElem_toArray, List.getElem_cons_zero, List.getElem_cons_succ, List.setIfInBounds_toArray, List.set_cons_zero, List.set_cons_succ])); (refine wpAnyH_take (i := 4) (v := ?_) rfl (by kernel_rfl) (by kernel_rfl) (by kernel_rfl) (fun _ _ _ h => h) (Or.inl ⟨by rfl, ?_⟩) (by assumption) ?_; rotate_left; (focus (intro wS hSw; (try dsimp only at hSw); go_simp; (try with_reducible rfl))); (try simp only [Act.put, List.getElem_toArray, List.getElem_cons_zero, List.getElem_cons_succ, List.setIfInBounds_toArray, List.set_cons_zero, List.set_cons_succ])); (refine wpAnyH_take (i := 5) (v := ?_) rfl (by kernel_rfl) (by kernel_rfl) (by kernel_rfl) (fun _ _ _ h => h) (Or.inl ⟨by rfl, ?_⟩) (by assumption) ?_; rotate_left; (focus (intro wS hSw; (try dsimp only at hSw); go_simp; (try with_reducible rfl))); (try simp only [Act.put, List.getElem_toArray, List.getElem_cons_zero, List.getElem_cons_succ, List.setIfInBounds_toArray, List.set_cons_zero, List.set_cons_succ])); (refine wpAnyH_take (i := 6) (v := ?_) rfl (by kernel_rfl) (by kernel_rfl) (by kernel_rfl) (fun _ _ _ h => h) (Or.inl ⟨by rfl, ?_⟩) (by assumption) ?_; rotate_left; (focus (intro wS hSw; (try dsimp only at hSw); go_simp; (try with_reducible rfl))); (try simp only [Act.put, List.getElem_toArray, List.getElem_cons_zero, List.getElem_cons_succ, List.setIfInBounds_toArray, List.set_cons_zero, List.set_cons_succ])); (refine wpAnyH_take (i := 7) (v := ?_) rfl (by kernel_rfl) (by kernel_rfl) (by kernel_rfl) (fun _ _ _ h => h) (Or.inl ⟨by rfl, ?_⟩) (by assumption) ?_; rotate_left; (focus (intro wS hSw; (try dsimp only at hSw); go_simp; (try with_reducible rfl))); (try simp only [Act.put, List.getElem_toArray, List.getElem_cons_zero, List.getElem_cons_succ, List.setIfInBounds_toArray, List.set_cons_zero, List.set_cons_succ])); (refine wpAnyH_take (i := 8) (v := ?_) rfl (by kernel_rfl) (by kernel_rfl) (by kernel_rfl) (fun _ _ _ h => h) (Or.inl ⟨by rfl, ?_⟩) (by assumption) ?_; rotate_left; (focus (intro wS hSw; (try dsimp only at hSw); go_simp; (try with_reducible rfl))); (try simp only [Act.put, List.getElem_toArray, List.getElem_cons_zero, List.getElem_cons_succ, List.setIfInBounds_toArray, List.set_cons_zero, List.set_cons_succ])); (refine wpAnyH_take (i := 9) (v := ?_) rfl (by kernel_rfl) (by kernel_rfl) (by kernel_rfl) (fun _ _ _ h => h) (Or.inl ⟨by rfl, ?_⟩) (by assumption) ?_; rotate_left; (focus (intro wS hSw; (try dsimp only at hSw); go_simp; (try with_reducible rfl))); (try simp only [Act.put, List.getElem_toArray, List.getElem_cons_zero, List.getElem_cons_succ, List.setIfInBounds_toArray, List.set_cons_zero, List.set_cons_succ])); (refine wpAnyH_take (i := 10) (v := ?_) rfl (by kernel_rfl) (by kernel_rfl) (by kernel_rfl) (fun _ _ _ h => h) (Or.inl ⟨by rfl, ?_⟩) (by assumption) ?_; rotate_left; (focus (intro wS hSw; (try dsimp only at hSw); go_simp; (try with_reducible rfl))); (try simp only [Act.put, List.getElem_toArray, List.getElem_cons_zero, List.getElem_cons_succ, List.setIfInBounds_toArray, List.set_cons_zero, List.set_cons_succ])); (refine wpAnyH_take (i := 11) (v := ?_) rfl (by kernel_rfl) (by kernel_rfl) (by kernel_rfl) (fun _ _ _ h => h) (Or.inl ⟨by rfl, ?_⟩) (by assumption) ?_; rotate_left; (focus (intro wS hSw; (try dsimp only at hSw); go_simp; (try with_reducible rfl))); (try simp only [Act.put, List.getElem_toArray, List.getElem_cons_zero, List.getElem_cons_succ, List.setIfInBounds_toArray, List.set_cons_zero, List.set_cons_succ])))
                clear hcq
                cases q2
                · ((refine wpAnyH_take (i := 12) (v := undef) rfl (by kernel_rfl) (by kernel_rfl) (by kernel_rfl) (fun _ _ _ h => h) (Or.inr ⟨by rfl, rfl⟩) (by assumption) ?_; (try simp only [Act.put, List.getElem_toArray, List.getElem_cons_zero, List.getElem_cons_succ, List.setIfInBounds_toArray, List.set_cons_zero, List.set_cons_succ])); (refine wpAnyH_take (i := 13) (v := undef) rfl (by kernel_rfl) (by kernel_rfl) (by kernel_rfl) (fun _ _ _ h => h) (Or.inr ⟨by rfl, rfl⟩) (by assumption) ?_; (try simp only [Act.put, List.getElem_toArray, List.getElem_cons_zero, List.getElem_cons_succ, List.setIfInBounds_toArray, List.set_cons_zero, List.set_cons_succ])); (refine wpAnyH_take (i := 14) (v := undef) rfl (by kernel_rfl) (by kernel_rfl) (by kernel_rfl) (fun _ _ _ h => h) (Or.inr ⟨by rfl, rfl⟩) (by assumption) ?_; (try simp only [Act.put, List.getElem_toArray, List.getElem_cons_zero, List.getElem_cons_succ, List.setIfInBounds_toArray, List.set_cons_zero, List.set_cons_succ])); (refine wpAnyH_take (i := 15) (v := undef) rfl (by kernel_rfl) (by kernel_rfl) (by kernel_rfl) (fun _ _ _ h => h) (Or.inr ⟨by rfl, rfl⟩) (by assumption) ?_; (try simp only [Act.put, List.getElem_toArray, List.getElem_cons_zero, List.getElem_cons_succ, List.setIfInBounds_toArray, List.set_cons_zero, List.set_cons_succ])); (refine wpAnyH_take (i := 16) (v := undef) rfl (by kernel_rfl) (by kernel_rfl) (by kernel_rfl) (fun _ _ _ h => h) (Or.inr ⟨by rfl, rfl⟩) (by assumption) ?_; (try simp only [Act.put, List.getElem_toArray, List.getElem_cons_zero, List.getElem_cons_succ, List.setIfInBounds_toArray, List.set_cons_zero, List.set_cons_succ])); (refine wpAnyH_take (i := 17) (v := undef) rfl (by kernel_rfl) (by kernel_rfl) (by kernel_rfl) (fun _ _ _ h => h) (Or.inr ⟨by rfl, rfl⟩) (by assumption) ?_; (try simp only [Act.put, List.getElem_toArray, List.getElem_cons_zero, List.getElem_cons_succ, List.setIfInBounds_toArray, List.set_cons_zero, List.set_cons_succ])); (refine wpAnyH_take (i := 18) (v := undef) rfl (by kernel_rfl) (by kernel_rfl) (by kernel_rfl) (fun _ _ _ h => h) (Or.inr ⟨by rfl, rfl⟩) (by assumption) ?_; (try simp only [Act.put, List.getElem_toArray, List.getElem_cons_zero, List.getElem_cons_succ, List.setIfInBounds_toArray, List.set_cons_zero, List.set_cons_succ])); (refine wpAnyH_take (i := 19) (v := undef) rfl (by kernel_rfl) (by kernel_rfl) (by kernel_rfl) (fun _ _ _ h => h) (Or.inr ⟨by rfl, rfl⟩) (by assumption) ?_; (try simp only [Act.put, List.getElem_toArray, List.getElem_cons_zero, List.getElem_cons_succ, List.setIfInBounds_toArray, List.set_cons_zero, List.set_cons_succ])); (refine wpAnyH_take (i := 20) (v := undef) rfl (by kernel_rfl) (by kernel_rfl) (by kernel_rfl) (fun _ _ _ h => h) (Or.inr ⟨by rfl, rfl⟩) (by assumption) ?_; (try simp only [Act.put, List.getElem_toArray, List.getElem_cons_zero, List.getElem_cons_succ, List.setIfInBounds_toArray, List.set_cons_zero, List.set_cons_succ])))
                  (refine wpAnyH_take (i := 21) (v := ?_) rfl (by kernel_rfl) (by kernel_rfl) (by kernel_rfl) (fun _ _ _ h => h) (Or.inl ⟨by rfl, ?_⟩) (by assumption) ?_; rotate_left; (focus (intro wS hSw; (try dsimp only at hSw); go_simp; (try with_reducible rfl))); (try simp only [Act.put, List.getElem_toArray, List.getElem_cons_zero, List.getElem_cons_succ, List.setIfInBounds_toArray, List.set_cons_zero, List.set_cons_succ]))
                  refine wpAnyH_done (by kernel_rfl) ?_ _
                  clear c0 c1 d0 d1 e0 e1
                  go_wp2_with fail
                  go_meet
                  exact ⟨rfl, HRB.out⟩
                · have hcl := HCQ.out rfl
                  have hlab := HLB.out
                  have HAC := Lib.hid (fun V h1 h2 => impl_MoveDistance_any N N Aa Ac ca cc a c V hfN hfN h1 h2)
                  rw [mdV_ok HOA.out HOC.out hcl.symm] at HAC
                  have HCB2 := Lib.hid (fun V h1 h2 => impl_MoveDistance_any N N Ac Ab cc cb c b V hfN hfN h1 h2)
                  rw [mdV_ok HOC.out HOB.out (hcl.trans hlab)] at HCB2
                  have htr := farV_tri HOA.out HOC.out HOB.out hcl.symm (hcl.trans hlab)
                  have hs1 := farV_small HOA.out HOC.out hcl.symm
                  have hs2 := farV_small HOC.out HOB.out (hcl.trans hlab)
                  have hs3 := farV_nonneg N a c
                  have hs4 := farV_nonneg N c b
                  rw [← HDV.out] at htr
                  generalize farV N a c = F1 at *
                  generalize farV N c b = F2 at *
                  have hw1 : IntKind.i64.wrap (F1 + F2) = F1 + F2 := i64w (by omega)
                  have hgt : decide (F1 + F2 < D) = false := decide_eq_false (by omega)
                  clear hcl hlab HCQ HLB HDV
                  ((refine wpAnyH_take (i := 12) (v := ?_) rfl (by kernel_rfl) (by kernel_rfl) (by kernel_rfl) (fun _ _ _ h => h) (Or.inl ⟨by rfl, ?_⟩) (by assumption) ?_; rotate_left; (focus (intro wS hSw; (try dsimp only at hSw); go_simp; (try with_reducible rfl))); (try simp only [Act.put, List.getElem_toArray, List.getElem_cons_zero, List.getElem_cons_succ, List.setIfInBounds_toArray, List.set_cons_zero, List.set_cons_succ])); (refine wpAnyH_take (i := 13) (v := ?_) rfl (by kernel_rfl) (by kernel_rfl) (by kernel_rfl) (fun _ _ _ h => h) (Or.inl ⟨by rfl, ?_⟩) (by assumption) ?_; rotate_left; (focus (intro wS hSw; (try dsimp only at hSw); go_simp; (try with_reducible rfl))); (try simp only [Act.put, List.getElem_toArray, List.getElem_cons_zero, List.getElem_cons_succ, List.setIfInBounds_toArray, List.set_cons_zero, List.set_cons_succ])); (refine wpAnyH_take (i := 14) (v := ?_) rfl (by kernel_rfl) (by kernel_rfl) (by kernel_rfl) (fun _ _ _ h => h) (Or.inl ⟨by rfl, ?_⟩) (by assumption) ?_; rotate_left; (focus (intro wS hSw; (try dsimp only at hSw); go_simp; (try with_reducible rfl))); (try simp only [Act.put, List.getElem_toArray, List.getElem_cons_zero, List.getElem_cons_succ, List.setIfInBounds_toArray, List.set_cons_zero, List.set_cons_succ])); (refine wpAnyH_take (i := 16) (v := ?_) rfl (by kernel_rfl) (by kernel_rfl) (by kernel_rfl) (fun _ _ _ h => h) (Or.inl ⟨by rfl, ?_⟩) (by assumption) ?_; rotate_left; (focus (intro wS hSw; (try dsimp only at hSw); go_simp; (try with_reducible rfl))); (try simp only [Act.put, List.getElem_toArray, List.getElem_cons_zero, List.getElem_cons_succ, List.setIfInBounds_toArray, List.set_cons_zero, List.set_cons_succ])); (refine wpAnyH_take (i := 17) (v := ?_) rfl (by kernel_rfl) (by kernel_rfl) (by kernel_rfl) (fun _ _ _ h => h) (Or.inl ⟨by rfl, ?_⟩) (by assumption) ?_; rotate_left; (focus (intro wS hSw; (try dsimp only at hSw); go_simp; (try with_reducible rfl))); (try simp only [Act.put, List.getElem_toArray, List.getElem_cons_zero, List.getElem_cons_succ, List.setIfInBounds_toArray, List.set_cons_zero, List.set_cons_succ])))
                  (refine wpAnyH_ready (rs := [15]) (by kernel_rfl) (by simp) ?_; refine AllReadyH.cons rfl (fun K hK => ?_) AllReadyH.nil; go_simp)
                  go_at_call 7
                  refine (HAC.out _ HVA.out.2 HVC.out.2).mono ?_
                  rintro e wn ⟨rfl, hb⟩
                  have HBW := Lib.hid (HBW.out.trans (hb.mono HBW.out.size))
                  try have HVA := Lib.hid (HVA.out.lift hb)
                  try have HVB := Lib.hid (HVB.out.lift hb)
                  try have HVC := Lib.hid (HVC.out.lift hb)
                  try have HVT := Lib.hid (HVT.out.lift hb)
                  try have HVX := Lib.hid (HVX.out.lift hb)
                  try have HVM := Lib.hid (HVM.out.lift hb)
                  try have HVF := Lib.hid (HVF.out.lift hb)
                  try have HVP := Lib.hid (HVP.out.lift hb)
                  try have HVQ := Lib.hid (HVQ.out.lift hb)
                  try have HLA := Lib.hid (HLA.out.lift hb)
                  try have HLW := Lib.hid (HLW.out.lift hb)
                  try have HI := Lib.hid (HI.out.lift hb)
                  try have HRB := Lib.hid (HRB.out.trans (hb.mono HRB.out.size))
                  try have HWW := Lib.hid (HWW.out.trans (hb.mono HWW.out.size))
                  clear hb
                  clear c0 c1 d0 d1 e0 e1
                  obtain ⟨⟨c0, c1, _, _, _⟩, _⟩ := HVA.out
                  obtain ⟨⟨d0, d1, _, _, _⟩, _⟩ := HVB.out
                  obtain ⟨⟨e0, e1, _, _, _⟩, _⟩ := HVC.out
                  go_wp2_with fail
                  (refine hK.out _ _ ?_ (fun hHeld2 => ?_); (focus ((try dsimp only); exact ⟨c0, c1, d0, d1, e0, e1⟩)); (clear hK K); (try simp only [Act.put, List.getElem_toArray, List.getElem_cons_zero, List.getElem_cons_succ, List.setIfInBounds_toArray, List.set_cons_zero, List.set_cons_succ]))
                  (refine wpAnyH_ready (rs := [18]) (by kernel_rfl) (by simp) ?_; refine AllReadyH.cons rfl (fun K hK => ?_) AllReadyH.nil; go_simp)
                  go_at_call 7
                  refine (HCB2.out _ HVC.out.2 HVB.out.2).mono ?_
                  rintro e wn ⟨rfl, hb⟩
                  have HBW := Lib.hid (HBW.out.trans (hb.mono HBW.out.size))
                  try have HVA := Lib.hid (HVA.out.lift hb)
                  try have HVB := Lib.hid (HVB.out.lift hb)
                  try have HVC := Lib.hid (HVC.out.lift hb)
                  try have HVT := Lib.hid (HVT.out.lift hb)
                  try have HVX := Lib.hid (HVX.out.lift hb)
                  try have HVM := Lib.hid (HVM.out.lift hb)
                  try have HVF := Lib.hid (HVF.out.lift hb)
                  try have HVP := Lib.hid (HVP.out.lift hb)
                  try have HVQ := Lib.hid (HVQ.out.lift hb)
                  try have HLA := Lib.hid (HLA.out.lift hb)
                  try have HLW := Lib.hid (HLW.out.lift hb)
                  try have HI := Lib.hid (HI.out.lift hb)
                  try have HRB := Lib.hid (HRB.out.trans (hb.mono HRB.out.size))
                  try have HWW := Lib.hid (HWW.out.trans (hb.mono HWW.out.size))
                  clear hb
                  clear c0 c1 d0 d1 e0 e1
                  obtain ⟨⟨c0, c1, _, _, _⟩, _⟩ := HVA.out
                  obtain ⟨⟨d0, d1, _, _, _⟩, _⟩ := HVB.out
                  obtain ⟨⟨e0, e1, _, _, _⟩, _⟩ := HVC.out
                  go_wp2_with fail
                  (refine hK.out _ _ ?_ (fun hHeld2 => ?_); (focus ((try dsimp only); exact ⟨c0, c1, d0, d1, e0, e1⟩)); (clear hK K); (try simp only [Act.put, List.getElem_toArray, List.getElem_cons_zero, List.getElem_cons_succ, List.setIfInBounds_toArray, List.set_cons_zero, List.set_cons_succ]))
                  ((refine wpAnyH_take (i := 19) (v := ?_) rfl (by kernel_rfl) (by kernel_rfl) (by kernel_rfl) (fun _ _ _ h => h) (Or.inl ⟨by rfl, ?_⟩) (by assumption) ?_; rotate_left; (focus (intro wS hSw; (try dsimp only at hSw); go_simp; (try with_reducible rfl))); (try simp only [Act.put, List.getElem_toArray, List.getElem_cons_zero, List.getElem_cons_succ, List.setIfInBounds_toArray, List.set_cons_zero, List.set_cons_succ])); (refine wpAnyH_take (i := 20) (v := ?_) rfl (by kernel_rfl) (by kernel_rfl) (by kernel_rfl) (fun _ _ _ h => h) (Or.inl ⟨by rfl, ?_⟩) (by assumption) ?_; rotate_left; (focus (intro wS hSw; (try dsimp only at hSw); go_simp; (try with_reducible rfl))); (try simp only [Act.put, List.getElem_toArray, List.getElem_cons_zero, List.getElem_cons_succ, List.setIfInBounds_toArray, List.set_cons_zero, List.set_cons_succ])); (refine wpAnyH_take (i := 21) (v := ?_) rfl (by kernel_rfl) (by kernel_rfl) (by kernel_rfl) (fun _ _ _ h => h) (Or.inl ⟨by rfl, ?_⟩) (by assumption) ?_; rotate_left; (focus (intro wS hSw; (try dsimp only at hSw); go_simp; (try with_reducible rfl))); (try simp only [Act.put, List.getElem_toArray, List.getElem_cons_zero, List.getElem_cons_succ, List.setIfInBounds_toArray, List.set_cons_zero, List.set_cons_succ])))
                  refine wpAnyH_done (by kernel_rfl) ?_ _
                  clear c0 c1 d0 d1 e0 e1
                  go_wp2_with fail
                  go_meet
                  exact ⟨rfl, HRB.out⟩
            case rest =>
              obtain ⟨rfl, hb⟩ := hcut
              have HBW := Lib.hid (HBW.out.trans (hb.mono HBW.out.size))
              try have HVA := Lib.hid (HVA.out.lift hb)
              try have HVB := Lib.hid (HVB.out.lift hb)
              try have HVC := Lib.hid (HVC.out.lift hb)
              try have HVT := Lib.hid (HVT.out.lift hb)
              try have HVX := Lib.hid (HVX.out.lift hb)
              try have HVM := Lib.hid (HVM.out.lift hb)
              try have HVF := Lib.hid (HVF.out.lift hb)
              try have HVP := Lib.hid (HVP.out.lift hb)
              try have HVQ := Lib.hid (HVQ.out.lift hb)
              try have HLA := Lib.hid (HLA.out.lift hb)
              try have HLW := Lib.hid (HLW.out.lift hb)
              try have HI := Lib.hid (HI.out.lift hb)
              try have HRB := Lib.hid (HRB.out.trans (hb.mono HRB.out.size))
              try have HWW := Lib.hid (HWW.out.trans (hb.mono HWW.out.size))
              clear hb
              as_aux_lemma =>
              obtain ⟨⟨c0, c1, _, _, _⟩, _⟩ := HVA.out
              obtain ⟨⟨d0, d1, _, _, _⟩, _⟩ := HVT.out
              have hE2 : ((E / 2 : Nat) : Int) ≤ farV N a t := by rw [HEE.out]; omega
              obtain ⟨m1, m2, _⟩ := wayAt_ok HOA.out HOT.out HLT.out.symm (E / 2) hE2
              have m3 := way_from HOA.out HOT.out HLT.out.symm (E / 2) hE2
              have hMX : midN N N a t = N ∧ midX N N a t = wayAt N a t (E / 2) := by
                unfold midN midX
                rw [HMV.out, if_pos rfl, if_pos rfl, HEE.out, Int.toNat_natCast]
                exact ⟨rfl, rfl⟩
              have hMM := fun V h1 h2 => impl_MeetInMiddle_any N N Aa At ca ct a t V hfN hfN h1 h2
              rw [hMX.1, hMX.2, HMV.out] at hMM
              have HMM := Lib.hid hMM
              have HOM := Lib.hid m1
              have HML := Lib.hid m2
              have HMF := Lib.hid m3
              generalize wayAt N a t (E / 2) = mm at *
              clear m1 m2 m3 hMX hMM hE2
              go_wp2_with fail
              refine (HMM.out _ HVA.out.2 HVT.out.2).mono ?_
              rintro e wz ⟨Am, cm, rfl, hr, hb⟩
              have hI0 := hr.ints (rh_fits HOM.out)
              have hb := hb.trans (((Below.refl wz.heap.size wz).alloc (Nat.le_refl _) (.cells #[.int .i64 N, .slice Am (mm).length cm] 26)).mono hb.size)
              have HBW := Lib.hid (HBW.out.trans (hb.mono HBW.out.size))
              try have HVA := Lib.hid (HVA.out.lift hb)
              try have HVB := Lib.hid (HVB.out.lift hb)
              try have HVC := Lib.hid (HVC.out.lift hb)
              try have HVT := Lib.hid (HVT.out.lift hb)
              try have HVX := Lib.hid (HVX.out.lift hb)
              try have HVM := Lib.hid (HVM.out.lift hb)
              try have HVF := Lib.hid (HVF.out.lift hb)
              try have HVP := Lib.hid (HVP.out.lift hb)
              try have HVQ := Lib.hid (HVQ.out.lift hb)
              try have HLA := Lib.hid (HLA.out.lift hb)
              try have HLW := Lib.hid (HLW.out.lift hb)
              try have HI := Lib.hid (HI.out.lift hb)
              try have HRB := Lib.hid (HRB.out.trans (hb.mono HRB.out.size))
              try have HWW := Lib.hid (HWW.out.trans (hb.mono HWW.out.size))
              clear hb
              have HVM := Lib.hid (Hav.boxed hI0 N cm)
              clear hI0
              clear hr c0 c1 d0 d1
              obtain ⟨⟨c0, c1, _, _, _⟩, _⟩ := HVA.out
              go_wp2_with fail
              generalize wz.alloc (.cells #[.int .i64 N, .slice Am mm.length cm] 26) = wy at *
              generalize wz.heap.size = qm at *
              obtain ⟨f1, f2, f3, f4⟩ := few_ok HOA.out
              have hFW := fun V h1 => impl_FewestMoves_any N Aa ca a V h1 HOA.out
              have HIF := Lib.hid (fun A c V h => impl_IsEven_any N A c (fewX N a) V h f1)
              rw [f3] at HIF
              have HIA := Lib.hid (fun V h => impl_IsEven_any N Aa ca a V h HOA.out)
              have HAF := Lib.hid (fun A c V h1 h2 => impl_MoveDistance_any N N Aa A ca c a (fewX N a) V hfN hfN h1 h2)
              rw [mdV_ok HOA.out f1 f2.symm] at HAF
              have HAM := Lib.hid (fun V h1 h2 => impl_MoveDistance_any N N Aa Am ca cm a mm V hfN hfN h1 h2)
              rw [mdV_ok HOA.out HOM.out HML.out.symm, HMF.out] at HAM
              have hK0 := farV_nonneg N a (fewX N a)
              obtain ⟨qv, hqv1, hqv2⟩ : ∃ qv : Bool, (farV N a (fewX N a) == 0) = qv ∧ evnB (stepsL N a) = qv := by
                refine ⟨_, rfl, ?_⟩
                cases hev : evnB (stepsL N a)
                · exact (beq_eq_false_iff_ne.2 fun h => by rw [f4.1 h] at hev; cases hev).symm
                · exact (beq_iff_eq.2 (f4.2 hev)).symm
              rw [hqv2] at HIA
              have HOF := Lib.hid f1
              have HFW := Lib.hid hFW
              generalize farV N a (fewX N a) = K at *
              generalize fewX N a = F at *
              clear f1 f2 f3 f4 hFW hqv2
              refine (HFW.out _ HVA.out.2).mono ?_
              rintro e wz ⟨Af, cf, rfl, hr, hb⟩
              have hI0 := hr.ints (rh_fits HOF.out)
              have hb := hb.trans (((Below.refl wz.heap.size wz).alloc (Nat.le_refl _) (.cells #[.int .i64 N, .slice Af (F).length cf] 26)).mono hb.size)
              have HBW := Lib.hid (HBW.out.trans (hb.mono HBW.out.size))
              try have HVA := Lib.hid (HVA.out.lift hb)
              try have HVB := Lib.hid (HVB.out.lift hb)
              try have HVC := Lib.hid (HVC.out.lift hb)
              try have HVT := Lib.hid (HVT.out.lift hb)
              try have HVX := Lib.hid (HVX.out.lift hb)
              try have HVM := Lib.hid (HVM.out.lift hb)
              try have HVF := Lib.hid (HVF.out.lift hb)
              try have HVP := Lib.hid (HVP.out.lift hb)
              try have HVQ := Lib.hid (HVQ.out.lift hb)
              try have HLA := Lib.hid (HLA.out.lift hb)
              try have HLW := Lib.hid (HLW.out.lift hb)
              try have HI := Lib.hid (HI.out.lift hb)
              try have HRB := Lib.hid (HRB.out.trans (hb.mono HRB.out.size))
              try have HWW := Lib.hid (HWW.out.trans (hb.mono HWW.out.size))
              clear hb
              have HVF := Lib.hid (Hav.boxed hI0 N cf)
              clear hI0
              clear hr c0 c1
              obtain ⟨⟨c0, c1, _, _, _⟩, _⟩ := HVA.out
              obtain ⟨⟨d0, d1, _, _, _⟩, _⟩ := HVM.out
              obtain ⟨⟨e0, e1, _, _, _⟩, _⟩ := HVF.out
              have HM1 := Lib.hid (fun V => impl_MostMoves_four 1 (.inl rfl) V)
              have HM2 := Lib.hid (fun V => impl_MostMoves_four 2 (.inr rfl) V)
              have hq2 : (E : Int).tdiv 2 = ((E / 2 : Nat) : Int) := by rw [Int.tdiv_eq_ediv_of_nonneg (by omega)]; omega
              have hwq : IntKind.i64.wrap ((E / 2 : Nat) : Int) = ((E / 2 : Nat) : Int) := i64w (by omega)
              have hKd : decide (0 ≤ K) = true := decide_eq_true hK0
              have hee : (((E / 2 : Nat) : Int) == ((E / 2 : Nat) : Int)) = true := beq_self_eq_true _
              have hkk : (K == K) = true := beq_self_eq_true _
              have hqq : (qv == qv) = true := beq_self_eq_true _
              go_wp2_with fail
              generalize wz.alloc (.cells #[.int .i64 N, .slice Af F.length cf] 26) = wf at *
              generalize wz.heap.size = qf at *
              refine (HAM.out _ HVA.out.2 HVM.out.2).mono ?_
              rintro e wn ⟨rfl, hb⟩
              have HBW := Lib.hid (HBW.out.trans (hb.mono HBW.out.size))
              try have HVA := Lib.hid (HVA.out.lift hb)
              try have HVB := Lib.hid (HVB.out.lift hb)
              try have HVC := Lib.hid (HVC.out.lift hb)
              try have HVT := Lib.hid (HVT.out.lift hb)
              try have HVX := Lib.hid (HVX.out.lift hb)
              try have HVM := Lib.hid (HVM.out.lift hb)
              try have HVF := Lib.hid (HVF.out.lift hb)
              try have HVP := Lib.hid (HVP.out.lift hb)
              try have HVQ := Lib.hid (HVQ.out.lift hb)
              try have HLA := Lib.hid (HLA.out.lift hb)
              try have HLW := Lib.hid (HLW.out.lift hb)
              try have HI := Lib.hid (HI.out.lift hb)
              try have HRB := Lib.hid (HRB.out.trans (hb.mono HRB.out.size))
              try have HWW := Lib.hid (HWW.out.trans (hb.mono HWW.out.size))
              clear hb
              clear c0 c1 d0 d1 e0 e1
              obtain ⟨⟨c0, c1, _, _, _⟩, _⟩ := HVA.out
              obtain ⟨⟨d0, d1, _, _, _⟩, _⟩ := HVM.out
              obtain ⟨⟨e0, e1, _, _, _⟩, _⟩ := HVF.out
              go_wp2_with fail
              refine (HIF.out _ _ _ HVF.out.2).mono ?_
              rintro e wn ⟨rfl, hb⟩
              have HBW := Lib.hid (HBW.out.trans (hb.mono HBW.out.size))
              try have HVA := Lib.hid (HVA.out.lift hb)
              try have HVB := Lib.hid (HVB.out.lift hb)
              try have HVC := Lib.hid (HVC.out.lift hb)
              try have HVT := Lib.hid (HVT.out.lift hb)
              try have HVX := Lib.hid (HVX.out.lift hb)
              try have HVM := Lib.hid (HVM.out.lift hb)
              try have HVF := Lib.hid (HVF.out.lift hb)
              try have HVP := Lib.hid (HVP.out.lift hb)
              try have HVQ := Lib.hid (HVQ.out.lift hb)
              try have HLA := Lib.hid (HLA.out.lift hb)
              try have HLW := Lib.hid (HLW.out.lift hb)
              try have HI := Lib.hid (HI.out.lift hb)
              try have HRB := Lib.hid (HRB.out.trans (hb.mono HRB.out.size))
              try have HWW := Lib.hid (HWW.out.trans (hb.mono HWW.out.size))
              clear hb
              clear c0 c1 d0 d1 e0 e1
              obtain ⟨⟨c0, c1, _, _, _⟩, _⟩ := HVA.out
              obtain ⟨⟨d0, d1, _, _, _⟩, _⟩ := HVM.out
              obtain ⟨⟨e0, e1, _, _, _⟩, _⟩ := HVF.out
              go_wp2_with fail
              refine (HAF.out _ _ _ HVA.out.2 HVF.out.2).mono ?_
              rintro e wn ⟨rfl, hb⟩
              have HBW := Lib.hid (HBW.out.trans (hb.mono HBW.out.size))
              try have HVA := Lib.hid (HVA.out.lift hb)
              try have HVB := Lib.hid (HVB.out.lift hb)
              try have HVC := Lib.hid (HVC.out.lift hb)
              try have HVT := Lib.hid (HVT.out.lift hb)
              try have HVX := Lib.hid (HVX.out.lift hb)
              try have HVM := Lib.hid (HVM.out.lift hb)
              try have HVF := Lib.hid (HVF.out.lift hb)
              try have HVP := Lib.hid (HVP.out.lift hb)
              try have HVQ := Lib.hid (HVQ.out.lift hb)
              try have HLA := Lib.hid (HLA.out.lift hb)
              try have HLW := Lib.hid (HLW.out.lift hb)
              try have HI := Lib.hid (HI.out.lift hb)
              try have HRB := Lib.hid (HRB.out.trans (hb.mono HRB.out.size))
              try have HWW := Lib.hid (HWW.out.trans (hb.mono HWW.out.size))
              clear hb
              clear c0 c1 d0 d1 e0 e1
              obtain ⟨⟨c0, c1, _, _, _⟩, _⟩ := HVA.out
              obtain ⟨⟨d0, d1, _, _, _⟩, _⟩ := HVM.out
              obtain ⟨⟨e0, e1, _, _, _⟩, _⟩ := HVF.out
              go_wp2_with fail
              refine (HIA.out _ HVA.out.2).mono ?_
              rintro e wn ⟨rfl, hb⟩
              have HBW := Lib.hid (HBW.out.trans (hb.mono HBW.out.size))
              try have HVA := Lib.hid (HVA.out.lift hb)
              try have HVB := Lib.hid (HVB.out.lift hb)
              try have HVC := Lib.hid (HVC.out.lift hb)
              try have HVT := Lib.hid (HVT.out.lift hb)
              try have HVX := Lib.hid (HVX.out.lift hb)
              try have HVM := Lib.hid (HVM.out.lift hb)
              try have HVF := Lib.hid (HVF.out.lift hb)
              try have HVP := Lib.hid (HVP.out.lift hb)
              try have HVQ := Lib.hid (HVQ.out.lift hb)
              try have HLA := Lib.hid (HLA.out.lift hb)
              try have HLW := Lib.hid (HLW.out.lift hb)
              try have HI := Lib.hid (HI.out.lift hb)
              try have HRB := Lib.hid (HRB.out.trans (hb.mono HRB.out.size))
              try have HWW := Lib.hid (HWW.out.trans (hb.mono HWW.out.size))
              clear hb
              clear c0 c1 d0 d1 e0 e1
              obtain ⟨⟨c0, c1, _, _, _⟩, _⟩ := HVA.out
              obtain ⟨⟨d0, d1, _, _, _⟩, _⟩ := HVM.out
              obtain ⟨⟨e0, e1, _, _, _⟩, _⟩ := HVF.out
              go_wp2_with fail
              refine (HM1.out _).mono ?_
              rintro e wn ⟨rfl, hb⟩
              have HBW := Lib.hid (HBW.out.trans (hb.mono HBW.out.size))
              try have HVA := Lib.hid (HVA.out.lift hb)
              try have HVB := Lib.hid (HVB.out.lift hb)
              try have HVC := Lib.hid (HVC.out.lift hb)
              try have HVT := Lib.hid (HVT.out.lift hb)
              try have HVX := Lib.hid (HVX.out.lift hb)
              try have HVM := Lib.hid (HVM.out.lift hb)
              try have HVF := Lib.hid (HVF.out.lift hb)
              try have HVP := Lib.hid (HVP.out.lift hb)
              try have HVQ := Lib.hid (HVQ.out.lift hb)
              try have HLA := Lib.hid (HLA.out.lift hb)
              try have HLW := Lib.hid (HLW.out.lift hb)
              try have HI := Lib.hid (HI.out.lift hb)
              try have HRB := Lib.hid (HRB.out.trans (hb.mono HRB.out.size))
              try have HWW := Lib.hid (HWW.out.trans (hb.mono HWW.out.size))
              clear hb
              clear c0 c1 d0 d1 e0 e1
              obtain ⟨⟨c0, c1, _, _, _⟩, _⟩ := HVA.out
              obtain ⟨⟨d0, d1, _, _, _⟩, _⟩ := HVM.out
              obtain ⟨⟨e0, e1, _, _, _⟩, _⟩ := HVF.out
              go_wp2_with fail
              refine (HM2.out _).mono ?_
              rintro e wn ⟨rfl, hb⟩
              have HBW := Lib.hid (HBW.out.trans (hb.mono HBW.out.size))
              try have HVA := Lib.hid (HVA.out.lift hb)
              try have HVB := Lib.hid (HVB.out.lift hb)
              try have HVC := Lib.hid (HVC.out.lift hb)
              try have HVT := Lib.hid (HVT.out.lift hb)
              try have HVX := Lib.hid (HVX.out.lift hb)
              try have HVM := Lib.hid (HVM.out.lift hb)
              try have HVF := Lib.hid (HVF.out.lift hb)
              try have HVP := Lib.hid (HVP.out.lift hb)
              try have HVQ := Lib.hid (HVQ.out.lift hb)
              try have HLA := Lib.hid (HLA.out.lift hb)
              try have HLW := Lib.hid (HLW.out.lift hb)
              try have HI := Lib.hid (HI.out.lift hb)
              try have HRB := Lib.hid (HRB.out.trans (hb.mono HRB.out.size))
              try have HWW := Lib.hid (HWW.out.trans (hb.mono HWW.out.size))
              clear hb
              clear c0 c1 d0 d1 e0 e1
              obtain ⟨⟨c0, c1, _, _, _⟩, _⟩ := HVA.out
              obtain ⟨⟨d0, d1, _, _, _⟩, _⟩ := HVM.out
              obtain ⟨⟨e0, e1, _, _, _⟩, _⟩ := HVF.out
              go_wp2_with fail
              go_ret
              exact ⟨rfl, HBW.out⟩

end Go.Proofs.Ytlejlcnemibgiaa
