/-
  The law FnExactWayTo: WayTo of both; the walk.
-/
import Derived.Test.YtjegomgpldpmpaaWayS
import Derived.Test.YtjegomgpldpmpaaMarkR
import Derived.Test.YtjegomgpldpmpaaRlaw
namespace Go.Proofs.Ytjegomgpldpmpaa
open Go.RowKit Go.Shelf Go.Sort
set_option linter.unusedVariables false
set_option linter.unusedSimpArgs false

set_option maxRecDepth 100000 in
set_option maxHeartbeats 4000000 in
theorem law_FnExactWayTo_of (n m : Int) (A B : Option Addr) (ca cb : Nat) (a b : List Int) (L : List (Int × List Int)) (hL : L.length ≤ 65536) (hf : ∀ p ∈ L, ∀ x ∈ p.2, Fits x) (w : World) (hA : Ints w w.heap.size A a) (hB : Ints w w.heap.size B b)
    (hs : ∀ (A B : Option Addr) (ca cb : Nat) (w : World), Ints w w.heap.size A a → Ints w w.heap.size B b → Calls Try.prog 6 #[.agg #[.int .i64 n, .slice A a.length ca], .agg #[.int .i64 m, .slice B b.length cb]] w (RetRs w L))
    (hi : ∀ (A B : Option Addr) (ca cb : Nat) (w : World), Ints w w.heap.size A a → Ints w w.heap.size B b → Calls Try.prog 8 #[.agg #[.int .i64 n, .slice A a.length ca], .agg #[.int .i64 m, .slice B b.length cb]] w (RetRs w L)) :
    Calls Try.prog 3 #[.agg #[.int .i64 n, .slice A a.length ca], .agg #[.int .i64 m, .slice B b.length cb]] w fun e w' => e = .returned (.bool true) ∧ Below w.heap.size w w' := by
  have HFT := Lib.hid hf
  clear hf
  have hla := hA.1
  have hlb := hB.1
  have HA := Lib.hid hA
  have HB := Lib.hid hB
  have HS := Lib.hid hs
  have HI := Lib.hid hi
  have hal0 := (Below.refl w.heap.size w).alloc (Nat.le_refl _) (.cells #[.int .i64 n, .slice A a.length ca] 24)
  have hal1 := hal0.alloc hal0.size (.cells #[.int .i64 m, .slice B b.length cb] 24)
  have HCA := Lib.hid ((Cells2.new w (.int .i64 n) (.slice A a.length ca) 24).alloc (.cells #[.int .i64 m, .slice B b.length cb] 24))
  have HCB := Lib.hid (Cells2.new_at (w.alloc (.cells #[.int .i64 n, .slice A a.length ca] 24)) (.int .i64 m) (.slice B b.length cb) 24 (w.heap.size + 1) (by simp))
  have HW0 := Lib.hid hal1
  clear hA hB hs hi hal0 hal1
  obtain ⟨c0, c1, _, _, _⟩ := HCA.out
  obtain ⟨d0, d1, _, _, _⟩ := HCB.out
  by_cases hbig : 1048576 < a.length
  · have HL := Lib.hid hla
    clear hla hlb
    go_enter Try.func3, Try.ntmps3
    go_wp2_with fail
    refine (szRhythm_big n A ca a _ _ HL.out (by omega) (by omega) (by omega)).mono ?_
    rintro e w1 ⟨rfl, hb1⟩
    go_wp2_with fail
    go_ret
    exact ⟨rfl, HW0.out.trans (hb1.mono HW0.out.size)⟩
  have hsa : a.length ≤ 1048576 := by omega
  have hx1 : ¬ ((1048576 : Int) - (a.length : Int) < 0) := by omega
  by_cases hbig2 : (1048576 : Int) - a.length < b.length
  · have HL := Lib.hid hlb
    clear hla hlb hbig
    go_enter Try.func3, Try.ntmps3
    go_wp2_with fail
    refine (szRhythm_small n A ca a _ _ (by omega) (by omega)).mono ?_
    rintro e w1 ⟨rfl, hb1⟩
    have HW1 := Lib.hid (HW0.out.trans (hb1.mono HW0.out.size))
    have HCB1 := Lib.hid (HCB.out.below hb1 HCB.out.2.2.2.2)
    clear hb1 c0 c1 d0 d1
    obtain ⟨d0, d1, _, _, _⟩ := HCB1.out
    go_wp2_with fail
    refine (szRhythm_big m B cb b _ _ HL.out (by omega) (by omega) (by omega)).mono ?_
    rintro e w2 ⟨rfl, hb2⟩
    go_wp2_with fail
    go_ret
    exact ⟨rfl, HW1.out.trans (hb2.mono HW1.out.size)⟩
  have hsb : b.length ≤ 1048576 := by omega
  have hx2 : ¬ ((1048576 : Int) - (a.length : Int) - (b.length : Int) < 0) := by omega
  clear hla hlb hbig hbig2
  go_enter Try.func3, Try.ntmps3
  go_wp2_with fail
  refine (szRhythm_small n A ca a _ _ (by omega) (by omega)).mono ?_
  rintro e w1 ⟨rfl, hb1⟩
  have HW1 := Lib.hid (HW0.out.trans (hb1.mono HW0.out.size))
  have HCA1 := Lib.hid (HCA.out.below hb1 HCA.out.2.2.2.2)
  have HCB1 := Lib.hid (HCB.out.below hb1 HCB.out.2.2.2.2)
  clear hb1 c0 c1 d0 d1
  obtain ⟨d0, d1, _, _, _⟩ := HCB1.out
  go_wp2_with fail
  refine (szRhythm_small m B cb b _ _ (by omega) (by omega)).mono ?_
  rintro e w2 ⟨rfl, hb2⟩
  have HW2 := Lib.hid (HW1.out.trans (hb2.mono HW1.out.size))
  have HCA2 := Lib.hid (HCA1.out.below hb2 HCA1.out.2.2.2.2)
  have HCB2 := Lib.hid (HCB1.out.below hb2 HCB1.out.2.2.2.2)
  clear hb2 d0 d1 HCA HCB HCA1 HCB1 HW0 HW1
  obtain ⟨q, hq⟩ : ∃ q, w.heap.size = q := ⟨_, rfl⟩
  have HQ := Lib.hid hq
  rw [hq] at HA HB HW2 HCA2 HCB2 ⊢
  clear hq
  obtain ⟨c0, c1, _, _, _⟩ := HCA2.out
  obtain ⟨d0, d1, _, _, _⟩ := HCB2.out
  go_wp2_with fail
  have hq2 : q + 2 ≤ w2.heap.size := by have := HCB2.out.2.2.2.2; omega
  have HW2d := Lib.hid (show Below q w w2.drew from Below.drew5_ HW2.out)
  have HCA2d := Lib.hid (show Cells2 w2.drew q (.int .i64 n) (.slice A a.length ca) from HCA2.out)
  have HCB2d := Lib.hid (show Cells2 w2.drew (q + 1) (.int .i64 m) (.slice B b.length cb) from HCB2.out)
  have hq2d : q + 2 ≤ w2.drew.heap.size := hq2
  (refine wp_region_held_drew (S := (fun w' => w'.cell? ⟨q, 0, none⟩ = some (.int .i64 n) ∧ w'.cell? ⟨q, 1, none⟩ = some (.slice A a.length ca) ∧ w'.cell? ⟨q + 1, 0, none⟩ = some (.int .i64 m) ∧ w'.cell? ⟨q + 1, 1, none⟩ = some (.slice B b.length cb))) (by kernel_rfl) ?_ (fun hHeld => ?_); (focus ((try dsimp only); exact ⟨c0, c1, d0, d1⟩)))
  generalize w2.drew = wd at *
  (refine wpAnyH_take (i := 0) (v := ?_) rfl (by kernel_rfl) (by kernel_rfl) (by kernel_rfl) (fun _ _ _ h => h) (Or.inl ⟨by rfl, ?_⟩) (by assumption) ?_; rotate_left; (focus (intro wS hSw; (try dsimp only at hSw); go_simp; (try with_reducible rfl))); (try simp only [Act.put, List.getElem_toArray, List.getElem_cons_zero, List.getElem_cons_succ, List.setIfInBounds_toArray, List.set_cons_zero, List.set_cons_succ]))
  (refine wpAnyH_take (i := 2) (v := ?_) rfl (by kernel_rfl) (by kernel_rfl) (by kernel_rfl) (fun _ _ _ h => h) (Or.inl ⟨by rfl, ?_⟩) (by assumption) ?_; rotate_left; (focus (intro wS hSw; (try dsimp only at hSw); go_simp; (try with_reducible rfl))); (try simp only [Act.put, List.getElem_toArray, List.getElem_cons_zero, List.getElem_cons_succ, List.setIfInBounds_toArray, List.set_cons_zero, List.set_cons_succ]))
  (refine wpAnyH_ready (rs := [1]) (by kernel_rfl) (by simp) ?_; refine AllReadyH.cons rfl (fun K hK => ?_) AllReadyH.nil; go_simp)
  go_at_call 7
  refine (toRhythm_any n A ca a _ ((HA.out.below HW2d.out).mono (by omega)) hsa).mono ?_
  rintro e w3 ⟨rfl, ht3, hb3⟩
  have HI3 := Lib.hid (ht3.ints (B := w3.heap.size) ht3.1 HA.out.1 HA.out.2.1)
  have HW3 := Lib.hid (HW2d.out.trans (hb3.mono (by omega)))
  have HCA3 := Lib.hid (HCA2d.out.below hb3 HCA2d.out.2.2.2.2)
  have HCB3 := Lib.hid (HCB2d.out.below hb3 HCB2d.out.2.2.2.2)
  have hz3 := hb3.size
  clear ht3 hb3 c0 c1 d0 d1 HCA2 HCB2 HW2
  obtain ⟨c0, c1, _, _, _⟩ := HCA3.out
  obtain ⟨d0, d1, _, _, _⟩ := HCB3.out
  go_wp2_with fail
  (refine hK.out _ _ ?_ (fun hHeld2 => ?_); (focus ((try dsimp only); exact ⟨c0, c1, d0, d1⟩)); (clear hK K); (try simp only [Act.put, List.getElem_toArray, List.getElem_cons_zero, List.getElem_cons_succ, List.setIfInBounds_toArray, List.set_cons_zero, List.set_cons_succ]))
  (refine wpAnyH_ready (rs := [3]) (by kernel_rfl) (by simp) ?_; refine AllReadyH.cons rfl (fun K hK => ?_) AllReadyH.nil; go_simp)
  go_at_call 7
  refine (toRhythm_any m B cb b _ ((HB.out.below HW3.out).mono (by omega)) hsb).mono ?_
  rintro e w4 ⟨rfl, ht4, hb4⟩
  have HI4 := Lib.hid (ht4.ints (B := w4.heap.size) ht4.1 HB.out.1 HB.out.2.1)
  have HI4a := Lib.hid (HI3.out.lift hb4)
  have HW4 := Lib.hid (HW3.out.trans (hb4.mono (by omega)))
  have HCA4 := Lib.hid (HCA3.out.below hb4 HCA3.out.2.2.2.2)
  have HCB4 := Lib.hid (HCB3.out.below hb4 HCB3.out.2.2.2.2)
  have hz4 := hb4.size
  clear ht4 hb4 c0 c1 d0 d1 HCA3 HCB3 HI3
  obtain ⟨c0, c1, _, _, _⟩ := HCA4.out
  obtain ⟨d0, d1, _, _, _⟩ := HCB4.out
  go_wp2_with fail
  (refine hK.out _ _ ?_ (fun hHeld2 => ?_); (focus ((try dsimp only); exact ⟨c0, c1, d0, d1⟩)); (clear hK K); (try simp only [Act.put, List.getElem_toArray, List.getElem_cons_zero, List.getElem_cons_succ, List.setIfInBounds_toArray, List.set_cons_zero, List.set_cons_succ]))
  (refine wpAnyH_ready (rs := [4]) (by kernel_rfl) (by simp) ?_; refine AllReadyH.cons rfl (fun K hK => ?_) AllReadyH.nil; go_simp)
  go_at_call 6
  refine (HS.out _ _ _ _ _ HI4a.out HI4.out).mono ?_
  rintro e w5 ⟨v5, rs5, rfl, hk5, ho5, hb5⟩
  obtain ⟨A5, c5, rfl⟩ := ho5.form
  have hl5 : rs5.length ≤ 65536 := by rw [← keyR_len, hk5]; exact hL
  have HK5 := Lib.hid hk5
  have HD5 := Lib.hid (ho5.rd (by omega) (keyR_fit hk5 HFT.out))
  have hz5 := hb5.size
  have HW5 := Lib.hid (HW4.out.trans (hb5.mono (by omega)))
  have HCA5 := Lib.hid (HCA4.out.below hb5 HCA4.out.2.2.2.2)
  have HCB5 := Lib.hid (HCB4.out.below hb5 HCB4.out.2.2.2.2)
  clear hb5 ho5 hk5 c0 c1 d0 d1 HCA4 HCB4 HI4 HI4a
  obtain ⟨c0, c1, _, _, _⟩ := HCA5.out
  obtain ⟨d0, d1, _, _, _⟩ := HCB5.out
  go_wp2_with fail
  (refine hK.out _ _ ?_ (fun hHeld2 => ?_); (focus ((try dsimp only); exact ⟨c0, c1, d0, d1⟩)); (clear hK K); (try simp only [Act.put, List.getElem_toArray, List.getElem_cons_zero, List.getElem_cons_succ, List.setIfInBounds_toArray, List.set_cons_zero, List.set_cons_succ]))
  (refine wpAnyH_take (i := 5) (v := ?_) rfl (by kernel_rfl) (by kernel_rfl) (by kernel_rfl) (fun _ _ _ h => h) (Or.inl ⟨by rfl, ?_⟩) (by assumption) ?_; rotate_left; (focus (intro wS hSw; (try dsimp only at hSw); go_simp; (try with_reducible rfl))); (try simp only [Act.put, List.getElem_toArray, List.getElem_cons_zero, List.getElem_cons_succ, List.setIfInBounds_toArray, List.set_cons_zero, List.set_cons_succ]))
  refine wpAnyH_done (by kernel_rfl) ?_ _
  clear c0 c1 d0 d1
  obtain ⟨c0, c1, _, _, _⟩ := HCA5.out
  go_wp2_with fail
  refine (toRhythm_any n A ca a _ ((HA.out.below HW5.out).mono (by omega)) hsa).mono ?_
  rintro e w6 ⟨rfl, ht6, hb6⟩
  have hz6 : w5.heap.size + 3 < w6.heap.size := ht6.1
  have hal6 := hb6.alloc hb6.size (.cells #[.int .i64 n, .slice (some ⟨w5.heap.size + 3, 0, none⟩) a.length a.length] 28)
  have HV6 := Lib.hid hal6
  have HT6 := Lib.hid (ht6.tabV.frm (Frm.pure ((Below.refl w6.heap.size w6).alloc (Nat.le_refl _) (.cells #[.int .i64 n, .slice (some ⟨w5.heap.size + 3, 0, none⟩) a.length a.length] 28)) (fun _ => False)) (fun h => h))
  have HX6 := Lib.hid (Cells2.new w6 (.int .i64 n) (.slice (some ⟨w5.heap.size + 3, 0, none⟩) a.length a.length) 28)
  have HI6 := Lib.hid ((ht6.ints (B := w6.heap.size) ht6.1 HA.out.1 HA.out.2.1).lift ((Below.refl w6.heap.size w6).alloc (Nat.le_refl _) (.cells #[.int .i64 n, .slice (some ⟨w5.heap.size + 3, 0, none⟩) a.length a.length] 28)))
  have HCB6 := Lib.hid (HCB5.out.below hal6 HCB5.out.2.2.2.2)
  clear ht6 hb6 hal6 c0 c1
  obtain ⟨d0, d1, _, _, _⟩ := HCB6.out
  obtain ⟨g6, hg6⟩ : ∃ g, w5.heap.size + 3 = g := ⟨_, rfl⟩
  rw [hg6] at HV6 HT6 HX6 HI6 HCB6 d0 d1 hz6 ⊢
  have hg65 : w5.heap.size ≤ g6 := by omega
  clear hg6
  go_wp2_with fail
  have hz6a : (w6.alloc (.cells #[.int .i64 n, .slice (some ⟨g6, 0, none⟩) a.length a.length] 28)).heap.size = w6.heap.size + 1 := by simp
  generalize w6.alloc (.cells #[.int .i64 n, .slice (some ⟨g6, 0, none⟩) a.length a.length] 28) = w6a at *
  refine (toRhythm_any m B cb b _ ((HB.out.below (HW5.out.trans (HV6.out.mono (by omega)))).mono (by have := HCB6.out.2.2.2.2; omega)) hsb).mono ?_
  rintro e w7 ⟨rfl, ht7, hb7⟩
  have hz7 : w6a.heap.size + 3 < w7.heap.size := ht7.1
  have hal7 := hb7.alloc hb7.size (.cells #[.int .i64 m, .slice (some ⟨w6a.heap.size + 3, 0, none⟩) b.length b.length] 28)
  have HV7 := Lib.hid (HV6.out.trans (hal7.mono (by omega)))
  have HT6b := Lib.hid (HT6.out.frm (Frm.pure hal7 (fun _ => False)) (fun h => h))
  have HT7 := Lib.hid (ht7.tabV.frm (Frm.pure ((Below.refl w7.heap.size w7).alloc (Nat.le_refl _) (.cells #[.int .i64 m, .slice (some ⟨w6a.heap.size + 3, 0, none⟩) b.length b.length] 28)) (fun _ => False)) (fun h => h))
  have HX6b := Lib.hid (HX6.out.below hal7 HX6.out.2.2.2.2)
  have HX7 := Lib.hid (Cells2.new w7 (.int .i64 m) (.slice (some ⟨w6a.heap.size + 3, 0, none⟩) b.length b.length) 28)
  have HI6b := Lib.hid (HI6.out.lift hal7)
  have HI7 := Lib.hid ((ht7.ints (B := w7.heap.size) ht7.1 HB.out.1 HB.out.2.1).lift ((Below.refl w7.heap.size w7).alloc (Nat.le_refl _) (.cells #[.int .i64 m, .slice (some ⟨w6a.heap.size + 3, 0, none⟩) b.length b.length] 28)))
  clear ht7 hb7 hal7 d0 d1 HT6 HX6 HI6 HCB6 HV6
  obtain ⟨g7, hg7⟩ : ∃ g, w6a.heap.size + 3 = g := ⟨_, rfl⟩
  rw [hg7] at HV7 HT7 HX7 HI7 HT6b HX6b HI6b hz7 ⊢
  have hg76 : w6.heap.size + 1 < g7 := by omega
  clear hg7
  obtain ⟨x0, x1, _, _, _⟩ := HX6b.out
  obtain ⟨y0, y1, _, _, _⟩ := HX7.out
  go_wp2_with fail
  have hz7a : (w7.alloc (.cells #[.int .i64 m, .slice (some ⟨g7, 0, none⟩) b.length b.length] 28)).heap.size = w7.heap.size + 1 := by simp
  generalize w7.alloc (.cells #[.int .i64 m, .slice (some ⟨g7, 0, none⟩) b.length b.length] 28) = w7a at *
  obtain ⟨p0, hp0⟩ : ∃ p, w6.heap.size = p := ⟨_, rfl⟩
  obtain ⟨p1, hp1⟩ : ∃ p, w7.heap.size = p := ⟨_, rfl⟩
  rw [hp0] at HX6b hz6 hz6a hg76 x0 x1 ⊢
  rw [hp1] at HX7 hz7 hz7a y0 y1 ⊢
  clear hp0 hp1
  refine (HI.out _ _ _ _ _ HI6b.out HI7.out).mono ?_
  rintro e w8 ⟨v8, rs8, rfl, hk8, ho8, hb8⟩
  obtain ⟨A8, c8, rfl⟩ := ho8.form
  have hl8 : rs8.length ≤ 65536 := by rw [← keyR_len, hk8]; exact hL
  have HK8 := Lib.hid (show keyR rs8 = keyR rs5 from hk8.trans HK5.out.symm)
  have HFI := Lib.hid (keyR_fit hk8 HFT.out)
  have HAP := Lib.hid ho8.apart
  have HLN := Lib.hid ho8.lens
  have HD8 := Lib.hid (ho8.rd (by omega) HFI.out)
  have HH8 := Lib.hid ho8.held
  have hz8 := hb8.size
  have HV8 := Lib.hid (HV7.out.trans (hb8.mono (by omega)))
  have HT6c := Lib.hid (HT6b.out.frm (Frm.pure hb8 (fun _ => False)) (fun h => h))
  have HT7b := Lib.hid (HT7.out.frm (Frm.pure hb8 (fun _ => False)) (fun h => h))
  have HX6c := Lib.hid (HX6b.out.below hb8 HX6b.out.2.2.2.2)
  have HX7b := Lib.hid (HX7.out.below hb8 HX7.out.2.2.2.2)
  have HI6c := Lib.hid (HI6b.out.lift hb8)
  have HI7b := Lib.hid (HI7.out.lift hb8)
  have hq7 : q + 2 ≤ w7a.heap.size := by omega
  clear hb8 ho8 hk8 x0 x1 y0 y1 HV7 HT6b HT7 HX6b HX7 HI6b HI7
  go_wp2_with fail
  refine (eqRhythmS_same rs8 rs5 A8 A5 c8 c5 _ HD8.out ((HD5.out.below HV8.out).mono (by omega)) HK8.out).mono ?_
  rintro e w9 ⟨rfl, hb9⟩
  have HE9 := Lib.hid (Frm.pure hb9 (fun _ => False))
  have HV9 := Lib.hid (HV8.out.trans (hb9.mono (by omega)))
  have hz9 := hb9.size
  clear hb9
  have HXA10 := Lib.hid (HX6c.out.frmX HE9.out (fun h => h))
  have HCA10 := Lib.hid (HCA5.out.below HV9.out HCA5.out.2.2.2.2)
  obtain ⟨x0, x1, _, _, _⟩ := HXA10.out
  obtain ⟨c0, c1, _, _, _⟩ := HCA10.out
  have he := eqB_self a
  go_wp2_with fail
  have HE9d := Lib.hid HE9.out.drew
  have HV9d := Lib.hid (Below.drew5_ HV9.out)
  have hz9d : w9.heap.size ≤ w9.drew.heap.size := Nat.le_refl _
  have HXB10 := Lib.hid (HX6c.out.frmX HE9d.out (fun h => h))
  have HCB10 := Lib.hid (HCA5.out.below HV9d.out HCA5.out.2.2.2.2)
  (refine wp_region_held_drew (S := (fun w' => w'.cell? ⟨p0, 0, none⟩ = some (.int .i64 n) ∧ w'.cell? ⟨p0, 1, none⟩ = some (.slice (some ⟨g6, 0, none⟩) a.length a.length) ∧ w'.cell? ⟨q, 0, none⟩ = some (.int .i64 n) ∧ w'.cell? ⟨q, 1, none⟩ = some (.slice A a.length ca))) (by kernel_rfl) ?_ (fun hHeld => ?_); (focus ((try dsimp only); exact ⟨x0, x1, c0, c1⟩)))
  generalize w9.drew = w9d at *
  (refine wpAnyH_take (i := 0) (v := ?_) rfl (by kernel_rfl) (by kernel_rfl) (by kernel_rfl) (fun _ _ _ h => h) (Or.inl ⟨by rfl, ?_⟩) (by assumption) ?_; rotate_left; (focus (intro wS hSw; (try dsimp only at hSw); go_simp; (try with_reducible rfl))); (try simp only [Act.put, List.getElem_toArray, List.getElem_cons_zero, List.getElem_cons_succ, List.setIfInBounds_toArray, List.set_cons_zero, List.set_cons_succ]))
  (refine wpAnyH_take (i := 1) (v := ?_) rfl (by kernel_rfl) (by kernel_rfl) (by kernel_rfl) (fun _ _ _ h => h) (Or.inl ⟨by rfl, ?_⟩) (by assumption) ?_; rotate_left; (focus (intro wS hSw; (try dsimp only at hSw); go_simp; (try with_reducible rfl))); (try simp only [Act.put, List.getElem_toArray, List.getElem_cons_zero, List.getElem_cons_succ, List.setIfInBounds_toArray, List.set_cons_zero, List.set_cons_succ]))
  (refine wpAnyH_ready (rs := [2]) (by kernel_rfl) (by simp) ?_; refine AllReadyH.cons rfl (fun K hK => ?_) AllReadyH.nil; go_simp)
  go_at_call 7
  refine (toRhythm_any n A ca a _ ((HA.out.below (HW5.out.trans (HV9d.out.mono (by omega)))).mono (by omega)) hsa).mono ?_
  rintro e w10 ⟨rfl, ht, hb⟩
  have HE10 := Lib.hid (HE9d.out.trans (Frm.pure hb (fun _ => False)))
  have HV10 := Lib.hid (HV9d.out.trans (hb.mono (by omega)))
  have hz10 := hb.size
  have HXC10 := Lib.hid (HX6c.out.frmX HE10.out (fun h => h))
  have HCC10 := Lib.hid (HCA5.out.below HV10.out HCA5.out.2.2.2.2)
  have HIT10 := Lib.hid (ht.ints (B := w10.heap.size) ht.1 HA.out.1 HA.out.2.1)
  have HIX10 := Lib.hid (HI6c.out.lift (Frm.below (B := w8.heap.size) HE10.out (fun _ h => h.elim) (Nat.le_refl _)))
  clear ht hb x0 x1 c0 c1
  obtain ⟨x0, x1, _, _, _⟩ := HXC10.out
  obtain ⟨c0, c1, _, _, _⟩ := HCC10.out
  go_wp2_with fail
  (refine hK.out _ _ ?_ (fun hHeld2 => ?_); (focus ((try dsimp only); exact ⟨x0, x1, c0, c1⟩)); (clear hK K); (try simp only [Act.put, List.getElem_toArray, List.getElem_cons_zero, List.getElem_cons_succ, List.setIfInBounds_toArray, List.set_cons_zero, List.set_cons_succ]))
  (refine wpAnyH_ready (rs := [3]) (by kernel_rfl) (by simp) ?_; refine AllReadyH.cons rfl (fun K hK => ?_) AllReadyH.nil; go_simp)
  go_at_call 10
  refine (eqRhythm_any n n _ _ _ _ a a _ HIX10.out HIT10.out).mono ?_
  rintro e w11 ⟨rfl, hb⟩
  have HE11 := Lib.hid (HE10.out.trans (Frm.pure hb (fun _ => False)))
  have HV11 := Lib.hid (HV10.out.trans (hb.mono (by omega)))
  have hz11 := hb.size
  have HXD10 := Lib.hid (HX6c.out.frmX HE11.out (fun h => h))
  have HCD10 := Lib.hid (HCA5.out.below HV11.out HCA5.out.2.2.2.2)
  clear hb x0 x1 c0 c1
  obtain ⟨x0, x1, _, _, _⟩ := HXD10.out
  obtain ⟨c0, c1, _, _, _⟩ := HCD10.out
  go_wp2_with fail
  (refine hK.out _ _ ?_ (fun hHeld2 => ?_); (focus ((try dsimp only); exact ⟨x0, x1, c0, c1⟩)); (clear hK K); (try simp only [Act.put, List.getElem_toArray, List.getElem_cons_zero, List.getElem_cons_succ, List.setIfInBounds_toArray, List.set_cons_zero, List.set_cons_succ]))
  (refine wpAnyH_take (i := 4) (v := ?_) rfl (by kernel_rfl) (by kernel_rfl) (by kernel_rfl) (fun _ _ _ h => h) (Or.inl ⟨by rfl, ?_⟩) (by assumption) ?_; rotate_left; (focus (intro wS hSw; (try dsimp only at hSw); go_simp; (try with_reducible rfl))); (try simp only [Act.put, List.getElem_toArray, List.getElem_cons_zero, List.getElem_cons_succ, List.setIfInBounds_toArray, List.set_cons_zero, List.set_cons_succ]))
  refine wpAnyH_done (by kernel_rfl) ?_ _
  clear x0 x1 c0 c1 he
  have HXA12 := Lib.hid (HX7b.out.frmX HE11.out (fun h => h))
  have HCA12 := Lib.hid (HCB5.out.below HV11.out HCB5.out.2.2.2.2)
  obtain ⟨x0, x1, _, _, _⟩ := HXA12.out
  obtain ⟨c0, c1, _, _, _⟩ := HCA12.out
  have he := eqB_self b
  go_wp2_with fail
  have HE11d := Lib.hid HE11.out.drew
  have HV11d := Lib.hid (Below.drew5_ HV11.out)
  have hz11d : w11.heap.size ≤ w11.drew.heap.size := Nat.le_refl _
  have HXB12 := Lib.hid (HX7b.out.frmX HE11d.out (fun h => h))
  have HCB12 := Lib.hid (HCB5.out.below HV11d.out HCB5.out.2.2.2.2)
  (refine wp_region_held_drew (S := (fun w' => w'.cell? ⟨p1, 0, none⟩ = some (.int .i64 m) ∧ w'.cell? ⟨p1, 1, none⟩ = some (.slice (some ⟨g7, 0, none⟩) b.length b.length) ∧ w'.cell? ⟨q + 1, 0, none⟩ = some (.int .i64 m) ∧ w'.cell? ⟨q + 1, 1, none⟩ = some (.slice B b.length cb))) (by kernel_rfl) ?_ (fun hHeld => ?_); (focus ((try dsimp only); exact ⟨x0, x1, c0, c1⟩)))
  generalize w11.drew = w11d at *
  (refine wpAnyH_take (i := 0) (v := ?_) rfl (by kernel_rfl) (by kernel_rfl) (by kernel_rfl) (fun _ _ _ h => h) (Or.inl ⟨by rfl, ?_⟩) (by assumption) ?_; rotate_left; (focus (intro wS hSw; (try dsimp only at hSw); go_simp; (try with_reducible rfl))); (try simp only [Act.put, List.getElem_toArray, List.getElem_cons_zero, List.getElem_cons_succ, List.setIfInBounds_toArray, List.set_cons_zero, List.set_cons_succ]))
  (refine wpAnyH_take (i := 1) (v := ?_) rfl (by kernel_rfl) (by kernel_rfl) (by kernel_rfl) (fun _ _ _ h => h) (Or.inl ⟨by rfl, ?_⟩) (by assumption) ?_; rotate_left; (focus (intro wS hSw; (try dsimp only at hSw); go_simp; (try with_reducible rfl))); (try simp only [Act.put, List.getElem_toArray, List.getElem_cons_zero, List.getElem_cons_succ, List.setIfInBounds_toArray, List.set_cons_zero, List.set_cons_succ]))
  (refine wpAnyH_ready (rs := [2]) (by kernel_rfl) (by simp) ?_; refine AllReadyH.cons rfl (fun K hK => ?_) AllReadyH.nil; go_simp)
  go_at_call 7
  refine (toRhythm_any m B cb b _ ((HB.out.below (HW5.out.trans (HV11d.out.mono (by omega)))).mono (by omega)) hsb).mono ?_
  rintro e w12 ⟨rfl, ht, hb⟩
  have HE12 := Lib.hid (HE11d.out.trans (Frm.pure hb (fun _ => False)))
  have HV12 := Lib.hid (HV11d.out.trans (hb.mono (by omega)))
  have hz12 := hb.size
  have HXC12 := Lib.hid (HX7b.out.frmX HE12.out (fun h => h))
  have HCC12 := Lib.hid (HCB5.out.below HV12.out HCB5.out.2.2.2.2)
  have HIT12 := Lib.hid (ht.ints (B := w12.heap.size) ht.1 HB.out.1 HB.out.2.1)
  have HIX12 := Lib.hid (HI7b.out.lift (Frm.below (B := w8.heap.size) HE12.out (fun _ h => h.elim) (Nat.le_refl _)))
  clear ht hb x0 x1 c0 c1
  obtain ⟨x0, x1, _, _, _⟩ := HXC12.out
  obtain ⟨c0, c1, _, _, _⟩ := HCC12.out
  go_wp2_with fail
  (refine hK.out _ _ ?_ (fun hHeld2 => ?_); (focus ((try dsimp only); exact ⟨x0, x1, c0, c1⟩)); (clear hK K); (try simp only [Act.put, List.getElem_toArray, List.getElem_cons_zero, List.getElem_cons_succ, List.setIfInBounds_toArray, List.set_cons_zero, List.set_cons_succ]))
  (refine wpAnyH_ready (rs := [3]) (by kernel_rfl) (by simp) ?_; refine AllReadyH.cons rfl (fun K hK => ?_) AllReadyH.nil; go_simp)
  go_at_call 10
  refine (eqRhythm_any m m _ _ _ _ b b _ HIX12.out HIT12.out).mono ?_
  rintro e w13 ⟨rfl, hb⟩
  have HE13 := Lib.hid (HE12.out.trans (Frm.pure hb (fun _ => False)))
  have HV13 := Lib.hid (HV12.out.trans (hb.mono (by omega)))
  have hz13 := hb.size
  have HXD12 := Lib.hid (HX7b.out.frmX HE13.out (fun h => h))
  have HCD12 := Lib.hid (HCB5.out.below HV13.out HCB5.out.2.2.2.2)
  clear hb x0 x1 c0 c1
  obtain ⟨x0, x1, _, _, _⟩ := HXD12.out
  obtain ⟨c0, c1, _, _, _⟩ := HCD12.out
  go_wp2_with fail
  (refine hK.out _ _ ?_ (fun hHeld2 => ?_); (focus ((try dsimp only); exact ⟨x0, x1, c0, c1⟩)); (clear hK K); (try simp only [Act.put, List.getElem_toArray, List.getElem_cons_zero, List.getElem_cons_succ, List.setIfInBounds_toArray, List.set_cons_zero, List.set_cons_succ]))
  (refine wpAnyH_take (i := 4) (v := ?_) rfl (by kernel_rfl) (by kernel_rfl) (by kernel_rfl) (fun _ _ _ h => h) (Or.inl ⟨by rfl, ?_⟩) (by assumption) ?_; rotate_left; (focus (intro wS hSw; (try dsimp only at hSw); go_simp; (try with_reducible rfl))); (try simp only [Act.put, List.getElem_toArray, List.getElem_cons_zero, List.getElem_cons_succ, List.setIfInBounds_toArray, List.set_cons_zero, List.set_cons_succ]))
  refine wpAnyH_done (by kernel_rfl) ?_ _
  clear x0 x1 c0 c1 he
  have HM6 := Lib.hid (show HeldV w13 (some ⟨g6, 0, none⟩) a.length (fun t => .int .i64 (a.getD t 0)) g6 (g6 + 1) from fun _ => ⟨g6, rfl, Nat.le_refl _, Nat.lt_succ_self _, HT6c.out.frm HE13.out (fun h => h)⟩)
  have HM7 := Lib.hid (show HeldV w13 (some ⟨g7, 0, none⟩) b.length (fun t => .int .i64 (b.getD t 0)) g7 (g7 + 1) from fun _ => ⟨g7, rfl, Nat.le_refl _, Nat.lt_succ_self _, HT7b.out.frm HE13.out (fun h => h)⟩)
  have HX13 := Lib.hid (HX6c.out.frmX HE13.out (fun h => h))
  have HY13 := Lib.hid (HX7b.out.frmX HE13.out (fun h => h))
  obtain ⟨x0, x1, _, _, _⟩ := HX13.out
  go_wp2_with fail
  refine (markRhythm2_any n (some ⟨g6, 0, none⟩) a.length a.length _ 1 g6 (g6 + 1) _ hsa HM6.out (by omega) (by omega) (by omega)).mono ?_
  rintro e w14 ⟨rfl, _, hf⟩
  have HF14 := Lib.hid hf
  have hz14 := hf.size
  have HV14 := Lib.hid (HV13.out.trans (hf.below (B := w5.heap.size) (fun c h => by have := h.1; omega) (by omega)))
  have HY14 := Lib.hid (HY13.out.frmX hf (fun h => by have := h.1; have := h.2; omega))
  have HM7b := Lib.hid (HM7.out.frm hf (fun c h1 h2 h => by have := h.2; omega))
  clear hf x0 x1
  obtain ⟨y0, y1, _, _, _⟩ := HY14.out
  have hk0 : (0 : Int) ≤ 1 + (a.length : Int) := by omega
  have hk1 : 1 + (a.length : Int) ≤ 1000000000000 := by omega
  have hkn : ¬ (1 + (a.length : Int) + (b.length : Int) < 0) := by omega
  go_wp2_with fail
  refine (markRhythm2_any m (some ⟨g7, 0, none⟩) b.length b.length _ (1 + (a.length : Int)) g7 (g7 + 1) _ hsb HM7b.out (by omega) hk0 hk1).mono ?_
  rintro e w15 ⟨rfl, _, hf⟩
  have HF15 := Lib.hid (HF14.out.mono (T := fun c => c = g6 ∨ c = g7) (fun c h => .inl (by have := h.1; have := h.2; omega)) |>.trans (hf.mono (fun c h => .inr (by have := h.1; have := h.2; omega))))
  have hz15 := hf.size
  have HV15 := Lib.hid (HV14.out.trans (hf.below (B := w5.heap.size) (fun c h => by have := h.1; omega) (by omega)))
  clear hf y0 y1
  have HH15 := Lib.hid ((HH8.out.frm HE13.out (fun _ _ _ h => h)).frm HF15.out (fun c h1 _ h => by rcases h with h | h <;> omega))
  have HD15 := Lib.hid (HH15.out.rd (by omega) HLN.out HFI.out)
  go_wp2_with (go_at_call 9; refine (eqRhythmS_same rs8 rs5 A8 A5 c8 c5 _ HD15.out ((HD5.out.below HV15.out).mono (by omega)) HK8.out).mono ?_; rintro e w16 ⟨rfl, hb16⟩)
  have HH16 := Lib.hid (HH15.out.frm (Frm.pure hb16 (fun _ => False)) (fun _ _ _ h => h))
  have HV16 := Lib.hid (HV15.out.trans (hb16.mono (by omega)))
  have hz16 := hb16.size
  clear hb16
  go_wp2_with fail
  refine (markRhythmS_held A8 c8 rs8 1 w7a.heap.size w8.heap.size _ _ _ (by omega) HLN.out HAP.out HH16.out (by omega) (by omega)).mono ?_
  rintro e w17 ⟨rfl, hh17, hf17⟩
  have HH17 := Lib.hid hh17
  have HV17 := Lib.hid (HV16.out.trans (hf17.below (B := w5.heap.size) (fun c h => by have := h.1; omega) (by omega)))
  have hz17 := hf17.size
  have hkm := kAt_le (k := 1) HLN.out rs8.length (Nat.le_refl _)
  obtain ⟨K, hK⟩ : ∃ K, kAt 1 rs8 rs8.length = K := ⟨_, rfl⟩
  rw [hK] at hkm
  have hkn2 : ¬ K < 0 := by omega
  have HKK := Lib.hid hK
  rw [hK]
  clear hh17 hf17 hK
  go_wp2_with fail
  refine (heldRhythmS_held A8 c8 rs8 1 w7a.heap.size w8.heap.size _ (by omega) HLN.out HH17.out (by omega) (by omega)).mono ?_
  rintro e w18 ⟨rfl, hb18⟩
  rw [HKK.out]
  have HH18 := Lib.hid (HH17.out.frm (Frm.pure hb18 (fun _ => False)) (fun _ _ _ h => h))
  have HV18 := Lib.hid (HV17.out.trans (hb18.mono (by omega)))
  have hz18 := hb18.size
  have HCA18 := Lib.hid (HCA5.out.below HV18.out HCA5.out.2.2.2.2)
  have HCB18 := Lib.hid (HCB5.out.below HV18.out HCB5.out.2.2.2.2)
  clear hb18
  obtain ⟨c0, c1, _, _, _⟩ := HCA18.out
  obtain ⟨d0, d1, _, _, _⟩ := HCB18.out
  go_wp2_with fail
  have HE18d := Lib.hid ((Frm.refl (fun _ => False) w18).drew)
  have HV18d := Lib.hid (Below.drew5_ HV18.out)
  have hz18d : w18.heap.size ≤ w18.drew.heap.size := Nat.le_refl _
  (refine wp_region_held_drew (S := (fun w' => w'.cell? ⟨q, 0, none⟩ = some (.int .i64 n) ∧ w'.cell? ⟨q, 1, none⟩ = some (.slice A a.length ca) ∧ w'.cell? ⟨q + 1, 0, none⟩ = some (.int .i64 m) ∧ w'.cell? ⟨q + 1, 1, none⟩ = some (.slice B b.length cb))) (by kernel_rfl) ?_ (fun hHeld => ?_); (focus ((try dsimp only); exact ⟨c0, c1, d0, d1⟩)))
  generalize w18.drew = w18d at *
  (refine wpAnyH_take (i := 0) (v := ?_) rfl (by kernel_rfl) (by kernel_rfl) (by kernel_rfl) (fun _ _ _ h => h) (Or.inl ⟨by rfl, ?_⟩) (by assumption) ?_; rotate_left; (focus (intro wS hSw; (try dsimp only at hSw); go_simp; (try with_reducible rfl))); (try simp only [Act.put, List.getElem_toArray, List.getElem_cons_zero, List.getElem_cons_succ, List.setIfInBounds_toArray, List.set_cons_zero, List.set_cons_succ]))
  (refine wpAnyH_take (i := 2) (v := ?_) rfl (by kernel_rfl) (by kernel_rfl) (by kernel_rfl) (fun _ _ _ h => h) (Or.inl ⟨by rfl, ?_⟩) (by assumption) ?_; rotate_left; (focus (intro wS hSw; (try dsimp only at hSw); go_simp; (try with_reducible rfl))); (try simp only [Act.put, List.getElem_toArray, List.getElem_cons_zero, List.getElem_cons_succ, List.setIfInBounds_toArray, List.set_cons_zero, List.set_cons_succ]))
  (refine wpAnyH_ready (rs := [1]) (by kernel_rfl) (by simp) ?_; refine AllReadyH.cons rfl (fun K hK => ?_) AllReadyH.nil; go_simp)
  go_at_call 7
  refine (toRhythm_any n A ca a _ ((HA.out.below (HW5.out.trans (HV18d.out.mono (by omega)))).mono (by omega)) hsa).mono ?_
  rintro e w19 ⟨rfl, ht, hb⟩
  have HI19 := Lib.hid (ht.ints (B := w19.heap.size) ht.1 HA.out.1 HA.out.2.1)
  have HE19 := Lib.hid (HE18d.out.trans (Frm.pure hb (fun _ => False)))
  have HV19 := Lib.hid (HV18d.out.trans (hb.mono (by omega)))
  have hz19 := hb.size
  have HCA19 := Lib.hid (HCA5.out.below HV19.out HCA5.out.2.2.2.2)
  have HCB19 := Lib.hid (HCB5.out.below HV19.out HCB5.out.2.2.2.2)
  clear ht hb c0 c1 d0 d1
  obtain ⟨c0, c1, _, _, _⟩ := HCA19.out
  obtain ⟨d0, d1, _, _, _⟩ := HCB19.out
  go_wp2_with fail
  (refine hK.out _ _ ?_ (fun hHeld2 => ?_); (focus ((try dsimp only); exact ⟨c0, c1, d0, d1⟩)); (clear hK K); (try simp only [Act.put, List.getElem_toArray, List.getElem_cons_zero, List.getElem_cons_succ, List.setIfInBounds_toArray, List.set_cons_zero, List.set_cons_succ]))
  (refine wpAnyH_ready (rs := [3]) (by kernel_rfl) (by simp) ?_; refine AllReadyH.cons rfl (fun K hK => ?_) AllReadyH.nil; go_simp)
  go_at_call 7
  refine (toRhythm_any m B cb b _ ((HB.out.below (HW5.out.trans (HV19.out.mono (by omega)))).mono (by omega)) hsb).mono ?_
  rintro e w20 ⟨rfl, ht, hb⟩
  have HI20 := Lib.hid (ht.ints (B := w20.heap.size) ht.1 HB.out.1 HB.out.2.1)
  have HI20a := Lib.hid (HI19.out.lift hb)
  have HE20 := Lib.hid (HE19.out.trans (Frm.pure hb (fun _ => False)))
  have HV20 := Lib.hid (HV19.out.trans (hb.mono (by omega)))
  have hz20 := hb.size
  have HCA20 := Lib.hid (HCA5.out.below HV20.out HCA5.out.2.2.2.2)
  have HCB20 := Lib.hid (HCB5.out.below HV20.out HCB5.out.2.2.2.2)
  clear ht hb c0 c1 d0 d1
  obtain ⟨c0, c1, _, _, _⟩ := HCA20.out
  obtain ⟨d0, d1, _, _, _⟩ := HCB20.out
  go_wp2_with fail
  (refine hK.out _ _ ?_ (fun hHeld2 => ?_); (focus ((try dsimp only); exact ⟨c0, c1, d0, d1⟩)); (clear hK K); (try simp only [Act.put, List.getElem_toArray, List.getElem_cons_zero, List.getElem_cons_succ, List.setIfInBounds_toArray, List.set_cons_zero, List.set_cons_succ]))
  (refine wpAnyH_ready (rs := [4]) (by kernel_rfl) (by simp) ?_; refine AllReadyH.cons rfl (fun K hK => ?_) AllReadyH.nil; go_simp)
  go_at_call 8
  refine (HI.out _ _ _ _ _ HI20a.out HI20.out).mono ?_
  rintro e w21 ⟨v21, rs21, rfl, hk21, ho21, hb21⟩
  obtain ⟨A21, c21, rfl⟩ := ho21.form
  have hl21 : rs21.length ≤ 65536 := by rw [← keyR_len, hk21]; exact hL
  have HD21 := Lib.hid (ho21.rd (by omega) (keyR_fit hk21 HFT.out))
  have HK21 := Lib.hid (show keyR rs21 = keyR rs5 from hk21.trans HK5.out.symm)
  have HE21 := Lib.hid (HE20.out.trans (Frm.pure hb21 (fun _ => False)))
  have HV21 := Lib.hid (HV20.out.trans (hb21.mono (by omega)))
  have hz21 := hb21.size
  have HCA21 := Lib.hid (HCA5.out.below HV21.out HCA5.out.2.2.2.2)
  have HCB21 := Lib.hid (HCB5.out.below HV21.out HCB5.out.2.2.2.2)
  clear hb21 ho21 hk21 c0 c1 d0 d1
  obtain ⟨c0, c1, _, _, _⟩ := HCA21.out
  obtain ⟨d0, d1, _, _, _⟩ := HCB21.out
  go_wp2_with fail
  (refine hK.out _ _ ?_ (fun hHeld2 => ?_); (focus ((try dsimp only); exact ⟨c0, c1, d0, d1⟩)); (clear hK K); (try simp only [Act.put, List.getElem_toArray, List.getElem_cons_zero, List.getElem_cons_succ, List.setIfInBounds_toArray, List.set_cons_zero, List.set_cons_succ]))
  (refine wpAnyH_take (i := 5) (v := ?_) rfl (by kernel_rfl) (by kernel_rfl) (by kernel_rfl) (fun _ _ _ h => h) (Or.inl ⟨by rfl, ?_⟩) (by assumption) ?_; rotate_left; (focus (intro wS hSw; (try dsimp only at hSw); go_simp; (try with_reducible rfl))); (try simp only [Act.put, List.getElem_toArray, List.getElem_cons_zero, List.getElem_cons_succ, List.setIfInBounds_toArray, List.set_cons_zero, List.set_cons_succ]))
  refine wpAnyH_done (by kernel_rfl) ?_ _
  clear c0 c1 d0 d1
  go_wp2_with fail
  refine (eqRhythmS_same rs21 rs5 A21 A5 c21 c5 _ HD21.out ((HD5.out.below HV21.out).mono (by omega)) HK21.out).mono ?_
  rintro e w22 ⟨rfl, hb22⟩
  have HE22 := Lib.hid (HE21.out.trans (Frm.pure hb22 (fun _ => False)))
  have HV22 := Lib.hid (HV21.out.trans (hb22.mono (by omega)))
  have hz22 := hb22.size
  have HH22 := Lib.hid (HH18.out.frm HE22.out (fun _ _ _ h => h))
  clear hb22
  go_wp2_with fail
  refine (heldRhythmS_held A8 c8 rs8 1 w7a.heap.size w8.heap.size _ (by omega) HLN.out HH22.out (by omega) (by omega)).mono ?_
  rintro e w23 ⟨rfl, hb23⟩
  rw [HKK.out]
  have HV23 := Lib.hid (HV22.out.trans (hb23.mono (by omega)))
  clear hb23
  go_wp2_with fail
  go_ret
  exact ⟨rfl, by rw [HQ.out]; exact HW5.out.trans (HV23.out.mono (by omega))⟩

theorem wayV_ok (n m : Int) (a b : List Int) : (wayV n m a b).length ≤ 65536 ∧ ∀ p ∈ wayV n m a b, ∀ x ∈ p.2, Fits x := by
  cases h : movedB n m a b
  · have hv : wayV n m a b = [] := by unfold wayV; rw [h]; rfl
    rw [hv]
    exact ⟨Nat.zero_le _, fun p hp => by cases hp⟩
  · obtain ⟨ha, hb, hnm, hl⟩ := movedB_yes h
    subst hnm
    obtain ⟨N, rfl⟩ := Int.eq_ofNat_of_zero_le (show 0 ≤ n by have := ha.1; omega)
    have hv : wayV (N : Int) N a b = wayP N a b ((farV N a b).toNat + 1) := by unfold wayV; rw [h, if_pos rfl, Int.toNat_natCast]
    have h576 := farV_small ha hb hl
    have h0 := farV_nonneg N a b
    rw [hv]
    refine ⟨by rw [wayP_len]; omega, fun p hp x hx => ?_⟩
    unfold wayP at hp
    rw [List.mem_map] at hp
    obtain ⟨j, hj, rfl⟩ := hp
    rw [List.mem_range] at hj
    exact rh_fits' (wayAt_ok ha hb hl j (by omega)).1 x hx

theorem law_FnExactWayTo {w : World} (n : Int) (A : Option Addr) (ca : Nat) (a : List Int) (hn : Fits n) (hA : Ints w w.heap.size A a) (m : Int) (B : Option Addr) (cb : Nat) (b : List Int) (hm : Fits m) (hB : Ints w w.heap.size B b) :
    Calls Try.prog 3 #[.agg #[.int .i64 n, .slice A a.length ca], .agg #[.int .i64 m, .slice B b.length cb]] w fun e w' => e = .returned (.bool true) ∧ Below w.heap.size w w' :=
  law_FnExactWayTo_of n m A B ca cb a b (wayV n m a b) (wayV_ok n m a b).1 (wayV_ok n m a b).2 w hA hB (fun A B ca cb w h1 h2 => spec_WayTo_any n m A B ca cb a b w hn hm h1 h2) (fun A B ca cb w h1 h2 => impl_WayTo_any n m A B ca cb a b w hn hm h1 h2)

end Go.Proofs.Ytjegomgpldpmpaa
