/-
  The law FnExactMeetInMiddle: MeetInMiddle of both; the walk.
-/
import Derived.Test.YtjegomgpldpmpaaMid
import Derived.Deep.CutRange
import Derived.Test.YtjegomgpldpmpaaMarkR
import Derived.Test.YtjegomgpldpmpaaRlaw
namespace Go.Proofs.Ytjegomgpldpmpaa
open Go.RowKit Go.Shelf Go.Sort
set_option linter.unusedVariables false
set_option linter.unusedSimpArgs false

theorem heldV_ints {w : World} {A : Option Addr} {xs : List Int} {base top : Nat} (hl : xs.length ≤ 1048576) (hf : ∀ x ∈ xs, Fits x) (h : HeldV w A xs.length (fun t => .int .i64 (xs.getD t 0)) base top) : Ints w w.heap.size A xs := by
  refine ⟨by unfold maxLen; omega, hf, fun hn => ?_⟩
  obtain ⟨b, e, _, _, ht⟩ := h hn
  exact ⟨b, 0, e, ht.1, fun i hi => by rw [Nat.zero_add]; exact (ht.2 i hi).1⟩

set_option maxRecDepth 100000 in
set_option maxHeartbeats 4000000 in
theorem law_FnExactMeetInMiddle_of (n m : Int) (A B : Option Addr) (ca cb : Nat) (a b : List Int) (N : Int) (L : List Int) (ok : Bool) (hf : ∀ x ∈ L, Fits x) (w : World) (hA : Ints w w.heap.size A a) (hB : Ints w w.heap.size B b)
    (hs : ∀ (A B : Option Addr) (ca cb : Nat) (w : World), Ints w w.heap.size A a → Ints w w.heap.size B b → Calls Try.prog 14 #[.agg #[.int .i64 n, .slice A a.length ca], .agg #[.int .i64 m, .slice B b.length cb]] w (RetRh2 w N L ok))
    (hi : ∀ (A B : Option Addr) (ca cb : Nat) (w : World), Ints w w.heap.size A a → Ints w w.heap.size B b → Calls Try.prog 15 #[.agg #[.int .i64 n, .slice A a.length ca], .agg #[.int .i64 m, .slice B b.length cb]] w (RetRh2 w N L ok)) :
    Calls Try.prog 4 #[.agg #[.int .i64 n, .slice A a.length ca], .agg #[.int .i64 m, .slice B b.length cb]] w fun e w' => e = .returned (.bool true) ∧ Below w.heap.size w w' := by
  have HFT := Lib.hid hf
  clear hf
  have hla := hA.1
  have hlb := hB.1
  have HA := Lib.hid hA
  have HB := Lib.hid hB
  have HS := Lib.hid hs
  have HI := Lib.hid hi
  have hal0 := (Below.refl w.heap.size w).alloc (Nat.le_refl _) (.cells #[.int .i64 n, .slice A a.length ca] 24)
  have hal1 := hal0.alloc hal0.size (.cells #[.int .i64 m, .slice B b.length cb] 24)
  have HCA := Lib.hid ((Cells2.new w (.int .i64 n) (.slice A a.length ca) 24).alloc (.cells #[.int .i64 m, .slice B b.length cb] 24))
  have HCB := Lib.hid (Cells2.new_at (w.alloc (.cells #[.int .i64 n, .slice A a.length ca] 24)) (.int .i64 m) (.slice B b.length cb) 24 (w.heap.size + 1) (by simp))
  have HW0 := Lib.hid hal1
  clear hA hB hs hi hal0 hal1
  obtain ⟨c0, c1, _, _, _⟩ := HCA.out
  obtain ⟨d0, d1, _, _, _⟩ := HCB.out
  by_cases hbig : 1048576 < a.length
  · have HL := Lib.hid hla
    clear hla hlb
    go_enter Try.func4, Try.ntmps4
    go_wp2_with fail
    refine (szRhythm_big n A ca a _ _ HL.out (by omega) (by omega) (by omega)).mono ?_
    rintro e w1 ⟨rfl, hb1⟩
    go_wp2_with fail
    go_ret
    exact ⟨rfl, HW0.out.trans (hb1.mono HW0.out.size)⟩
  have hsa : a.length ≤ 1048576 := by omega
  have hx1 : ¬ ((1048576 : Int) - (a.length : Int) < 0) := by omega
  by_cases hbig2 : (1048576 : Int) - a.length < b.length
  · have HL := Lib.hid hlb
    clear hla hlb hbig
    go_enter Try.func4, Try.ntmps4
    go_wp2_with fail
    refine (szRhythm_small n A ca a _ _ (by omega) (by omega)).mono ?_
    rintro e w1 ⟨rfl, hb1⟩
    have HW1 := Lib.hid (HW0.out.trans (hb1.mono HW0.out.size))
    have HCB1 := Lib.hid (HCB.out.below hb1 HCB.out.2.2.2.2)
    clear hb1 c0 c1 d0 d1
    obtain ⟨d0, d1, _, _, _⟩ := HCB1.out
    go_wp2_with fail
    refine (szRhythm_big m B cb b _ _ HL.out (by omega) (by omega) (by omega)).mono ?_
    rintro e w2 ⟨rfl, hb2⟩
    go_wp2_with fail
    go_ret
    exact ⟨rfl, HW1.out.trans (hb2.mono HW1.out.size)⟩
  have hsb : b.length ≤ 1048576 := by omega
  have hx2 : ¬ ((1048576 : Int) - (a.length : Int) - (b.length : Int) < 0) := by omega
  clear hla hlb hbig hbig2
  go_enter Try.func4, Try.ntmps4
  go_wp2_with fail
  refine (szRhythm_small n A ca a _ _ (by omega) (by omega)).mono ?_
  rintro e w1 ⟨rfl, hb1⟩
  have HW1 := Lib.hid (HW0.out.trans (hb1.mono HW0.out.size))
  have HCA1 := Lib.hid (HCA.out.below hb1 HCA.out.2.2.2.2)
  have HCB1 := Lib.hid (HCB.out.below hb1 HCB.out.2.2.2.2)
  clear hb1 c0 c1 d0 d1
  obtain ⟨d0, d1, _, _, _⟩ := HCB1.out
  go_wp2_with fail
  refine (szRhythm_small m B cb b _ _ (by omega) (by omega)).mono ?_
  rintro e w2 ⟨rfl, hb2⟩
  have HW2 := Lib.hid (HW1.out.trans (hb2.mono HW1.out.size))
  have HCA2 := Lib.hid (HCA1.out.below hb2 HCA1.out.2.2.2.2)
  have HCB2 := Lib.hid (HCB1.out.below hb2 HCB1.out.2.2.2.2)
  clear hb2 d0 d1 HCA HCB HCA1 HCB1 HW0 HW1
  obtain ⟨q, hq⟩ : ∃ q, w.heap.size = q := ⟨_, rfl⟩
  have HQ := Lib.hid hq
  rw [hq] at HA HB HW2 HCA2 HCB2 ⊢
  clear hq
  obtain ⟨c0, c1, _, _, _⟩ := HCA2.out
  obtain ⟨d0, d1, _, _, _⟩ := HCB2.out
  go_wp2_with fail
  have hqb : q + 2 ≤ w2.heap.size := by have := HCB2.out.2.2.2.2; omega
  go_cut [6, 7] from 27 to 35 (fun s6 s7 wx => ∃ (g5 : Nat) (A5 : Option Addr) (c5 : Nat), s6 = .pointer (some ⟨g5, 0, none⟩) ∧ s7 = .bool ok ∧ Cells2 wx g5 (.int .i64 N) (.slice A5 L.length c5) ∧ Ints wx wx.heap.size A5 L ∧ Below q w wx ∧ Cells2 wx q (.int .i64 n) (.slice A a.length ca) ∧ Cells2 wx (q + 1) (.int .i64 m) (.slice B b.length cb) ∧ L.length ≤ 1048576 ∧ Below w2.heap.size w2 wx)
  case first =>
    have HZ := Lib.hid (show Below w2.heap.size w2 w2.drew from Below.drew5_ (Below.refl w2.heap.size w2))
    have HW := Lib.hid (show Below q w w2.drew from Below.drew5_ HW2.out)
    have HCA := Lib.hid (show Cells2 w2.drew q (.int .i64 n) (.slice A a.length ca) from HCA2.out)
    have HCB := Lib.hid (show Cells2 w2.drew (q + 1) (.int .i64 m) (.slice B b.length cb) from HCB2.out)
    have hq2 : q + 2 ≤ w2.drew.heap.size := hqb
    (refine wp_region_held_drew (S := (fun w' => w'.cell? ⟨q, 0, none⟩ = some (.int .i64 n) ∧ w'.cell? ⟨q, 1, none⟩ = some (.slice A a.length ca) ∧ w'.cell? ⟨q + 1, 0, none⟩ = some (.int .i64 m) ∧ w'.cell? ⟨q + 1, 1, none⟩ = some (.slice B b.length cb))) (by kernel_rfl) ?_ (fun hHeld => ?_); (focus ((try dsimp only); exact ⟨c0, c1, d0, d1⟩)))
    clear hqb
    generalize w2.drew = wx at *
    (refine wpAnyH_take (i := 0) (v := ?_) rfl (by kernel_rfl) (by kernel_rfl) (by kernel_rfl) (fun _ _ _ h => h) (Or.inl ⟨by rfl, ?_⟩) (by assumption) ?_; rotate_left; (focus (intro wS hSw; (try dsimp only at hSw); go_simp; (try with_reducible rfl))); (try simp only [Act.put, List.getElem_toArray, List.getElem_cons_zero, List.getElem_cons_succ, List.setIfInBounds_toArray, List.set_cons_zero, List.set_cons_succ]))
    (refine wpAnyH_take (i := 2) (v := ?_) rfl (by kernel_rfl) (by kernel_rfl) (by kernel_rfl) (fun _ _ _ h => h) (Or.inl ⟨by rfl, ?_⟩) (by assumption) ?_; rotate_left; (focus (intro wS hSw; (try dsimp only at hSw); go_simp; (try with_reducible rfl))); (try simp only [Act.put, List.getElem_toArray, List.getElem_cons_zero, List.getElem_cons_succ, List.setIfInBounds_toArray, List.set_cons_zero, List.set_cons_succ]))
    refine wpAnyH_ready (rs := [1, 8]) (by kernel_rfl) (by simp) ?_
    refine AllReadyH.cons rfl (fun K hK => ?_) (AllReadyH.cons rfl (fun K hK => ?_) AllReadyH.nil)
    · go_simp
      go_at_call 7
      refine (toRhythm_any n A ca a _ ((HA.out.below HW.out).mono (by omega)) hsa).mono ?_
      rintro e wx ⟨rfl, ht, hb⟩
      have HZ := Lib.hid (HZ.out.trans (hb.mono HZ.out.size))
      have HW := Lib.hid (HW.out.trans (hb.mono (by omega)))
      have HCA := Lib.hid (HCA.out.below hb HCA.out.2.2.2.2)
      have HCB := Lib.hid (HCB.out.below hb HCB.out.2.2.2.2)
      have hq2 := Nat.le_trans hq2 hb.size
      try have HI3 := Lib.hid (HI3.out.lift hb)
      try have HI4 := Lib.hid (HI4.out.lift hb)
      try have HG := Lib.hid (HG.out.below hb HG.out.2.2.2.2)
      try have hgl := Nat.lt_of_lt_of_le hgl hb.size
      have HI3 := Lib.hid (ht.ints (B := wx.heap.size) ht.1 HA.out.1 HA.out.2.1)
      clear ht hb
      clear c0 c1 d0 d1
      obtain ⟨c0, c1, _, _, _⟩ := HCA.out
      obtain ⟨d0, d1, _, _, _⟩ := HCB.out
      go_wp2_with fail
      (refine hK.out _ _ ?_ (fun hHeld2 => ?_); (focus ((try dsimp only); exact ⟨c0, c1, d0, d1⟩)); (clear hK K); (try simp only [Act.put, List.getElem_toArray, List.getElem_cons_zero, List.getElem_cons_succ, List.setIfInBounds_toArray, List.set_cons_zero, List.set_cons_succ]))
      refine wpAnyH_ready (rs := [3, 8]) (by kernel_rfl) (by simp) ?_
      refine AllReadyH.cons rfl (fun K hK => ?_) (AllReadyH.cons rfl (fun K hK => ?_) AllReadyH.nil)
      · go_simp
        go_at_call 7
        refine (toRhythm_any m B cb b _ ((HB.out.below HW.out).mono (by omega)) hsb).mono ?_
        rintro e wx ⟨rfl, ht, hb⟩
        have HZ := Lib.hid (HZ.out.trans (hb.mono HZ.out.size))
        have HW := Lib.hid (HW.out.trans (hb.mono (by omega)))
        have HCA := Lib.hid (HCA.out.below hb HCA.out.2.2.2.2)
        have HCB := Lib.hid (HCB.out.below hb HCB.out.2.2.2.2)
        have hq2 := Nat.le_trans hq2 hb.size
        try have HI3 := Lib.hid (HI3.out.lift hb)
        try have HI4 := Lib.hid (HI4.out.lift hb)
        try have HG := Lib.hid (HG.out.below hb HG.out.2.2.2.2)
        try have hgl := Nat.lt_of_lt_of_le hgl hb.size
        have HI4 := Lib.hid (ht.ints (B := wx.heap.size) ht.1 HB.out.1 HB.out.2.1)
        clear ht hb
        clear c0 c1 d0 d1
        obtain ⟨c0, c1, _, _, _⟩ := HCA.out
        obtain ⟨d0, d1, _, _, _⟩ := HCB.out
        go_wp2_with fail
        (refine hK.out _ _ ?_ (fun hHeld2 => ?_); (focus ((try dsimp only); exact ⟨c0, c1, d0, d1⟩)); (clear hK K); (try simp only [Act.put, List.getElem_toArray, List.getElem_cons_zero, List.getElem_cons_succ, List.setIfInBounds_toArray, List.set_cons_zero, List.set_cons_succ]))
        refine wpAnyH_ready (rs := [4, 8]) (by kernel_rfl) (by simp) ?_
        refine AllReadyH.cons rfl (fun K hK => ?_) (AllReadyH.cons rfl (fun K hK => ?_) AllReadyH.nil)
        · go_simp
          go_at_call 14
          refine (HS.out _ _ _ _ _ HI3.out HI4.out).mono ?_
          rintro e wx ⟨A5, c5, rfl, hrw5, hb⟩
          try have hgb := hgl
          have HZ := Lib.hid (HZ.out.trans (hb.mono HZ.out.size))
          have HW := Lib.hid (HW.out.trans (hb.mono (by omega)))
          have HCA := Lib.hid (HCA.out.below hb HCA.out.2.2.2.2)
          have HCB := Lib.hid (HCB.out.below hb HCB.out.2.2.2.2)
          have hq2 := Nat.le_trans hq2 hb.size
          try have HI3 := Lib.hid (HI3.out.lift hb)
          try have HI4 := Lib.hid (HI4.out.lift hb)
          try have HG := Lib.hid (HG.out.below hb HG.out.2.2.2.2)
          try have hgl := Nat.lt_of_lt_of_le hgl hb.size
          have HR5 := Lib.hid hrw5
          have HI5 := Lib.hid (hrw5.ints HFT.out)
          clear hb hrw5
          clear c0 c1 d0 d1
          obtain ⟨c0, c1, _, _, _⟩ := HCA.out
          obtain ⟨d0, d1, _, _, _⟩ := HCB.out
          go_wp2_with fail
          (refine hK.out _ _ ?_ (fun hHeld2 => ?_); (focus ((try dsimp only); exact ⟨c0, c1, d0, d1⟩)); (clear hK K); (try simp only [Act.put, List.getElem_toArray, List.getElem_cons_zero, List.getElem_cons_succ, List.setIfInBounds_toArray, List.set_cons_zero, List.set_cons_succ]))
          (refine wpAnyH_take (i := 5) (v := ?_) rfl (by kernel_rfl) (by kernel_rfl) (by kernel_rfl) (fun _ _ _ h => h) (Or.inl ⟨by rfl, ?_⟩) (by assumption) ?_; rotate_left; (focus (intro wS hSw; (try dsimp only at hSw); go_simp; (try with_reducible rfl))); (try simp only [Act.put, List.getElem_toArray, List.getElem_cons_zero, List.getElem_cons_succ, List.setIfInBounds_toArray, List.set_cons_zero, List.set_cons_succ]))
          (refine wpAnyH_take (i := 6) (v := ?_) rfl (by kernel_rfl) (by kernel_rfl) (by kernel_rfl) (fun _ _ _ h => h) (Or.inl ⟨by rfl, ?_⟩) (by assumption) ?_; rotate_left; (focus (intro wS hSw; (try dsimp only at hSw); go_simp; (try with_reducible rfl))); (try simp only [Act.put, List.getElem_toArray, List.getElem_cons_zero, List.getElem_cons_succ, List.setIfInBounds_toArray, List.set_cons_zero, List.set_cons_succ]))
          (refine wpAnyH_take (i := 7) (v := ?_) rfl (by kernel_rfl) (by kernel_rfl) (by kernel_rfl) (fun _ _ _ h => h) (Or.inl ⟨by rfl, ?_⟩) (by assumption) ?_; rotate_left; (focus (intro wS hSw; (try dsimp only at hSw); go_simp; (try with_reducible rfl))); (try simp only [Act.put, List.getElem_toArray, List.getElem_cons_zero, List.getElem_cons_succ, List.setIfInBounds_toArray, List.set_cons_zero, List.set_cons_succ]))
          have hqb := hq2
          (refine wpAnyH_ready (rs := [8]) (by kernel_rfl) (by simp) ?_; refine AllReadyH.cons rfl (fun K hK => ?_) AllReadyH.nil; go_simp)
          have hgz := HZ.out.size
          have hb := (Below.refl wx.heap.size wx).alloc (Nat.le_refl _) (.cells #[.int .i64 0, .slice none 0 0] 28)
          try have HI5 := Lib.hid (HI5.out.below hb)
          have HZ := Lib.hid (HZ.out.trans (hb.mono HZ.out.size))
          have HW := Lib.hid (HW.out.trans (hb.mono (by omega)))
          have HCA := Lib.hid (HCA.out.below hb HCA.out.2.2.2.2)
          have HCB := Lib.hid (HCB.out.below hb HCB.out.2.2.2.2)
          have hq2 := Nat.le_trans hq2 hb.size
          try have HI3 := Lib.hid (HI3.out.lift hb)
          try have HI4 := Lib.hid (HI4.out.lift hb)
          try have HG := Lib.hid (HG.out.below hb HG.out.2.2.2.2)
          try have hgl := Nat.lt_of_lt_of_le hgl hb.size
          have HG := Lib.hid (Cells2.new wx (.int .i64 0) (.slice none 0 0) 28)
          clear hb
          clear c0 c1 d0 d1
          obtain ⟨c0, c1, _, _, _⟩ := HCA.out
          obtain ⟨d0, d1, _, _, _⟩ := HCB.out
          have hgl : wx.heap.size < (wx.alloc (.cells #[.int .i64 0, .slice none 0 0] 28)).heap.size := HG.out.2.2.2.2
          have hgq : q + 2 ≤ wx.heap.size := hqb
          generalize wx.alloc (.cells #[.int .i64 0, .slice none 0 0] 28) = wy at *
          obtain ⟨g5, hg5⟩ : ∃ g, wx.heap.size = g := ⟨_, rfl⟩
          simp only [hg5] at *
          clear hg5
          (refine hK.out _ _ ?_ (fun hHeld2 => ?_); (focus ((try dsimp only); exact ⟨c0, c1, d0, d1⟩)); (clear hK K); (try simp only [Act.put, List.getElem_toArray, List.getElem_cons_zero, List.getElem_cons_succ, List.setIfInBounds_toArray, List.set_cons_zero, List.set_cons_succ]))
          obtain ⟨wx, rfl⟩ : ∃ w : World, w = wy := ⟨_, rfl⟩
          obtain ⟨g0, g1, gf0, gf1, _⟩ := HG.out
          (refine wpAnyH_ready (rs := [9]) (by kernel_rfl) (by simp) ?_; refine AllReadyH.cons rfl (fun K hK => ?_) AllReadyH.nil; go_simp)
          have HG9 := Lib.hid ((HG.out.set0 (.int .i64 N)).set1 (.slice A5 L.length c5))
          have hb := ((Below.refl g5 wx).setCell (p := ⟨g5, 0, none⟩) (Nat.le_refl _) (.int .i64 N)).setCell (p := ⟨g5, 1, none⟩) (Nat.le_refl _) (.slice A5 L.length c5)
          have HI9 := Lib.hid (show Ints ((wx.setCell ⟨g5, 0, none⟩ (.int .i64 N)).setCell ⟨g5, 1, none⟩ (.slice A5 L.length c5)) ((wx.setCell ⟨g5, 0, none⟩ (.int .i64 N)).setCell ⟨g5, 1, none⟩ (.slice A5 L.length c5)).heap.size A5 L by
            first
              | exact ((HR5.out.far (p := ⟨g5, 0, none⟩) hgb _).far (p := ⟨g5, 1, none⟩) hgb _).ints HFT.out
              | exact (HI5.out.below hb).mono (Nat.le_of_lt (Nat.lt_of_lt_of_le hgl hb.size)))
          have HCA9 := Lib.hid (HCA.out.below hb (by omega))
          have HCB9 := Lib.hid (HCB.out.below hb (by omega))
          have HW9 := Lib.hid (HW.out.trans (hb.mono (by omega)))
          have HZ9 := Lib.hid (HZ.out.trans (hb.mono hgz))
          clear hb c0 c1 d0 d1 g0 g1 gf0 gf1
          obtain ⟨c0, c1, _, _, _⟩ := HCA9.out
          obtain ⟨d0, d1, _, _, _⟩ := HCB9.out
          (refine hK.out _ _ ?_ (fun hHeld2 => ?_); (focus ((try dsimp only); exact ⟨c0, c1, d0, d1⟩)); (clear hK K); (try simp only [Act.put, List.getElem_toArray, List.getElem_cons_zero, List.getElem_cons_succ, List.setIfInBounds_toArray, List.set_cons_zero, List.set_cons_succ]))
          (refine wpAnyH_take (i := 10) (v := ?_) rfl (by kernel_rfl) (by kernel_rfl) (by kernel_rfl) (fun _ _ _ h => h) (Or.inl ⟨by rfl, ?_⟩) (by assumption) ?_; rotate_left; (focus (intro wS hSw; (try dsimp only at hSw); go_simp; (try with_reducible rfl))); (try simp only [Act.put, List.getElem_toArray, List.getElem_cons_zero, List.getElem_cons_succ, List.setIfInBounds_toArray, List.set_cons_zero, List.set_cons_succ]))
          refine wpAnyH_done (by kernel_rfl) ?_ _
          go_wp2_with fail
          go_meet
          exact ⟨g5, A5, c5, rfl, rfl, HG9.out, HI9.out, HW9.out, HCA9.out, HCB9.out, HR5.out.1, HZ9.out⟩
        · have hqb := hq2
          go_simp
          have hgz := HZ.out.size
          have hb := (Below.refl wx.heap.size wx).alloc (Nat.le_refl _) (.cells #[.int .i64 0, .slice none 0 0] 28)
          try have HI5 := Lib.hid (HI5.out.below hb)
          have HZ := Lib.hid (HZ.out.trans (hb.mono HZ.out.size))
          have HW := Lib.hid (HW.out.trans (hb.mono (by omega)))
          have HCA := Lib.hid (HCA.out.below hb HCA.out.2.2.2.2)
          have HCB := Lib.hid (HCB.out.below hb HCB.out.2.2.2.2)
          have hq2 := Nat.le_trans hq2 hb.size
          try have HI3 := Lib.hid (HI3.out.lift hb)
          try have HI4 := Lib.hid (HI4.out.lift hb)
          try have HG := Lib.hid (HG.out.below hb HG.out.2.2.2.2)
          try have hgl := Nat.lt_of_lt_of_le hgl hb.size
          have HG := Lib.hid (Cells2.new wx (.int .i64 0) (.slice none 0 0) 28)
          clear hb
          clear c0 c1 d0 d1
          obtain ⟨c0, c1, _, _, _⟩ := HCA.out
          obtain ⟨d0, d1, _, _, _⟩ := HCB.out
          have hgl : wx.heap.size < (wx.alloc (.cells #[.int .i64 0, .slice none 0 0] 28)).heap.size := HG.out.2.2.2.2
          have hgq : q + 2 ≤ wx.heap.size := hqb
          generalize wx.alloc (.cells #[.int .i64 0, .slice none 0 0] 28) = wy at *
          obtain ⟨g5, hg5⟩ : ∃ g, wx.heap.size = g := ⟨_, rfl⟩
          simp only [hg5] at *
          clear hg5
          (refine hK.out _ _ ?_ (fun hHeld2 => ?_); (focus ((try dsimp only); exact ⟨c0, c1, d0, d1⟩)); (clear hK K); (try simp only [Act.put, List.getElem_toArray, List.getElem_cons_zero, List.getElem_cons_succ, List.setIfInBounds_toArray, List.set_cons_zero, List.set_cons_succ]))
          obtain ⟨wx, rfl⟩ : ∃ w : World, w = wy := ⟨_, rfl⟩
          (refine wpAnyH_ready (rs := [4]) (by kernel_rfl) (by simp) ?_; refine AllReadyH.cons rfl (fun K hK => ?_) AllReadyH.nil; go_simp)
          go_at_call 14
          refine (HS.out _ _ _ _ _ HI3.out HI4.out).mono ?_
          rintro e wx ⟨A5, c5, rfl, hrw5, hb⟩
          try have hgb := hgl
          have HZ := Lib.hid (HZ.out.trans (hb.mono HZ.out.size))
          have HW := Lib.hid (HW.out.trans (hb.mono (by omega)))
          have HCA := Lib.hid (HCA.out.below hb HCA.out.2.2.2.2)
          have HCB := Lib.hid (HCB.out.below hb HCB.out.2.2.2.2)
          have hq2 := Nat.le_trans hq2 hb.size
          try have HI3 := Lib.hid (HI3.out.lift hb)
          try have HI4 := Lib.hid (HI4.out.lift hb)
          try have HG := Lib.hid (HG.out.below hb HG.out.2.2.2.2)
          try have hgl := Nat.lt_of_lt_of_le hgl hb.size
          have HR5 := Lib.hid hrw5
          have HI5 := Lib.hid (hrw5.ints HFT.out)
          clear hb hrw5
          clear c0 c1 d0 d1
          obtain ⟨c0, c1, _, _, _⟩ := HCA.out
          obtain ⟨d0, d1, _, _, _⟩ := HCB.out
          go_wp2_with fail
          (refine hK.out _ _ ?_ (fun hHeld2 => ?_); (focus ((try dsimp only); exact ⟨c0, c1, d0, d1⟩)); (clear hK K); (try simp only [Act.put, List.getElem_toArray, List.getElem_cons_zero, List.getElem_cons_succ, List.setIfInBounds_toArray, List.set_cons_zero, List.set_cons_succ]))
          (refine wpAnyH_take (i := 5) (v := ?_) rfl (by kernel_rfl) (by kernel_rfl) (by kernel_rfl) (fun _ _ _ h => h) (Or.inl ⟨by rfl, ?_⟩) (by assumption) ?_; rotate_left; (focus (intro wS hSw; (try dsimp only at hSw); go_simp; (try with_reducible rfl))); (try simp only [Act.put, List.getElem_toArray, List.getElem_cons_zero, List.getElem_cons_succ, List.setIfInBounds_toArray, List.set_cons_zero, List.set_cons_succ]))
          (refine wpAnyH_take (i := 6) (v := ?_) rfl (by kernel_rfl) (by kernel_rfl) (by kernel_rfl) (fun _ _ _ h => h) (Or.inl ⟨by rfl, ?_⟩) (by assumption) ?_; rotate_left; (focus (intro wS hSw; (try dsimp only at hSw); go_simp; (try with_reducible rfl))); (try simp only [Act.put, List.getElem_toArray, List.getElem_cons_zero, List.getElem_cons_succ, List.setIfInBounds_toArray, List.set_cons_zero, List.set_cons_succ]))
          (refine wpAnyH_take (i := 7) (v := ?_) rfl (by kernel_rfl) (by kernel_rfl) (by kernel_rfl) (fun _ _ _ h => h) (Or.inl ⟨by rfl, ?_⟩) (by assumption) ?_; rotate_left; (focus (intro wS hSw; (try dsimp only at hSw); go_simp; (try with_reducible rfl))); (try simp only [Act.put, List.getElem_toArray, List.getElem_cons_zero, List.getElem_cons_succ, List.setIfInBounds_toArray, List.set_cons_zero, List.set_cons_succ]))
          obtain ⟨g0, g1, gf0, gf1, _⟩ := HG.out
          (refine wpAnyH_ready (rs := [9]) (by kernel_rfl) (by simp) ?_; refine AllReadyH.cons rfl (fun K hK => ?_) AllReadyH.nil; go_simp)
          have HG9 := Lib.hid ((HG.out.set0 (.int .i64 N)).set1 (.slice A5 L.length c5))
          have hb := ((Below.refl g5 wx).setCell (p := ⟨g5, 0, none⟩) (Nat.le_refl _) (.int .i64 N)).setCell (p := ⟨g5, 1, none⟩) (Nat.le_refl _) (.slice A5 L.length c5)
          have HI9 := Lib.hid (show Ints ((wx.setCell ⟨g5, 0, none⟩ (.int .i64 N)).setCell ⟨g5, 1, none⟩ (.slice A5 L.length c5)) ((wx.setCell ⟨g5, 0, none⟩ (.int .i64 N)).setCell ⟨g5, 1, none⟩ (.slice A5 L.length c5)).heap.size A5 L by
            first
              | exact ((HR5.out.far (p := ⟨g5, 0, none⟩) hgb _).far (p := ⟨g5, 1, none⟩) hgb _).ints HFT.out
              | exact (HI5.out.below hb).mono (Nat.le_of_lt (Nat.lt_of_lt_of_le hgl hb.size)))
          have HCA9 := Lib.hid (HCA.out.below hb (by omega))
          have HCB9 := Lib.hid (HCB.out.below hb (by omega))
          have HW9 := Lib.hid (HW.out.trans (hb.mono (by omega)))
          have HZ9 := Lib.hid (HZ.out.trans (hb.mono hgz))
          clear hb c0 c1 d0 d1 g0 g1 gf0 gf1
          obtain ⟨c0, c1, _, _, _⟩ := HCA9.out
          obtain ⟨d0, d1, _, _, _⟩ := HCB9.out
          (refine hK.out _ _ ?_ (fun hHeld2 => ?_); (focus ((try dsimp only); exact ⟨c0, c1, d0, d1⟩)); (clear hK K); (try simp only [Act.put, List.getElem_toArray, List.getElem_cons_zero, List.getElem_cons_succ, List.setIfInBounds_toArray, List.set_cons_zero, List.set_cons_succ]))
          (refine wpAnyH_take (i := 10) (v := ?_) rfl (by kernel_rfl) (by kernel_rfl) (by kernel_rfl) (fun _ _ _ h => h) (Or.inl ⟨by rfl, ?_⟩) (by assumption) ?_; rotate_left; (focus (intro wS hSw; (try dsimp only at hSw); go_simp; (try with_reducible rfl))); (try simp only [Act.put, List.getElem_toArray, List.getElem_cons_zero, List.getElem_cons_succ, List.setIfInBounds_toArray, List.set_cons_zero, List.set_cons_succ]))
          refine wpAnyH_done (by kernel_rfl) ?_ _
          go_wp2_with fail
          go_meet
          exact ⟨g5, A5, c5, rfl, rfl, HG9.out, HI9.out, HW9.out, HCA9.out, HCB9.out, HR5.out.1, HZ9.out⟩
      · have hqb := hq2
        go_simp
        have hgz := HZ.out.size
        have hb := (Below.refl wx.heap.size wx).alloc (Nat.le_refl _) (.cells #[.int .i64 0, .slice none 0 0] 28)
        try have HI5 := Lib.hid (HI5.out.below hb)
        have HZ := Lib.hid (HZ.out.trans (hb.mono HZ.out.size))
        have HW := Lib.hid (HW.out.trans (hb.mono (by omega)))
        have HCA := Lib.hid (HCA.out.below hb HCA.out.2.2.2.2)
        have HCB := Lib.hid (HCB.out.below hb HCB.out.2.2.2.2)
        have hq2 := Nat.le_trans hq2 hb.size
        try have HI3 := Lib.hid (HI3.out.lift hb)
        try have HI4 := Lib.hid (HI4.out.lift hb)
        try have HG := Lib.hid (HG.out.below hb HG.out.2.2.2.2)
        try have hgl := Nat.lt_of_lt_of_le hgl hb.size
        have HG := Lib.hid (Cells2.new wx (.int .i64 0) (.slice none 0 0) 28)
        clear hb
        clear c0 c1 d0 d1
        obtain ⟨c0, c1, _, _, _⟩ := HCA.out
        obtain ⟨d0, d1, _, _, _⟩ := HCB.out
        have hgl : wx.heap.size < (wx.alloc (.cells #[.int .i64 0, .slice none 0 0] 28)).heap.size := HG.out.2.2.2.2
        have hgq : q + 2 ≤ wx.heap.size := hqb
        generalize wx.alloc (.cells #[.int .i64 0, .slice none 0 0] 28) = wy at *
        obtain ⟨g5, hg5⟩ : ∃ g, wx.heap.size = g := ⟨_, rfl⟩
        simp only [hg5] at *
        clear hg5
        (refine hK.out _ _ ?_ (fun hHeld2 => ?_); (focus ((try dsimp only); exact ⟨c0, c1, d0, d1⟩)); (clear hK K); (try simp only [Act.put, List.getElem_toArray, List.getElem_cons_zero, List.getElem_cons_succ, List.setIfInBounds_toArray, List.set_cons_zero, List.set_cons_succ]))
        obtain ⟨wx, rfl⟩ : ∃ w : World, w = wy := ⟨_, rfl⟩
        (refine wpAnyH_ready (rs := [3]) (by kernel_rfl) (by simp) ?_; refine AllReadyH.cons rfl (fun K hK => ?_) AllReadyH.nil; go_simp)
        go_at_call 7
        refine (toRhythm_any m B cb b _ ((HB.out.below HW.out).mono (by omega)) hsb).mono ?_
        rintro e wx ⟨rfl, ht, hb⟩
        have HZ := Lib.hid (HZ.out.trans (hb.mono HZ.out.size))
        have HW := Lib.hid (HW.out.trans (hb.mono (by omega)))
        have HCA := Lib.hid (HCA.out.below hb HCA.out.2.2.2.2)
        have HCB := Lib.hid (HCB.out.below hb HCB.out.2.2.2.2)
        have hq2 := Nat.le_trans hq2 hb.size
        try have HI3 := Lib.hid (HI3.out.lift hb)
        try have HI4 := Lib.hid (HI4.out.lift hb)
        try have HG := Lib.hid (HG.out.below hb HG.out.2.2.2.2)
        try have hgl := Nat.lt_of_lt_of_le hgl hb.size
        have HI4 := Lib.hid (ht.ints (B := wx.heap.size) ht.1 HB.out.1 HB.out.2.1)
        clear ht hb
        clear c0 c1 d0 d1
        obtain ⟨c0, c1, _, _, _⟩ := HCA.out
        obtain ⟨d0, d1, _, _, _⟩ := HCB.out
        go_wp2_with fail
        (refine hK.out _ _ ?_ (fun hHeld2 => ?_); (focus ((try dsimp only); exact ⟨c0, c1, d0, d1⟩)); (clear hK K); (try simp only [Act.put, List.getElem_toArray, List.getElem_cons_zero, List.getElem_cons_succ, List.setIfInBounds_toArray, List.set_cons_zero, List.set_cons_succ]))
        (refine wpAnyH_ready (rs := [4]) (by kernel_rfl) (by simp) ?_; refine AllReadyH.cons rfl (fun K hK => ?_) AllReadyH.nil; go_simp)
        go_at_call 14
        refine (HS.out _ _ _ _ _ HI3.out HI4.out).mono ?_
        rintro e wx ⟨A5, c5, rfl, hrw5, hb⟩
        try have hgb := hgl
        have HZ := Lib.hid (HZ.out.trans (hb.mono HZ.out.size))
        have HW := Lib.hid (HW.out.trans (hb.mono (by omega)))
        have HCA := Lib.hid (HCA.out.below hb HCA.out.2.2.2.2)
        have HCB := Lib.hid (HCB.out.below hb HCB.out.2.2.2.2)
        have hq2 := Nat.le_trans hq2 hb.size
        try have HI3 := Lib.hid (HI3.out.lift hb)
        try have HI4 := Lib.hid (HI4.out.lift hb)
        try have HG := Lib.hid (HG.out.below hb HG.out.2.2.2.2)
        try have hgl := Nat.lt_of_lt_of_le hgl hb.size
        have HR5 := Lib.hid hrw5
        have HI5 := Lib.hid (hrw5.ints HFT.out)
        clear hb hrw5
        clear c0 c1 d0 d1
        obtain ⟨c0, c1, _, _, _⟩ := HCA.out
        obtain ⟨d0, d1, _, _, _⟩ := HCB.out
        go_wp2_with fail
        (refine hK.out _ _ ?_ (fun hHeld2 => ?_); (focus ((try dsimp only); exact ⟨c0, c1, d0, d1⟩)); (clear hK K); (try simp only [Act.put, List.getElem_toArray, List.getElem_cons_zero, List.getElem_cons_succ, List.setIfInBounds_toArray, List.set_cons_zero, List.set_cons_succ]))
        (refine wpAnyH_take (i := 5) (v := ?_) rfl (by kernel_rfl) (by kernel_rfl) (by kernel_rfl) (fun _ _ _ h => h) (Or.inl ⟨by rfl, ?_⟩) (by assumption) ?_; rotate_left; (focus (intro wS hSw; (try dsimp only at hSw); go_simp; (try with_reducible rfl))); (try simp only [Act.put, List.getElem_toArray, List.getElem_cons_zero, List.getElem_cons_succ, List.setIfInBounds_toArray, List.set_cons_zero, List.set_cons_succ]))
        (refine wpAnyH_take (i := 6) (v := ?_) rfl (by kernel_rfl) (by kernel_rfl) (by kernel_rfl) (fun _ _ _ h => h) (Or.inl ⟨by rfl, ?_⟩) (by assumption) ?_; rotate_left; (focus (intro wS hSw; (try dsimp only at hSw); go_simp; (try with_reducible rfl))); (try simp only [Act.put, List.getElem_toArray, List.getElem_cons_zero, List.getElem_cons_succ, List.setIfInBounds_toArray, List.set_cons_zero, List.set_cons_succ]))
        (refine wpAnyH_take (i := 7) (v := ?_) rfl (by kernel_rfl) (by kernel_rfl) (by kernel_rfl) (fun _ _ _ h => h) (Or.inl ⟨by rfl, ?_⟩) (by assumption) ?_; rotate_left; (focus (intro wS hSw; (try dsimp only at hSw); go_simp; (try with_reducible rfl))); (try simp only [Act.put, List.getElem_toArray, List.getElem_cons_zero, List.getElem_cons_succ, List.setIfInBounds_toArray, List.set_cons_zero, List.set_cons_succ]))
        obtain ⟨g0, g1, gf0, gf1, _⟩ := HG.out
        (refine wpAnyH_ready (rs := [9]) (by kernel_rfl) (by simp) ?_; refine AllReadyH.cons rfl (fun K hK => ?_) AllReadyH.nil; go_simp)
        have HG9 := Lib.hid ((HG.out.set0 (.int .i64 N)).set1 (.slice A5 L.length c5))
        have hb := ((Below.refl g5 wx).setCell (p := ⟨g5, 0, none⟩) (Nat.le_refl _) (.int .i64 N)).setCell (p := ⟨g5, 1, none⟩) (Nat.le_refl _) (.slice A5 L.length c5)
        have HI9 := Lib.hid (show Ints ((wx.setCell ⟨g5, 0, none⟩ (.int .i64 N)).setCell ⟨g5, 1, none⟩ (.slice A5 L.length c5)) ((wx.setCell ⟨g5, 0, none⟩ (.int .i64 N)).setCell ⟨g5, 1, none⟩ (.slice A5 L.length c5)).heap.size A5 L by
          first
            | exact ((HR5.out.far (p := ⟨g5, 0, none⟩) hgb _).far (p := ⟨g5, 1, none⟩) hgb _).ints HFT.out
            | exact (HI5.out.below hb).mono (Nat.le_of_lt (Nat.lt_of_lt_of_le hgl hb.size)))
        have HCA9 := Lib.hid (HCA.out.below hb (by omega))
        have HCB9 := Lib.hid (HCB.out.below hb (by omega))
        have HW9 := Lib.hid (HW.out.trans (hb.mono (by omega)))
        have HZ9 := Lib.hid (HZ.out.trans (hb.mono hgz))
        clear hb c0 c1 d0 d1 g0 g1 gf0 gf1
        obtain ⟨c0, c1, _, _, _⟩ := HCA9.out
        obtain ⟨d0, d1, _, _, _⟩ := HCB9.out
        (refine hK.out _ _ ?_ (fun hHeld2 => ?_); (focus ((try dsimp only); exact ⟨c0, c1, d0, d1⟩)); (clear hK K); (try simp only [Act.put, List.getElem_toArray, List.getElem_cons_zero, List.getElem_cons_succ, List.setIfInBounds_toArray, List.set_cons_zero, List.set_cons_succ]))
        (refine wpAnyH_take (i := 10) (v := ?_) rfl (by kernel_rfl) (by kernel_rfl) (by kernel_rfl) (fun _ _ _ h => h) (Or.inl ⟨by rfl, ?_⟩) (by assumption) ?_; rotate_left; (focus (intro wS hSw; (try dsimp only at hSw); go_simp; (try with_reducible rfl))); (try simp only [Act.put, List.getElem_toArray, List.getElem_cons_zero, List.getElem_cons_succ, List.setIfInBounds_toArray, List.set_cons_zero, List.set_cons_succ]))
        refine wpAnyH_done (by kernel_rfl) ?_ _
        go_wp2_with fail
        go_meet
        exact ⟨g5, A5, c5, rfl, rfl, HG9.out, HI9.out, HW9.out, HCA9.out, HCB9.out, HR5.out.1, HZ9.out⟩
    · have hqb := hq2
      go_simp
      have hgz := HZ.out.size
      have hb := (Below.refl wx.heap.size wx).alloc (Nat.le_refl _) (.cells #[.int .i64 0, .slice none 0 0] 28)
      try have HI5 := Lib.hid (HI5.out.below hb)
      have HZ := Lib.hid (HZ.out.trans (hb.mono HZ.out.size))
      have HW := Lib.hid (HW.out.trans (hb.mono (by omega)))
      have HCA := Lib.hid (HCA.out.below hb HCA.out.2.2.2.2)
      have HCB := Lib.hid (HCB.out.below hb HCB.out.2.2.2.2)
      have hq2 := Nat.le_trans hq2 hb.size
      try have HI3 := Lib.hid (HI3.out.lift hb)
      try have HI4 := Lib.hid (HI4.out.lift hb)
      try have HG := Lib.hid (HG.out.below hb HG.out.2.2.2.2)
      try have hgl := Nat.lt_of_lt_of_le hgl hb.size
      have HG := Lib.hid (Cells2.new wx (.int .i64 0) (.slice none 0 0) 28)
      clear hb
      clear c0 c1 d0 d1
      obtain ⟨c0, c1, _, _, _⟩ := HCA.out
      obtain ⟨d0, d1, _, _, _⟩ := HCB.out
      have hgl : wx.heap.size < (wx.alloc (.cells #[.int .i64 0, .slice none 0 0] 28)).heap.size := HG.out.2.2.2.2
      have hgq : q + 2 ≤ wx.heap.size := hqb
      generalize wx.alloc (.cells #[.int .i64 0, .slice none 0 0] 28) = wy at *
      obtain ⟨g5, hg5⟩ : ∃ g, wx.heap.size = g := ⟨_, rfl⟩
      simp only [hg5] at *
      clear hg5
      (refine hK.out _ _ ?_ (fun hHeld2 => ?_); (focus ((try dsimp only); exact ⟨c0, c1, d0, d1⟩)); (clear hK K); (try simp only [Act.put, List.getElem_toArray, List.getElem_cons_zero, List.getElem_cons_succ, List.setIfInBounds_toArray, List.set_cons_zero, List.set_cons_succ]))
      obtain ⟨wx, rfl⟩ : ∃ w : World, w = wy := ⟨_, rfl⟩
      (refine wpAnyH_ready (rs := [1]) (by kernel_rfl) (by simp) ?_; refine AllReadyH.cons rfl (fun K hK => ?_) AllReadyH.nil; go_simp)
      go_at_call 7
      refine (toRhythm_any n A ca a _ ((HA.out.below HW.out).mono (by omega)) hsa).mono ?_
      rintro e wx ⟨rfl, ht, hb⟩
      have HZ := Lib.hid (HZ.out.trans (hb.mono HZ.out.size))
      have HW := Lib.hid (HW.out.trans (hb.mono (by omega)))
      have HCA := Lib.hid (HCA.out.below hb HCA.out.2.2.2.2)
      have HCB := Lib.hid (HCB.out.below hb HCB.out.2.2.2.2)
      have hq2 := Nat.le_trans hq2 hb.size
      try have HI3 := Lib.hid (HI3.out.lift hb)
      try have HI4 := Lib.hid (HI4.out.lift hb)
      try have HG := Lib.hid (HG.out.below hb HG.out.2.2.2.2)
      try have hgl := Nat.lt_of_lt_of_le hgl hb.size
      have HI3 := Lib.hid (ht.ints (B := wx.heap.size) ht.1 HA.out.1 HA.out.2.1)
      clear ht hb
      clear c0 c1 d0 d1
      obtain ⟨c0, c1, _, _, _⟩ := HCA.out
      obtain ⟨d0, d1, _, _, _⟩ := HCB.out
      go_wp2_with fail
      (refine hK.out _ _ ?_ (fun hHeld2 => ?_); (focus ((try dsimp only); exact ⟨c0, c1, d0, d1⟩)); (clear hK K); (try simp only [Act.put, List.getElem_toArray, List.getElem_cons_zero, List.getElem_cons_succ, List.setIfInBounds_toArray, List.set_cons_zero, List.set_cons_succ]))
      (refine wpAnyH_ready (rs := [3]) (by kernel_rfl) (by simp) ?_; refine AllReadyH.cons rfl (fun K hK => ?_) AllReadyH.nil; go_simp)
      go_at_call 7
      refine (toRhythm_any m B cb b _ ((HB.out.below HW.out).mono (by omega)) hsb).mono ?_
      rintro e wx ⟨rfl, ht, hb⟩
      have HZ := Lib.hid (HZ.out.trans (hb.mono HZ.out.size))
      have HW := Lib.hid (HW.out.trans (hb.mono (by omega)))
      have HCA := Lib.hid (HCA.out.below hb HCA.out.2.2.2.2)
      have HCB := Lib.hid (HCB.out.below hb HCB.out.2.2.2.2)
      have hq2 := Nat.le_trans hq2 hb.size
      try have HI3 := Lib.hid (HI3.out.lift hb)
      try have HI4 := Lib.hid (HI4.out.lift hb)
      try have HG := Lib.hid (HG.out.below hb HG.out.2.2.2.2)
      try have hgl := Nat.lt_of_lt_of_le hgl hb.size
      have HI4 := Lib.hid (ht.ints (B := wx.heap.size) ht.1 HB.out.1 HB.out.2.1)
      clear ht hb
      clear c0 c1 d0 d1
      obtain ⟨c0, c1, _, _, _⟩ := HCA.out
      obtain ⟨d0, d1, _, _, _⟩ := HCB.out
      go_wp2_with fail
      (refine hK.out _ _ ?_ (fun hHeld2 => ?_); (focus ((try dsimp only); exact ⟨c0, c1, d0, d1⟩)); (clear hK K); (try simp only [Act.put, List.getElem_toArray, List.getElem_cons_zero, List.getElem_cons_succ, List.setIfInBounds_toArray, List.set_cons_zero, List.set_cons_succ]))
      (refine wpAnyH_ready (rs := [4]) (by kernel_rfl) (by simp) ?_; refine AllReadyH.cons rfl (fun K hK => ?_) AllReadyH.nil; go_simp)
      go_at_call 14
      refine (HS.out _ _ _ _ _ HI3.out HI4.out).mono ?_
      rintro e wx ⟨A5, c5, rfl, hrw5, hb⟩
      try have hgb := hgl
      have HZ := Lib.hid (HZ.out.trans (hb.mono HZ.out.size))
      have HW := Lib.hid (HW.out.trans (hb.mono (by omega)))
      have HCA := Lib.hid (HCA.out.below hb HCA.out.2.2.2.2)
      have HCB := Lib.hid (HCB.out.below hb HCB.out.2.2.2.2)
      have hq2 := Nat.le_trans hq2 hb.size
      try have HI3 := Lib.hid (HI3.out.lift hb)
      try have HI4 := Lib.hid (HI4.out.lift hb)
      try have HG := Lib.hid (HG.out.below hb HG.out.2.2.2.2)
      try have hgl := Nat.lt_of_lt_of_le hgl hb.size
      have HR5 := Lib.hid hrw5
      have HI5 := Lib.hid (hrw5.ints HFT.out)
      clear hb hrw5
      clear c0 c1 d0 d1
      obtain ⟨c0, c1, _, _, _⟩ := HCA.out
      obtain ⟨d0, d1, _, _, _⟩ := HCB.out
      go_wp2_with fail
      (refine hK.out _ _ ?_ (fun hHeld2 => ?_); (focus ((try dsimp only); exact ⟨c0, c1, d0, d1⟩)); (clear hK K); (try simp only [Act.put, List.getElem_toArray, List.getElem_cons_zero, List.getElem_cons_succ, List.setIfInBounds_toArray, List.set_cons_zero, List.set_cons_succ]))
      (refine wpAnyH_take (i := 5) (v := ?_) rfl (by kernel_rfl) (by kernel_rfl) (by kernel_rfl) (fun _ _ _ h => h) (Or.inl ⟨by rfl, ?_⟩) (by assumption) ?_; rotate_left; (focus (intro wS hSw; (try dsimp only at hSw); go_simp; (try with_reducible rfl))); (try simp only [Act.put, List.getElem_toArray, List.getElem_cons_zero, List.getElem_cons_succ, List.setIfInBounds_toArray, List.set_cons_zero, List.set_cons_succ]))
      (refine wpAnyH_take (i := 6) (v := ?_) rfl (by kernel_rfl) (by kernel_rfl) (by kernel_rfl) (fun _ _ _ h => h) (Or.inl ⟨by rfl, ?_⟩) (by assumption) ?_; rotate_left; (focus (intro wS hSw; (try dsimp only at hSw); go_simp; (try with_reducible rfl))); (try simp only [Act.put, List.getElem_toArray, List.getElem_cons_zero, List.getElem_cons_succ, List.setIfInBounds_toArray, List.set_cons_zero, List.set_cons_succ]))
      (refine wpAnyH_take (i := 7) (v := ?_) rfl (by kernel_rfl) (by kernel_rfl) (by kernel_rfl) (fun _ _ _ h => h) (Or.inl ⟨by rfl, ?_⟩) (by assumption) ?_; rotate_left; (focus (intro wS hSw; (try dsimp only at hSw); go_simp; (try with_reducible rfl))); (try simp only [Act.put, List.getElem_toArray, List.getElem_cons_zero, List.getElem_cons_succ, List.setIfInBounds_toArray, List.set_cons_zero, List.set_cons_succ]))
      obtain ⟨g0, g1, gf0, gf1, _⟩ := HG.out
      (refine wpAnyH_ready (rs := [9]) (by kernel_rfl) (by simp) ?_; refine AllReadyH.cons rfl (fun K hK => ?_) AllReadyH.nil; go_simp)
      have HG9 := Lib.hid ((HG.out.set0 (.int .i64 N)).set1 (.slice A5 L.length c5))
      have hb := ((Below.refl g5 wx).setCell (p := ⟨g5, 0, none⟩) (Nat.le_refl _) (.int .i64 N)).setCell (p := ⟨g5, 1, none⟩) (Nat.le_refl _) (.slice A5 L.length c5)
      have HI9 := Lib.hid (show Ints ((wx.setCell ⟨g5, 0, none⟩ (.int .i64 N)).setCell ⟨g5, 1, none⟩ (.slice A5 L.length c5)) ((wx.setCell ⟨g5, 0, none⟩ (.int .i64 N)).setCell ⟨g5, 1, none⟩ (.slice A5 L.length c5)).heap.size A5 L by
        first
          | exact ((HR5.out.far (p := ⟨g5, 0, none⟩) hgb _).far (p := ⟨g5, 1, none⟩) hgb _).ints HFT.out
          | exact (HI5.out.below hb).mono (Nat.le_of_lt (Nat.lt_of_lt_of_le hgl hb.size)))
      have HCA9 := Lib.hid (HCA.out.below hb (by omega))
      have HCB9 := Lib.hid (HCB.out.below hb (by omega))
      have HW9 := Lib.hid (HW.out.trans (hb.mono (by omega)))
      have HZ9 := Lib.hid (HZ.out.trans (hb.mono hgz))
      clear hb c0 c1 d0 d1 g0 g1 gf0 gf1
      obtain ⟨c0, c1, _, _, _⟩ := HCA9.out
      obtain ⟨d0, d1, _, _, _⟩ := HCB9.out
      (refine hK.out _ _ ?_ (fun hHeld2 => ?_); (focus ((try dsimp only); exact ⟨c0, c1, d0, d1⟩)); (clear hK K); (try simp only [Act.put, List.getElem_toArray, List.getElem_cons_zero, List.getElem_cons_succ, List.setIfInBounds_toArray, List.set_cons_zero, List.set_cons_succ]))
      (refine wpAnyH_take (i := 10) (v := ?_) rfl (by kernel_rfl) (by kernel_rfl) (by kernel_rfl) (fun _ _ _ h => h) (Or.inl ⟨by rfl, ?_⟩) (by assumption) ?_; rotate_left; (focus (intro wS hSw; (try dsimp only at hSw); go_simp; (try with_reducible rfl))); (try simp only [Act.put, List.getElem_toArray, List.getElem_cons_zero, List.getElem_cons_succ, List.setIfInBounds_toArray, List.set_cons_zero, List.set_cons_succ]))
      refine wpAnyH_done (by kernel_rfl) ?_ _
      go_wp2_with fail
      go_meet
      exact ⟨g5, A5, c5, rfl, rfl, HG9.out, HI9.out, HW9.out, HCA9.out, HCB9.out, HR5.out.1, HZ9.out⟩
  case rest =>
    obtain ⟨g5, A5, c5, rfl, rfl, hg, hi5, hW, hCA, hCB, hL, _⟩ := hcut
    obtain ⟨w5, rfl⟩ : ∃ x : World, x = wc := ⟨_, rfl⟩
    have hg5l := hg.2.2.2.2
    have HW5 := Lib.hid hW
    have HCA5 := Lib.hid hCA
    have HCB5 := Lib.hid hCB
    have HX5 := Lib.hid hg
    have HI5 := Lib.hid hi5
    have hz5 : q + 2 ≤ w5.heap.size := by have := hCB.2.2.2.2; omega
    clear hg hi5 hW hCA hCB HCA2 HCB2 HW2 hqb
    clear c0 c1 d0 d1
    obtain ⟨c0, c1, _, _, _⟩ := HCA5.out
    go_wp2_with fail
    refine (toRhythm_any n A ca a _ ((HA.out.below HW5.out).mono (by omega)) hsa).mono ?_
    rintro e w6 ⟨rfl, ht6, hb6⟩
    have hz6 : w5.heap.size + 3 < w6.heap.size := ht6.1
    have hal6 := hb6.alloc hb6.size (.cells #[.int .i64 n, .slice (some ⟨w5.heap.size + 3, 0, none⟩) a.length a.length] 28)
    have HV6 := Lib.hid hal6
    have HT6 := Lib.hid (ht6.tabV.frm (Frm.pure ((Below.refl w6.heap.size w6).alloc (Nat.le_refl _) (.cells #[.int .i64 n, .slice (some ⟨w5.heap.size + 3, 0, none⟩) a.length a.length] 28)) (fun _ => False)) (fun h => h))
    have HX6 := Lib.hid (Cells2.new w6 (.int .i64 n) (.slice (some ⟨w5.heap.size + 3, 0, none⟩) a.length a.length) 28)
    have HI6 := Lib.hid ((ht6.ints (B := w6.heap.size) ht6.1 HA.out.1 HA.out.2.1).lift ((Below.refl w6.heap.size w6).alloc (Nat.le_refl _) (.cells #[.int .i64 n, .slice (some ⟨w5.heap.size + 3, 0, none⟩) a.length a.length] 28)))
    have HCB6 := Lib.hid (HCB5.out.below hal6 HCB5.out.2.2.2.2)
    clear ht6 hb6 hal6 c0 c1
    obtain ⟨d0, d1, _, _, _⟩ := HCB6.out
    obtain ⟨g6, hg6⟩ : ∃ g, w5.heap.size + 3 = g := ⟨_, rfl⟩
    rw [hg6] at HV6 HT6 HX6 HI6 HCB6 d0 d1 hz6 ⊢
    have hg65 : w5.heap.size ≤ g6 := by omega
    clear hg6
    go_wp2_with fail
    have hz6a : (w6.alloc (.cells #[.int .i64 n, .slice (some ⟨g6, 0, none⟩) a.length a.length] 28)).heap.size = w6.heap.size + 1 := by simp
    generalize w6.alloc (.cells #[.int .i64 n, .slice (some ⟨g6, 0, none⟩) a.length a.length] 28) = w6a at *
    refine (toRhythm_any m B cb b _ ((HB.out.below (HW5.out.trans (HV6.out.mono (by omega)))).mono (by have := HCB6.out.2.2.2.2; omega)) hsb).mono ?_
    rintro e w7 ⟨rfl, ht7, hb7⟩
    have hz7 : w6a.heap.size + 3 < w7.heap.size := ht7.1
    have hal7 := hb7.alloc hb7.size (.cells #[.int .i64 m, .slice (some ⟨w6a.heap.size + 3, 0, none⟩) b.length b.length] 28)
    have HV7 := Lib.hid (HV6.out.trans (hal7.mono (by omega)))
    have HT6b := Lib.hid (HT6.out.frm (Frm.pure hal7 (fun _ => False)) (fun h => h))
    have HT7 := Lib.hid (ht7.tabV.frm (Frm.pure ((Below.refl w7.heap.size w7).alloc (Nat.le_refl _) (.cells #[.int .i64 m, .slice (some ⟨w6a.heap.size + 3, 0, none⟩) b.length b.length] 28)) (fun _ => False)) (fun h => h))
    have HX6b := Lib.hid (HX6.out.below hal7 HX6.out.2.2.2.2)
    have HX7 := Lib.hid (Cells2.new w7 (.int .i64 m) (.slice (some ⟨w6a.heap.size + 3, 0, none⟩) b.length b.length) 28)
    have HI6b := Lib.hid (HI6.out.lift hal7)
    have HI7 := Lib.hid ((ht7.ints (B := w7.heap.size) ht7.1 HB.out.1 HB.out.2.1).lift ((Below.refl w7.heap.size w7).alloc (Nat.le_refl _) (.cells #[.int .i64 m, .slice (some ⟨w6a.heap.size + 3, 0, none⟩) b.length b.length] 28)))
    clear ht7 hb7 hal7 d0 d1 HT6 HX6 HI6 HCB6 HV6
    obtain ⟨g7, hg7⟩ : ∃ g, w6a.heap.size + 3 = g := ⟨_, rfl⟩
    rw [hg7] at HV7 HT7 HX7 HI7 HT6b HX6b HI6b hz7 ⊢
    have hg76 : w6.heap.size + 1 < g7 := by omega
    clear hg7
    obtain ⟨x0, x1, _, _, _⟩ := HX6b.out
    obtain ⟨y0, y1, _, _, _⟩ := HX7.out
    go_wp2_with fail
    have hz7a : (w7.alloc (.cells #[.int .i64 m, .slice (some ⟨g7, 0, none⟩) b.length b.length] 28)).heap.size = w7.heap.size + 1 := by simp
    generalize w7.alloc (.cells #[.int .i64 m, .slice (some ⟨g7, 0, none⟩) b.length b.length] 28) = w7a at *
    obtain ⟨p0, hp0⟩ : ∃ p, w6.heap.size = p := ⟨_, rfl⟩
    obtain ⟨p1, hp1⟩ : ∃ p, w7.heap.size = p := ⟨_, rfl⟩
    rw [hp0] at HX6b hz6 hz6a hg76 x0 x1 ⊢
    rw [hp1] at HX7 hz7 hz7a y0 y1 ⊢
    clear hp0 hp1
    refine (HI.out _ _ _ _ _ HI6b.out HI7.out).mono ?_
    rintro e w8z ⟨A8, c8, rfl, hrw8, hb8⟩
    have hz8z := hb8.size
    have hal8 := hb8.alloc hb8.size (.cells #[.int .i64 N, .slice A8 L.length c8] 28)
    have hp8 := (Below.refl w8z.heap.size w8z).alloc (Nat.le_refl _) (.cells #[.int .i64 N, .slice A8 L.length c8] 28)
    have HV8 := Lib.hid (HV7.out.trans (hal8.mono (by omega)))
    have HT6c := Lib.hid (HT6b.out.frm (Frm.pure hal8 (fun _ => False)) (fun h => h))
    have HT7b := Lib.hid (HT7.out.frm (Frm.pure hal8 (fun _ => False)) (fun h => h))
    have HX6c := Lib.hid (HX6b.out.below hal8 HX6b.out.2.2.2.2)
    have HX7b := Lib.hid (HX7.out.below hal8 HX7.out.2.2.2.2)
    have HI6c := Lib.hid (HI6b.out.lift hal8)
    have HI7b := Lib.hid (HI7.out.lift hal8)
    have HX8 := Lib.hid (Cells2.new w8z (.int .i64 N) (.slice A8 L.length c8) 28)
    have HI8 := Lib.hid ((hrw8.ints HFT.out).lift hp8)
    have HH8 := Lib.hid (show HeldV (w8z.alloc (.cells #[.int .i64 N, .slice A8 L.length c8] 28)) A8 L.length (fun t => .int .i64 (L.getD t 0)) w7a.heap.size w8z.heap.size from fun hn => by
      obtain ⟨b', e', hge, ht⟩ := hrw8.2 hn
      exact ⟨b', e', hge, ht.1, ht.tabV.frm (Frm.pure hp8 (fun _ => False)) (fun h => h)⟩)
    have HX5b := Lib.hid (HX5.out.below HV8.out hg5l)
    have HI5b := Lib.hid ((HI5.out.below HV8.out).mono (show w5.heap.size ≤ (w8z.alloc (.cells #[.int .i64 N, .slice A8 L.length c8] 28)).heap.size from HV8.out.size))
    clear hb8 hal8 hp8 hrw8 x0 x1 y0 y1 HV7 HT6b HT7 HX6b HX7 HI6b HI7
    obtain ⟨x0, x1, _, _, _⟩ := HX8.out
    obtain ⟨y0, y1, _, _, _⟩ := HX5b.out
    have heL := eqB_self L
    go_wp2_with fail
    have hz8a : (w8z.alloc (.cells #[.int .i64 N, .slice A8 L.length c8] 28)).heap.size = w8z.heap.size + 1 := by simp
    generalize w8z.alloc (.cells #[.int .i64 N, .slice A8 L.length c8] 28) = w8 at *
    obtain ⟨p8, hp8⟩ : ∃ p, w8z.heap.size = p := ⟨_, rfl⟩
    rw [hp8] at HX8 HH8 hz8z hz8a x0 x1 ⊢
    clear hp8
    refine (eqRhythm_any N N _ _ _ _ L L _ HI8.out HI5b.out).mono ?_
    rintro e w9 ⟨rfl, hb9⟩
    have HE9 := Lib.hid (Frm.pure hb9 (fun _ => False))
    have HV9 := Lib.hid (HV8.out.trans (hb9.mono (by omega)))
    have hz9 := hb9.size
    clear hb9 x0 x1 y0 y1
    have HXA10 := Lib.hid (HX6c.out.frmX HE9.out (fun h => h))
    have HCA10 := Lib.hid (HCA5.out.below HV9.out HCA5.out.2.2.2.2)
    obtain ⟨x0, x1, _, _, _⟩ := HXA10.out
    obtain ⟨c0, c1, _, _, _⟩ := HCA10.out
    have he := eqB_self a
    go_wp2_with fail
    have HE9d := Lib.hid HE9.out.drew
    have HV9d := Lib.hid (Below.drew5_ HV9.out)
    have hz9d : w9.heap.size ≤ w9.drew.heap.size := Nat.le_refl _
    have HXB10 := Lib.hid (HX6c.out.frmX HE9d.out (fun h => h))
    have HCB10 := Lib.hid (HCA5.out.below HV9d.out HCA5.out.2.2.2.2)
    (refine wp_region_held_drew (S := (fun w' => w'.cell? ⟨p0, 0, none⟩ = some (.int .i64 n) ∧ w'.cell? ⟨p0, 1, none⟩ = some (.slice (some ⟨g6, 0, none⟩) a.length a.length) ∧ w'.cell? ⟨q, 0, none⟩ = some (.int .i64 n) ∧ w'.cell? ⟨q, 1, none⟩ = some (.slice A a.length ca))) (by kernel_rfl) ?_ (fun hHeld => ?_); (focus ((try dsimp only); exact ⟨x0, x1, c0, c1⟩)))
    generalize w9.drew = w9d at *
    (refine wpAnyH_take (i := 0) (v := ?_) rfl (by kernel_rfl) (by kernel_rfl) (by kernel_rfl) (fun _ _ _ h => h) (Or.inl ⟨by rfl, ?_⟩) (by assumption) ?_; rotate_left; (focus (intro wS hSw; (try dsimp only at hSw); go_simp; (try with_reducible rfl))); (try simp only [Act.put, List.getElem_toArray, List.getElem_cons_zero, List.getElem_cons_succ, List.setIfInBounds_toArray, List.set_cons_zero, List.set_cons_succ]))
    (refine wpAnyH_take (i := 1) (v := ?_) rfl (by kernel_rfl) (by kernel_rfl) (by kernel_rfl) (fun _ _ _ h => h) (Or.inl ⟨by rfl, ?_⟩) (by assumption) ?_; rotate_left; (focus (intro wS hSw; (try dsimp only at hSw); go_simp; (try with_reducible rfl))); (try simp only [Act.put, List.getElem_toArray, List.getElem_cons_zero, List.getElem_cons_succ, List.setIfInBounds_toArray, List.set_cons_zero, List.set_cons_succ]))
    (refine wpAnyH_ready (rs := [2]) (by kernel_rfl) (by simp) ?_; refine AllReadyH.cons rfl (fun K hK => ?_) AllReadyH.nil; go_simp)
    go_at_call 7
    refine (toRhythm_any n A ca a _ ((HA.out.below (HW5.out.trans (HV9d.out.mono (by omega)))).mono (by omega)) hsa).mono ?_
    rintro e w10 ⟨rfl, ht, hb⟩
    have HE10 := Lib.hid (HE9d.out.trans (Frm.pure hb (fun _ => False)))
    have HV10 := Lib.hid (HV9d.out.trans (hb.mono (by omega)))
    have hz10 := hb.size
    have HXC10 := Lib.hid (HX6c.out.frmX HE10.out (fun h => h))
    have HCC10 := Lib.hid (HCA5.out.below HV10.out HCA5.out.2.2.2.2)
    have HIT10 := Lib.hid (ht.ints (B := w10.heap.size) ht.1 HA.out.1 HA.out.2.1)
    have HIX10 := Lib.hid (HI6c.out.lift (Frm.below (B := w8.heap.size) HE10.out (fun _ h => h.elim) (Nat.le_refl _)))
    clear ht hb x0 x1 c0 c1
    obtain ⟨x0, x1, _, _, _⟩ := HXC10.out
    obtain ⟨c0, c1, _, _, _⟩ := HCC10.out
    go_wp2_with fail
    (refine hK.out _ _ ?_ (fun hHeld2 => ?_); (focus ((try dsimp only); exact ⟨x0, x1, c0, c1⟩)); (clear hK K); (try simp only [Act.put, List.getElem_toArray, List.getElem_cons_zero, List.getElem_cons_succ, List.setIfInBounds_toArray, List.set_cons_zero, List.set_cons_succ]))
    (refine wpAnyH_ready (rs := [3]) (by kernel_rfl) (by simp) ?_; refine AllReadyH.cons rfl (fun K hK => ?_) AllReadyH.nil; go_simp)
    go_at_call 10
    refine (eqRhythm_any n n _ _ _ _ a a _ HIX10.out HIT10.out).mono ?_
    rintro e w11 ⟨rfl, hb⟩
    have HE11 := Lib.hid (HE10.out.trans (Frm.pure hb (fun _ => False)))
    have HV11 := Lib.hid (HV10.out.trans (hb.mono (by omega)))
    have hz11 := hb.size
    have HXD10 := Lib.hid (HX6c.out.frmX HE11.out (fun h => h))
    have HCD10 := Lib.hid (HCA5.out.below HV11.out HCA5.out.2.2.2.2)
    clear hb x0 x1 c0 c1
    obtain ⟨x0, x1, _, _, _⟩ := HXD10.out
    obtain ⟨c0, c1, _, _, _⟩ := HCD10.out
    go_wp2_with fail
    (refine hK.out _ _ ?_ (fun hHeld2 => ?_); (focus ((try dsimp only); exact ⟨x0, x1, c0, c1⟩)); (clear hK K); (try simp only [Act.put, List.getElem_toArray, List.getElem_cons_zero, List.getElem_cons_succ, List.setIfInBounds_toArray, List.set_cons_zero, List.set_cons_succ]))
    (refine wpAnyH_take (i := 4) (v := ?_) rfl (by kernel_rfl) (by kernel_rfl) (by kernel_rfl) (fun _ _ _ h => h) (Or.inl ⟨by rfl, ?_⟩) (by assumption) ?_; rotate_left; (focus (intro wS hSw; (try dsimp only at hSw); go_simp; (try with_reducible rfl))); (try simp only [Act.put, List.getElem_toArray, List.getElem_cons_zero, List.getElem_cons_succ, List.setIfInBounds_toArray, List.set_cons_zero, List.set_cons_succ]))
    refine wpAnyH_done (by kernel_rfl) ?_ _
    clear x0 x1 c0 c1 he
    have HXA12 := Lib.hid (HX7b.out.frmX HE11.out (fun h => h))
    have HCA12 := Lib.hid (HCB5.out.below HV11.out HCB5.out.2.2.2.2)
    obtain ⟨x0, x1, _, _, _⟩ := HXA12.out
    obtain ⟨c0, c1, _, _, _⟩ := HCA12.out
    have he := eqB_self b
    go_wp2_with fail
    have HE11d := Lib.hid HE11.out.drew
    have HV11d := Lib.hid (Below.drew5_ HV11.out)
    have hz11d : w11.heap.size ≤ w11.drew.heap.size := Nat.le_refl _
    have HXB12 := Lib.hid (HX7b.out.frmX HE11d.out (fun h => h))
    have HCB12 := Lib.hid (HCB5.out.below HV11d.out HCB5.out.2.2.2.2)
    (refine wp_region_held_drew (S := (fun w' => w'.cell? ⟨p1, 0, none⟩ = some (.int .i64 m) ∧ w'.cell? ⟨p1, 1, none⟩ = some (.slice (some ⟨g7, 0, none⟩) b.length b.length) ∧ w'.cell? ⟨q + 1, 0, none⟩ = some (.int .i64 m) ∧ w'.cell? ⟨q + 1, 1, none⟩ = some (.slice B b.length cb))) (by kernel_rfl) ?_ (fun hHeld => ?_); (focus ((try dsimp only); exact ⟨x0, x1, c0, c1⟩)))
    generalize w11.drew = w11d at *
    (refine wpAnyH_take (i := 0) (v := ?_) rfl (by kernel_rfl) (by kernel_rfl) (by kernel_rfl) (fun _ _ _ h => h) (Or.inl ⟨by rfl, ?_⟩) (by assumption) ?_; rotate_left; (focus (intro wS hSw; (try dsimp only at hSw); go_simp; (try with_reducible rfl))); (try simp only [Act.put, List.getElem_toArray, List.getElem_cons_zero, List.getElem_cons_succ, List.setIfInBounds_toArray, List.set_cons_zero, List.set_cons_succ]))
    (refine wpAnyH_take (i := 1) (v := ?_) rfl (by kernel_rfl) (by kernel_rfl) (by kernel_rfl) (fun _ _ _ h => h) (Or.inl ⟨by rfl, ?_⟩) (by assumption) ?_; rotate_left; (focus (intro wS hSw; (try dsimp only at hSw); go_simp; (try with_reducible rfl))); (try simp only [Act.put, List.getElem_toArray, List.getElem_cons_zero, List.getElem_cons_succ, List.setIfInBounds_toArray, List.set_cons_zero, List.set_cons_succ]))
    (refine wpAnyH_ready (rs := [2]) (by kernel_rfl) (by simp) ?_; refine AllReadyH.cons rfl (fun K hK => ?_) AllReadyH.nil; go_simp)
    go_at_call 7
    refine (toRhythm_any m B cb b _ ((HB.out.below (HW5.out.trans (HV11d.out.mono (by omega)))).mono (by omega)) hsb).mono ?_
    rintro e w12 ⟨rfl, ht, hb⟩
    have HE12 := Lib.hid (HE11d.out.trans (Frm.pure hb (fun _ => False)))
    have HV12 := Lib.hid (HV11d.out.trans (hb.mono (by omega)))
    have hz12 := hb.size
    have HXC12 := Lib.hid (HX7b.out.frmX HE12.out (fun h => h))
    have HCC12 := Lib.hid (HCB5.out.below HV12.out HCB5.out.2.2.2.2)
    have HIT12 := Lib.hid (ht.ints (B := w12.heap.size) ht.1 HB.out.1 HB.out.2.1)
    have HIX12 := Lib.hid (HI7b.out.lift (Frm.below (B := w8.heap.size) HE12.out (fun _ h => h.elim) (Nat.le_refl _)))
    clear ht hb x0 x1 c0 c1
    obtain ⟨x0, x1, _, _, _⟩ := HXC12.out
    obtain ⟨c0, c1, _, _, _⟩ := HCC12.out
    go_wp2_with fail
    (refine hK.out _ _ ?_ (fun hHeld2 => ?_); (focus ((try dsimp only); exact ⟨x0, x1, c0, c1⟩)); (clear hK K); (try simp only [Act.put, List.getElem_toArray, List.getElem_cons_zero, List.getElem_cons_succ, List.setIfInBounds_toArray, List.set_cons_zero, List.set_cons_succ]))
    (refine wpAnyH_ready (rs := [3]) (by kernel_rfl) (by simp) ?_; refine AllReadyH.cons rfl (fun K hK => ?_) AllReadyH.nil; go_simp)
    go_at_call 10
    refine (eqRhythm_any m m _ _ _ _ b b _ HIX12.out HIT12.out).mono ?_
    rintro e w13 ⟨rfl, hb⟩
    have HE13 := Lib.hid (HE12.out.trans (Frm.pure hb (fun _ => False)))
    have HV13 := Lib.hid (HV12.out.trans (hb.mono (by omega)))
    have hz13 := hb.size
    have HXD12 := Lib.hid (HX7b.out.frmX HE13.out (fun h => h))
    have HCD12 := Lib.hid (HCB5.out.below HV13.out HCB5.out.2.2.2.2)
    clear hb x0 x1 c0 c1
    obtain ⟨x0, x1, _, _, _⟩ := HXD12.out
    obtain ⟨c0, c1, _, _, _⟩ := HCD12.out
    go_wp2_with fail
    (refine hK.out _ _ ?_ (fun hHeld2 => ?_); (focus ((try dsimp only); exact ⟨x0, x1, c0, c1⟩)); (clear hK K); (try simp only [Act.put, List.getElem_toArray, List.getElem_cons_zero, List.getElem_cons_succ, List.setIfInBounds_toArray, List.set_cons_zero, List.set_cons_succ]))
    (refine wpAnyH_take (i := 4) (v := ?_) rfl (by kernel_rfl) (by kernel_rfl) (by kernel_rfl) (fun _ _ _ h => h) (Or.inl ⟨by rfl, ?_⟩) (by assumption) ?_; rotate_left; (focus (intro wS hSw; (try dsimp only at hSw); go_simp; (try with_reducible rfl))); (try simp only [Act.put, List.getElem_toArray, List.getElem_cons_zero, List.getElem_cons_succ, List.setIfInBounds_toArray, List.set_cons_zero, List.set_cons_succ]))
    refine wpAnyH_done (by kernel_rfl) ?_ _
    clear x0 x1 c0 c1 he
    have HM6 := Lib.hid (show HeldV w13 (some ⟨g6, 0, none⟩) a.length (fun t => .int .i64 (a.getD t 0)) g6 (g6 + 1) from fun _ => ⟨g6, rfl, Nat.le_refl _, Nat.lt_succ_self _, HT6c.out.frm HE13.out (fun h => h)⟩)
    have HM7 := Lib.hid (show HeldV w13 (some ⟨g7, 0, none⟩) b.length (fun t => .int .i64 (b.getD t 0)) g7 (g7 + 1) from fun _ => ⟨g7, rfl, Nat.le_refl _, Nat.lt_succ_self _, HT7b.out.frm HE13.out (fun h => h)⟩)
    have HX13 := Lib.hid (HX6c.out.frmX HE13.out (fun h => h))
    have HY13 := Lib.hid (HX7b.out.frmX HE13.out (fun h => h))
    obtain ⟨x0, x1, _, _, _⟩ := HX13.out
    go_wp2_with fail
    refine (markRhythm2_any n (some ⟨g6, 0, none⟩) a.length a.length _ 1 g6 (g6 + 1) _ hsa HM6.out (by omega) (by omega) (by omega)).mono ?_
    rintro e w14 ⟨rfl, _, hf⟩
    have HF14 := Lib.hid hf
    have hz14 := hf.size
    have HV14 := Lib.hid (HV13.out.trans (hf.below (B := w5.heap.size) (fun c h => by have := h.1; omega) (by omega)))
    have HY14 := Lib.hid (HY13.out.frmX hf (fun h => by have := h.1; have := h.2; omega))
    have HM7b := Lib.hid (HM7.out.frm hf (fun c h1 h2 h => by have := h.2; omega))
    clear hf x0 x1
    obtain ⟨y0, y1, _, _, _⟩ := HY14.out
    have hk0 : (0 : Int) ≤ 1 + (a.length : Int) := by omega
    have hk1 : 1 + (a.length : Int) ≤ 1000000000000 := by omega
    have hkn : ¬ (1 + (a.length : Int) + (b.length : Int) < 0) := by omega
    go_wp2_with fail
    refine (markRhythm2_any m (some ⟨g7, 0, none⟩) b.length b.length _ (1 + (a.length : Int)) g7 (g7 + 1) _ hsb HM7b.out (by omega) hk0 hk1).mono ?_
    rintro e w15 ⟨rfl, _, hf⟩
    have HF15 := Lib.hid (HF14.out.mono (T := fun c => c = g6 ∨ c = g7) (fun c h => .inl (by have := h.1; have := h.2; omega)) |>.trans (hf.mono (fun c h => .inr (by have := h.1; have := h.2; omega))))
    have hz15 := hf.size
    have HV15 := Lib.hid (HV14.out.trans (hf.below (B := w5.heap.size) (fun c h => by have := h.1; omega) (by omega)))
    clear hf y0 y1
    have HX15 := Lib.hid ((HX8.out.frmX HE13.out (fun h => h)).frmX HF15.out (fun h => by rcases h with h | h <;> omega))
    have HY15 := Lib.hid (HX5.out.below HV15.out hg5l)
    have HH15 := Lib.hid ((HH8.out.frm HE13.out (fun _ _ _ h => h)).frm HF15.out (fun c h1 _ h => by rcases h with h | h <;> omega))
    have HI15 := Lib.hid (heldV_ints (by omega) HFT.out HH15.out)
    have HJ15 := Lib.hid ((HI5.out.below HV15.out).mono (show w5.heap.size ≤ w15.heap.size from HV15.out.size))
    obtain ⟨x0, x1, _, _, _⟩ := HX15.out
    obtain ⟨y0, y1, _, _, _⟩ := HY15.out
    go_wp2_with (go_at_call 10; refine (eqRhythm_any N N _ _ _ _ L L _ HI15.out HJ15.out).mono ?_; rintro e w16 ⟨rfl, hb16⟩; have HE16 := Lib.hid (Frm.pure hb16 (fun _ => False)); have HX16 := Lib.hid (HX15.out.frmX HE16.out (fun h => h)); have HB16 := Lib.hid hb16; clear hb16 x0 x1 y0 y1; obtain ⟨x0, x1, _, _, _⟩ := HX16.out)
    have HH16 := Lib.hid (HH15.out.frm HE16.out (fun _ _ _ h => h))
    have HV16 := Lib.hid (HV15.out.trans (HB16.out.mono (by omega)))
    have hz16 := HB16.out.size
    refine (markRhythm2_any N A8 c8 L.length _ 1 w7a.heap.size p8 _ hL HH16.out (by omega) (by omega) (by omega)).mono ?_
    rintro e w17 ⟨rfl, hh17, hf17⟩
    have HH17 := Lib.hid hh17
    have HV17 := Lib.hid (HV16.out.trans (hf17.below (B := w5.heap.size) (fun c h => by have := h.1; omega) (by omega)))
    have hz17 := hf17.size
    have HX17 := Lib.hid (HX16.out.frmX hf17 (fun h => by have := h.2; omega))
    have hkn2 : ¬ (1 + (L.length : Int) < 0) := by omega
    clear hh17 hf17 x0 x1
    obtain ⟨x0, x1, _, _, _⟩ := HX17.out
    go_wp2_with fail
    refine (heldRhythm_any N A8 c8 L.length 1 w7a.heap.size p8 _ hL (fun hn => HH17.out hn) (by omega) (by omega) (by omega)).mono ?_
    rintro e w18 ⟨rfl, hb18⟩
    have HE18 := Lib.hid (Frm.pure hb18 (fun _ => False))
    have HH18 := Lib.hid (HH17.out.frm HE18.out (fun _ _ _ h => h))
    have HX18 := Lib.hid (HX17.out.frmX HE18.out (fun h => h))
    have HV18 := Lib.hid (HV17.out.trans (hb18.mono (by omega)))
    have hz18 := hb18.size
    have HW18 := Lib.hid (HW5.out.trans (HV18.out.mono (by omega)))
    have HCA18 := Lib.hid (HCA5.out.below HV18.out HCA5.out.2.2.2.2)
    have HCB18 := Lib.hid (HCB5.out.below HV18.out HCB5.out.2.2.2.2)
    have hqb : q + 2 ≤ w18.heap.size := by omega
    clear hb18 x0 x1
    obtain ⟨c0, c1, _, _, _⟩ := HCA18.out
    obtain ⟨d0, d1, _, _, _⟩ := HCB18.out
    go_wp2_with fail
    go_cut [15, 16] from 94 to 102 (fun s6 s7 wx => ∃ (g5 : Nat) (A5 : Option Addr) (c5 : Nat), s6 = .pointer (some ⟨g5, 0, none⟩) ∧ s7 = .bool ok ∧ Cells2 wx g5 (.int .i64 N) (.slice A5 L.length c5) ∧ Ints wx wx.heap.size A5 L ∧ Below q w wx ∧ Cells2 wx q (.int .i64 n) (.slice A a.length ca) ∧ Cells2 wx (q + 1) (.int .i64 m) (.slice B b.length cb) ∧ L.length ≤ 1048576 ∧ Below w18.heap.size w18 wx)
    case first =>
      have HZ := Lib.hid (show Below w18.heap.size w18 w18.drew from Below.drew5_ (Below.refl w18.heap.size w18))
      have HW := Lib.hid (show Below q w w18.drew from Below.drew5_ HW18.out)
      have HCA := Lib.hid (show Cells2 w18.drew q (.int .i64 n) (.slice A a.length ca) from HCA18.out)
      have HCB := Lib.hid (show Cells2 w18.drew (q + 1) (.int .i64 m) (.slice B b.length cb) from HCB18.out)
      have hq2 : q + 2 ≤ w18.drew.heap.size := hqb
      (refine wp_region_held_drew (S := (fun w' => w'.cell? ⟨q, 0, none⟩ = some (.int .i64 n) ∧ w'.cell? ⟨q, 1, none⟩ = some (.slice A a.length ca) ∧ w'.cell? ⟨q + 1, 0, none⟩ = some (.int .i64 m) ∧ w'.cell? ⟨q + 1, 1, none⟩ = some (.slice B b.length cb))) (by kernel_rfl) ?_ (fun hHeld => ?_); (focus ((try dsimp only); exact ⟨c0, c1, d0, d1⟩)))
      clear hqb
      generalize w18.drew = wx at *
      (refine wpAnyH_take (i := 0) (v := ?_) rfl (by kernel_rfl) (by kernel_rfl) (by kernel_rfl) (fun _ _ _ h => h) (Or.inl ⟨by rfl, ?_⟩) (by assumption) ?_; rotate_left; (focus (intro wS hSw; (try dsimp only at hSw); go_simp; (try with_reducible rfl))); (try simp only [Act.put, List.getElem_toArray, List.getElem_cons_zero, List.getElem_cons_succ, List.setIfInBounds_toArray, List.set_cons_zero, List.set_cons_succ]))
      (refine wpAnyH_take (i := 2) (v := ?_) rfl (by kernel_rfl) (by kernel_rfl) (by kernel_rfl) (fun _ _ _ h => h) (Or.inl ⟨by rfl, ?_⟩) (by assumption) ?_; rotate_left; (focus (intro wS hSw; (try dsimp only at hSw); go_simp; (try with_reducible rfl))); (try simp only [Act.put, List.getElem_toArray, List.getElem_cons_zero, List.getElem_cons_succ, List.setIfInBounds_toArray, List.set_cons_zero, List.set_cons_succ]))
      refine wpAnyH_ready (rs := [1, 8]) (by kernel_rfl) (by simp) ?_
      refine AllReadyH.cons rfl (fun K hK => ?_) (AllReadyH.cons rfl (fun K hK => ?_) AllReadyH.nil)
      · go_simp
        go_at_call 7
        refine (toRhythm_any n A ca a _ ((HA.out.below HW.out).mono (by omega)) hsa).mono ?_
        rintro e wx ⟨rfl, ht, hb⟩
        have HZ := Lib.hid (HZ.out.trans (hb.mono HZ.out.size))
        have HW := Lib.hid (HW.out.trans (hb.mono (by omega)))
        have HCA := Lib.hid (HCA.out.below hb HCA.out.2.2.2.2)
        have HCB := Lib.hid (HCB.out.below hb HCB.out.2.2.2.2)
        have hq2 := Nat.le_trans hq2 hb.size
        try have HI3 := Lib.hid (HI3.out.lift hb)
        try have HI4 := Lib.hid (HI4.out.lift hb)
        try have HG := Lib.hid (HG.out.below hb HG.out.2.2.2.2)
        try have hgl := Nat.lt_of_lt_of_le hgl hb.size
        have HI3 := Lib.hid (ht.ints (B := wx.heap.size) ht.1 HA.out.1 HA.out.2.1)
        clear ht hb
        clear c0 c1 d0 d1
        obtain ⟨c0, c1, _, _, _⟩ := HCA.out
        obtain ⟨d0, d1, _, _, _⟩ := HCB.out
        go_wp2_with fail
        (refine hK.out _ _ ?_ (fun hHeld2 => ?_); (focus ((try dsimp only); exact ⟨c0, c1, d0, d1⟩)); (clear hK K); (try simp only [Act.put, List.getElem_toArray, List.getElem_cons_zero, List.getElem_cons_succ, List.setIfInBounds_toArray, List.set_cons_zero, List.set_cons_succ]))
        refine wpAnyH_ready (rs := [3, 8]) (by kernel_rfl) (by simp) ?_
        refine AllReadyH.cons rfl (fun K hK => ?_) (AllReadyH.cons rfl (fun K hK => ?_) AllReadyH.nil)
        · go_simp
          go_at_call 7
          refine (toRhythm_any m B cb b _ ((HB.out.below HW.out).mono (by omega)) hsb).mono ?_
          rintro e wx ⟨rfl, ht, hb⟩
          have HZ := Lib.hid (HZ.out.trans (hb.mono HZ.out.size))
          have HW := Lib.hid (HW.out.trans (hb.mono (by omega)))
          have HCA := Lib.hid (HCA.out.below hb HCA.out.2.2.2.2)
          have HCB := Lib.hid (HCB.out.below hb HCB.out.2.2.2.2)
          have hq2 := Nat.le_trans hq2 hb.size
          try have HI3 := Lib.hid (HI3.out.lift hb)
          try have HI4 := Lib.hid (HI4.out.lift hb)
          try have HG := Lib.hid (HG.out.below hb HG.out.2.2.2.2)
          try have hgl := Nat.lt_of_lt_of_le hgl hb.size
          have HI4 := Lib.hid (ht.ints (B := wx.heap.size) ht.1 HB.out.1 HB.out.2.1)
          clear ht hb
          clear c0 c1 d0 d1
          obtain ⟨c0, c1, _, _, _⟩ := HCA.out
          obtain ⟨d0, d1, _, _, _⟩ := HCB.out
          go_wp2_with fail
          (refine hK.out _ _ ?_ (fun hHeld2 => ?_); (focus ((try dsimp only); exact ⟨c0, c1, d0, d1⟩)); (clear hK K); (try simp only [Act.put, List.getElem_toArray, List.getElem_cons_zero, List.getElem_cons_succ, List.setIfInBounds_toArray, List.set_cons_zero, List.set_cons_succ]))
          refine wpAnyH_ready (rs := [4, 8]) (by kernel_rfl) (by simp) ?_
          refine AllReadyH.cons rfl (fun K hK => ?_) (AllReadyH.cons rfl (fun K hK => ?_) AllReadyH.nil)
          · go_simp
            go_at_call 15
            refine (HI.out _ _ _ _ _ HI3.out HI4.out).mono ?_
            rintro e wx ⟨A5, c5, rfl, hrw5, hb⟩
            try have hgb := hgl
            have HZ := Lib.hid (HZ.out.trans (hb.mono HZ.out.size))
            have HW := Lib.hid (HW.out.trans (hb.mono (by omega)))
            have HCA := Lib.hid (HCA.out.below hb HCA.out.2.2.2.2)
            have HCB := Lib.hid (HCB.out.below hb HCB.out.2.2.2.2)
            have hq2 := Nat.le_trans hq2 hb.size
            try have HI3 := Lib.hid (HI3.out.lift hb)
            try have HI4 := Lib.hid (HI4.out.lift hb)
            try have HG := Lib.hid (HG.out.below hb HG.out.2.2.2.2)
            try have hgl := Nat.lt_of_lt_of_le hgl hb.size
            have HR5 := Lib.hid hrw5
            have HI5 := Lib.hid (hrw5.ints HFT.out)
            clear hb hrw5
            clear c0 c1 d0 d1
            obtain ⟨c0, c1, _, _, _⟩ := HCA.out
            obtain ⟨d0, d1, _, _, _⟩ := HCB.out
            go_wp2_with fail
            (refine hK.out _ _ ?_ (fun hHeld2 => ?_); (focus ((try dsimp only); exact ⟨c0, c1, d0, d1⟩)); (clear hK K); (try simp only [Act.put, List.getElem_toArray, List.getElem_cons_zero, List.getElem_cons_succ, List.setIfInBounds_toArray, List.set_cons_zero, List.set_cons_succ]))
            (refine wpAnyH_take (i := 5) (v := ?_) rfl (by kernel_rfl) (by kernel_rfl) (by kernel_rfl) (fun _ _ _ h => h) (Or.inl ⟨by rfl, ?_⟩) (by assumption) ?_; rotate_left; (focus (intro wS hSw; (try dsimp only at hSw); go_simp; (try with_reducible rfl))); (try simp only [Act.put, List.getElem_toArray, List.getElem_cons_zero, List.getElem_cons_succ, List.setIfInBounds_toArray, List.set_cons_zero, List.set_cons_succ]))
            (refine wpAnyH_take (i := 6) (v := ?_) rfl (by kernel_rfl) (by kernel_rfl) (by kernel_rfl) (fun _ _ _ h => h) (Or.inl ⟨by rfl, ?_⟩) (by assumption) ?_; rotate_left; (focus (intro wS hSw; (try dsimp only at hSw); go_simp; (try with_reducible rfl))); (try simp only [Act.put, List.getElem_toArray, List.getElem_cons_zero, List.getElem_cons_succ, List.setIfInBounds_toArray, List.set_cons_zero, List.set_cons_succ]))
            (refine wpAnyH_take (i := 7) (v := ?_) rfl (by kernel_rfl) (by kernel_rfl) (by kernel_rfl) (fun _ _ _ h => h) (Or.inl ⟨by rfl, ?_⟩) (by assumption) ?_; rotate_left; (focus (intro wS hSw; (try dsimp only at hSw); go_simp; (try with_reducible rfl))); (try simp only [Act.put, List.getElem_toArray, List.getElem_cons_zero, List.getElem_cons_succ, List.setIfInBounds_toArray, List.set_cons_zero, List.set_cons_succ]))
            have hqb := hq2
            (refine wpAnyH_ready (rs := [8]) (by kernel_rfl) (by simp) ?_; refine AllReadyH.cons rfl (fun K hK => ?_) AllReadyH.nil; go_simp)
            have hgz := HZ.out.size
            have hb := (Below.refl wx.heap.size wx).alloc (Nat.le_refl _) (.cells #[.int .i64 0, .slice none 0 0] 28)
            try have HI5 := Lib.hid (HI5.out.below hb)
            have HZ := Lib.hid (HZ.out.trans (hb.mono HZ.out.size))
            have HW := Lib.hid (HW.out.trans (hb.mono (by omega)))
            have HCA := Lib.hid (HCA.out.below hb HCA.out.2.2.2.2)
            have HCB := Lib.hid (HCB.out.below hb HCB.out.2.2.2.2)
            have hq2 := Nat.le_trans hq2 hb.size
            try have HI3 := Lib.hid (HI3.out.lift hb)
            try have HI4 := Lib.hid (HI4.out.lift hb)
            try have HG := Lib.hid (HG.out.below hb HG.out.2.2.2.2)
            try have hgl := Nat.lt_of_lt_of_le hgl hb.size
            have HG := Lib.hid (Cells2.new wx (.int .i64 0) (.slice none 0 0) 28)
            clear hb
            clear c0 c1 d0 d1
            obtain ⟨c0, c1, _, _, _⟩ := HCA.out
            obtain ⟨d0, d1, _, _, _⟩ := HCB.out
            have hgl : wx.heap.size < (wx.alloc (.cells #[.int .i64 0, .slice none 0 0] 28)).heap.size := HG.out.2.2.2.2
            have hgq : q + 2 ≤ wx.heap.size := hqb
            generalize wx.alloc (.cells #[.int .i64 0, .slice none 0 0] 28) = wy at *
            obtain ⟨g5, hg5⟩ : ∃ g, wx.heap.size = g := ⟨_, rfl⟩
            simp only [hg5] at *
            clear hg5
            (refine hK.out _ _ ?_ (fun hHeld2 => ?_); (focus ((try dsimp only); exact ⟨c0, c1, d0, d1⟩)); (clear hK K); (try simp only [Act.put, List.getElem_toArray, List.getElem_cons_zero, List.getElem_cons_succ, List.setIfInBounds_toArray, List.set_cons_zero, List.set_cons_succ]))
            obtain ⟨wx, rfl⟩ : ∃ w : World, w = wy := ⟨_, rfl⟩
            obtain ⟨g0, g1, gf0, gf1, _⟩ := HG.out
            (refine wpAnyH_ready (rs := [9]) (by kernel_rfl) (by simp) ?_; refine AllReadyH.cons rfl (fun K hK => ?_) AllReadyH.nil; go_simp)
            have HG9 := Lib.hid ((HG.out.set0 (.int .i64 N)).set1 (.slice A5 L.length c5))
            have hb := ((Below.refl g5 wx).setCell (p := ⟨g5, 0, none⟩) (Nat.le_refl _) (.int .i64 N)).setCell (p := ⟨g5, 1, none⟩) (Nat.le_refl _) (.slice A5 L.length c5)
            have HI9 := Lib.hid (show Ints ((wx.setCell ⟨g5, 0, none⟩ (.int .i64 N)).setCell ⟨g5, 1, none⟩ (.slice A5 L.length c5)) ((wx.setCell ⟨g5, 0, none⟩ (.int .i64 N)).setCell ⟨g5, 1, none⟩ (.slice A5 L.length c5)).heap.size A5 L by
              first
                | exact ((HR5.out.far (p := ⟨g5, 0, none⟩) hgb _).far (p := ⟨g5, 1, none⟩) hgb _).ints HFT.out
                | exact (HI5.out.below hb).mono (Nat.le_of_lt (Nat.lt_of_lt_of_le hgl hb.size)))
            have HCA9 := Lib.hid (HCA.out.below hb (by omega))
            have HCB9 := Lib.hid (HCB.out.below hb (by omega))
            have HW9 := Lib.hid (HW.out.trans (hb.mono (by omega)))
            have HZ9 := Lib.hid (HZ.out.trans (hb.mono hgz))
            clear hb c0 c1 d0 d1 g0 g1 gf0 gf1
            obtain ⟨c0, c1, _, _, _⟩ := HCA9.out
            obtain ⟨d0, d1, _, _, _⟩ := HCB9.out
            (refine hK.out _ _ ?_ (fun hHeld2 => ?_); (focus ((try dsimp only); exact ⟨c0, c1, d0, d1⟩)); (clear hK K); (try simp only [Act.put, List.getElem_toArray, List.getElem_cons_zero, List.getElem_cons_succ, List.setIfInBounds_toArray, List.set_cons_zero, List.set_cons_succ]))
            (refine wpAnyH_take (i := 10) (v := ?_) rfl (by kernel_rfl) (by kernel_rfl) (by kernel_rfl) (fun _ _ _ h => h) (Or.inl ⟨by rfl, ?_⟩) (by assumption) ?_; rotate_left; (focus (intro wS hSw; (try dsimp only at hSw); go_simp; (try with_reducible rfl))); (try simp only [Act.put, List.getElem_toArray, List.getElem_cons_zero, List.getElem_cons_succ, List.setIfInBounds_toArray, List.set_cons_zero, List.set_cons_succ]))
            refine wpAnyH_done (by kernel_rfl) ?_ _
            go_wp2_with fail
            go_meet
            exact ⟨g5, A5, c5, rfl, rfl, HG9.out, HI9.out, HW9.out, HCA9.out, HCB9.out, HR5.out.1, HZ9.out⟩
          · have hqb := hq2
            go_simp
            have hgz := HZ.out.size
            have hb := (Below.refl wx.heap.size wx).alloc (Nat.le_refl _) (.cells #[.int .i64 0, .slice none 0 0] 28)
            try have HI5 := Lib.hid (HI5.out.below hb)
            have HZ := Lib.hid (HZ.out.trans (hb.mono HZ.out.size))
            have HW := Lib.hid (HW.out.trans (hb.mono (by omega)))
            have HCA := Lib.hid (HCA.out.below hb HCA.out.2.2.2.2)
            have HCB := Lib.hid (HCB.out.below hb HCB.out.2.2.2.2)
            have hq2 := Nat.le_trans hq2 hb.size
            try have HI3 := Lib.hid (HI3.out.lift hb)
            try have HI4 := Lib.hid (HI4.out.lift hb)
            try have HG := Lib.hid (HG.out.below hb HG.out.2.2.2.2)
            try have hgl := Nat.lt_of_lt_of_le hgl hb.size
            have HG := Lib.hid (Cells2.new wx (.int .i64 0) (.slice none 0 0) 28)
            clear hb
            clear c0 c1 d0 d1
            obtain ⟨c0, c1, _, _, _⟩ := HCA.out
            obtain ⟨d0, d1, _, _, _⟩ := HCB.out
            have hgl : wx.heap.size < (wx.alloc (.cells #[.int .i64 0, .slice none 0 0] 28)).heap.size := HG.out.2.2.2.2
            have hgq : q + 2 ≤ wx.heap.size := hqb
            generalize wx.alloc (.cells #[.int .i64 0, .slice none 0 0] 28) = wy at *
            obtain ⟨g5, hg5⟩ : ∃ g, wx.heap.size = g := ⟨_, rfl⟩
            simp only [hg5] at *
            clear hg5
            (refine hK.out _ _ ?_ (fun hHeld2 => ?_); (focus ((try dsimp only); exact ⟨c0, c1, d0, d1⟩)); (clear hK K); (try simp only [Act.put, List.getElem_toArray, List.getElem_cons_zero, List.getElem_cons_succ, List.setIfInBounds_toArray, List.set_cons_zero, List.set_cons_succ]))
            obtain ⟨wx, rfl⟩ : ∃ w : World, w = wy := ⟨_, rfl⟩
            (refine wpAnyH_ready (rs := [4]) (by kernel_rfl) (by simp) ?_; refine AllReadyH.cons rfl (fun K hK => ?_) AllReadyH.nil; go_simp)
            go_at_call 15
            refine (HI.out _ _ _ _ _ HI3.out HI4.out).mono ?_
            rintro e wx ⟨A5, c5, rfl, hrw5, hb⟩
            try have hgb := hgl
            have HZ := Lib.hid (HZ.out.trans (hb.mono HZ.out.size))
            have HW := Lib.hid (HW.out.trans (hb.mono (by omega)))
            have HCA := Lib.hid (HCA.out.below hb HCA.out.2.2.2.2)
            have HCB := Lib.hid (HCB.out.below hb HCB.out.2.2.2.2)
            have hq2 := Nat.le_trans hq2 hb.size
            try have HI3 := Lib.hid (HI3.out.lift hb)
            try have HI4 := Lib.hid (HI4.out.lift hb)
            try have HG := Lib.hid (HG.out.below hb HG.out.2.2.2.2)
            try have hgl := Nat.lt_of_lt_of_le hgl hb.size
            have HR5 := Lib.hid hrw5
            have HI5 := Lib.hid (hrw5.ints HFT.out)
            clear hb hrw5
            clear c0 c1 d0 d1
            obtain ⟨c0, c1, _, _, _⟩ := HCA.out
            obtain ⟨d0, d1, _, _, _⟩ := HCB.out
            go_wp2_with fail
            (refine hK.out _ _ ?_ (fun hHeld2 => ?_); (focus ((try dsimp only); exact ⟨c0, c1, d0, d1⟩)); (clear hK K); (try simp only [Act.put, List.getElem_toArray, List.getElem_cons_zero, List.getElem_cons_succ, List.setIfInBounds_toArray, List.set_cons_zero, List.set_cons_succ]))
            (refine wpAnyH_take (i := 5) (v := ?_) rfl (by kernel_rfl) (by kernel_rfl) (by kernel_rfl) (fun _ _ _ h => h) (Or.inl ⟨by rfl, ?_⟩) (by assumption) ?_; rotate_left; (focus (intro wS hSw; (try dsimp only at hSw); go_simp; (try with_reducible rfl))); (try simp only [Act.put, List.getElem_toArray, List.getElem_cons_zero, List.getElem_cons_succ, List.setIfInBounds_toArray, List.set_cons_zero, List.set_cons_succ]))
            (refine wpAnyH_take (i := 6) (v := ?_) rfl (by kernel_rfl) (by kernel_rfl) (by kernel_rfl) (fun _ _ _ h => h) (Or.inl ⟨by rfl, ?_⟩) (by assumption) ?_; rotate_left; (focus (intro wS hSw; (try dsimp only at hSw); go_simp; (try with_reducible rfl))); (try simp only [Act.put, List.getElem_toArray, List.getElem_cons_zero, List.getElem_cons_succ, List.setIfInBounds_toArray, List.set_cons_zero, List.set_cons_succ]))
            (refine wpAnyH_take (i := 7) (v := ?_) rfl (by kernel_rfl) (by kernel_rfl) (by kernel_rfl) (fun _ _ _ h => h) (Or.inl ⟨by rfl, ?_⟩) (by assumption) ?_; rotate_left; (focus (intro wS hSw; (try dsimp only at hSw); go_simp; (try with_reducible rfl))); (try simp only [Act.put, List.getElem_toArray, List.getElem_cons_zero, List.getElem_cons_succ, List.setIfInBounds_toArray, List.set_cons_zero, List.set_cons_succ]))
            obtain ⟨g0, g1, gf0, gf1, _⟩ := HG.out
            (refine wpAnyH_ready (rs := [9]) (by kernel_rfl) (by simp) ?_; refine AllReadyH.cons rfl (fun K hK => ?_) AllReadyH.nil; go_simp)
            have HG9 := Lib.hid ((HG.out.set0 (.int .i64 N)).set1 (.slice A5 L.length c5))
            have hb := ((Below.refl g5 wx).setCell (p := ⟨g5, 0, none⟩) (Nat.le_refl _) (.int .i64 N)).setCell (p := ⟨g5, 1, none⟩) (Nat.le_refl _) (.slice A5 L.length c5)
            have HI9 := Lib.hid (show Ints ((wx.setCell ⟨g5, 0, none⟩ (.int .i64 N)).setCell ⟨g5, 1, none⟩ (.slice A5 L.length c5)) ((wx.setCell ⟨g5, 0, none⟩ (.int .i64 N)).setCell ⟨g5, 1, none⟩ (.slice A5 L.length c5)).heap.size A5 L by
              first
                | exact ((HR5.out.far (p := ⟨g5, 0, none⟩) hgb _).far (p := ⟨g5, 1, none⟩) hgb _).ints HFT.out
                | exact (HI5.out.below hb).mono (Nat.le_of_lt (Nat.lt_of_lt_of_le hgl hb.size)))
            have HCA9 := Lib.hid (HCA.out.below hb (by omega))
            have HCB9 := Lib.hid (HCB.out.below hb (by omega))
            have HW9 := Lib.hid (HW.out.trans (hb.mono (by omega)))
            have HZ9 := Lib.hid (HZ.out.trans (hb.mono hgz))
            clear hb c0 c1 d0 d1 g0 g1 gf0 gf1
            obtain ⟨c0, c1, _, _, _⟩ := HCA9.out
            obtain ⟨d0, d1, _, _, _⟩ := HCB9.out
            (refine hK.out _ _ ?_ (fun hHeld2 => ?_); (focus ((try dsimp only); exact ⟨c0, c1, d0, d1⟩)); (clear hK K); (try simp only [Act.put, List.getElem_toArray, List.getElem_cons_zero, List.getElem_cons_succ, List.setIfInBounds_toArray, List.set_cons_zero, List.set_cons_succ]))
            (refine wpAnyH_take (i := 10) (v := ?_) rfl (by kernel_rfl) (by kernel_rfl) (by kernel_rfl) (fun _ _ _ h => h) (Or.inl ⟨by rfl, ?_⟩) (by assumption) ?_; rotate_left; (focus (intro wS hSw; (try dsimp only at hSw); go_simp; (try with_reducible rfl))); (try simp only [Act.put, List.getElem_toArray, List.getElem_cons_zero, List.getElem_cons_succ, List.setIfInBounds_toArray, List.set_cons_zero, List.set_cons_succ]))
            refine wpAnyH_done (by kernel_rfl) ?_ _
            go_wp2_with fail
            go_meet
            exact ⟨g5, A5, c5, rfl, rfl, HG9.out, HI9.out, HW9.out, HCA9.out, HCB9.out, HR5.out.1, HZ9.out⟩
        · have hqb := hq2
          go_simp
          have hgz := HZ.out.size
          have hb := (Below.refl wx.heap.size wx).alloc (Nat.le_refl _) (.cells #[.int .i64 0, .slice none 0 0] 28)
          try have HI5 := Lib.hid (HI5.out.below hb)
          have HZ := Lib.hid (HZ.out.trans (hb.mono HZ.out.size))
          have HW := Lib.hid (HW.out.trans (hb.mono (by omega)))
          have HCA := Lib.hid (HCA.out.below hb HCA.out.2.2.2.2)
          have HCB := Lib.hid (HCB.out.below hb HCB.out.2.2.2.2)
          have hq2 := Nat.le_trans hq2 hb.size
          try have HI3 := Lib.hid (HI3.out.lift hb)
          try have HI4 := Lib.hid (HI4.out.lift hb)
          try have HG := Lib.hid (HG.out.below hb HG.out.2.2.2.2)
          try have hgl := Nat.lt_of_lt_of_le hgl hb.size
          have HG := Lib.hid (Cells2.new wx (.int .i64 0) (.slice none 0 0) 28)
          clear hb
          clear c0 c1 d0 d1
          obtain ⟨c0, c1, _, _, _⟩ := HCA.out
          obtain ⟨d0, d1, _, _, _⟩ := HCB.out
          have hgl : wx.heap.size < (wx.alloc (.cells #[.int .i64 0, .slice none 0 0] 28)).heap.size := HG.out.2.2.2.2
          have hgq : q + 2 ≤ wx.heap.size := hqb
          generalize wx.alloc (.cells #[.int .i64 0, .slice none 0 0] 28) = wy at *
          obtain ⟨g5, hg5⟩ : ∃ g, wx.heap.size = g := ⟨_, rfl⟩
          simp only [hg5] at *
          clear hg5
          (refine hK.out _ _ ?_ (fun hHeld2 => ?_); (focus ((try dsimp only); exact ⟨c0, c1, d0, d1⟩)); (clear hK K); (try simp only [Act.put, List.getElem_toArray, List.getElem_cons_zero, List.getElem_cons_succ, List.setIfInBounds_toArray, List.set_cons_zero, List.set_cons_succ]))
          obtain ⟨wx, rfl⟩ : ∃ w : World, w = wy := ⟨_, rfl⟩
          (refine wpAnyH_ready (rs := [3]) (by kernel_rfl) (by simp) ?_; refine AllReadyH.cons rfl (fun K hK => ?_) AllReadyH.nil; go_simp)
          go_at_call 7
          refine (toRhythm_any m B cb b _ ((HB.out.below HW.out).mono (by omega)) hsb).mono ?_
          rintro e wx ⟨rfl, ht, hb⟩
          have HZ := Lib.hid (HZ.out.trans (hb.mono HZ.out.size))
          have HW := Lib.hid (HW.out.trans (hb.mono (by omega)))
          have HCA := Lib.hid (HCA.out.below hb HCA.out.2.2.2.2)
          have HCB := Lib.hid (HCB.out.below hb HCB.out.2.2.2.2)
          have hq2 := Nat.le_trans hq2 hb.size
          try have HI3 := Lib.hid (HI3.out.lift hb)
          try have HI4 := Lib.hid (HI4.out.lift hb)
          try have HG := Lib.hid (HG.out.below hb HG.out.2.2.2.2)
          try have hgl := Nat.lt_of_lt_of_le hgl hb.size
          have HI4 := Lib.hid (ht.ints (B := wx.heap.size) ht.1 HB.out.1 HB.out.2.1)
          clear ht hb
          clear c0 c1 d0 d1
          obtain ⟨c0, c1, _, _, _⟩ := HCA.out
          obtain ⟨d0, d1, _, _, _⟩ := HCB.out
          go_wp2_with fail
          (refine hK.out _ _ ?_ (fun hHeld2 => ?_); (focus ((try dsimp only); exact ⟨c0, c1, d0, d1⟩)); (clear hK K); (try simp only [Act.put, List.getElem_toArray, List.getElem_cons_zero, List.getElem_cons_succ, List.setIfInBounds_toArray, List.set_cons_zero, List.set_cons_succ]))
          (refine wpAnyH_ready (rs := [4]) (by kernel_rfl) (by simp) ?_; refine AllReadyH.cons rfl (fun K hK => ?_) AllReadyH.nil; go_simp)
          go_at_call 15
          refine (HI.out _ _ _ _ _ HI3.out HI4.out).mono ?_
          rintro e wx ⟨A5, c5, rfl, hrw5, hb⟩
          try have hgb := hgl
          have HZ := Lib.hid (HZ.out.trans (hb.mono HZ.out.size))
          have HW := Lib.hid (HW.out.trans (hb.mono (by omega)))
          have HCA := Lib.hid (HCA.out.below hb HCA.out.2.2.2.2)
          have HCB := Lib.hid (HCB.out.below hb HCB.out.2.2.2.2)
          have hq2 := Nat.le_trans hq2 hb.size
          try have HI3 := Lib.hid (HI3.out.lift hb)
          try have HI4 := Lib.hid (HI4.out.lift hb)
          try have HG := Lib.hid (HG.out.below hb HG.out.2.2.2.2)
          try have hgl := Nat.lt_of_lt_of_le hgl hb.size
          have HR5 := Lib.hid hrw5
          have HI5 := Lib.hid (hrw5.ints HFT.out)
          clear hb hrw5
          clear c0 c1 d0 d1
          obtain ⟨c0, c1, _, _, _⟩ := HCA.out
          obtain ⟨d0, d1, _, _, _⟩ := HCB.out
          go_wp2_with fail
          (refine hK.out _ _ ?_ (fun hHeld2 => ?_); (focus ((try dsimp only); exact ⟨c0, c1, d0, d1⟩)); (clear hK K); (try simp only [Act.put, List.getElem_toArray, List.getElem_cons_zero, List.getElem_cons_succ, List.setIfInBounds_toArray, List.set_cons_zero, List.set_cons_succ]))
          (refine wpAnyH_take (i := 5) (v := ?_) rfl (by kernel_rfl) (by kernel_rfl) (by kernel_rfl) (fun _ _ _ h => h) (Or.inl ⟨by rfl, ?_⟩) (by assumption) ?_; rotate_left; (focus (intro wS hSw; (try dsimp only at hSw); go_simp; (try with_reducible rfl))); (try simp only [Act.put, List.getElem_toArray, List.getElem_cons_zero, List.getElem_cons_succ, List.setIfInBounds_toArray, List.set_cons_zero, List.set_cons_succ]))
          (refine wpAnyH_take (i := 6) (v := ?_) rfl (by kernel_rfl) (by kernel_rfl) (by kernel_rfl) (fun _ _ _ h => h) (Or.inl ⟨by rfl, ?_⟩) (by assumption) ?_; rotate_left; (focus (intro wS hSw; (try dsimp only at hSw); go_simp; (try with_reducible rfl))); (try simp only [Act.put, List.getElem_toArray, List.getElem_cons_zero, List.getElem_cons_succ, List.setIfInBounds_toArray, List.set_cons_zero, List.set_cons_succ]))
          (refine wpAnyH_take (i := 7) (v := ?_) rfl (by kernel_rfl) (by kernel_rfl) (by kernel_rfl) (fun _ _ _ h => h) (Or.inl ⟨by rfl, ?_⟩) (by assumption) ?_; rotate_left; (focus (intro wS hSw; (try dsimp only at hSw); go_simp; (try with_reducible rfl))); (try simp only [Act.put, List.getElem_toArray, List.getElem_cons_zero, List.getElem_cons_succ, List.setIfInBounds_toArray, List.set_cons_zero, List.set_cons_succ]))
          obtain ⟨g0, g1, gf0, gf1, _⟩ := HG.out
          (refine wpAnyH_ready (rs := [9]) (by kernel_rfl) (by simp) ?_; refine AllReadyH.cons rfl (fun K hK => ?_) AllReadyH.nil; go_simp)
          have HG9 := Lib.hid ((HG.out.set0 (.int .i64 N)).set1 (.slice A5 L.length c5))
          have hb := ((Below.refl g5 wx).setCell (p := ⟨g5, 0, none⟩) (Nat.le_refl _) (.int .i64 N)).setCell (p := ⟨g5, 1, none⟩) (Nat.le_refl _) (.slice A5 L.length c5)
          have HI9 := Lib.hid (show Ints ((wx.setCell ⟨g5, 0, none⟩ (.int .i64 N)).setCell ⟨g5, 1, none⟩ (.slice A5 L.length c5)) ((wx.setCell ⟨g5, 0, none⟩ (.int .i64 N)).setCell ⟨g5, 1, none⟩ (.slice A5 L.length c5)).heap.size A5 L by
            first
              | exact ((HR5.out.far (p := ⟨g5, 0, none⟩) hgb _).far (p := ⟨g5, 1, none⟩) hgb _).ints HFT.out
              | exact (HI5.out.below hb).mono (Nat.le_of_lt (Nat.lt_of_lt_of_le hgl hb.size)))
          have HCA9 := Lib.hid (HCA.out.below hb (by omega))
          have HCB9 := Lib.hid (HCB.out.below hb (by omega))
          have HW9 := Lib.hid (HW.out.trans (hb.mono (by omega)))
          have HZ9 := Lib.hid (HZ.out.trans (hb.mono hgz))
          clear hb c0 c1 d0 d1 g0 g1 gf0 gf1
          obtain ⟨c0, c1, _, _, _⟩ := HCA9.out
          obtain ⟨d0, d1, _, _, _⟩ := HCB9.out
          (refine hK.out _ _ ?_ (fun hHeld2 => ?_); (focus ((try dsimp only); exact ⟨c0, c1, d0, d1⟩)); (clear hK K); (try simp only [Act.put, List.getElem_toArray, List.getElem_cons_zero, List.getElem_cons_succ, List.setIfInBounds_toArray, List.set_cons_zero, List.set_cons_succ]))
          (refine wpAnyH_take (i := 10) (v := ?_) rfl (by kernel_rfl) (by kernel_rfl) (by kernel_rfl) (fun _ _ _ h => h) (Or.inl ⟨by rfl, ?_⟩) (by assumption) ?_; rotate_left; (focus (intro wS hSw; (try dsimp only at hSw); go_simp; (try with_reducible rfl))); (try simp only [Act.put, List.getElem_toArray, List.getElem_cons_zero, List.getElem_cons_succ, List.setIfInBounds_toArray, List.set_cons_zero, List.set_cons_succ]))
          refine wpAnyH_done (by kernel_rfl) ?_ _
          go_wp2_with fail
          go_meet
          exact ⟨g5, A5, c5, rfl, rfl, HG9.out, HI9.out, HW9.out, HCA9.out, HCB9.out, HR5.out.1, HZ9.out⟩
      · have hqb := hq2
        go_simp
        have hgz := HZ.out.size
        have hb := (Below.refl wx.heap.size wx).alloc (Nat.le_refl _) (.cells #[.int .i64 0, .slice none 0 0] 28)
        try have HI5 := Lib.hid (HI5.out.below hb)
        have HZ := Lib.hid (HZ.out.trans (hb.mono HZ.out.size))
        have HW := Lib.hid (HW.out.trans (hb.mono (by omega)))
        have HCA := Lib.hid (HCA.out.below hb HCA.out.2.2.2.2)
        have HCB := Lib.hid (HCB.out.below hb HCB.out.2.2.2.2)
        have hq2 := Nat.le_trans hq2 hb.size
        try have HI3 := Lib.hid (HI3.out.lift hb)
        try have HI4 := Lib.hid (HI4.out.lift hb)
        try have HG := Lib.hid (HG.out.below hb HG.out.2.2.2.2)
        try have hgl := Nat.lt_of_lt_of_le hgl hb.size
        have HG := Lib.hid (Cells2.new wx (.int .i64 0) (.slice none 0 0) 28)
        clear hb
        clear c0 c1 d0 d1
        obtain ⟨c0, c1, _, _, _⟩ := HCA.out
        obtain ⟨d0, d1, _, _, _⟩ := HCB.out
        have hgl : wx.heap.size < (wx.alloc (.cells #[.int .i64 0, .slice none 0 0] 28)).heap.size := HG.out.2.2.2.2
        have hgq : q + 2 ≤ wx.heap.size := hqb
        generalize wx.alloc (.cells #[.int .i64 0, .slice none 0 0] 28) = wy at *
        obtain ⟨g5, hg5⟩ : ∃ g, wx.heap.size = g := ⟨_, rfl⟩
        simp only [hg5] at *
        clear hg5
        (refine hK.out _ _ ?_ (fun hHeld2 => ?_); (focus ((try dsimp only); exact ⟨c0, c1, d0, d1⟩)); (clear hK K); (try simp only [Act.put, List.getElem_toArray, List.getElem_cons_zero, List.getElem_cons_succ, List.setIfInBounds_toArray, List.set_cons_zero, List.set_cons_succ]))
        obtain ⟨wx, rfl⟩ : ∃ w : World, w = wy := ⟨_, rfl⟩
        (refine wpAnyH_ready (rs := [1]) (by kernel_rfl) (by simp) ?_; refine AllReadyH.cons rfl (fun K hK => ?_) AllReadyH.nil; go_simp)
        go_at_call 7
        refine (toRhythm_any n A ca a _ ((HA.out.below HW.out).mono (by omega)) hsa).mono ?_
        rintro e wx ⟨rfl, ht, hb⟩
        have HZ := Lib.hid (HZ.out.trans (hb.mono HZ.out.size))
        have HW := Lib.hid (HW.out.trans (hb.mono (by omega)))
        have HCA := Lib.hid (HCA.out.below hb HCA.out.2.2.2.2)
        have HCB := Lib.hid (HCB.out.below hb HCB.out.2.2.2.2)
        have hq2 := Nat.le_trans hq2 hb.size
        try have HI3 := Lib.hid (HI3.out.lift hb)
        try have HI4 := Lib.hid (HI4.out.lift hb)
        try have HG := Lib.hid (HG.out.below hb HG.out.2.2.2.2)
        try have hgl := Nat.lt_of_lt_of_le hgl hb.size
        have HI3 := Lib.hid (ht.ints (B := wx.heap.size) ht.1 HA.out.1 HA.out.2.1)
        clear ht hb
        clear c0 c1 d0 d1
        obtain ⟨c0, c1, _, _, _⟩ := HCA.out
        obtain ⟨d0, d1, _, _, _⟩ := HCB.out
        go_wp2_with fail
        (refine hK.out _ _ ?_ (fun hHeld2 => ?_); (focus ((try dsimp only); exact ⟨c0, c1, d0, d1⟩)); (clear hK K); (try simp only [Act.put, List.getElem_toArray, List.getElem_cons_zero, List.getElem_cons_succ, List.setIfInBounds_toArray, List.set_cons_zero, List.set_cons_succ]))
        (refine wpAnyH_ready (rs := [3]) (by kernel_rfl) (by simp) ?_; refine AllReadyH.cons rfl (fun K hK => ?_) AllReadyH.nil; go_simp)
        go_at_call 7
        refine (toRhythm_any m B cb b _ ((HB.out.below HW.out).mono (by omega)) hsb).mono ?_
        rintro e wx ⟨rfl, ht, hb⟩
        have HZ := Lib.hid (HZ.out.trans (hb.mono HZ.out.size))
        have HW := Lib.hid (HW.out.trans (hb.mono (by omega)))
        have HCA := Lib.hid (HCA.out.below hb HCA.out.2.2.2.2)
        have HCB := Lib.hid (HCB.out.below hb HCB.out.2.2.2.2)
        have hq2 := Nat.le_trans hq2 hb.size
        try have HI3 := Lib.hid (HI3.out.lift hb)
        try have HI4 := Lib.hid (HI4.out.lift hb)
        try have HG := Lib.hid (HG.out.below hb HG.out.2.2.2.2)
        try have hgl := Nat.lt_of_lt_of_le hgl hb.size
        have HI4 := Lib.hid (ht.ints (B := wx.heap.size) ht.1 HB.out.1 HB.out.2.1)
        clear ht hb
        clear c0 c1 d0 d1
        obtain ⟨c0, c1, _, _, _⟩ := HCA.out
        obtain ⟨d0, d1, _, _, _⟩ := HCB.out
        go_wp2_with fail
        (refine hK.out _ _ ?_ (fun hHeld2 => ?_); (focus ((try dsimp only); exact ⟨c0, c1, d0, d1⟩)); (clear hK K); (try simp only [Act.put, List.getElem_toArray, List.getElem_cons_zero, List.getElem_cons_succ, List.setIfInBounds_toArray, List.set_cons_zero, List.set_cons_succ]))
        (refine wpAnyH_ready (rs := [4]) (by kernel_rfl) (by simp) ?_; refine AllReadyH.cons rfl (fun K hK => ?_) AllReadyH.nil; go_simp)
        go_at_call 15
        refine (HI.out _ _ _ _ _ HI3.out HI4.out).mono ?_
        rintro e wx ⟨A5, c5, rfl, hrw5, hb⟩
        try have hgb := hgl
        have HZ := Lib.hid (HZ.out.trans (hb.mono HZ.out.size))
        have HW := Lib.hid (HW.out.trans (hb.mono (by omega)))
        have HCA := Lib.hid (HCA.out.below hb HCA.out.2.2.2.2)
        have HCB := Lib.hid (HCB.out.below hb HCB.out.2.2.2.2)
        have hq2 := Nat.le_trans hq2 hb.size
        try have HI3 := Lib.hid (HI3.out.lift hb)
        try have HI4 := Lib.hid (HI4.out.lift hb)
        try have HG := Lib.hid (HG.out.below hb HG.out.2.2.2.2)
        try have hgl := Nat.lt_of_lt_of_le hgl hb.size
        have HR5 := Lib.hid hrw5
        have HI5 := Lib.hid (hrw5.ints HFT.out)
        clear hb hrw5
        clear c0 c1 d0 d1
        obtain ⟨c0, c1, _, _, _⟩ := HCA.out
        obtain ⟨d0, d1, _, _, _⟩ := HCB.out
        go_wp2_with fail
        (refine hK.out _ _ ?_ (fun hHeld2 => ?_); (focus ((try dsimp only); exact ⟨c0, c1, d0, d1⟩)); (clear hK K); (try simp only [Act.put, List.getElem_toArray, List.getElem_cons_zero, List.getElem_cons_succ, List.setIfInBounds_toArray, List.set_cons_zero, List.set_cons_succ]))
        (refine wpAnyH_take (i := 5) (v := ?_) rfl (by kernel_rfl) (by kernel_rfl) (by kernel_rfl) (fun _ _ _ h => h) (Or.inl ⟨by rfl, ?_⟩) (by assumption) ?_; rotate_left; (focus (intro wS hSw; (try dsimp only at hSw); go_simp; (try with_reducible rfl))); (try simp only [Act.put, List.getElem_toArray, List.getElem_cons_zero, List.getElem_cons_succ, List.setIfInBounds_toArray, List.set_cons_zero, List.set_cons_succ]))
        (refine wpAnyH_take (i := 6) (v := ?_) rfl (by kernel_rfl) (by kernel_rfl) (by kernel_rfl) (fun _ _ _ h => h) (Or.inl ⟨by rfl, ?_⟩) (by assumption) ?_; rotate_left; (focus (intro wS hSw; (try dsimp only at hSw); go_simp; (try with_reducible rfl))); (try simp only [Act.put, List.getElem_toArray, List.getElem_cons_zero, List.getElem_cons_succ, List.setIfInBounds_toArray, List.set_cons_zero, List.set_cons_succ]))
        (refine wpAnyH_take (i := 7) (v := ?_) rfl (by kernel_rfl) (by kernel_rfl) (by kernel_rfl) (fun _ _ _ h => h) (Or.inl ⟨by rfl, ?_⟩) (by assumption) ?_; rotate_left; (focus (intro wS hSw; (try dsimp only at hSw); go_simp; (try with_reducible rfl))); (try simp only [Act.put, List.getElem_toArray, List.getElem_cons_zero, List.getElem_cons_succ, List.setIfInBounds_toArray, List.set_cons_zero, List.set_cons_succ]))
        obtain ⟨g0, g1, gf0, gf1, _⟩ := HG.out
        (refine wpAnyH_ready (rs := [9]) (by kernel_rfl) (by simp) ?_; refine AllReadyH.cons rfl (fun K hK => ?_) AllReadyH.nil; go_simp)
        have HG9 := Lib.hid ((HG.out.set0 (.int .i64 N)).set1 (.slice A5 L.length c5))
        have hb := ((Below.refl g5 wx).setCell (p := ⟨g5, 0, none⟩) (Nat.le_refl _) (.int .i64 N)).setCell (p := ⟨g5, 1, none⟩) (Nat.le_refl _) (.slice A5 L.length c5)
        have HI9 := Lib.hid (show Ints ((wx.setCell ⟨g5, 0, none⟩ (.int .i64 N)).setCell ⟨g5, 1, none⟩ (.slice A5 L.length c5)) ((wx.setCell ⟨g5, 0, none⟩ (.int .i64 N)).setCell ⟨g5, 1, none⟩ (.slice A5 L.length c5)).heap.size A5 L by
          first
            | exact ((HR5.out.far (p := ⟨g5, 0, none⟩) hgb _).far (p := ⟨g5, 1, none⟩) hgb _).ints HFT.out
            | exact (HI5.out.below hb).mono (Nat.le_of_lt (Nat.lt_of_lt_of_le hgl hb.size)))
        have HCA9 := Lib.hid (HCA.out.below hb (by omega))
        have HCB9 := Lib.hid (HCB.out.below hb (by omega))
        have HW9 := Lib.hid (HW.out.trans (hb.mono (by omega)))
        have HZ9 := Lib.hid (HZ.out.trans (hb.mono hgz))
        clear hb c0 c1 d0 d1 g0 g1 gf0 gf1
        obtain ⟨c0, c1, _, _, _⟩ := HCA9.out
        obtain ⟨d0, d1, _, _, _⟩ := HCB9.out
        (refine hK.out _ _ ?_ (fun hHeld2 => ?_); (focus ((try dsimp only); exact ⟨c0, c1, d0, d1⟩)); (clear hK K); (try simp only [Act.put, List.getElem_toArray, List.getElem_cons_zero, List.getElem_cons_succ, List.setIfInBounds_toArray, List.set_cons_zero, List.set_cons_succ]))
        (refine wpAnyH_take (i := 10) (v := ?_) rfl (by kernel_rfl) (by kernel_rfl) (by kernel_rfl) (fun _ _ _ h => h) (Or.inl ⟨by rfl, ?_⟩) (by assumption) ?_; rotate_left; (focus (intro wS hSw; (try dsimp only at hSw); go_simp; (try with_reducible rfl))); (try simp only [Act.put, List.getElem_toArray, List.getElem_cons_zero, List.getElem_cons_succ, List.setIfInBounds_toArray, List.set_cons_zero, List.set_cons_succ]))
        refine wpAnyH_done (by kernel_rfl) ?_ _
        go_wp2_with fail
        go_meet
        exact ⟨g5, A5, c5, rfl, rfl, HG9.out, HI9.out, HW9.out, HCA9.out, HCB9.out, HR5.out.1, HZ9.out⟩
    case rest =>
      obtain ⟨g21, A21, c21, rfl, rfl, hg, hi5, _, _, _, _, hz⟩ := hcut
      obtain ⟨w21, rfl⟩ : ∃ x : World, x = wc := ⟨_, rfl⟩
      have HX21 := Lib.hid hg
      have HI21 := Lib.hid hi5
      have HE21 := Lib.hid (Frm.pure hz (fun _ => False))
      have HV21 := Lib.hid (HV18.out.trans (hz.mono (by omega)))
      have hz21 := hz.size
      have HY21 := Lib.hid (HX5.out.below HV21.out hg5l)
      have HJ21 := Lib.hid ((HI5.out.below HV21.out).mono (show w5.heap.size ≤ w21.heap.size from HV21.out.size))
      clear hg hi5 hz c0 c1 d0 d1
      obtain ⟨x0, x1, _, _, _⟩ := HX21.out
      obtain ⟨y0, y1, _, _, _⟩ := HY21.out
      go_wp2_with fail
      refine (eqRhythm_any N N _ _ _ _ L L _ HI21.out HJ21.out).mono ?_
      rintro e w22 ⟨rfl, hb22⟩
      have HE22 := Lib.hid (HE21.out.trans (Frm.pure hb22 (fun _ => False)))
      have HV22 := Lib.hid (HV21.out.trans (hb22.mono (by omega)))
      have hz22 := hb22.size
      have HH22 := Lib.hid (HH18.out.frm HE22.out (fun _ _ _ h => h))
      have HX22 := Lib.hid (HX18.out.frmX HE22.out (fun h => h))
      clear hb22 x0 x1 y0 y1
      obtain ⟨x0, x1, _, _, _⟩ := HX22.out
      go_wp2_with fail
      refine (heldRhythm_any N A8 c8 L.length 1 w7a.heap.size p8 _ hL (fun hn => HH22.out hn) (by omega) (by omega) (by omega)).mono ?_
      rintro e w23 ⟨rfl, hb23⟩
      have HV23 := Lib.hid (HV22.out.trans (hb23.mono (by omega)))
      clear hb23 x0 x1
      go_wp2_with fail
      go_ret
      exact ⟨rfl, by rw [HQ.out]; exact HW5.out.trans (HV23.out.mono (by omega))⟩

theorem midX_ok (n m : Int) (a b : List Int) : ∀ x ∈ midX n m a b, Fits x := by
  unfold midX
  split
  · rename_i h
    obtain ⟨ha, hb, hnm, hl⟩ := movedB_yes h
    subst hnm
    obtain ⟨N, rfl⟩ := Int.eq_ofNat_of_zero_le (show 0 ≤ n by have := ha.1; omega)
    have h0 := farV_nonneg N a b
    rw [Int.toNat_natCast]
    exact rh_fits' (wayAt_ok ha hb hl _ (by omega)).1
  · intro x hx; cases hx

theorem law_FnExactMeetInMiddle {w : World} (n : Int) (A : Option Addr) (ca : Nat) (a : List Int) (hn : Fits n) (hA : Ints w w.heap.size A a) (m : Int) (B : Option Addr) (cb : Nat) (b : List Int) (hm : Fits m) (hB : Ints w w.heap.size B b) :
    Calls Try.prog 4 #[.agg #[.int .i64 n, .slice A a.length ca], .agg #[.int .i64 m, .slice B b.length cb]] w fun e w' => e = .returned (.bool true) ∧ Below w.heap.size w w' :=
  law_FnExactMeetInMiddle_of n m A B ca cb a b (midN n m a b) (midX n m a b) (movedB n m a b) (midX_ok n m a b) w hA hB (fun A B ca cb w h1 h2 => spec_MeetInMiddle_any n m A B ca cb a b w hn hm h1 h2) (fun A B ca cb w h1 h2 => impl_MeetInMiddle_any n m A B ca cb a b w hn hm h1 h2)

end Go.Proofs.Ytjegomgpldpmpaa
