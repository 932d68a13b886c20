/-
  The law FnExactNewConsole: NewConsole of both; the walk.
-/
import Derived.Test.YtinmhjeljkiefaaDoorPars
import Derived.Test.YtinmhjeljkiefaaDoorMark
namespace Go.Proofs.YtinmhjeljkiefaaDoor
open Go.RowKit
set_option linter.unusedVariables false
set_option linter.unusedSimpArgs false

def evL (k n m q : Nat) : List Int := (List.range q).map fun i => (((i * n + m) / k : Nat) : Int)
theorem evL_succ (k n m q : Nat) : evL k n m (q + 1) = evL k n m q ++ [(((q * n + m) / k : Nat) : Int)] := by simp [evL, List.range_succ]
theorem evL_len (k n m q : Nat) : (evL k n m q).length = q := by simp [evL]

set_option maxRecDepth 100000 in
set_option maxHeartbeats 1000000 in
theorem spec_l06Even_any (k n m : Nat) (w : World) (hk1 : 1 ≤ k) (hk : k ≤ 24) (hn1 : 1 ≤ n) (hn : n ≤ 24) (hm : m ≤ 1000) :
    Calls Tryd.prog 35 #[.int .i64 k, .int .i64 n, .int .i64 m] w (RetRh1 w n (ofL (evL k n m k) n)) := by
  have hro := fun (A2 : Option Addr) (c2 : Nat) (V : World) (hV : Ints V V.heap.size A2 (evL k n m k)) => spec_l02Of_any n A2 c2 (evL k n m k) V hV hn1 hn
  have hrl := ofL_len (evL k n m k) n
  generalize ofL (evL k n m k) n = R at hro hrl ⊢
  have HRO := Lib.hid hro
  clear hro
  have HW := Lib.hid (((Below.refl w.heap.size w).alloc (Nat.le_refl _) (.cells #[.int .i64 0, .slice none 0 0] 29)).alloc (by first | exact Nat.le_refl _ | (simp; done) | (simp; omega) | omega) (.cells #[] 3))
  have HN := Lib.hid ((Cells2.new w (.int .i64 0) (.slice none 0 0) 29).alloc (.cells #[] 3))
  have hk0 : ((k : Int) = 0) = False := by simp; omega
  have hk00 : (k = 0) = False := by simp; omega
  go_enter Tryd.func35, Tryd.ntmps35
  go_wp2_with fail
  go_loopw [7, 8] (fun so i wr => ∃ q : Nat, q ≤ k ∧ i = .int .i64 q ∧ OwnI wr (w.heap.size + 1) so (evL k n m q) ∧ Below (w.heap.size + 1) ((w.alloc (.cells #[.int .i64 0, .slice none 0 0] 29)).alloc (.cells #[] 3)) wr) (fun _ i _ => k - (intOf i).toNat)
  case atStart => exact ⟨0, Nat.zero_le _, rfl, OwnI.empty_at _ _ _ (by simp) (by omega), Below.refl _ _⟩
  case round =>
    obtain ⟨q, hq, rfl, hown, hbel⟩ := hrel
    obtain ⟨wo, rfl⟩ : ∃ wo : World, wo = wr := ⟨_, rfl⟩
    have hws : w.heap.size + 2 ≤ wo.heap.size := by have := hbel.size; simpa using this
    have HBE := Lib.hid hbel
    have HO := Lib.hid hown
    obtain ⟨A1, c1, rfl⟩ := hown.form
    have hmk := evL_len k n m q
    have hmk' : (evL k n m q).length ≤ 24 := by omega
    clear hbel hown hmk
    by_cases hlt : q < k
    · have hqn : q * n ≤ 576 := Nat.le_trans (Nat.mul_le_mul (show q ≤ 24 by omega) hn) (by decide)
      have HSU := Lib.hid (evL_succ k n m q)
      have hp0 : (q : Int) * (n : Int) = ((q * n : Nat) : Int) := by push_cast; rfl
      obtain ⟨P, hP⟩ : ∃ P, q * n = P := ⟨_, rfl⟩
      rw [hP] at hp0 hqn HSU
      obtain ⟨D, hD⟩ : ∃ D, (P + m) / k = D := ⟨_, rfl⟩
      rw [hD] at HSU
      have hDl : D ≤ 2000 := by rw [← hD]; exact Nat.le_trans (Nat.div_le_self _ _) (by omega)
      have hw1 : IntKind.i64.wrap (P : Int) = P := i64w (by omega)
      have hw2 : IntKind.i64.wrap ((P : Int) + m) = (P : Int) + m := i64w (by omega)
      have hdv : Int.tdiv ((P : Int) + m) k = (D : Int) := by rw [Int.tdiv_eq_ediv_of_nonneg (by omega), ← hD, Int.natCast_ediv, Int.natCast_add]
      have hdv2 : ((P : Int) + m) / k = (D : Int) := by rw [← hD, Int.natCast_ediv, Int.natCast_add]
      have hw3 : IntKind.i64.wrap (D : Int) = D := i64w (by omega)
      generalize evL k n m q = L at HO HSU hmk' ⊢
      clear hP hD
      go_wp2_with (at_builtin; refine wpList_append_int rfl (.tmp 15) (.tmp 23) rfl (w.heap.size + 1) _ L rfl (HO.out.alloc _) _ _ rfl (cell_new1 _ _ _) (by omega) (by simp; omega) ?_; intro v2 w2 hown2 hb2)
      have HO2 := Lib.hid hown2
      have HB2 := Lib.hid ((HBE.out.alloc (by omega) _).trans hb2)
      clear hown2 hb2
      go_wp2_with fail
      go_roundw
      case rel => exact ⟨q + 1, by omega, by go_num, by rw [HSU.out]; exact HO2.out, HB2.out⟩
      case measure => simp [intOf]; omega
    · have hqe : q = k := by omega
      subst hqe
      have HI := Lib.hid (HO.out.ints (fun x hx => by
        unfold evL at hx
        rw [List.mem_map] at hx
        obtain ⟨i, hi, rfl⟩ := hx
        rw [List.mem_range] at hi
        have h1 : i * n ≤ 576 := Nat.le_trans (Nat.mul_le_mul (show i ≤ 24 by omega) hn) (by decide)
        have h2 := Nat.div_le_self (i * n + m) q
        generalize (i * n + m) / q = z at h2 ⊢
        unfold Fits
        omega))
      generalize evL q n m q = L at HO HRO HI hmk' ⊢
      go_wp2_with fail
      refine (HRO.out A1 c1 _ HI.out).mono ?_
      rintro e w2 ⟨A2, c2, rfl, hrw, hb2⟩
      have hz2 := hb2.size
      obtain ⟨f0, f1, f2, f3, f4⟩ := (HN.out.below HBE.out (by simp)).below hb2 (by omega)
      go_wp2_with fail
      refine bodyPost_ret (v := .agg #[.int .i64 n, .slice A2 R.length c2]) (by simp [results, Tryd.results35, go_sem, f0, f1]) rfl ?_
      refine ⟨A2, c2, rfl, ?_, ?_⟩
      · exact ((hrw.far (p := ⟨w.heap.size, 0, none⟩) (by simp; omega) _).far (p := ⟨w.heap.size, 1, none⟩) (by simp; omega) _).mono (by omega)
      · exact (((HW.out.trans (HBE.out.mono (by omega))).trans (hb2.mono (by omega))).setCell (Nat.le_refl _) _).setCell (Nat.le_refl _) _

set_option maxRecDepth 100000 in
set_option maxHeartbeats 1000000 in
theorem spec_NewConsole_any (w : World) : Calls Tryd.prog 12 #[] w (RetRh1 w 8 [0, 3, 6]) := by
  have hev := fun V : World => spec_l06Even_any 3 8 2 V (by omega) (by omega) (by omega) (by omega) (by omega)
  rw [show ofL (evL 3 8 2 3) 8 = [0, 3, 6] by decide] at hev
  have hev : ∀ V : World, Calls Tryd.prog 35 #[.int .i64 3, .int .i64 8, .int .i64 2] V (RetRh1 V 8 [0, 3, 6]) := hev
  have HEV := Lib.hid hev
  clear hev
  obtain ⟨R, hR⟩ : ∃ R : List Int, [0, 3, 6] = R := ⟨_, rfl⟩
  rw [hR] at HEV ⊢
  clear hR
  have HN := Lib.hid (Cells2.new w (.int .i64 0) (.slice none 0 0) 29)
  go_enter Tryd.func12, Tryd.ntmps12
  go_wp2_with fail
  refine (HEV.out _).mono ?_
  rintro e w2 ⟨A2, c2, rfl, hrw, hb2⟩
  obtain ⟨f0, f1, f2, f3, f4⟩ := HN.out.below hb2 (by simp)
  go_wp2_with fail
  refine bodyPost_ret (v := .agg #[.int .i64 8, .slice A2 R.length c2]) (by simp [results, Tryd.results12, go_sem, f0, f1]) rfl ?_
  refine ⟨A2, c2, rfl, ?_, ?_⟩
  · exact ((hrw.far (p := ⟨w.heap.size, 0, none⟩) (by simp) _).far (p := ⟨w.heap.size, 1, none⟩) (by simp) _).mono (by simp)
  · exact ((((Below.refl w.heap.size w).alloc (Nat.le_refl _) _).trans (hb2.mono (by simp))).setCell (Nat.le_refl _) _).setCell (Nat.le_refl _) _

set_option maxRecDepth 100000 in
set_option maxHeartbeats 1000000 in
theorem impl_NewConsole_any (w : World) : Calls Tryd.prog 13 #[] w (RetRh1 w 8 [0, 3, 6]) := by
  have hpr := fun V : World => impl_ParseRhythm_ok ⟨#[120, 46, 46, 120, 46, 46, 120, 46]⟩ V (by decide) (by decide) (by decide)
  rw [show posX ⟨#[120, 46, 46, 120, 46, 46, 120, 46]⟩ (ByteArray.size ⟨#[120, 46, 46, 120, 46, 46, 120, 46]⟩) = [0, 3, 6] by decide, show (ByteArray.size ⟨#[120, 46, 46, 120, 46, 46, 120, 46]⟩) = 8 from rfl] at hpr
  have hpr : ∀ V : World, Calls Tryd.prog 36 #[.string ⟨#[120, 46, 46, 120, 46, 46, 120, 46]⟩] V (RetRh2 V 8 [0, 3, 6] true) := hpr
  have HPR := Lib.hid hpr
  clear hpr
  obtain ⟨R, hR⟩ : ∃ R : List Int, [0, 3, 6] = R := ⟨_, rfl⟩
  rw [hR] at HPR ⊢
  clear hR
  have HN := Lib.hid (Cells2.new w (.int .i64 0) (.slice none 0 0) 29)
  go_enter Tryd.func13, Tryd.ntmps13
  go_wp2_with fail
  refine (HPR.out _).mono ?_
  rintro e w2 ⟨A2, c2, rfl, hrw, hb2⟩
  have hz2 := hb2.size
  simp only [World.size_alloc] at hz2
  obtain ⟨f0, f1, f2, f3, f4⟩ := (HN.out.below hb2 (by simp)).alloc (.cells #[.int .i64 8, .slice A2 R.length c2] 29)
  have HRW := Lib.hid (hrw.below ((Below.refl _ _).alloc (Nat.le_refl _) (.cells #[.int .i64 8, .slice A2 R.length c2] 29)))
  have HBB := Lib.hid ((((Below.refl w.heap.size w).alloc (Nat.le_refl _) (.cells #[.int .i64 0, .slice none 0 0] 29)).trans (hb2.mono (by simp))).alloc (by omega) (.cells #[.int .i64 8, .slice A2 R.length c2] 29))
  obtain ⟨d0, d1, _, _, _⟩ := Cells2.new w2 (.int .i64 8) (.slice A2 R.length c2) 29
  go_wp2_with fail
  refine bodyPost_ret (v := .agg #[.int .i64 8, .slice A2 R.length c2]) (by simp [results, Tryd.results13, go_sem, f0, f1]) rfl ?_
  refine ⟨A2, c2, rfl, ?_, ?_⟩
  · exact ((HRW.out.far (p := ⟨w.heap.size, 0, none⟩) (by simp) _).far (p := ⟨w.heap.size, 1, none⟩) (by simp) _).mono (by simp)
  · exact (HBB.out.setCell (Nat.le_refl _) _).setCell (Nat.le_refl _) _

set_option maxRecDepth 100000 in
set_option maxHeartbeats 1000000 in
theorem law_FnExactNewConsole_of  (N : Int) (L : List Int) (w : World) (hf : ∀ x ∈ L, Fits x)
    (hS : ∀ (w : World), Calls Tryd.prog 12 #[] w (RetRh1 w N L))
    (hI : ∀ (w : World), Calls Tryd.prog 13 #[] w (RetRh1 w N L)) :
    Calls Tryd.prog 5 #[] w fun e w' => e = .returned (.bool true) ∧ Below w.heap.size w w' := by
  have HS := Lib.hid hS
  have HI := Lib.hid hI
  have HF := Lib.hid hf
  clear hS hI hf
  go_enter Tryd.func5, Tryd.ntmps5
  go_wp2_with fail
  refine (HS.out _).mono ?_
  rintro e w1 ⟨A1, c1, rfl, hr1, hb1⟩
  go_wp2_with fail
  refine (HI.out _).mono ?_
  rintro e w2 ⟨A2, c2, rfl, hr2, hb2⟩
  have hz1 := hb1.size
  have hz2 := hb2.size
  simp only [World.size_alloc] at hz2
  have hL := hr1.1
  have HB := Lib.hid ((hb2.mono (B' := w1.heap.size + 1) (by simp)).alloc (by simpa using hz2) (.cells #[.int .i64 N, .slice A2 L.length c2] 29))
  have HW := Lib.hid (((hb1.alloc hz1 (.cells #[.int .i64 N, .slice A1 L.length c1] 29)).trans (hb2.mono (by simp; omega))).alloc (by omega) (.cells #[.int .i64 N, .slice A2 L.length c2] 29))
  have HR := Lib.hid (hr1.below ((Below.refl _ _).alloc (Nat.le_refl _) (.cells #[.int .i64 N, .slice A1 L.length c1] 29)))
  have HI1 := Lib.hid (HR.out.ints HF.out)
  have HR2 := Lib.hid (hr2.below ((Below.refl _ _).alloc (Nat.le_refl _) (.cells #[.int .i64 N, .slice A2 L.length c2] 29)))
  have HI2 := Lib.hid (HR2.out.ints HF.out)
  have hh : Held (w2.alloc (.cells #[.int .i64 N, .slice A2 L.length c2] 29)) (w1.heap.size + 1) w2.heap.size A2 L.length (fun t => L.getD t 0) := fun hn => by
    obtain ⟨b, e, h1, h2⟩ := hr2.2 hn
    exact ⟨b, e, by simpa using h1, h2.1, h2.alloc _⟩
  have HH := Lib.hid hh
  obtain ⟨hc0, hc1⟩ := box2 HB.out
  obtain ⟨hd0, hd1⟩ := box2 ((Below.refl (w2.heap.size + 1) (w2.alloc (.cells #[.int .i64 N, .slice A2 L.length c2] 29))))
  have hz3 : (w2.alloc (.cells #[.int .i64 N, .slice A2 L.length c2] 29)).heap.size = w2.heap.size + 1 := by simp
  clear hr1 hr2 hb1 hb2 hh
  go_wp2_with fail
  generalize w2.alloc (.cells #[.int .i64 N, .slice A2 L.length c2] 29) = W3 at *
  have he := eqB_self L
  refine (eqRhythm_any N N _ _ _ _ L L _ HI2.out ((HI1.out.below (by simpa using HB.out)).mono (by simp; omega))).mono ?_
  rintro e w4 ⟨rfl, hb4⟩
  have HB4 := Lib.hid (HB.out.trans (hb4.mono (by omega)))
  have HW4 := Lib.hid (HW.out.trans (hb4.mono (by omega)))
  have hz4 := hb4.size
  rw [← hb4.cell (p := ⟨w2.heap.size, 0, none⟩) (by simp; omega)] at hd0
  rw [← hb4.cell (p := ⟨w2.heap.size, 1, none⟩) (by simp; omega)] at hd1
  rw [← hb4.cell (p := ⟨w1.heap.size, 0, none⟩) (by simp; omega)] at hc0
  rw [← hb4.cell (p := ⟨w1.heap.size, 1, none⟩) (by simp; omega)] at hc1
  have HH4 := Lib.hid (HH.out.below hb4 (by omega))
  clear hb4
  go_wp2_with fail
  refine (markRhythm_any N A2 c2 L.length _ 1 (w1.heap.size + 1) w2.heap.size _ hL HH4.out (by omega) (by omega) (by omega) (by omega)).mono ?_
  rintro e w5 ⟨rfl, hh5, hb5, hz5, hs5⟩
  have HB5 := Lib.hid (HB4.out.trans hb5)
  have HW5 := Lib.hid (HW4.out.trans (hb5.mono (by omega)))
  rw [← hs5 _ _ (by omega) (by omega)] at hd0 hd1
  rw [← hb5.cell (p := ⟨w1.heap.size, 0, none⟩) (by simp)] at hc0
  rw [← hb5.cell (p := ⟨w1.heap.size, 1, none⟩) (by simp)] at hc1
  have HH5 := Lib.hid hh5
  clear hb5 hs5 hh5
  go_wp2_with fail
  refine (heldRhythm_any N A2 c2 L.length 1 (w1.heap.size + 1) w2.heap.size _ hL HH5.out (by omega) (by omega) (by omega)).mono ?_
  rintro e w6 ⟨rfl, hb6⟩
  have HB6 := Lib.hid (HB5.out.trans (hb6.mono (by omega)))
  have HW6 := Lib.hid (HW5.out.trans (hb6.mono (by omega)))
  have hz6 := hb6.size
  rw [← hb6.cell (p := ⟨w2.heap.size, 0, none⟩) (by simp; omega)] at hd0
  rw [← hb6.cell (p := ⟨w2.heap.size, 1, none⟩) (by simp; omega)] at hd1
  rw [← hb6.cell (p := ⟨w1.heap.size, 0, none⟩) (by simp; omega)] at hc0
  rw [← hb6.cell (p := ⟨w1.heap.size, 1, none⟩) (by simp; omega)] at hc1
  have HH6 := Lib.hid (HH5.out.below hb6 (by omega))
  clear hb6
  go_wp2_with fail
  refine (HI.out _).mono ?_
  rintro e w7 ⟨A7, c7, rfl, hr7, hb7⟩
  have HB7 := Lib.hid ((HB6.out.trans (hb7.mono (by omega))).alloc (by have := hb7.size; simp; omega) (.cells #[.int .i64 N, .slice A7 L.length c7] 29))
  have HW7 := Lib.hid ((HW6.out.trans (hb7.mono (by omega))).alloc (by have := hb7.size; omega) (.cells #[.int .i64 N, .slice A7 L.length c7] 29))
  have hz7 := hb7.size
  have hb7' := hb7.alloc hz7 (.cells #[.int .i64 N, .slice A7 L.length c7] 29)
  rw [← hb7'.cell (p := ⟨w2.heap.size, 0, none⟩) (by simp; omega)] at hd0
  rw [← hb7'.cell (p := ⟨w2.heap.size, 1, none⟩) (by simp; omega)] at hd1
  rw [← hb7'.cell (p := ⟨w1.heap.size, 0, none⟩) (by simp; omega)] at hc0
  rw [← hb7'.cell (p := ⟨w1.heap.size, 1, none⟩) (by simp; omega)] at hc1
  have HH7 := Lib.hid (HH6.out.below hb7' (by omega))
  have HI7 := Lib.hid ((hr7.below ((Below.refl _ _).alloc (Nat.le_refl _) (.cells #[.int .i64 N, .slice A7 L.length c7] 29))).ints HF.out)
  obtain ⟨hg0, hg1⟩ := box2 ((Below.refl (w7.heap.size + 1) (w7.alloc (.cells #[.int .i64 N, .slice A7 L.length c7] 29))))
  have hz8 : (w7.alloc (.cells #[.int .i64 N, .slice A7 L.length c7] 29)).heap.size = w7.heap.size + 1 := by simp
  clear hr7 hb7 hb7'
  go_wp2_with fail
  generalize w7.alloc (.cells #[.int .i64 N, .slice A7 L.length c7] 29) = W7 at *
  refine (eqRhythm_any N N _ _ _ _ L L _ HI7.out ((HI1.out.below (by simpa using HB7.out)).mono (by simp; omega))).mono ?_
  rintro e w8 ⟨rfl, hb8⟩
  have HW8 := Lib.hid (HW7.out.trans (hb8.mono (by omega)))
  have hz9 := hb8.size
  rw [← hb8.cell (p := ⟨w2.heap.size, 0, none⟩) (by simp; omega)] at hd0
  rw [← hb8.cell (p := ⟨w2.heap.size, 1, none⟩) (by simp; omega)] at hd1
  have HH8 := Lib.hid (HH7.out.below hb8 (by omega))
  clear hb8 hc0 hc1 hg0 hg1
  go_wp2_with fail
  refine (heldRhythm_any N A2 c2 L.length 1 (w1.heap.size + 1) w2.heap.size _ hL HH8.out (by omega) (by omega) (by omega)).mono ?_
  rintro e w9 ⟨rfl, hb9⟩
  have HW9 := Lib.hid (HW8.out.trans (hb9.mono (by omega)))
  clear hb9
  go_wp2_with fail
  go_ret
  exact ⟨rfl, HW9.out⟩

theorem law_FnExactNewConsole {w : World} :
    Calls Tryd.prog 5 #[] w fun e w' => e = .returned (.bool true) ∧ Below w.heap.size w w' :=
  law_FnExactNewConsole_of 8 [0, 3, 6] w (fun x hx => by simp at hx; unfold Fits; omega) (fun w => spec_NewConsole_any w) (fun w => impl_NewConsole_any w)

end Go.Proofs.YtinmhjeljkiefaaDoor
