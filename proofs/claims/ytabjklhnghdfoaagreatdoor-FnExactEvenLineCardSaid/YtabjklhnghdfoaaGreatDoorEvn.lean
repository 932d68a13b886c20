/-
  The even rhythm, by the program and by the reference.
-/
import Derived.Test.YtabjklhnghdfoaaGreatDoorEvnT
import Derived.Test.YtabjklhnghdfoaaGreatDoorCells
import Derived.Test.YtabjklhnghdfoaaGreatDoorRw
import Derived.Test.YtabjklhnghdfoaaGreatDoorOwn
import Derived.Test.YtabjklhnghdfoaaGreatDoorRok
import Derived.Test.YtabjklhnghdfoaaGreatDoorFrm
import Derived.Deep.RegionLaw
namespace Go.Proofs.YtabjklhnghdfoaaGreatDoor
open Go.RowKit
set_option linter.unusedVariables false
set_option linter.unusedSimpArgs false

set_option maxRecDepth 100000 in
set_option maxHeartbeats 1000000 in
theorem spec_l06Even_any (k n m : Nat) (w : World) (hk1 : 1 ≤ k) (hk : k ≤ 24) (hn1 : 1 ≤ n) (hn : n ≤ 24) (hm : m ≤ 1000) :
    Calls Tryz.prog 27 #[.int .i64 k, .int .i64 n, .int .i64 m] w (RetRh1 w n (ofL (evL k n m k) n)) := by
  have hro := fun (A2 : Option Addr) (c2 : Nat) (V : World) (hV : Ints V V.heap.size A2 (evL k n m k)) => spec_l02Of_any n A2 c2 (evL k n m k) V hV hn1 hn
  have hrl := ofL_len (evL k n m k) n
  generalize ofL (evL k n m k) n = R at hro hrl ⊢
  have HRO := Lib.hid hro
  clear hro
  have HW := Lib.hid (((Below.refl w.heap.size w).alloc (Nat.le_refl _) (.cells #[.int .i64 0, .slice none 0 0] 27)).alloc (by first | exact Nat.le_refl _ | (simp; done) | (simp; omega) | omega) (.cells #[] 3))
  have HN := Lib.hid ((Cells2.new w (.int .i64 0) (.slice none 0 0) 27).alloc (.cells #[] 3))
  have hk0 : ((k : Int) = 0) = False := by simp; omega
  have hk00 : (k = 0) = False := by simp; omega
  go_enter Tryz.func27, Tryz.ntmps27
  go_wp2_with fail
  go_loopw [7, 8] (fun so i wr => ∃ q : Nat, q ≤ k ∧ i = .int .i64 q ∧ OwnI wr (w.heap.size + 1) so (evL k n m q) ∧ Below (w.heap.size + 1) ((w.alloc (.cells #[.int .i64 0, .slice none 0 0] 27)).alloc (.cells #[] 3)) wr) (fun _ i _ => k - (intOf i).toNat)
  case atStart => exact ⟨0, Nat.zero_le _, rfl, OwnI.empty_at _ _ _ (by simp) (by omega), Below.refl _ _⟩
  case round =>
    obtain ⟨q, hq, rfl, hown, hbel⟩ := hrel
    obtain ⟨wo, rfl⟩ : ∃ wo : World, wo = wr := ⟨_, rfl⟩
    have hws : w.heap.size + 2 ≤ wo.heap.size := by have := hbel.size; simpa using this
    have HBE := Lib.hid hbel
    have HO := Lib.hid hown
    obtain ⟨A1, c1, rfl⟩ := hown.form
    have hmk := evL_len k n m q
    have hmk' : (evL k n m q).length ≤ 24 := by omega
    clear hbel hown hmk
    by_cases hlt : q < k
    · have hqn : q * n ≤ 576 := Nat.le_trans (Nat.mul_le_mul (show q ≤ 24 by omega) hn) (by decide)
      have HSU := Lib.hid (evL_succ k n m q)
      have hp0 : (q : Int) * (n : Int) = ((q * n : Nat) : Int) := by push_cast; rfl
      obtain ⟨P, hP⟩ : ∃ P, q * n = P := ⟨_, rfl⟩
      rw [hP] at hp0 hqn HSU
      obtain ⟨D, hD⟩ : ∃ D, (P + m) / k = D := ⟨_, rfl⟩
      rw [hD] at HSU
      have hDl : D ≤ 2000 := by rw [← hD]; exact Nat.le_trans (Nat.div_le_self _ _) (by omega)
      have hw1 : IntKind.i64.wrap (P : Int) = P := i64w (by omega)
      have hw2 : IntKind.i64.wrap ((P : Int) + m) = (P : Int) + m := i64w (by omega)
      have hdv : Int.tdiv ((P : Int) + m) k = (D : Int) := by rw [Int.tdiv_eq_ediv_of_nonneg (by omega), ← hD, Int.natCast_ediv, Int.natCast_add]
      have hdv2 : ((P : Int) + m) / k = (D : Int) := by rw [← hD, Int.natCast_ediv, Int.natCast_add]
      have hw3 : IntKind.i64.wrap (D : Int) = D := i64w (by omega)
      generalize evL k n m q = L at HO HSU hmk' ⊢
      clear hP hD
      go_wp2_with (at_builtin; refine wpList_append_int rfl (.tmp 15) (.tmp 23) rfl (w.heap.size + 1) _ L rfl (HO.out.alloc _) _ _ rfl (cell_new1 _ _ _) (by omega) (by simp; omega) ?_; intro v2 w2 hown2 hb2)
      have HO2 := Lib.hid hown2
      have HB2 := Lib.hid ((HBE.out.alloc (by omega) _).trans hb2)
      clear hown2 hb2
      go_wp2_with fail
      go_roundw
      case rel => exact ⟨q + 1, by omega, by go_num, by rw [HSU.out]; exact HO2.out, HB2.out⟩
      case measure => simp [intOf]; omega
    · have hqe : q = k := by omega
      subst hqe
      have HI := Lib.hid (HO.out.ints (fun x hx => by
        unfold evL at hx
        rw [List.mem_map] at hx
        obtain ⟨i, hi, rfl⟩ := hx
        rw [List.mem_range] at hi
        have h1 : i * n ≤ 576 := Nat.le_trans (Nat.mul_le_mul (show i ≤ 24 by omega) hn) (by decide)
        have h2 := Nat.div_le_self (i * n + m) q
        generalize (i * n + m) / q = z at h2 ⊢
        unfold Fits
        omega))
      generalize evL q n m q = L at HO HRO HI hmk' ⊢
      go_wp2_with fail
      refine (HRO.out A1 c1 _ HI.out).mono ?_
      rintro e w2 ⟨A2, c2, rfl, hrw, hb2⟩
      have hz2 := hb2.size
      obtain ⟨f0, f1, f2, f3, f4⟩ := (HN.out.below HBE.out (by simp)).below hb2 (by omega)
      go_wp2_with fail
      refine bodyPost_ret (v := .agg #[.int .i64 n, .slice A2 R.length c2]) (by simp [results, Tryz.results27, go_sem, f0, f1]) rfl ?_
      refine ⟨A2, c2, rfl, ?_, ?_⟩
      · exact ((hrw.far (p := ⟨w.heap.size, 0, none⟩) (by simp; omega) _).far (p := ⟨w.heap.size, 1, none⟩) (by simp; omega) _).mono (by omega)
      · exact (((HW.out.trans (HBE.out.mono (by omega))).trans (hb2.mono (by omega))).setCell (Nat.le_refl _) _).setCell (Nat.le_refl _) _

set_option maxRecDepth 100000 in
set_option maxHeartbeats 1000000 in
theorem spec_l06Even_none (n : Nat) (w : World) (hn1 : 1 ≤ n) (hn : n ≤ 24) :
    Calls Tryz.prog 27 #[.int .i64 0, .int .i64 n, .int .i64 0] w (RetRh1 w n []) := by
  have HRO := Lib.hid (fun (A2 : Option Addr) (c2 : Nat) (V : World) (hV : Ints V V.heap.size A2 []) => show Calls Tryz.prog 44 #[.int .i64 n, .slice A2 0 c2] V (RetRh1 V n []) from by
    have := spec_l02Of_any n A2 c2 [] V hV hn1 hn
    rwa [show ofL [] n = [] from by
      refine List.eq_nil_iff_forall_not_mem.2 fun x hx => ?_
      obtain ⟨t, _, h, _⟩ := ofL_mem.1 hx
      simp [hasB] at h] at this)
  have HN := Lib.hid ((Cells2.new w (.int .i64 0) (.slice none 0 0) 27).alloc (.cells #[] 3))
  have HW := Lib.hid (((Below.refl w.heap.size w).alloc (Nat.le_refl _) (.cells #[.int .i64 0, .slice none 0 0] 27)).alloc (by first | exact Nat.le_refl _ | (simp; done) | (simp; omega) | omega) (.cells #[] 3))
  have HI := Lib.hid (show Ints ((w.alloc (.cells #[.int .i64 0, .slice none 0 0] 27)).alloc (.cells #[] 3)) ((w.alloc (.cells #[.int .i64 0, .slice none 0 0] 27)).alloc (.cells #[] 3)).heap.size (some ⟨w.heap.size + 1, 0, none⟩) [] from ⟨Nat.zero_le _, (fun x hx => by cases hx), fun h => absurd h (Nat.lt_irrefl 0)⟩)
  go_enter Tryz.func27, Tryz.ntmps27
  go_wp2_with fail
  go_loopw [7, 8] (fun so i wr => i = .int .i64 0 ∧ so = .slice (some ⟨w.heap.size + 1, 0, none⟩) 0 0 ∧ wr = (w.alloc (.cells #[.int .i64 0, .slice none 0 0] 27)).alloc (.cells #[] 3)) (fun _ _ _ => 0)
  case atStart => exact ⟨rfl, rfl, rfl⟩
  case round =>
    obtain ⟨rfl, rfl, rfl⟩ := hrel
    go_wp2_with fail
    refine (HRO.out _ _ _ HI.out).mono ?_
    rintro e w2 ⟨A2, c2, rfl, hrw, hb2⟩
    have hz2 := hb2.size
    simp only [World.size_alloc] at hz2
    obtain ⟨f0, f1, f2, f3, f4⟩ := HN.out.below hb2 (by simp; omega)
    go_wp2_with fail
    refine bodyPost_ret (v := .agg #[.int .i64 n, .slice A2 0 c2]) (by simp [results, Tryz.results27, go_sem, f0, f1]) rfl ?_
    refine ⟨A2, c2, rfl, ?_, ?_⟩
    · exact ⟨Nat.zero_le _, fun h => absurd h (Nat.lt_irrefl 0)⟩
    · exact ((HW.out.trans (hb2.mono (by simp; omega))).setCell (Nat.le_refl _) _).setCell (Nat.le_refl _) _

theorem spec_even_any (n k : Nat) (w : World) (h1 : 1 ≤ n) (h2 : n ≤ 24) (hk : k ≤ n) :
    Calls Tryz.prog 27 #[.int .i64 k, .int .i64 n, .int .i64 0] w (RetRh1 w n (evB n k)) := by
  rcases Nat.eq_zero_or_pos k with rfl | hp
  · exact spec_l06Even_none n w h1 h2
  · have := spec_l06Even_any k n 0 w hp (by omega) h1 h2 (by omega)
    rwa [show ofL (evL k n 0 k) n = evB n k from ofL_rh (evB_ok h1 h2 hk)] at this

set_option maxRecDepth 100000 in
set_option maxHeartbeats 1000000 in
theorem impl_ShiftedEven_any (n k : Nat) (w : World) (hn1 : 1 ≤ n) (hn2 : n ≤ 24) (hk : k ≤ n) :
    Calls Tryz.prog 49 #[.int .i64 k, .int .i64 n, .int .i64 0] w (RetRh2 w n (evB n k) true) := by
  have hi1 : inB (n : Int) 1 24 = true := inB_true ⟨by omega, by omega⟩
  have hi2 : inB (k : Int) 0 n = true := inB_true ⟨by omega, by omega⟩
  have hi3 : inB (0 : Int) 0 ((n : Int) - 1) = true := inB_true ⟨by omega, by omega⟩
  have hwn : IntKind.i64.wrap ((n : Int) - 1) = (n : Int) - 1 := i64w (by omega)
  have HEQ := Lib.hid (show evB n k = evL k n 0 k from rfl)
  rw [HEQ.out]
  rcases Nat.eq_zero_or_pos k with rfl | hkp
  · go_enter Tryz.func49, Tryz.ntmps49
    go_wp2_with (go_at_call 32; refine (within_any _ _ _ _).mono ?_; rintro e w' ⟨rfl, rfl⟩)
    go_loopw [38] (fun i wr => i = .int .i64 0 ∧ wr = (w.alloc (.cells #[.int .i64 0, .slice none 0 0] 27)).alloc (.cells #[.int .i64 n, .slice none 0 0] 27)) (fun _ _ => 0)
    case atStart => exact ⟨rfl, rfl⟩
    case round =>
      obtain ⟨rfl, rfl⟩ := hrel
      have HC1 := Lib.hid ((Cells2.new w (.int .i64 0) (.slice none 0 0) 27).alloc (.cells #[.int .i64 n, .slice none 0 0] 27))
      have HBE := Lib.hid (((Below.refl w.heap.size w).alloc (Nat.le_refl _) (.cells #[.int .i64 0, .slice none 0 0] 27)).alloc (by first | exact Nat.le_refl _ | (simp; done) | (simp; omega) | omega) (.cells #[.int .i64 n, .slice none 0 0] 27))
      obtain ⟨f0, f1, f2, f3, f4⟩ := HC1.out
      go_wp2_with fail
      refine bodyPost_ret (v := .tuple #[.agg #[.int .i64 n, .slice none 0 0], .bool true]) (by simp [results, Tryz.results49, go_sem, f0, f1]) rfl ?_
      exact ⟨none, 0, rfl, ⟨Nat.zero_le _, fun h => absurd h (Nat.lt_irrefl 0)⟩, ((Below.refl w.heap.size w).alloc (Nat.le_refl _) (.cells #[.int .i64 n, .slice none 0 0] 27)).alloc (by first | exact Nat.le_refl _ | (simp; done) | (simp; omega) | omega) (.cells #[.int .i64 n, .slice none 0 0] 27)⟩
  have hk0 : ((k : Int) = 0) = False := eq_false (by omega)
  have hk00 : (k = 0) = False := eq_false (by omega)
  have hkz : ((k : Int) == 0) = false := beq_eq_false_iff_ne.2 (by omega)
  go_enter Tryz.func49, Tryz.ntmps49
  go_wp2_with (go_at_call 32; refine (within_any _ _ _ _).mono ?_; rintro e w' ⟨rfl, rfl⟩)
  clear hi1 hi2 hi3 hwn
  go_loopw [38] (fun i wr => ∃ (q : Nat) (v : Value), q ≤ k ∧ i = .int .i64 q ∧ Cells2 wr (w.heap.size + 1) (.int .i64 n) v ∧ OwnI wr (w.heap.size + 2) v (evL k n 0 q) ∧ (∃ u1 u2, Cells2 wr w.heap.size u1 u2) ∧ Below w.heap.size w wr ∧ w.heap.size + 2 ≤ wr.heap.size) (fun i _ => k - (intOf i).toNat)
  case atStart =>
    refine ⟨0, .slice none 0 0, Nat.zero_le _, rfl, Cells2.new_at _ _ _ _ _ (by simp), OwnI.nil _ _, ⟨_, _, (Cells2.new w _ _ _).alloc _⟩, ?_, by simp⟩
    exact ((Below.refl _ _).alloc (Nat.le_refl _) _).alloc (by first | exact Nat.le_refl _ | (simp; done) | (simp; omega) | omega) _
  case round =>
    obtain ⟨q, v, hq, rfl, hc2, hown, ⟨u1, u2, hc1⟩, hbel, hsz⟩ := hrel
    obtain ⟨wo, rfl⟩ : ∃ wo : World, wo = wr := ⟨_, rfl⟩
    have HC2 := Lib.hid hc2
    have HC1 := Lib.hid hc1
    have HOW := Lib.hid hown
    have HBE := Lib.hid hbel
    obtain ⟨g0, g1, g2, g3, g4⟩ := HC2.out
    obtain ⟨A1, c1, rfl⟩ := hown.form
    rw [evL_len] at HC2 g1
    clear hc2 hown hbel hc1
    by_cases hlt : q < k
    · have hqn : q * n ≤ 576 := Nat.le_trans (Nat.mul_le_mul (show q ≤ 24 by omega) hn2) (by decide)
      have HSU := Lib.hid (evL_succ k n 0 q)
      have hp0 : (q : Int) * (n : Int) = ((q * n : Nat) : Int) := by push_cast; rfl
      obtain ⟨P, hP⟩ : ∃ P, q * n = P := ⟨_, rfl⟩
      rw [hP] at hp0 hqn HSU
      rw [show P + 0 = P from rfl] at HSU
      obtain ⟨D, hD⟩ : ∃ D, P / k = D := ⟨_, rfl⟩
      rw [hD] at HSU
      have hDl : D ≤ 2000 := by rw [← hD]; exact Nat.le_trans (Nat.div_le_self _ _) (by omega)
      have hw1 : IntKind.i64.wrap ((q : Int) * (n : Int)) = P := by rw [hp0]; exact i64w (by omega)
      have hw2 : IntKind.i64.wrap ((P : Int) + 0) = (P : Int) := by rw [Int.add_zero]; exact i64w (by omega)
      have hw2b : IntKind.i64.wrap (P : Int) = (P : Int) := i64w (by omega)
      have hdv : Int.tdiv (P : Int) k = (D : Int) := by rw [Int.tdiv_eq_ediv_of_nonneg (by omega), ← hD, Int.natCast_ediv]
      have hw3 : IntKind.i64.wrap (D : Int) = D := i64w (by omega)
      have hll : (evL k n 0 q).length ≤ 1048576 := by rw [evL_len]; omega
      clear hP hD
      go_wp2_with fail
      have hal := (Below.refl wo.drew.heap.size wo.drew).alloc (Nat.le_refl _) (.cells #[.int .i64 D] 3)
      have HC3 := Lib.hid ((show Cells2 wo.drew (w.heap.size + 1) (.int .i64 n) (.slice A1 q c1) from HC2.out).below hal g4)
      have HC4 := Lib.hid ((show Cells2 wo.drew w.heap.size u1 u2 from HC1.out).below hal (by show w.heap.size < wo.heap.size; omega))
      have HOW3 := Lib.hid ((OwnI.alloc (show OwnI wo.drew (w.heap.size + 2) (.slice A1 (evL k n 0 q).length c1) (evL k n 0 q) from HOW.out)) (.cells #[.int .i64 D] 3))
      have HBE3 := Lib.hid ((Below.drew5_ HBE.out).trans (hal.mono (show w.heap.size ≤ wo.heap.size by omega)))
      have HNW := Lib.hid (cell_new1 wo.drew (.int .i64 D) 3)
      have hsd : w.heap.size + 2 ≤ wo.drew.heap.size := hsz
      have hzz : w.heap.size + 2 ≤ (wo.drew.alloc (.cells #[.int .i64 D] 3)).heap.size := by rw [World.size_alloc]; omega
      rw [evL_len] at HOW3
      clear hal
      obtain ⟨r0, r1, r2, r3, _⟩ := HC3.out
      go_region_law (refine step_append_int (by rfl) _ _ (by rfl) (w.heap.size + 2) _ (evL k n 0 q) (by rfl) HOW3.out _ D (by rfl) HNW.out hll hzz ?_; intro v' w4 hown4 hb4; obtain ⟨A2, c2, rfl⟩ := hown4.form; obtain ⟨s0, s1, s2, s3, _⟩ := HC3.out.below hb4 (by omega))
      all_goals
        have hl4 : (evL k n 0 q ++ [(D : Int)]).length = (evL k n 0 q).length + 1 := by simp
        rw [hl4] at hown4
        have hz4 := hb4.size
        have HX := Lib.hid ((HC3.out.below hb4 (by omega)).set1 (.slice A2 ((evL k n 0 q).length + 1) c2))
        have HY := Lib.hid ((HC4.out.below hb4 (by omega)).far (p := ⟨w.heap.size + 1, 1, none⟩) (by simp) (.slice A2 ((evL k n 0 q).length + 1) c2))
        have HOW6 := Lib.hid (hown4.far (p := ⟨w.heap.size + 1, 1, none⟩) (by simp) (.slice A2 ((evL k n 0 q).length + 1) c2))
        have HBE6 := Lib.hid ((HBE3.out.trans (hb4.mono (by omega))).setCell (p := ⟨w.heap.size + 1, 1, none⟩) (by simp) (.slice A2 ((evL k n 0 q).length + 1) c2))
        have hz6 : w.heap.size + 2 ≤ (w4.setCell ⟨w.heap.size + 1, 1, none⟩ (.slice A2 ((evL k n 0 q).length + 1) c2)).heap.size := by simp [World.setCell]; omega
        clear hown4 hb4 hl4 r0 r1 r2 r3 s0 s1 s2 s3 g0 g1 g2 g3
        go_wp2_with fail
        go_roundw
        case rel => exact ⟨q + 1, _, by omega, by go_num, HX.out, by rw [HSU.out]; exact HOW6.out, ⟨u1, u2, HY.out⟩, HBE6.out, hz6⟩
        case measure => simp [intOf]; omega
    · have hqe : q = k := by omega
      subst hqe
      obtain ⟨f0, f1, f2, f3, f4⟩ := HC1.out
      rw [evL_len] at HOW
      go_wp2_with fail
      refine bodyPost_ret (v := .tuple #[.agg #[.int .i64 n, .slice A1 q c1], .bool true]) (by simp [results, Tryz.results49, go_sem, f0, f1]) rfl ?_
      refine ⟨A1, c1, by rw [evL_len], ?_, ?_⟩
      · have hr := ((HOW.out.far (p := ⟨w.heap.size, 0, none⟩) (by simp) (.int .i64 n)).far (p := ⟨w.heap.size, 1, none⟩) (by simp) (.slice A1 q c1))
        have hr2 := OwnI.rw_ (xs := evL q n 0 q) (cap := c1) (A := A1) (by rw [evL_len]; exact hr) (by rw [evL_len]; omega)
        exact hr2.mono (by omega)
      · exact (HBE.out.setCell (Nat.le_refl _) _).setCell (Nat.le_refl _) _

theorem impl_EvenRhythm_any (n k : Nat) (w : World) (hn1 : 1 ≤ n) (hn2 : n ≤ 24) (hk : k ≤ n) :
    Calls Tryz.prog 34 #[.int .i64 k, .int .i64 n] w (RetRh2 w n (evB n k) true) := by
  have HS := Lib.hid (fun V => impl_ShiftedEven_any n k V hn1 hn2 hk)
  have HC := Lib.hid (Cells2.new w (.int .i64 0) (.slice none 0 0) 27)
  have HB := Lib.hid ((Below.refl w.heap.size w).alloc (Nat.le_refl _) (.cells #[.int .i64 0, .slice none 0 0] 27))
  have HL := Lib.hid (evB_len n k)
  generalize evB n k = L at HS HL ⊢
  go_enter Tryz.func34, Tryz.ntmps34
  go_wp2_with fail
  refine (HS.out _).mono ?_
  rintro e w1 ⟨A1, c1, rfl, hrw, hb⟩
  obtain ⟨f0, f1, f2, f3, f4⟩ := HC.out.below hb HC.out.2.2.2.2
  have HB1 := Lib.hid (HB.out.trans (hb.mono HB.out.size))
  have HRW := Lib.hid hrw
  clear hb hrw
  go_wp2_with fail
  refine bodyPost_ret (v := .tuple #[.agg #[.int .i64 n, .slice A1 L.length c1], .bool true]) (by simp [results, Tryz.results34, go_sem, f0, f1]) rfl ?_
  exact ⟨A1, c1, rfl, (((HRW.out.far (p := ⟨w.heap.size, 0, none⟩) (by simp) _).far (p := ⟨w.heap.size, 1, none⟩) (by simp) _)).mono HB.out.size, (HB1.out.setCell (Nat.le_refl _) _).setCell (Nat.le_refl _) _⟩

end Go.Proofs.YtabjklhnghdfoaaGreatDoor
