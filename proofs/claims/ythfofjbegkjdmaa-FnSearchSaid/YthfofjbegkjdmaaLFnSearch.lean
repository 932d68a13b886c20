/-
  The law FnSearch: the walk.
-/
import Derived.Test.YthfofjbegkjdmaaSeaP
import Derived.Test.YthfofjbegkjdmaaMkOf
import Derived.Deep.CutRange
namespace Go.Proofs.Ythfofjbegkjdmaa
open Go.RowKit
set_option linter.unusedVariables false
set_option linter.unusedSimpArgs false

theorem chs_small : ((List.range 11).all fun n => (List.range 11).all fun k => (List.range 11).all fun i => decide (n < k ∨ k ≤ i ∨ (0 ≤ chs n k i ∧ chs n k i ≤ 1000000))) = true := by decide +kernel
theorem chs_bound {n k i : Nat} (h1 : n ≤ 10) (h2 : k ≤ n) (h3 : i < k) : 0 ≤ chs n k i ∧ chs n k i ≤ 1000000 := by
  have := List.all_eq_true.1 (List.all_eq_true.1 (List.all_eq_true.1 chs_small n (List.mem_range.2 (by omega))) k (List.mem_range.2 (by omega))) i (List.mem_range.2 (by omega))
  rcases of_decide_eq_true this with h | h | h
  · omega
  · omega
  · exact h

set_option maxRecDepth 100000 in
set_option maxHeartbeats 8000000 in
theorem law_FnSearch {w : World} (A : Option Addr) (cap : Nat) (xs : List Int) (hA : Byt w w.heap.size A xs) :
    Calls Try.prog 3 #[.slice A xs.length cap] w fun e w' => e = .returned (.bool true) ∧ Below w.heap.size w w' := by
  have HA := Lib.hid hA
  have hml := hA.1
  unfold maxLen at hml
  clear hA
  by_cases hbig : 1048576 < xs.length
  · go_enter Try.func3, Try.ntmps3
    go_wp2_with fail
    go_ret
    exact ⟨rfl, Below.refl _ _⟩
  go_enter Try.func3, Try.ntmps3
  go_wp2_with fail
  refine (spec_MakeNum_any A cap xs 0 w HA.out (by decide)).mono ?_
  rintro e w1 ⟨⟨x1, rfl, hx0, hx1⟩, hb⟩
  have HB1 := Lib.hid hb
  clear hb
  obtain ⟨x1, rfl⟩ := Int.eq_ofNat_of_zero_le hx0
  obtain ⟨n, hn⟩ : ∃ n : Nat, 1 + (x1 : Int) % 10 = n := ⟨1 + x1 % 10, by omega⟩
  have hwn : IntKind.i64.wrap (n : Int) = n := i64w (by omega)
  have hn1 : 1 ≤ n := by omega
  have hn10 : n ≤ 10 := by omega
  go_wp2_with fail
  clear hn hx0 hx1
  refine (spec_MakeNum_any A cap xs 2 w1 (HA.out.lift HB1.out) (by decide)).mono ?_
  rintro e w2 ⟨⟨x2, rfl, hx0, hx1⟩, hb⟩
  have HB2 := Lib.hid (HB1.out.trans (hb.mono HB1.out.size))
  clear hb
  obtain ⟨x2, rfl⟩ := Int.eq_ofNat_of_zero_le hx0
  obtain ⟨k, hk⟩ : ∃ k : Nat, 1 + (x2 : Int) % (n : Int) = k := ⟨1 + x2 % n, by omega⟩
  have htm : (x2 : Int).tmod (n : Int) = (x2 : Int) % (n : Int) := Int.tmod_eq_emod_of_nonneg (by omega)
  have hmd1 := Int.emod_nonneg (x2 : Int) (show (n : Int) ≠ 0 by omega)
  have hmd2 := Int.emod_lt_of_pos (x2 : Int) (show (0 : Int) < (n : Int) by omega)
  have hk1 : 1 ≤ k := by omega
  have hkn : k ≤ n := by omega
  have hwk : IntKind.i64.wrap (k : Int) = k := i64w (by omega)
  have hwm : IntKind.i64.wrap ((x2 : Int) % (n : Int)) = (x2 : Int) % (n : Int) := i64w (by omega)
  have hnz : ((n : Int) = 0) = False := by rw [eq_iff_iff, iff_false]; omega
  have hnz2 : ¬ n = 0 := by omega
  clear hmd1 hmd2
  go_wp2_with fail
  clear hk hwm htm hx0 hx1
  refine (spec_MakeNum_any A cap xs 4 w2 (HA.out.lift HB2.out) (by decide)).mono ?_
  rintro e w3 ⟨⟨x3, rfl, hx0, hx1⟩, hb⟩
  have HB3 := Lib.hid (HB2.out.trans (hb.mono HB2.out.size))
  clear hb
  obtain ⟨x3, rfl⟩ := Int.eq_ofNat_of_zero_le hx0
  obtain ⟨lo, hlo⟩ : ∃ lo : Nat, 1 + (x3 : Int) % 3 = lo := ⟨1 + x3 % 3, by omega⟩
  have hwl : IntKind.i64.wrap (lo : Int) = lo := i64w (by omega)
  have hl1 : 1 ≤ lo := by omega
  have hl3 : lo ≤ 3 := by omega
  go_wp2_with fail
  clear hlo hx0 hx1
  refine (spec_MakeNum_any A cap xs 6 w3 (HA.out.lift HB3.out) (by decide)).mono ?_
  rintro e w4 ⟨⟨x4, rfl, hx0, hx1⟩, hb⟩
  have HB4 := Lib.hid (HB3.out.trans (hb.mono HB3.out.size))
  clear hb
  obtain ⟨x4, rfl⟩ := Int.eq_ofNat_of_zero_le hx0
  obtain ⟨hi, hhi⟩ : ∃ hi : Nat, (lo : Int) + (x4 : Int) % 5 = hi := ⟨lo + x4 % 5, by omega⟩
  have hwh : IntKind.i64.wrap (hi : Int) = hi := i64w (by omega)
  have hh1 : lo ≤ hi := by omega
  have hh3 : hi ≤ lo + 4 := by omega
  go_wp2_with fail
  clear hhi hx0 hx1 hwn hwk hwl hwh
  have hw := sea_wish (n := (n : Int)) (k := (k : Int)) (lo := (lo : Int)) (hi := (hi : Int)) (by omega) (by omega) (by omega) (by omega)
  obtain ⟨C, hC, hC6⟩ := sea_count hw
  refine (impl_RhythmsFor_any n k lo hi w4).mono ?_
  rintro e w5 ⟨v, rs, rfl, hkey, hown, hb⟩
  have hfit := keyR_fit hkey (rsL_fit n k lo hi)
  rw [rsL_yes hw (by omega) hC] at hkey
  have hrl : rs.length = C := by rw [← keyR_len, hkey, rsP_len]
  obtain rfl := hrl
  obtain ⟨A7, c7, rfl⟩ := hown.form
  have HR5 := Lib.hid (hown.rd (by omega) hfit)
  have HB5 := Lib.hid (HB4.out.trans (hb.mono HB4.out.size))
  have HW := Lib.hid hw
  have HC := Lib.hid hC
  have HK := Lib.hid hkey
  clear hown hb hfit hkey
  have HCF := Lib.hid (fun V => impl_CountFor_any n k lo hi V)
  rw [if_pos hw, hC] at HCF
  have HWI := Lib.hid (fun V => impl_WishOk_any n k lo hi V)
  rw [hw] at HWI
  have HFF := Lib.hid (fun V => impl_FirstFor_any n k lo hi V)
  obtain ⟨N9, hN9⟩ : ∃ z, forN n k lo hi 0 = z := ⟨_, rfl⟩
  obtain ⟨L9, hL9⟩ : ∃ z, forL n k lo hi 0 = z := ⟨_, rfl⟩
  have hok9 : forOk n k lo hi 0 = decide (0 < (rs.length : Int)) := by
    rw [sea_ok hw hC 0]; rfl
  rw [hN9, hL9, hok9] at HFF
  have HG9 := Lib.hid (show 0 < rs.length → N9 = n ∧ L9 = rsB n k lo hi 0 from fun h => by
    have := sea_yes hw hC 0 h
    rw [← hN9, ← hL9]
    exact ⟨this.2.1, this.2.2⟩)
  have HLF := Lib.hid (fun V => impl_LastFor_any n k lo hi V)
  rw [sea_last hw hC] at HLF
  obtain ⟨N11, hN11⟩ : ∃ z, forN n k lo hi ((rs.length : Int) - 1) = z := ⟨_, rfl⟩
  obtain ⟨L11, hL11⟩ : ∃ z, forL n k lo hi ((rs.length : Int) - 1) = z := ⟨_, rfl⟩
  have hok11 : forOk n k lo hi ((rs.length : Int) - 1) = decide (0 < (rs.length : Int)) := by
    rw [sea_ok hw hC, Bool.eq_iff_iff, Bool.and_eq_true, decide_eq_true_eq, decide_eq_true_eq, decide_eq_true_eq]; omega
  rw [hN11, hL11, hok11] at HLF
  have HG11 := Lib.hid (show 0 < rs.length → N11 = n ∧ L11 = rsB n k lo hi (rs.length - 1 : Nat) from fun h => by
    have := sea_yes hw hC (rs.length - 1) (by omega)
    rw [show ((rs.length - 1 : Nat) : Int) = (rs.length : Int) - 1 by omega] at this
    rw [← hN11, ← hL11, this.2.1, this.2.2]
    exact ⟨rfl, rfl⟩)
  clear hN9 hL9 hok9 hN11 hL11 hok11 hw hC
  go_wp2_with fail
  refine (HCF.out _).mono ?_
  rintro e w6 ⟨rfl, hb⟩
  have HB6 := Lib.hid (HB5.out.trans (hb.mono HB5.out.size))
  have HR6 := Lib.hid (HR5.out.lift hb)
  clear hb
  go_wp2_with fail
  refine (HFF.out _).mono ?_
  rintro e w7 ⟨A9, c9, rfl, hrw, hb⟩
  have HB7 := Lib.hid (HB6.out.trans (hb.mono HB6.out.size))
  have HR7 := Lib.hid (HR6.out.lift hb)
  have HB8 := Lib.hid (HB7.out.alloc HB7.out.size (.cells #[.int .i64 N9, .slice A9 L9.length c9] 29))
  have HR8 := Lib.hid (HR7.out.lift ((Below.refl _ _).alloc (Nat.le_refl _) (.cells #[.int .i64 N9, .slice A9 L9.length c9] 29)))
  have HQ8 := Lib.hid (Cells2.new w7 (.int .i64 N9) (.slice A9 L9.length c9) 29)
  have HL8 := Lib.hid (hrw.below ((Below.refl _ _).alloc (Nat.le_refl _) (.cells #[.int .i64 N9, .slice A9 L9.length c9] 29)))
  obtain ⟨q0, q1, _, _, _⟩ := HQ8.out
  clear hb hrw
  go_wp2_with fail
  generalize w7.alloc (.cells #[.int .i64 N9, .slice A9 L9.length c9] 29) = w8 at *
  generalize w7.heap.size = q at *
  refine (HLF.out _).mono ?_
  rintro e w9 ⟨A11, c11, rfl, hrw, hb⟩
  have HB9 := Lib.hid (HB8.out.trans (hb.mono HB8.out.size))
  have HR9 := Lib.hid (HR8.out.lift hb)
  have HQ9 := Lib.hid (HQ8.out.below hb HQ8.out.2.2.2.2)
  have HL9 := Lib.hid (HL8.out.below hb)
  have HB10 := Lib.hid (HB9.out.alloc HB9.out.size (.cells #[.int .i64 N11, .slice A11 L11.length c11] 29))
  have HR10 := Lib.hid (HR9.out.lift ((Below.refl _ _).alloc (Nat.le_refl _) (.cells #[.int .i64 N11, .slice A11 L11.length c11] 29)))
  have HS10 := Lib.hid (Cells2.new w9 (.int .i64 N11) (.slice A11 L11.length c11) 29)
  have HQ10 := Lib.hid (HQ9.out.alloc (.cells #[.int .i64 N11, .slice A11 L11.length c11] 29))
  have HL10 := Lib.hid (HL9.out.below ((Below.refl _ _).alloc (Nat.le_refl _) (.cells #[.int .i64 N11, .slice A11 L11.length c11] 29)))
  have HM10 := Lib.hid (hrw.below ((Below.refl _ _).alloc (Nat.le_refl _) (.cells #[.int .i64 N11, .slice A11 L11.length c11] 29)))
  clear hb hrw q0 q1
  obtain ⟨q0, q1, _, _, _⟩ := HQ10.out
  obtain ⟨s0, s1, _, _, _⟩ := HS10.out
  go_upto_region 11 with fail
  generalize w9.alloc (.cells #[.int .i64 N11, .slice A11 L11.length c11] 29) = w10 at *
  generalize w9.heap.size = qs at *
  go_cut [10, 12, 116] from 45 to 116 (fun _ _ c wx => c = .bool false ∧ Below w.heap.size w wx ∧ RdR wx wx.heap.size A7 rs)
  case first =>
    as_aux_lemma =>
      by_cases hp : 0 < rs.length
      · obtain ⟨d, hd⟩ : ∃ d, rs.length - 1 = d := ⟨_, rfl⟩
        rw [hd] at HG11
        obtain ⟨rfl, rfl⟩ := HG9.out hp
        obtain ⟨rfl, rfl⟩ := HG11.out hp
        clear HG9 HG11
        have hdl : d < rs.length := by omega
        obtain ⟨g, rfl, hg, hc⟩ := HR10.out.2.2 hp
        obtain ⟨a0, a1⟩ := hc 0 hp
        obtain ⟨b0, b1⟩ := hc d hdl
        have hIa := HR10.out.2.1 _ (List.getElem_mem hp)
        have hIb := HR10.out.2.1 _ (List.getElem_mem hdl)
        obtain ⟨e1, e2⟩ := sea_get n k lo hi rs.length 0 hp HK.out hp
        obtain ⟨e3, e4⟩ := sea_get n k lo hi rs.length d hdl HK.out hdl
        unfold RV.slc at a1 b1
        simp only [Nat.zero_mul, Nat.zero_add] at a0 a1
        rw [e1] at a0
        rw [e2] at a1 hIa
        rw [e3] at b0
        rw [e4] at b1 hIb
        have hfX := rh_fits (sea_at HW.out HC.out 0 hp).1
        have hfY := rh_fits (sea_at HW.out HC.out d hdl).1
        have HI910 := Lib.hid (HL10.out.ints hfX)
        have HI1110 := Lib.hid (HM10.out.ints hfY)
        generalize rsB n k lo hi 0 = X at *
        generalize rsB n k lo hi d = Y at *
        generalize rs[0].A = Aa at *
        generalize rs[0].c = ca at *
        generalize rs[d].A = Ab at *
        generalize rs[d].c = cb at *
        have HIa10 := Lib.hid hIa
        have HIb10 := Lib.hid hIb
        have HSZ10 := Lib.hid (show q < w10.heap.size ∧ qs < w10.heap.size ∧ g < w10.heap.size from ⟨HQ10.out.2.2.2.2, HS10.out.2.2.2.2, hg⟩)
        have HF10 := Lib.hid (show w10.cell? ⟨q, 0, none⟩ = some (.int .i64 n) ∧ w10.cell? ⟨q, 1, none⟩ = some (.slice A9 X.length c9) ∧ w10.cell? ⟨qs, 0, none⟩ = some (.int .i64 n) ∧ w10.cell? ⟨qs, 1, none⟩ = some (.slice A11 Y.length c11) ∧ w10.cell? ⟨g, 0, none⟩ = some (.int .i64 n) ∧ w10.cell? ⟨g, 1, none⟩ = some (.slice Aa X.length ca) ∧ w10.cell? ⟨g, d * 2, none⟩ = some (.int .i64 n) ∧ w10.cell? ⟨g, d * 2 + 1, none⟩ = some (.slice Ab Y.length cb) from ⟨q0, q1, s0, s1, a0, a1, b0, b1⟩)
        have hdd : decide ((0 : Int) < (rs.length : Int)) = true := decide_eq_true (by omega)
        have hd0 : (0 : Int) < (rs.length : Int) := by omega
        have hwd : IntKind.i64.wrap ((rs.length : Int) - 1) = (d : Int) := by rw [show (rs.length : Int) - 1 = d by omega]; exact i64w (by omega)
        have hd1 : (0 : Int) ≤ (d : Int) := Int.natCast_nonneg _
        have hd2 : (d : Int) < (rs.length : Int) := by omega
        clear hc hIa hIb e1 e2 e3 e4 hfX hfY hd q0 q1 s0 s1 a0 a1 b0 b1
        have HBd := Lib.hid (Below.drew5_ HB10.out)
        have HRd := Lib.hid (show RdR w10.drew w10.drew.heap.size (some ⟨g, 0, none⟩) rs from HR10.out)
        have HI9d := Lib.hid (show Ints w10.drew w10.drew.heap.size A9 X from HI910.out)
        have HIad := Lib.hid (show Ints w10.drew w10.drew.heap.size Aa X from HIa10.out)
        have HI11d := Lib.hid (show Ints w10.drew w10.drew.heap.size A11 Y from HI1110.out)
        have HIbd := Lib.hid (show Ints w10.drew w10.drew.heap.size Ab Y from HIb10.out)
        have HSZd := Lib.hid (show q < w10.heap.size ∧ qs < w10.heap.size ∧ g < w10.heap.size from HSZ10.out)
        have HFd := Lib.hid (show w10.cell? ⟨q, 0, none⟩ = some (.int .i64 n) ∧ w10.cell? ⟨q, 1, none⟩ = some (.slice A9 X.length c9) ∧ w10.cell? ⟨qs, 0, none⟩ = some (.int .i64 n) ∧ w10.cell? ⟨qs, 1, none⟩ = some (.slice A11 Y.length c11) ∧ w10.cell? ⟨g, 0, none⟩ = some (.int .i64 n) ∧ w10.cell? ⟨g, 1, none⟩ = some (.slice Aa X.length ca) ∧ w10.cell? ⟨g, d * 2, none⟩ = some (.int .i64 n) ∧ w10.cell? ⟨g, d * 2 + 1, none⟩ = some (.slice Ab Y.length cb) from HF10.out)
        (refine wp_region_held_drew (S := (fun w' => w'.cell? ⟨q, 0, none⟩ = some (.int .i64 n) ∧ w'.cell? ⟨q, 1, none⟩ = some (.slice A9 X.length c9) ∧ w'.cell? ⟨qs, 0, none⟩ = some (.int .i64 n) ∧ w'.cell? ⟨qs, 1, none⟩ = some (.slice A11 Y.length c11) ∧ w'.cell? ⟨g, 0, none⟩ = some (.int .i64 n) ∧ w'.cell? ⟨g, 1, none⟩ = some (.slice Aa X.length ca) ∧ w'.cell? ⟨g, d * 2, none⟩ = some (.int .i64 n) ∧ w'.cell? ⟨g, d * 2 + 1, none⟩ = some (.slice Ab Y.length cb))) (by kernel_rfl) ?_ (fun hHeld => ?_); (focus ((try dsimp only); exact HF10.out)))
        ((refine wpAnyH_take (i := 0) (v := ?_) rfl (by kernel_rfl) (by kernel_rfl) (by kernel_rfl) (fun _ _ _ h => h) (Or.inl ⟨by rfl, ?_⟩) (by assumption) ?_; rotate_left; (focus (intro wS hSw; (try dsimp only at hSw); go_simp; (try with_reducible rfl))); (try simp only [Act.put, List.getElem_toArray, List.getElem_cons_zero, List.getElem_cons_succ, List.setIfInBounds_toArray, List.set_cons_zero, List.set_cons_succ])); (refine wpAnyH_take (i := 1) (v := ?_) rfl (by kernel_rfl) (by kernel_rfl) (by kernel_rfl) (fun _ _ _ h => h) (Or.inl ⟨by rfl, ?_⟩) (by assumption) ?_; rotate_left; (focus (intro wS hSw; (try dsimp only at hSw); go_simp; (try with_reducible rfl))); (try simp only [Act.put, List.getElem_toArray, List.getElem_cons_zero, List.getElem_cons_succ, List.setIfInBounds_toArray, List.set_cons_zero, List.set_cons_succ])); (refine wpAnyH_take (i := 2) (v := ?_) rfl (by kernel_rfl) (by kernel_rfl) (by kernel_rfl) (fun _ _ _ h => h) (Or.inl ⟨by rfl, ?_⟩) (by assumption) ?_; rotate_left; (focus (intro wS hSw; (try dsimp only at hSw); go_simp; (try with_reducible rfl))); (try simp only [Act.put, List.getElem_toArray, List.getElem_cons_zero, List.getElem_cons_succ, List.setIfInBounds_toArray, List.set_cons_zero, List.set_cons_succ])); (refine wpAnyH_take (i := 3) (v := ?_) rfl (by kernel_rfl) (by kernel_rfl) (by kernel_rfl) (fun _ _ _ h => h) (Or.inl ⟨by rfl, ?_⟩) (by assumption) ?_; rotate_left; (focus (intro wS hSw; (try dsimp only at hSw); go_simp; (try with_reducible rfl))); (try simp only [Act.put, List.getElem_toArray, List.getElem_cons_zero, List.getElem_cons_succ, List.setIfInBounds_toArray, List.set_cons_zero, List.set_cons_succ])); (refine wpAnyH_take (i := 4) (v := ?_) rfl (by kernel_rfl) (by kernel_rfl) (by kernel_rfl) (fun _ _ _ h => h) (Or.inl ⟨by rfl, ?_⟩) (by assumption) ?_; rotate_left; (focus (intro wS hSw; (try dsimp only at hSw); go_simp; (try with_reducible rfl))); (try simp only [Act.put, List.getElem_toArray, List.getElem_cons_zero, List.getElem_cons_succ, List.setIfInBounds_toArray, List.set_cons_zero, List.set_cons_succ])); (refine wpAnyH_take (i := 5) (v := ?_) rfl (by kernel_rfl) (by kernel_rfl) (by kernel_rfl) (fun _ _ _ h => h) (Or.inl ⟨by rfl, ?_⟩) (by assumption) ?_; rotate_left; (focus (intro wS hSw; (try dsimp only at hSw); go_simp; (try with_reducible rfl))); (try simp only [Act.put, List.getElem_toArray, List.getElem_cons_zero, List.getElem_cons_succ, List.setIfInBounds_toArray, List.set_cons_zero, List.set_cons_succ])); (refine wpAnyH_take (i := 6) (v := ?_) rfl (by kernel_rfl) (by kernel_rfl) (by kernel_rfl) (fun _ _ _ h => h) (Or.inl ⟨by rfl, ?_⟩) (by assumption) ?_; rotate_left; (focus (intro wS hSw; (try dsimp only at hSw); go_simp; (try with_reducible rfl))); (try simp only [Act.put, List.getElem_toArray, List.getElem_cons_zero, List.getElem_cons_succ, List.setIfInBounds_toArray, List.set_cons_zero, List.set_cons_succ])); (refine wpAnyH_take (i := 7) (v := ?_) rfl (by kernel_rfl) (by kernel_rfl) (by kernel_rfl) (fun _ _ _ h => h) (Or.inl ⟨by rfl, ?_⟩) (by assumption) ?_; rotate_left; (focus (intro wS hSw; (try dsimp only at hSw); go_simp; (try with_reducible rfl))); (try simp only [Act.put, List.getElem_toArray, List.getElem_cons_zero, List.getElem_cons_succ, List.setIfInBounds_toArray, List.set_cons_zero, List.set_cons_succ])); (refine wpAnyH_take (i := 8) (v := ?_) rfl (by kernel_rfl) (by kernel_rfl) (by kernel_rfl) (fun _ _ _ h => h) (Or.inl ⟨by rfl, ?_⟩) (by assumption) ?_; rotate_left; (focus (intro wS hSw; (try dsimp only at hSw); go_simp; (try with_reducible rfl))); (try simp only [Act.put, List.getElem_toArray, List.getElem_cons_zero, List.getElem_cons_succ, List.setIfInBounds_toArray, List.set_cons_zero, List.set_cons_succ])); (refine wpAnyH_take (i := 9) (v := ?_) rfl (by kernel_rfl) (by kernel_rfl) (by kernel_rfl) (fun _ _ _ h => h) (Or.inl ⟨by rfl, ?_⟩) (by assumption) ?_; rotate_left; (focus (intro wS hSw; (try dsimp only at hSw); go_simp; (try with_reducible rfl))); (try simp only [Act.put, List.getElem_toArray, List.getElem_cons_zero, List.getElem_cons_succ, List.setIfInBounds_toArray, List.set_cons_zero, List.set_cons_succ])); (refine wpAnyH_take (i := 10) (v := ?_) rfl (by kernel_rfl) (by kernel_rfl) (by kernel_rfl) (fun _ _ _ h => h) (Or.inl ⟨by rfl, ?_⟩) (by assumption) ?_; rotate_left; (focus (intro wS hSw; (try dsimp only at hSw); go_simp; (try with_reducible rfl))); (try simp only [Act.put, List.getElem_toArray, List.getElem_cons_zero, List.getElem_cons_succ, List.setIfInBounds_toArray, List.set_cons_zero, List.set_cons_succ])); (refine wpAnyH_take (i := 11) (v := ?_) rfl (by kernel_rfl) (by kernel_rfl) (by kernel_rfl) (fun _ _ _ h => h) (Or.inl ⟨by rfl, ?_⟩) (by assumption) ?_; rotate_left; (focus (intro wS hSw; (try dsimp only at hSw); go_simp; (try with_reducible rfl))); (try simp only [Act.put, List.getElem_toArray, List.getElem_cons_zero, List.getElem_cons_succ, List.setIfInBounds_toArray, List.set_cons_zero, List.set_cons_succ])); (refine wpAnyH_take (i := 12) (v := ?_) rfl (by kernel_rfl) (by kernel_rfl) (by kernel_rfl) (fun _ _ _ h => h) (Or.inl ⟨by rfl, ?_⟩) (by assumption) ?_; rotate_left; (focus (intro wS hSw; (try dsimp only at hSw); go_simp; (try with_reducible rfl))); (try simp only [Act.put, List.getElem_toArray, List.getElem_cons_zero, List.getElem_cons_succ, List.setIfInBounds_toArray, List.set_cons_zero, List.set_cons_succ])); (refine wpAnyH_take (i := 13) (v := ?_) rfl (by kernel_rfl) (by kernel_rfl) (by kernel_rfl) (fun _ _ _ h => h) (Or.inl ⟨by rfl, ?_⟩) (by assumption) ?_; rotate_left; (focus (intro wS hSw; (try dsimp only at hSw); go_simp; (try with_reducible rfl))); (try simp only [Act.put, List.getElem_toArray, List.getElem_cons_zero, List.getElem_cons_succ, List.setIfInBounds_toArray, List.set_cons_zero, List.set_cons_succ])); (refine wpAnyH_take (i := 14) (v := ?_) rfl (by kernel_rfl) (by kernel_rfl) (by kernel_rfl) (fun _ _ _ h => h) (Or.inl ⟨by rfl, ?_⟩) (by assumption) ?_; rotate_left; (focus (intro wS hSw; (try dsimp only at hSw); go_simp; (try with_reducible rfl))); (try simp only [Act.put, List.getElem_toArray, List.getElem_cons_zero, List.getElem_cons_succ, List.setIfInBounds_toArray, List.set_cons_zero, List.set_cons_succ])); (refine wpAnyH_take (i := 15) (v := ?_) rfl (by kernel_rfl) (by kernel_rfl) (by kernel_rfl) (fun _ _ _ h => h) (Or.inl ⟨by rfl, ?_⟩) (by assumption) ?_; rotate_left; (focus (intro wS hSw; (try dsimp only at hSw); go_simp; (try with_reducible rfl))); (try simp only [Act.put, List.getElem_toArray, List.getElem_cons_zero, List.getElem_cons_succ, List.setIfInBounds_toArray, List.set_cons_zero, List.set_cons_succ])); (refine wpAnyH_take (i := 16) (v := ?_) rfl (by kernel_rfl) (by kernel_rfl) (by kernel_rfl) (fun _ _ _ h => h) (Or.inl ⟨by rfl, ?_⟩) (by assumption) ?_; rotate_left; (focus (intro wS hSw; (try dsimp only at hSw); go_simp; (try with_reducible rfl))); (try simp only [Act.put, List.getElem_toArray, List.getElem_cons_zero, List.getElem_cons_succ, List.setIfInBounds_toArray, List.set_cons_zero, List.set_cons_succ])); (refine wpAnyH_take (i := 17) (v := ?_) rfl (by kernel_rfl) (by kernel_rfl) (by kernel_rfl) (fun _ _ _ h => h) (Or.inl ⟨by rfl, ?_⟩) (by assumption) ?_; rotate_left; (focus (intro wS hSw; (try dsimp only at hSw); go_simp; (try with_reducible rfl))); (try simp only [Act.put, List.getElem_toArray, List.getElem_cons_zero, List.getElem_cons_succ, List.setIfInBounds_toArray, List.set_cons_zero, List.set_cons_succ])); (refine wpAnyH_take (i := 18) (v := ?_) rfl (by kernel_rfl) (by kernel_rfl) (by kernel_rfl) (fun _ _ _ h => h) (Or.inl ⟨by rfl, ?_⟩) (by assumption) ?_; rotate_left; (focus (intro wS hSw; (try dsimp only at hSw); go_simp; (try with_reducible rfl))); (try simp only [Act.put, List.getElem_toArray, List.getElem_cons_zero, List.getElem_cons_succ, List.setIfInBounds_toArray, List.set_cons_zero, List.set_cons_succ])); (refine wpAnyH_take (i := 19) (v := ?_) rfl (by kernel_rfl) (by kernel_rfl) (by kernel_rfl) (fun _ _ _ h => h) (Or.inl ⟨by rfl, ?_⟩) (by assumption) ?_; rotate_left; (focus (intro wS hSw; (try dsimp only at hSw); go_simp; (try with_reducible rfl))); (try simp only [Act.put, List.getElem_toArray, List.getElem_cons_zero, List.getElem_cons_succ, List.setIfInBounds_toArray, List.set_cons_zero, List.set_cons_succ])); (refine wpAnyH_take (i := 20) (v := ?_) rfl (by kernel_rfl) (by kernel_rfl) (by kernel_rfl) (fun _ _ _ h => h) (Or.inl ⟨by rfl, ?_⟩) (by assumption) ?_; rotate_left; (focus (intro wS hSw; (try dsimp only at hSw); go_simp; (try with_reducible rfl))); (try simp only [Act.put, List.getElem_toArray, List.getElem_cons_zero, List.getElem_cons_succ, List.setIfInBounds_toArray, List.set_cons_zero, List.set_cons_succ])); (refine wpAnyH_take (i := 21) (v := ?_) rfl (by kernel_rfl) (by kernel_rfl) (by kernel_rfl) (fun _ _ _ h => h) (Or.inl ⟨by rfl, ?_⟩) (by assumption) ?_; rotate_left; (focus (intro wS hSw; (try dsimp only at hSw); go_simp; (try with_reducible rfl))); (try simp only [Act.put, List.getElem_toArray, List.getElem_cons_zero, List.getElem_cons_succ, List.setIfInBounds_toArray, List.set_cons_zero, List.set_cons_succ])); (refine wpAnyH_take (i := 22) (v := ?_) rfl (by kernel_rfl) (by kernel_rfl) (by kernel_rfl) (fun _ _ _ h => h) (Or.inl ⟨by rfl, ?_⟩) (by assumption) ?_; rotate_left; (focus (intro wS hSw; (try dsimp only at hSw); go_simp; (try with_reducible rfl))); (try simp only [Act.put, List.getElem_toArray, List.getElem_cons_zero, List.getElem_cons_succ, List.setIfInBounds_toArray, List.set_cons_zero, List.set_cons_succ])); (refine wpAnyH_take (i := 23) (v := ?_) rfl (by kernel_rfl) (by kernel_rfl) (by kernel_rfl) (fun _ _ _ h => h) (Or.inl ⟨by rfl, ?_⟩) (by assumption) ?_; rotate_left; (focus (intro wS hSw; (try dsimp only at hSw); go_simp; (try with_reducible rfl))); (try simp only [Act.put, List.getElem_toArray, List.getElem_cons_zero, List.getElem_cons_succ, List.setIfInBounds_toArray, List.set_cons_zero, List.set_cons_succ])))
        (refine wpAnyH_ready (rs := [24]) (by kernel_rfl) (by simp) ?_; refine AllReadyH.cons rfl (fun K hK => ?_) AllReadyH.nil; go_simp)
        go_at_call 10
        refine (laws_rhythms_self n A9 Aa _ _ X _ HI9d.out HIad.out).mono ?_
        rintro e w11 ⟨rfl, hb⟩
        have HB11 := Lib.hid (HBd.out.trans (hb.mono HBd.out.size))
        have HR11 := Lib.hid (HRd.out.lift hb)
        have HI911 := Lib.hid (HI9d.out.lift hb)
        have HIa11 := Lib.hid (HIad.out.lift hb)
        have HI1111 := Lib.hid (HI11d.out.lift hb)
        have HIb11 := Lib.hid (HIbd.out.lift hb)
        have HSZ11 := Lib.hid (show q < w11.heap.size ∧ qs < w11.heap.size ∧ g < w11.heap.size from by have := hb.size; have hz : w10.drew.heap.size = w10.heap.size := rfl; have := HSZd.out; omega)
        have HF11 := Lib.hid (show w11.cell? ⟨q, 0, none⟩ = some (.int .i64 n) ∧ w11.cell? ⟨q, 1, none⟩ = some (.slice A9 X.length c9) ∧ w11.cell? ⟨qs, 0, none⟩ = some (.int .i64 n) ∧ w11.cell? ⟨qs, 1, none⟩ = some (.slice A11 Y.length c11) ∧ w11.cell? ⟨g, 0, none⟩ = some (.int .i64 n) ∧ w11.cell? ⟨g, 1, none⟩ = some (.slice Aa X.length ca) ∧ w11.cell? ⟨g, d * 2, none⟩ = some (.int .i64 n) ∧ w11.cell? ⟨g, d * 2 + 1, none⟩ = some (.slice Ab Y.length cb) from by
          have hk : ∀ b o x, b < w10.heap.size → w10.cell? ⟨b, o, none⟩ = some x → w11.cell? ⟨b, o, none⟩ = some x := fun b o x h e => (hb.cell (p := ⟨b, o, none⟩) h).trans e
          obtain ⟨z1, z2, z3⟩ := HSZd.out
          obtain ⟨f1, f2, f3, f4, f5, f6, f7, f8⟩ := HFd.out
          exact ⟨hk _ _ _ z1 f1, hk _ _ _ z1 f2, hk _ _ _ z2 f3, hk _ _ _ z2 f4, hk _ _ _ z3 f5, hk _ _ _ z3 f6, hk _ _ _ z3 f7, hk _ _ _ z3 f8⟩)
        clear hb
        go_wp2_with fail
        (refine hK.out _ _ ?_ (fun hHeld2 => ?_); (focus ((try dsimp only); exact HF11.out)); (clear hK K); (try simp only [Act.put, List.getElem_toArray, List.getElem_cons_zero, List.getElem_cons_succ, List.setIfInBounds_toArray, List.set_cons_zero, List.set_cons_succ]))
        ((refine wpAnyH_take (i := 25) (v := ?_) rfl (by kernel_rfl) (by kernel_rfl) (by kernel_rfl) (fun _ _ _ h => h) (Or.inl ⟨by rfl, ?_⟩) (by assumption) ?_; rotate_left; (focus (intro wS hSw; (try dsimp only at hSw); go_simp; (try with_reducible rfl))); (try simp only [Act.put, List.getElem_toArray, List.getElem_cons_zero, List.getElem_cons_succ, List.setIfInBounds_toArray, List.set_cons_zero, List.set_cons_succ])); (refine wpAnyH_take (i := 26) (v := ?_) rfl (by kernel_rfl) (by kernel_rfl) (by kernel_rfl) (fun _ _ _ h => h) (Or.inl ⟨by rfl, ?_⟩) (by assumption) ?_; rotate_left; (focus (intro wS hSw; (try dsimp only at hSw); go_simp; (try with_reducible rfl))); (try simp only [Act.put, List.getElem_toArray, List.getElem_cons_zero, List.getElem_cons_succ, List.setIfInBounds_toArray, List.set_cons_zero, List.set_cons_succ])); (refine wpAnyH_take (i := 27) (v := ?_) rfl (by kernel_rfl) (by kernel_rfl) (by kernel_rfl) (fun _ _ _ h => h) (Or.inl ⟨by rfl, ?_⟩) (by assumption) ?_; rotate_left; (focus (intro wS hSw; (try dsimp only at hSw); go_simp; (try with_reducible rfl))); (try simp only [Act.put, List.getElem_toArray, List.getElem_cons_zero, List.getElem_cons_succ, List.setIfInBounds_toArray, List.set_cons_zero, List.set_cons_succ])); (refine wpAnyH_take (i := 28) (v := ?_) rfl (by kernel_rfl) (by kernel_rfl) (by kernel_rfl) (fun _ _ _ h => h) (Or.inl ⟨by rfl, ?_⟩) (by assumption) ?_; rotate_left; (focus (intro wS hSw; (try dsimp only at hSw); go_simp; (try with_reducible rfl))); (try simp only [Act.put, List.getElem_toArray, List.getElem_cons_zero, List.getElem_cons_succ, List.setIfInBounds_toArray, List.set_cons_zero, List.set_cons_succ])); (refine wpAnyH_take (i := 29) (v := ?_) rfl (by kernel_rfl) (by kernel_rfl) (by kernel_rfl) (fun _ _ _ h => h) (Or.inl ⟨by rfl, ?_⟩) (by assumption) ?_; rotate_left; (focus (intro wS hSw; (try dsimp only at hSw); go_simp; (try with_reducible rfl))); (try simp only [Act.put, List.getElem_toArray, List.getElem_cons_zero, List.getElem_cons_succ, List.setIfInBounds_toArray, List.set_cons_zero, List.set_cons_succ])); (refine wpAnyH_take (i := 30) (v := ?_) rfl (by kernel_rfl) (by kernel_rfl) (by kernel_rfl) (fun _ _ _ h => h) (Or.inl ⟨by rfl, ?_⟩) (by assumption) ?_; rotate_left; (focus (intro wS hSw; (try dsimp only at hSw); go_simp; (try with_reducible rfl))); (try simp only [Act.put, List.getElem_toArray, List.getElem_cons_zero, List.getElem_cons_succ, List.setIfInBounds_toArray, List.set_cons_zero, List.set_cons_succ])); (refine wpAnyH_take (i := 31) (v := ?_) rfl (by kernel_rfl) (by kernel_rfl) (by kernel_rfl) (fun _ _ _ h => h) (Or.inl ⟨by rfl, ?_⟩) (by assumption) ?_; rotate_left; (focus (intro wS hSw; (try dsimp only at hSw); go_simp; (try with_reducible rfl))); (try simp only [Act.put, List.getElem_toArray, List.getElem_cons_zero, List.getElem_cons_succ, List.setIfInBounds_toArray, List.set_cons_zero, List.set_cons_succ])); (refine wpAnyH_take (i := 32) (v := ?_) rfl (by kernel_rfl) (by kernel_rfl) (by kernel_rfl) (fun _ _ _ h => h) (Or.inl ⟨by rfl, ?_⟩) (by assumption) ?_; rotate_left; (focus (intro wS hSw; (try dsimp only at hSw); go_simp; (try with_reducible rfl))); (try simp only [Act.put, List.getElem_toArray, List.getElem_cons_zero, List.getElem_cons_succ, List.setIfInBounds_toArray, List.set_cons_zero, List.set_cons_succ])))
        (refine wpAnyH_ready (rs := [33]) (by kernel_rfl) (by simp) ?_; refine AllReadyH.cons rfl (fun K hK => ?_) AllReadyH.nil; go_simp)
        go_at_call 10
        refine (laws_rhythms_self n A11 Ab _ _ Y _ HI1111.out HIb11.out).mono ?_
        rintro e w12 ⟨rfl, hb⟩
        have HB12 := Lib.hid (HB11.out.trans (hb.mono HB11.out.size))
        have HR12 := Lib.hid (HR11.out.lift hb)
        have HI912 := Lib.hid (HI911.out.lift hb)
        have HIa12 := Lib.hid (HIa11.out.lift hb)
        have HI1112 := Lib.hid (HI1111.out.lift hb)
        have HIb12 := Lib.hid (HIb11.out.lift hb)
        have HSZ12 := Lib.hid (show q < w12.heap.size ∧ qs < w12.heap.size ∧ g < w12.heap.size from by have := hb.size; have hz : w11.drew.heap.size = w11.heap.size := rfl; have := HSZ11.out; omega)
        have HF12 := Lib.hid (show w12.cell? ⟨q, 0, none⟩ = some (.int .i64 n) ∧ w12.cell? ⟨q, 1, none⟩ = some (.slice A9 X.length c9) ∧ w12.cell? ⟨qs, 0, none⟩ = some (.int .i64 n) ∧ w12.cell? ⟨qs, 1, none⟩ = some (.slice A11 Y.length c11) ∧ w12.cell? ⟨g, 0, none⟩ = some (.int .i64 n) ∧ w12.cell? ⟨g, 1, none⟩ = some (.slice Aa X.length ca) ∧ w12.cell? ⟨g, d * 2, none⟩ = some (.int .i64 n) ∧ w12.cell? ⟨g, d * 2 + 1, none⟩ = some (.slice Ab Y.length cb) from by
          have hk : ∀ b o x, b < w11.heap.size → w11.cell? ⟨b, o, none⟩ = some x → w12.cell? ⟨b, o, none⟩ = some x := fun b o x h e => (hb.cell (p := ⟨b, o, none⟩) h).trans e
          obtain ⟨z1, z2, z3⟩ := HSZ11.out
          obtain ⟨f1, f2, f3, f4, f5, f6, f7, f8⟩ := HF11.out
          exact ⟨hk _ _ _ z1 f1, hk _ _ _ z1 f2, hk _ _ _ z2 f3, hk _ _ _ z2 f4, hk _ _ _ z3 f5, hk _ _ _ z3 f6, hk _ _ _ z3 f7, hk _ _ _ z3 f8⟩)
        clear hb
        go_wp2_with fail
        (refine hK.out _ _ ?_ (fun hHeld2 => ?_); (focus ((try dsimp only); exact HF12.out)); (clear hK K); (try simp only [Act.put, List.getElem_toArray, List.getElem_cons_zero, List.getElem_cons_succ, List.setIfInBounds_toArray, List.set_cons_zero, List.set_cons_succ]))
        ((refine wpAnyH_take (i := 34) (v := ?_) rfl (by kernel_rfl) (by kernel_rfl) (by kernel_rfl) (fun _ _ _ h => h) (Or.inl ⟨by rfl, ?_⟩) (by assumption) ?_; rotate_left; (focus (intro wS hSw; (try dsimp only at hSw); go_simp; (try with_reducible rfl))); (try simp only [Act.put, List.getElem_toArray, List.getElem_cons_zero, List.getElem_cons_succ, List.setIfInBounds_toArray, List.set_cons_zero, List.set_cons_succ])); (refine wpAnyH_take (i := 35) (v := ?_) rfl (by kernel_rfl) (by kernel_rfl) (by kernel_rfl) (fun _ _ _ h => h) (Or.inl ⟨by rfl, ?_⟩) (by assumption) ?_; rotate_left; (focus (intro wS hSw; (try dsimp only at hSw); go_simp; (try with_reducible rfl))); (try simp only [Act.put, List.getElem_toArray, List.getElem_cons_zero, List.getElem_cons_succ, List.setIfInBounds_toArray, List.set_cons_zero, List.set_cons_succ])); (refine wpAnyH_take (i := 36) (v := ?_) rfl (by kernel_rfl) (by kernel_rfl) (by kernel_rfl) (fun _ _ _ h => h) (Or.inl ⟨by rfl, ?_⟩) (by assumption) ?_; rotate_left; (focus (intro wS hSw; (try dsimp only at hSw); go_simp; (try with_reducible rfl))); (try simp only [Act.put, List.getElem_toArray, List.getElem_cons_zero, List.getElem_cons_succ, List.setIfInBounds_toArray, List.set_cons_zero, List.set_cons_succ])); (refine wpAnyH_take (i := 37) (v := ?_) rfl (by kernel_rfl) (by kernel_rfl) (by kernel_rfl) (fun _ _ _ h => h) (Or.inl ⟨by rfl, ?_⟩) (by assumption) ?_; rotate_left; (focus (intro wS hSw; (try dsimp only at hSw); go_simp; (try with_reducible rfl))); (try simp only [Act.put, List.getElem_toArray, List.getElem_cons_zero, List.getElem_cons_succ, List.setIfInBounds_toArray, List.set_cons_zero, List.set_cons_succ])); (refine wpAnyH_take (i := 38) (v := ?_) rfl (by kernel_rfl) (by kernel_rfl) (by kernel_rfl) (fun _ _ _ h => h) (Or.inl ⟨by rfl, ?_⟩) (by assumption) ?_; rotate_left; (focus (intro wS hSw; (try dsimp only at hSw); go_simp; (try with_reducible rfl))); (try simp only [Act.put, List.getElem_toArray, List.getElem_cons_zero, List.getElem_cons_succ, List.setIfInBounds_toArray, List.set_cons_zero, List.set_cons_succ])); (refine wpAnyH_take (i := 39) (v := ?_) rfl (by kernel_rfl) (by kernel_rfl) (by kernel_rfl) (fun _ _ _ h => h) (Or.inl ⟨by rfl, ?_⟩) (by assumption) ?_; rotate_left; (focus (intro wS hSw; (try dsimp only at hSw); go_simp; (try with_reducible rfl))); (try simp only [Act.put, List.getElem_toArray, List.getElem_cons_zero, List.getElem_cons_succ, List.setIfInBounds_toArray, List.set_cons_zero, List.set_cons_succ])); (refine wpAnyH_take (i := 40) (v := ?_) rfl (by kernel_rfl) (by kernel_rfl) (by kernel_rfl) (fun _ _ _ h => h) (Or.inl ⟨by rfl, ?_⟩) (by assumption) ?_; rotate_left; (focus (intro wS hSw; (try dsimp only at hSw); go_simp; (try with_reducible rfl))); (try simp only [Act.put, List.getElem_toArray, List.getElem_cons_zero, List.getElem_cons_succ, List.setIfInBounds_toArray, List.set_cons_zero, List.set_cons_succ])); (refine wpAnyH_take (i := 41) (v := ?_) rfl (by kernel_rfl) (by kernel_rfl) (by kernel_rfl) (fun _ _ _ h => h) (Or.inl ⟨by rfl, ?_⟩) (by assumption) ?_; rotate_left; (focus (intro wS hSw; (try dsimp only at hSw); go_simp; (try with_reducible rfl))); (try simp only [Act.put, List.getElem_toArray, List.getElem_cons_zero, List.getElem_cons_succ, List.setIfInBounds_toArray, List.set_cons_zero, List.set_cons_succ])); (refine wpAnyH_take (i := 42) (v := ?_) rfl (by kernel_rfl) (by kernel_rfl) (by kernel_rfl) (fun _ _ _ h => h) (Or.inl ⟨by rfl, ?_⟩) (by assumption) ?_; rotate_left; (focus (intro wS hSw; (try dsimp only at hSw); go_simp; (try with_reducible rfl))); (try simp only [Act.put, List.getElem_toArray, List.getElem_cons_zero, List.getElem_cons_succ, List.setIfInBounds_toArray, List.set_cons_zero, List.set_cons_succ])))
        (refine wpAnyH_ready (rs := [43]) (by kernel_rfl) (by simp) ?_; refine AllReadyH.cons rfl (fun K hK => ?_) AllReadyH.nil; go_simp)
        go_at_call 11
        refine (HWI.out _).mono ?_
        rintro e w13 ⟨rfl, rfl⟩
        go_wp2_with fail
        (refine hK.out _ _ ?_ (fun hHeld2 => ?_); (focus ((try dsimp only); exact HF12.out)); (clear hK K); (try simp only [Act.put, List.getElem_toArray, List.getElem_cons_zero, List.getElem_cons_succ, List.setIfInBounds_toArray, List.set_cons_zero, List.set_cons_succ]))
        ((refine wpAnyH_take (i := 44) (v := ?_) rfl (by kernel_rfl) (by kernel_rfl) (by kernel_rfl) (fun _ _ _ h => h) (Or.inl ⟨by rfl, ?_⟩) (by assumption) ?_; rotate_left; (focus (intro wS hSw; (try dsimp only at hSw); go_simp; (try with_reducible rfl))); (try simp only [Act.put, List.getElem_toArray, List.getElem_cons_zero, List.getElem_cons_succ, List.setIfInBounds_toArray, List.set_cons_zero, List.set_cons_succ])); (refine wpAnyH_take (i := 45) (v := ?_) rfl (by kernel_rfl) (by kernel_rfl) (by kernel_rfl) (fun _ _ _ h => h) (Or.inl ⟨by rfl, ?_⟩) (by assumption) ?_; rotate_left; (focus (intro wS hSw; (try dsimp only at hSw); go_simp; (try with_reducible rfl))); (try simp only [Act.put, List.getElem_toArray, List.getElem_cons_zero, List.getElem_cons_succ, List.setIfInBounds_toArray, List.set_cons_zero, List.set_cons_succ])))
        refine wpAnyH_done (by kernel_rfl) ?_ _
        go_wp2_with fail
        go_meet
        exact ⟨rfl, HB12.out, HR12.out⟩
      · have hz : rs.length = 0 := by omega
        have hdd : decide ((0 : Int) < (rs.length : Int)) = false := decide_eq_false (by omega)
        have hd0 : ¬ (0 : Int) < (rs.length : Int) := by omega
        have HBd := Lib.hid (Below.drew5_ HB10.out)
        have HRd := Lib.hid (show RdR w10.drew w10.drew.heap.size A7 rs from HR10.out)
        clear hz q0 q1 s0 s1
        (refine wp_region_held_drew (S := (fun w' => True)) (by kernel_rfl) ?_ (fun hHeld => ?_); (focus ((try dsimp only); (try exact trivial))))
        ((refine wpAnyH_take (i := 0) (v := ?_) rfl (by kernel_rfl) (by kernel_rfl) (by kernel_rfl) (fun _ _ _ h => h) (Or.inl ⟨by rfl, ?_⟩) (by assumption) ?_; rotate_left; (focus (intro wS hSw; (try dsimp only at hSw); go_simp; (try with_reducible rfl))); (try simp only [Act.put, List.getElem_toArray, List.getElem_cons_zero, List.getElem_cons_succ, List.setIfInBounds_toArray, List.set_cons_zero, List.set_cons_succ])); (refine wpAnyH_take (i := 1) (v := ?_) rfl (by kernel_rfl) (by kernel_rfl) (by kernel_rfl) (fun _ _ _ h => h) (Or.inl ⟨by rfl, ?_⟩) (by assumption) ?_; rotate_left; (focus (intro wS hSw; (try dsimp only at hSw); go_simp; (try with_reducible rfl))); (try simp only [Act.put, List.getElem_toArray, List.getElem_cons_zero, List.getElem_cons_succ, List.setIfInBounds_toArray, List.set_cons_zero, List.set_cons_succ])); (refine wpAnyH_take (i := 2) (v := ?_) rfl (by kernel_rfl) (by kernel_rfl) (by kernel_rfl) (fun _ _ _ h => h) (Or.inl ⟨by rfl, ?_⟩) (by assumption) ?_; rotate_left; (focus (intro wS hSw; (try dsimp only at hSw); go_simp; (try with_reducible rfl))); (try simp only [Act.put, List.getElem_toArray, List.getElem_cons_zero, List.getElem_cons_succ, List.setIfInBounds_toArray, List.set_cons_zero, List.set_cons_succ])); (refine wpAnyH_take (i := 3) (v := ?_) rfl (by kernel_rfl) (by kernel_rfl) (by kernel_rfl) (fun _ _ _ h => h) (Or.inl ⟨by rfl, ?_⟩) (by assumption) ?_; rotate_left; (focus (intro wS hSw; (try dsimp only at hSw); go_simp; (try with_reducible rfl))); (try simp only [Act.put, List.getElem_toArray, List.getElem_cons_zero, List.getElem_cons_succ, List.setIfInBounds_toArray, List.set_cons_zero, List.set_cons_succ])); (refine wpAnyH_take (i := 4) (v := ?_) rfl (by kernel_rfl) (by kernel_rfl) (by kernel_rfl) (fun _ _ _ h => h) (Or.inl ⟨by rfl, ?_⟩) (by assumption) ?_; rotate_left; (focus (intro wS hSw; (try dsimp only at hSw); go_simp; (try with_reducible rfl))); (try simp only [Act.put, List.getElem_toArray, List.getElem_cons_zero, List.getElem_cons_succ, List.setIfInBounds_toArray, List.set_cons_zero, List.set_cons_succ])); (refine wpAnyH_take (i := 5) (v := ?_) rfl (by kernel_rfl) (by kernel_rfl) (by kernel_rfl) (fun _ _ _ h => h) (Or.inl ⟨by rfl, ?_⟩) (by assumption) ?_; rotate_left; (focus (intro wS hSw; (try dsimp only at hSw); go_simp; (try with_reducible rfl))); (try simp only [Act.put, List.getElem_toArray, List.getElem_cons_zero, List.getElem_cons_succ, List.setIfInBounds_toArray, List.set_cons_zero, List.set_cons_succ])); (refine wpAnyH_take (i := 6) (v := ?_) rfl (by kernel_rfl) (by kernel_rfl) (by kernel_rfl) (fun _ _ _ h => h) (Or.inl ⟨by rfl, ?_⟩) (by assumption) ?_; rotate_left; (focus (intro wS hSw; (try dsimp only at hSw); go_simp; (try with_reducible rfl))); (try simp only [Act.put, List.getElem_toArray, List.getElem_cons_zero, List.getElem_cons_succ, List.setIfInBounds_toArray, List.set_cons_zero, List.set_cons_succ])); (refine wpAnyH_take (i := 7) (v := ?_) rfl (by kernel_rfl) (by kernel_rfl) (by kernel_rfl) (fun _ _ _ h => h) (Or.inl ⟨by rfl, ?_⟩) (by assumption) ?_; rotate_left; (focus (intro wS hSw; (try dsimp only at hSw); go_simp; (try with_reducible rfl))); (try simp only [Act.put, List.getElem_toArray, List.getElem_cons_zero, List.getElem_cons_succ, List.setIfInBounds_toArray, List.set_cons_zero, List.set_cons_succ])); (refine wpAnyH_take (i := 8) (v := ?_) rfl (by kernel_rfl) (by kernel_rfl) (by kernel_rfl) (fun _ _ _ h => h) (Or.inl ⟨by rfl, ?_⟩) (by assumption) ?_; rotate_left; (focus (intro wS hSw; (try dsimp only at hSw); go_simp; (try with_reducible rfl))); (try simp only [Act.put, List.getElem_toArray, List.getElem_cons_zero, List.getElem_cons_succ, List.setIfInBounds_toArray, List.set_cons_zero, List.set_cons_succ])); (refine wpAnyH_take (i := 9) (v := ?_) rfl (by kernel_rfl) (by kernel_rfl) (by kernel_rfl) (fun _ _ _ h => h) (Or.inl ⟨by rfl, ?_⟩) (by assumption) ?_; rotate_left; (focus (intro wS hSw; (try dsimp only at hSw); go_simp; (try with_reducible rfl))); (try simp only [Act.put, List.getElem_toArray, List.getElem_cons_zero, List.getElem_cons_succ, List.setIfInBounds_toArray, List.set_cons_zero, List.set_cons_succ])); (refine wpAnyH_take (i := 10) (v := ?_) rfl (by kernel_rfl) (by kernel_rfl) (by kernel_rfl) (fun _ _ _ h => h) (Or.inl ⟨by rfl, ?_⟩) (by assumption) ?_; rotate_left; (focus (intro wS hSw; (try dsimp only at hSw); go_simp; (try with_reducible rfl))); (try simp only [Act.put, List.getElem_toArray, List.getElem_cons_zero, List.getElem_cons_succ, List.setIfInBounds_toArray, List.set_cons_zero, List.set_cons_succ])); (refine wpAnyH_take (i := 11) (v := ?_) rfl (by kernel_rfl) (by kernel_rfl) (by kernel_rfl) (fun _ _ _ h => h) (Or.inl ⟨by rfl, ?_⟩) (by assumption) ?_; rotate_left; (focus (intro wS hSw; (try dsimp only at hSw); go_simp; (try with_reducible rfl))); (try simp only [Act.put, List.getElem_toArray, List.getElem_cons_zero, List.getElem_cons_succ, List.setIfInBounds_toArray, List.set_cons_zero, List.set_cons_succ])); (refine wpAnyH_take (i := 12) (v := ?_) rfl (by kernel_rfl) (by kernel_rfl) (by kernel_rfl) (fun _ _ _ h => h) (Or.inl ⟨by rfl, ?_⟩) (by assumption) ?_; rotate_left; (focus (intro wS hSw; (try dsimp only at hSw); go_simp; (try with_reducible rfl))); (try simp only [Act.put, List.getElem_toArray, List.getElem_cons_zero, List.getElem_cons_succ, List.setIfInBounds_toArray, List.set_cons_zero, List.set_cons_succ])); (refine wpAnyH_take (i := 13) (v := ?_) rfl (by kernel_rfl) (by kernel_rfl) (by kernel_rfl) (fun _ _ _ h => h) (Or.inl ⟨by rfl, ?_⟩) (by assumption) ?_; rotate_left; (focus (intro wS hSw; (try dsimp only at hSw); go_simp; (try with_reducible rfl))); (try simp only [Act.put, List.getElem_toArray, List.getElem_cons_zero, List.getElem_cons_succ, List.setIfInBounds_toArray, List.set_cons_zero, List.set_cons_succ])); (refine wpAnyH_take (i := 14) (v := ?_) rfl (by kernel_rfl) (by kernel_rfl) (by kernel_rfl) (fun _ _ _ h => h) (Or.inl ⟨by rfl, ?_⟩) (by assumption) ?_; rotate_left; (focus (intro wS hSw; (try dsimp only at hSw); go_simp; (try with_reducible rfl))); (try simp only [Act.put, List.getElem_toArray, List.getElem_cons_zero, List.getElem_cons_succ, List.setIfInBounds_toArray, List.set_cons_zero, List.set_cons_succ])); (refine wpAnyH_take (i := 15) (v := ?_) rfl (by kernel_rfl) (by kernel_rfl) (by kernel_rfl) (fun _ _ _ h => h) (Or.inl ⟨by rfl, ?_⟩) (by assumption) ?_; rotate_left; (focus (intro wS hSw; (try dsimp only at hSw); go_simp; (try with_reducible rfl))); (try simp only [Act.put, List.getElem_toArray, List.getElem_cons_zero, List.getElem_cons_succ, List.setIfInBounds_toArray, List.set_cons_zero, List.set_cons_succ])); (refine wpAnyH_take (i := 16) (v := ?_) rfl (by kernel_rfl) (by kernel_rfl) (by kernel_rfl) (fun _ _ _ h => h) (Or.inl ⟨by rfl, ?_⟩) (by assumption) ?_; rotate_left; (focus (intro wS hSw; (try dsimp only at hSw); go_simp; (try with_reducible rfl))); (try simp only [Act.put, List.getElem_toArray, List.getElem_cons_zero, List.getElem_cons_succ, List.setIfInBounds_toArray, List.set_cons_zero, List.set_cons_succ])); (refine wpAnyH_take (i := 17) (v := ?_) rfl (by kernel_rfl) (by kernel_rfl) (by kernel_rfl) (fun _ _ _ h => h) (Or.inl ⟨by rfl, ?_⟩) (by assumption) ?_; rotate_left; (focus (intro wS hSw; (try dsimp only at hSw); go_simp; (try with_reducible rfl))); (try simp only [Act.put, List.getElem_toArray, List.getElem_cons_zero, List.getElem_cons_succ, List.setIfInBounds_toArray, List.set_cons_zero, List.set_cons_succ])); (refine wpAnyH_take (i := 18) (v := ?_) rfl (by kernel_rfl) (by kernel_rfl) (by kernel_rfl) (fun _ _ _ h => h) (Or.inl ⟨by rfl, ?_⟩) (by assumption) ?_; rotate_left; (focus (intro wS hSw; (try dsimp only at hSw); go_simp; (try with_reducible rfl))); (try simp only [Act.put, List.getElem_toArray, List.getElem_cons_zero, List.getElem_cons_succ, List.setIfInBounds_toArray, List.set_cons_zero, List.set_cons_succ])); (refine wpAnyH_take (i := 19) (v := ?_) rfl (by kernel_rfl) (by kernel_rfl) (by kernel_rfl) (fun _ _ _ h => h) (Or.inl ⟨by rfl, ?_⟩) (by assumption) ?_; rotate_left; (focus (intro wS hSw; (try dsimp only at hSw); go_simp; (try with_reducible rfl))); (try simp only [Act.put, List.getElem_toArray, List.getElem_cons_zero, List.getElem_cons_succ, List.setIfInBounds_toArray, List.set_cons_zero, List.set_cons_succ])))
        ((refine wpAnyH_take (i := 20) (v := undef) rfl (by kernel_rfl) (by kernel_rfl) (by kernel_rfl) (fun _ _ _ h => h) (Or.inr ⟨by rfl, rfl⟩) (by assumption) ?_; (try simp only [Act.put, List.getElem_toArray, List.getElem_cons_zero, List.getElem_cons_succ, List.setIfInBounds_toArray, List.set_cons_zero, List.set_cons_succ])); (refine wpAnyH_take (i := 21) (v := undef) rfl (by kernel_rfl) (by kernel_rfl) (by kernel_rfl) (fun _ _ _ h => h) (Or.inr ⟨by rfl, rfl⟩) (by assumption) ?_; (try simp only [Act.put, List.getElem_toArray, List.getElem_cons_zero, List.getElem_cons_succ, List.setIfInBounds_toArray, List.set_cons_zero, List.set_cons_succ])); (refine wpAnyH_take (i := 22) (v := undef) rfl (by kernel_rfl) (by kernel_rfl) (by kernel_rfl) (fun _ _ _ h => h) (Or.inr ⟨by rfl, rfl⟩) (by assumption) ?_; (try simp only [Act.put, List.getElem_toArray, List.getElem_cons_zero, List.getElem_cons_succ, List.setIfInBounds_toArray, List.set_cons_zero, List.set_cons_succ])); (refine wpAnyH_take (i := 23) (v := undef) rfl (by kernel_rfl) (by kernel_rfl) (by kernel_rfl) (fun _ _ _ h => h) (Or.inr ⟨by rfl, rfl⟩) (by assumption) ?_; (try simp only [Act.put, List.getElem_toArray, List.getElem_cons_zero, List.getElem_cons_succ, List.setIfInBounds_toArray, List.set_cons_zero, List.set_cons_succ])); (refine wpAnyH_take (i := 24) (v := undef) rfl (by kernel_rfl) (by kernel_rfl) (by kernel_rfl) (fun _ _ _ h => h) (Or.inr ⟨by rfl, rfl⟩) (by assumption) ?_; (try simp only [Act.put, List.getElem_toArray, List.getElem_cons_zero, List.getElem_cons_succ, List.setIfInBounds_toArray, List.set_cons_zero, List.set_cons_succ])); (refine wpAnyH_take (i := 25) (v := undef) rfl (by kernel_rfl) (by kernel_rfl) (by kernel_rfl) (fun _ _ _ h => h) (Or.inr ⟨by rfl, rfl⟩) (by assumption) ?_; (try simp only [Act.put, List.getElem_toArray, List.getElem_cons_zero, List.getElem_cons_succ, List.setIfInBounds_toArray, List.set_cons_zero, List.set_cons_succ])); (refine wpAnyH_take (i := 26) (v := undef) rfl (by kernel_rfl) (by kernel_rfl) (by kernel_rfl) (fun _ _ _ h => h) (Or.inr ⟨by rfl, rfl⟩) (by assumption) ?_; (try simp only [Act.put, List.getElem_toArray, List.getElem_cons_zero, List.getElem_cons_succ, List.setIfInBounds_toArray, List.set_cons_zero, List.set_cons_succ])); (refine wpAnyH_take (i := 27) (v := undef) rfl (by kernel_rfl) (by kernel_rfl) (by kernel_rfl) (fun _ _ _ h => h) (Or.inr ⟨by rfl, rfl⟩) (by assumption) ?_; (try simp only [Act.put, List.getElem_toArray, List.getElem_cons_zero, List.getElem_cons_succ, List.setIfInBounds_toArray, List.set_cons_zero, List.set_cons_succ])); (refine wpAnyH_take (i := 28) (v := undef) rfl (by kernel_rfl) (by kernel_rfl) (by kernel_rfl) (fun _ _ _ h => h) (Or.inr ⟨by rfl, rfl⟩) (by assumption) ?_; (try simp only [Act.put, List.getElem_toArray, List.getElem_cons_zero, List.getElem_cons_succ, List.setIfInBounds_toArray, List.set_cons_zero, List.set_cons_succ])); (refine wpAnyH_take (i := 29) (v := undef) rfl (by kernel_rfl) (by kernel_rfl) (by kernel_rfl) (fun _ _ _ h => h) (Or.inr ⟨by rfl, rfl⟩) (by assumption) ?_; (try simp only [Act.put, List.getElem_toArray, List.getElem_cons_zero, List.getElem_cons_succ, List.setIfInBounds_toArray, List.set_cons_zero, List.set_cons_succ])); (refine wpAnyH_take (i := 30) (v := undef) rfl (by kernel_rfl) (by kernel_rfl) (by kernel_rfl) (fun _ _ _ h => h) (Or.inr ⟨by rfl, rfl⟩) (by assumption) ?_; (try simp only [Act.put, List.getElem_toArray, List.getElem_cons_zero, List.getElem_cons_succ, List.setIfInBounds_toArray, List.set_cons_zero, List.set_cons_succ])); (refine wpAnyH_take (i := 31) (v := undef) rfl (by kernel_rfl) (by kernel_rfl) (by kernel_rfl) (fun _ _ _ h => h) (Or.inr ⟨by rfl, rfl⟩) (by assumption) ?_; (try simp only [Act.put, List.getElem_toArray, List.getElem_cons_zero, List.getElem_cons_succ, List.setIfInBounds_toArray, List.set_cons_zero, List.set_cons_succ])); (refine wpAnyH_take (i := 32) (v := undef) rfl (by kernel_rfl) (by kernel_rfl) (by kernel_rfl) (fun _ _ _ h => h) (Or.inr ⟨by rfl, rfl⟩) (by assumption) ?_; (try simp only [Act.put, List.getElem_toArray, List.getElem_cons_zero, List.getElem_cons_succ, List.setIfInBounds_toArray, List.set_cons_zero, List.set_cons_succ])); (refine wpAnyH_take (i := 33) (v := undef) rfl (by kernel_rfl) (by kernel_rfl) (by kernel_rfl) (fun _ _ _ h => h) (Or.inr ⟨by rfl, rfl⟩) (by assumption) ?_; (try simp only [Act.put, List.getElem_toArray, List.getElem_cons_zero, List.getElem_cons_succ, List.setIfInBounds_toArray, List.set_cons_zero, List.set_cons_succ])); (refine wpAnyH_take (i := 34) (v := undef) rfl (by kernel_rfl) (by kernel_rfl) (by kernel_rfl) (fun _ _ _ h => h) (Or.inr ⟨by rfl, rfl⟩) (by assumption) ?_; (try simp only [Act.put, List.getElem_toArray, List.getElem_cons_zero, List.getElem_cons_succ, List.setIfInBounds_toArray, List.set_cons_zero, List.set_cons_succ])); (refine wpAnyH_take (i := 35) (v := undef) rfl (by kernel_rfl) (by kernel_rfl) (by kernel_rfl) (fun _ _ _ h => h) (Or.inr ⟨by rfl, rfl⟩) (by assumption) ?_; (try simp only [Act.put, List.getElem_toArray, List.getElem_cons_zero, List.getElem_cons_succ, List.setIfInBounds_toArray, List.set_cons_zero, List.set_cons_succ])))
        ((refine wpAnyH_take (i := 36) (v := ?_) rfl (by kernel_rfl) (by kernel_rfl) (by kernel_rfl) (fun _ _ _ h => h) (Or.inl ⟨by rfl, ?_⟩) (by assumption) ?_; rotate_left; (focus (intro wS hSw; (try dsimp only at hSw); go_simp; (try with_reducible rfl))); (try simp only [Act.put, List.getElem_toArray, List.getElem_cons_zero, List.getElem_cons_succ, List.setIfInBounds_toArray, List.set_cons_zero, List.set_cons_succ])); (refine wpAnyH_take (i := 37) (v := ?_) rfl (by kernel_rfl) (by kernel_rfl) (by kernel_rfl) (fun _ _ _ h => h) (Or.inl ⟨by rfl, ?_⟩) (by assumption) ?_; rotate_left; (focus (intro wS hSw; (try dsimp only at hSw); go_simp; (try with_reducible rfl))); (try simp only [Act.put, List.getElem_toArray, List.getElem_cons_zero, List.getElem_cons_succ, List.setIfInBounds_toArray, List.set_cons_zero, List.set_cons_succ])); (refine wpAnyH_take (i := 38) (v := ?_) rfl (by kernel_rfl) (by kernel_rfl) (by kernel_rfl) (fun _ _ _ h => h) (Or.inl ⟨by rfl, ?_⟩) (by assumption) ?_; rotate_left; (focus (intro wS hSw; (try dsimp only at hSw); go_simp; (try with_reducible rfl))); (try simp only [Act.put, List.getElem_toArray, List.getElem_cons_zero, List.getElem_cons_succ, List.setIfInBounds_toArray, List.set_cons_zero, List.set_cons_succ])); (refine wpAnyH_take (i := 39) (v := ?_) rfl (by kernel_rfl) (by kernel_rfl) (by kernel_rfl) (fun _ _ _ h => h) (Or.inl ⟨by rfl, ?_⟩) (by assumption) ?_; rotate_left; (focus (intro wS hSw; (try dsimp only at hSw); go_simp; (try with_reducible rfl))); (try simp only [Act.put, List.getElem_toArray, List.getElem_cons_zero, List.getElem_cons_succ, List.setIfInBounds_toArray, List.set_cons_zero, List.set_cons_succ])); (refine wpAnyH_take (i := 40) (v := ?_) rfl (by kernel_rfl) (by kernel_rfl) (by kernel_rfl) (fun _ _ _ h => h) (Or.inl ⟨by rfl, ?_⟩) (by assumption) ?_; rotate_left; (focus (intro wS hSw; (try dsimp only at hSw); go_simp; (try with_reducible rfl))); (try simp only [Act.put, List.getElem_toArray, List.getElem_cons_zero, List.getElem_cons_succ, List.setIfInBounds_toArray, List.set_cons_zero, List.set_cons_succ])); (refine wpAnyH_take (i := 41) (v := ?_) rfl (by kernel_rfl) (by kernel_rfl) (by kernel_rfl) (fun _ _ _ h => h) (Or.inl ⟨by rfl, ?_⟩) (by assumption) ?_; rotate_left; (focus (intro wS hSw; (try dsimp only at hSw); go_simp; (try with_reducible rfl))); (try simp only [Act.put, List.getElem_toArray, List.getElem_cons_zero, List.getElem_cons_succ, List.setIfInBounds_toArray, List.set_cons_zero, List.set_cons_succ])); (refine wpAnyH_take (i := 42) (v := ?_) rfl (by kernel_rfl) (by kernel_rfl) (by kernel_rfl) (fun _ _ _ h => h) (Or.inl ⟨by rfl, ?_⟩) (by assumption) ?_; rotate_left; (focus (intro wS hSw; (try dsimp only at hSw); go_simp; (try with_reducible rfl))); (try simp only [Act.put, List.getElem_toArray, List.getElem_cons_zero, List.getElem_cons_succ, List.setIfInBounds_toArray, List.set_cons_zero, List.set_cons_succ])))
        (refine wpAnyH_ready (rs := [43]) (by kernel_rfl) (by simp) ?_; refine AllReadyH.cons rfl (fun K hK => ?_) AllReadyH.nil; go_simp)
        go_at_call 11
        refine (HWI.out _).mono ?_
        rintro e w13 ⟨rfl, rfl⟩
        go_wp2_with fail
        (refine hK.out _ _ ?_ (fun hHeld2 => ?_); (focus ((try dsimp only); (try exact trivial))); (clear hK K); (try simp only [Act.put, List.getElem_toArray, List.getElem_cons_zero, List.getElem_cons_succ, List.setIfInBounds_toArray, List.set_cons_zero, List.set_cons_succ]))
        ((refine wpAnyH_take (i := 44) (v := ?_) rfl (by kernel_rfl) (by kernel_rfl) (by kernel_rfl) (fun _ _ _ h => h) (Or.inl ⟨by rfl, ?_⟩) (by assumption) ?_; rotate_left; (focus (intro wS hSw; (try dsimp only at hSw); go_simp; (try with_reducible rfl))); (try simp only [Act.put, List.getElem_toArray, List.getElem_cons_zero, List.getElem_cons_succ, List.setIfInBounds_toArray, List.set_cons_zero, List.set_cons_succ])); (refine wpAnyH_take (i := 45) (v := ?_) rfl (by kernel_rfl) (by kernel_rfl) (by kernel_rfl) (fun _ _ _ h => h) (Or.inl ⟨by rfl, ?_⟩) (by assumption) ?_; rotate_left; (focus (intro wS hSw; (try dsimp only at hSw); go_simp; (try with_reducible rfl))); (try simp only [Act.put, List.getElem_toArray, List.getElem_cons_zero, List.getElem_cons_succ, List.setIfInBounds_toArray, List.set_cons_zero, List.set_cons_succ])))
        refine wpAnyH_done (by kernel_rfl) ?_ _
        go_wp2_with fail
        go_meet
        exact ⟨rfl, HBd.out, HRd.out⟩
  case rest =>
    obtain ⟨rfl, hbel, hrd⟩ := hcut
    have HB10 := Lib.hid hbel
    have HR10 := Lib.hid hrd
    clear hbel hrd
    have hrln : (0 : Int) ≤ (rs.length : Int) := Int.natCast_nonneg _
    go_wp2_with fail
    go_loopw [119] (fun v wr => ∃ i : Nat, i ≤ rs.length ∧ v = .int .i64 i ∧ Below w.heap.size w wr ∧ RdR wr wr.heap.size A7 rs) (fun v _ => rs.length - (intOf v).toNat)
    case atStart => exact ⟨0, Nat.zero_le _, rfl, HB10.out, HR10.out⟩
    case round =>
      obtain ⟨i, hi9, rfl, hbel, hrd⟩ := hrel
      obtain ⟨w20, rfl⟩ : ∃ wo : World, wo = wr := ⟨_, rfl⟩
      have HB20 := Lib.hid hbel
      have HR20 := Lib.hid hrd
      clear hbel hrd
      by_cases hlt : i < rs.length
      · as_aux_lemma =>
          have hi0 : (0 : Int) ≤ (i : Int) := Int.natCast_nonneg _
          have hi1 : (i : Int) < (rs.length : Int) := by omega
          have hii : ((i : Int) != (i : Int)) = false := by simp
          obtain ⟨j, hj⟩ : ∃ j, i - 1 = j := ⟨_, rfl⟩
          have hjl : j < rs.length := by omega
          have hj0 : (0 : Int) ≤ (j : Int) := Int.natCast_nonneg _
          have hj1 : (j : Int) < (rs.length : Int) := by omega
          have hfn : Fits (n : Int) := by unfold Fits; omega
          obtain ⟨g, rfl, hg, hc⟩ := HR20.out.2.2 (by omega)
          obtain ⟨a0, a1⟩ := hc i hlt
          obtain ⟨z0, z1⟩ := hc j hjl
          have hIa := HR20.out.2.1 _ (List.getElem_mem hlt)
          have hIz := HR20.out.2.1 _ (List.getElem_mem hjl)
          obtain ⟨e1, e2⟩ := sea_get n k lo hi rs.length i hlt HK.out hlt
          obtain ⟨e3, e4⟩ := sea_get n k lo hi rs.length j hjl HK.out hjl
          unfold RV.slc at a1 z1
          rw [e1] at a0
          rw [e2] at a1 hIa
          rw [e3] at z0
          rw [e4] at z1 hIz
          obtain ⟨hok, hst, hfor, hidx⟩ := sea_at HW.out HC.out i hlt
          obtain ⟨hs1, hs2⟩ := sea_ends HW.out HC.out i hlt
          have HNX := Lib.hid (show 0 < i → befL (stepsOf n (rsB n k lo hi j)) (stepsOf n (rsB n k lo hi i)) = true ∧ (stepsOf n (rsB n k lo hi j)).length = (stepsOf n (rsB n k lo hi i)).length from fun h => by
            rw [← hj]; exact sea_next HW.out HC.out i h hlt)
          have hfX := rh_fits hok
          have HRF := Lib.hid (fun V => impl_RhythmFor_any n k lo hi i V (by unfold Fits; omega))
          obtain ⟨y1, y2, y3⟩ := sea_yes HW.out HC.out i hlt
          rw [y1, y2, y3] at HRF
          generalize rsB n k lo hi i = X at *
          generalize rsB n k lo hi j = Z at *
          generalize rs[i].A = Aa at *
          generalize rs[i].c = ca at *
          generalize rs[j].A = Az at *
          generalize rs[j].c = cz at *
          have HIF := Lib.hid (fun V h => impl_IsFor_any n Aa ca X n k lo hi V hfn h)
          rw [hfor] at HIF
          have HIX := Lib.hid (fun V h => impl_IndexFor_any n Aa ca X lo hi V hfn h)
          rw [hidx] at HIX
          have HSS := Lib.hid (fun V h => impl_ShortestStep_any n Aa ca X V hfn h)
          have HLS := Lib.hid (fun V h => impl_LongestStep_any n Aa ca X V hfn h)
          obtain ⟨t1, ht1⟩ : ∃ t, (collL (stepsOf (n : Int) X)).getD 0 0 = t := ⟨_, rfl⟩
          obtain ⟨t2, ht2⟩ : ∃ t, (collL (stepsOf (n : Int) X)).getD ((collL (stepsOf (n : Int) X)).length - 1) 0 = t := ⟨_, rfl⟩
          rw [ht1] at HSS hs1
          rw [ht2] at HLS hs2
          have ht1d : decide (t1 < (lo : Int)) = false := decide_eq_false (by omega)
          have ht1n : ¬ t1 < (lo : Int) := by omega
          have ht2d : decide ((hi : Int) < t2) = false := decide_eq_false (by omega)
          have ht2n : ¬ (hi : Int) < t2 := by omega
          have HSX := Lib.hid (fun V h => impl_StepsOf_any n Aa ca X V hfn h)
          have HSZ := Lib.hid (fun V h => impl_StepsOf_any n Az cz Z V hfn h)
          have HIx20 := Lib.hid hIa
          have HIz20 := Lib.hid hIz
          have HG20 := Lib.hid (show w20.cell? ⟨g, j * 2, none⟩ = some (.int .i64 n) ∧ w20.cell? ⟨g, j * 2 + 1, none⟩ = some (.slice Az Z.length cz) ∧ g < w20.heap.size from ⟨z0, z1, hg⟩)
          have HFX := Lib.hid hfX
          have HJ := Lib.hid hj
          clear hok hst hfor hidx hs1 hs2 hfX y1 y2 y3 ht1 ht2 hIa hIz hc e1 e2 e3 e4 z0 z1 hg hj
          go_wp2_with fail
          have HB21 := Lib.hid (HB20.out.alloc HB20.out.size (.cells #[.int .i64 n, .slice Aa X.length ca] 29))
          have hal := (Below.refl w20.heap.size w20).alloc (Nat.le_refl _) (.cells #[.int .i64 n, .slice Aa X.length ca] 29)
          have HR21 := Lib.hid (HR20.out.lift hal)
          have HIx21 := Lib.hid (HIx20.out.lift hal)
          have HIz21 := Lib.hid (HIz20.out.lift hal)
          have HG21 := Lib.hid (show (w20.alloc (.cells #[.int .i64 n, .slice Aa X.length ca] 29)).cell? ⟨g, j * 2, none⟩ = some (.int .i64 n) ∧ (w20.alloc (.cells #[.int .i64 n, .slice Aa X.length ca] 29)).cell? ⟨g, j * 2 + 1, none⟩ = some (.slice Az Z.length cz) ∧ g < (w20.alloc (.cells #[.int .i64 n, .slice Aa X.length ca] 29)).heap.size from
            ⟨(hal.cell (p := ⟨g, j * 2, none⟩) HG20.out.2.2).trans HG20.out.1, (hal.cell (p := ⟨g, j * 2 + 1, none⟩) HG20.out.2.2).trans HG20.out.2.1, Nat.lt_of_lt_of_le HG20.out.2.2 hal.size⟩)
          have HP21 := Lib.hid (Cells2.new w20 (.int .i64 n) (.slice Aa X.length ca) 29)
          clear a0 a1 hal
          generalize w20.alloc (.cells #[.int .i64 n, .slice Aa X.length ca] 29) = w21 at *
          obtain ⟨p14, hp14⟩ : ∃ p, w20.heap.size = p := ⟨_, rfl⟩
          rw [hp14] at HP21 ⊢
          obtain ⟨r0, r1, _, _, _⟩ := HP21.out
          refine (HRF.out _).mono ?_
          rintro e w22 ⟨A15, c15, rfl, hrw, hb⟩
          have HB22 := Lib.hid (HB21.out.trans (hb.mono HB21.out.size))
          have HR22 := Lib.hid (HR21.out.lift hb)
          have HIx22 := Lib.hid (HIx21.out.lift hb)
          have HIz22 := Lib.hid (HIz21.out.lift hb)
          have HG22 := Lib.hid (show w22.cell? ⟨g, j * 2, none⟩ = some (.int .i64 n) ∧ w22.cell? ⟨g, j * 2 + 1, none⟩ = some (.slice Az Z.length cz) ∧ g < w22.heap.size from
            ⟨(hb.cell (p := ⟨g, j * 2, none⟩) HG21.out.2.2).trans HG21.out.1, (hb.cell (p := ⟨g, j * 2 + 1, none⟩) HG21.out.2.2).trans HG21.out.2.1, Nat.lt_of_lt_of_le HG21.out.2.2 hb.size⟩)
          have HP22 := Lib.hid (HP21.out.below hb HP21.out.2.2.2.2)
          clear hb r0 r1
          obtain ⟨r0, r1, _, _, _⟩ := HP22.out
          have hal := (Below.refl w22.heap.size w22).alloc (Nat.le_refl _) (.cells #[.int .i64 n, .slice A15 X.length c15] 29)
          have HB23 := Lib.hid (HB22.out.alloc HB22.out.size (.cells #[.int .i64 n, .slice A15 X.length c15] 29))
          have HR23 := Lib.hid (HR22.out.lift hal)
          have HIx23 := Lib.hid (HIx22.out.lift hal)
          have HIz23 := Lib.hid (HIz22.out.lift hal)
          have HIy23 := Lib.hid ((hrw.ints HFX.out).lift hal)
          have HG23 := Lib.hid (show (w22.alloc (.cells #[.int .i64 n, .slice A15 X.length c15] 29)).cell? ⟨g, j * 2, none⟩ = some (.int .i64 n) ∧ (w22.alloc (.cells #[.int .i64 n, .slice A15 X.length c15] 29)).cell? ⟨g, j * 2 + 1, none⟩ = some (.slice Az Z.length cz) ∧ g < (w22.alloc (.cells #[.int .i64 n, .slice A15 X.length c15] 29)).heap.size from
            ⟨(hal.cell (p := ⟨g, j * 2, none⟩) HG22.out.2.2).trans HG22.out.1, (hal.cell (p := ⟨g, j * 2 + 1, none⟩) HG22.out.2.2).trans HG22.out.2.1, Nat.lt_of_lt_of_le HG22.out.2.2 hal.size⟩)
          have HP23 := Lib.hid (HP22.out.alloc (.cells #[.int .i64 n, .slice A15 X.length c15] 29))
          have HV23 := Lib.hid (Cells2.new w22 (.int .i64 n) (.slice A15 X.length c15) 29)
          clear hrw hal
          go_wp2_with fail
          generalize w22.alloc (.cells #[.int .i64 n, .slice A15 X.length c15] 29) = w23 at *
          obtain ⟨p15, hp15⟩ : ∃ p, w22.heap.size = p := ⟨_, rfl⟩
          rw [hp15] at HV23 ⊢
          have HF23 := Lib.hid (show w23.cell? ⟨p14, 0, none⟩ = some (.int .i64 n) ∧ w23.cell? ⟨p14, 1, none⟩ = some (.slice Aa X.length ca) ∧ w23.cell? ⟨p15, 0, none⟩ = some (.int .i64 n) ∧ w23.cell? ⟨p15, 1, none⟩ = some (.slice A15 X.length c15) ∧ w23.cell? ⟨g, j * 2, none⟩ = some (.int .i64 n) ∧ w23.cell? ⟨g, j * 2 + 1, none⟩ = some (.slice Az Z.length cz) from ⟨HP23.out.1, HP23.out.2.1, HV23.out.1, HV23.out.2.1, HG23.out.1, HG23.out.2.1⟩)
          have HSZ23 := Lib.hid (show p14 < w23.heap.size ∧ p15 < w23.heap.size ∧ g < w23.heap.size from ⟨HP23.out.2.2.2.2, HV23.out.2.2.2.2, HG23.out.2.2⟩)
          clear r0 r1 hp14 hp15
          have HBd := Lib.hid (Below.drew5_ HB23.out)
          have HRd := Lib.hid (show RdR w23.drew w23.drew.heap.size (some ⟨g, 0, none⟩) rs from HR23.out)
          have HIxd := Lib.hid (show Ints w23.drew w23.drew.heap.size Aa X from HIx23.out)
          have HIyd := Lib.hid (show Ints w23.drew w23.drew.heap.size A15 X from HIy23.out)
          have HIzd := Lib.hid (show Ints w23.drew w23.drew.heap.size Az Z from HIz23.out)
          have HSZd := Lib.hid (show p14 < w23.heap.size ∧ p15 < w23.heap.size ∧ g < w23.heap.size from HSZ23.out)
          have HFd := Lib.hid (show w23.cell? ⟨p14, 0, none⟩ = some (.int .i64 n) ∧ w23.cell? ⟨p14, 1, none⟩ = some (.slice Aa X.length ca) ∧ w23.cell? ⟨p15, 0, none⟩ = some (.int .i64 n) ∧ w23.cell? ⟨p15, 1, none⟩ = some (.slice A15 X.length c15) ∧ w23.cell? ⟨g, j * 2, none⟩ = some (.int .i64 n) ∧ w23.cell? ⟨g, j * 2 + 1, none⟩ = some (.slice Az Z.length cz) from HF23.out)
          by_cases h0 : 0 < i
          · have h0i : (0 : Int) < (i : Int) := by omega
            have h0d : decide ((0 : Int) < (i : Int)) = true := decide_eq_true h0i
            have hwj : IntKind.i64.wrap ((i : Int) - 1) = (j : Int) := by have := HJ.out; rw [show (i : Int) - 1 = j by omega]; exact i64w (by omega)
            obtain ⟨hbf, hle⟩ := HNX.out h0
            generalize stepsOf (n : Int) X = SX at *
            generalize stepsOf (n : Int) Z = SZ at *
            have HBF := Lib.hid hbf
            have HLE := Lib.hid hle
            clear hbf hle
            (refine wp_region_held_drew (S := (fun w' => w'.cell? ⟨p14, 0, none⟩ = some (.int .i64 n) ∧ w'.cell? ⟨p14, 1, none⟩ = some (.slice Aa X.length ca) ∧ w'.cell? ⟨p15, 0, none⟩ = some (.int .i64 n) ∧ w'.cell? ⟨p15, 1, none⟩ = some (.slice A15 X.length c15) ∧ w'.cell? ⟨g, j * 2, none⟩ = some (.int .i64 n) ∧ w'.cell? ⟨g, j * 2 + 1, none⟩ = some (.slice Az Z.length cz))) (by kernel_rfl) ?_ (fun hHeld => ?_); (focus ((try dsimp only); exact HF23.out)))
            ((refine wpAnyH_take (i := 0) (v := ?_) rfl (by kernel_rfl) (by kernel_rfl) (by kernel_rfl) (fun _ _ _ h => h) (Or.inl ⟨by rfl, ?_⟩) (by assumption) ?_; rotate_left; (focus (intro wS hSw; (try dsimp only at hSw); go_simp; (try with_reducible rfl))); (try simp only [Act.put, List.getElem_toArray, List.getElem_cons_zero, List.getElem_cons_succ, List.setIfInBounds_toArray, List.set_cons_zero, List.set_cons_succ])); (refine wpAnyH_take (i := 1) (v := ?_) rfl (by kernel_rfl) (by kernel_rfl) (by kernel_rfl) (fun _ _ _ h => h) (Or.inl ⟨by rfl, ?_⟩) (by assumption) ?_; rotate_left; (focus (intro wS hSw; (try dsimp only at hSw); go_simp; (try with_reducible rfl))); (try simp only [Act.put, List.getElem_toArray, List.getElem_cons_zero, List.getElem_cons_succ, List.setIfInBounds_toArray, List.set_cons_zero, List.set_cons_succ])); (refine wpAnyH_take (i := 2) (v := ?_) rfl (by kernel_rfl) (by kernel_rfl) (by kernel_rfl) (fun _ _ _ h => h) (Or.inl ⟨by rfl, ?_⟩) (by assumption) ?_; rotate_left; (focus (intro wS hSw; (try dsimp only at hSw); go_simp; (try with_reducible rfl))); (try simp only [Act.put, List.getElem_toArray, List.getElem_cons_zero, List.getElem_cons_succ, List.setIfInBounds_toArray, List.set_cons_zero, List.set_cons_succ])); (refine wpAnyH_take (i := 3) (v := ?_) rfl (by kernel_rfl) (by kernel_rfl) (by kernel_rfl) (fun _ _ _ h => h) (Or.inl ⟨by rfl, ?_⟩) (by assumption) ?_; rotate_left; (focus (intro wS hSw; (try dsimp only at hSw); go_simp; (try with_reducible rfl))); (try simp only [Act.put, List.getElem_toArray, List.getElem_cons_zero, List.getElem_cons_succ, List.setIfInBounds_toArray, List.set_cons_zero, List.set_cons_succ])); (refine wpAnyH_take (i := 4) (v := ?_) rfl (by kernel_rfl) (by kernel_rfl) (by kernel_rfl) (fun _ _ _ h => h) (Or.inl ⟨by rfl, ?_⟩) (by assumption) ?_; rotate_left; (focus (intro wS hSw; (try dsimp only at hSw); go_simp; (try with_reducible rfl))); (try simp only [Act.put, List.getElem_toArray, List.getElem_cons_zero, List.getElem_cons_succ, List.setIfInBounds_toArray, List.set_cons_zero, List.set_cons_succ])))
            (refine wpAnyH_ready (rs := [5]) (by kernel_rfl) (by simp) ?_; refine AllReadyH.cons rfl (fun K hK => ?_) AllReadyH.nil; go_simp)
            go_at_call 10
            refine (laws_rhythms_self n A15 Aa _ _ X _ HIyd.out HIxd.out).mono ?_
            rintro e w24 ⟨rfl, hb⟩
            have HB24 := Lib.hid (HBd.out.trans (hb.mono HBd.out.size))
            have HR24 := Lib.hid (HRd.out.lift hb)
            have HIx24 := Lib.hid (HIxd.out.lift hb)
            have HIy24 := Lib.hid (HIyd.out.lift hb)
            have HIz24 := Lib.hid (HIzd.out.lift hb)
            have HSZ24 := Lib.hid (show p14 < w24.heap.size ∧ p15 < w24.heap.size ∧ g < w24.heap.size from by have := hb.size; have hz : w23.drew.heap.size = w23.heap.size := rfl; have := HSZd.out; omega)
            have HF24 := Lib.hid (show w24.cell? ⟨p14, 0, none⟩ = some (.int .i64 n) ∧ w24.cell? ⟨p14, 1, none⟩ = some (.slice Aa X.length ca) ∧ w24.cell? ⟨p15, 0, none⟩ = some (.int .i64 n) ∧ w24.cell? ⟨p15, 1, none⟩ = some (.slice A15 X.length c15) ∧ w24.cell? ⟨g, j * 2, none⟩ = some (.int .i64 n) ∧ w24.cell? ⟨g, j * 2 + 1, none⟩ = some (.slice Az Z.length cz) from by
              have hk : ∀ b o x, b < w23.heap.size → w23.cell? ⟨b, o, none⟩ = some x → w24.cell? ⟨b, o, none⟩ = some x := fun b o x h e => (hb.cell (p := ⟨b, o, none⟩) h).trans e
              obtain ⟨z1, z2, z3⟩ := HSZd.out
              obtain ⟨f1, f2, f3, f4, f5, f6⟩ := HFd.out
              exact ⟨hk _ _ _ z1 f1, hk _ _ _ z1 f2, hk _ _ _ z2 f3, hk _ _ _ z2 f4, hk _ _ _ z3 f5, hk _ _ _ z3 f6⟩)
            clear hb
            go_wp2_with fail
            (refine hK.out _ _ ?_ (fun hHeld2 => ?_); (focus ((try dsimp only); exact HF24.out)); (clear hK K); (try simp only [Act.put, List.getElem_toArray, List.getElem_cons_zero, List.getElem_cons_succ, List.setIfInBounds_toArray, List.set_cons_zero, List.set_cons_succ]))
            ((refine wpAnyH_take (i := 6) (v := ?_) rfl (by kernel_rfl) (by kernel_rfl) (by kernel_rfl) (fun _ _ _ h => h) (Or.inl ⟨by rfl, ?_⟩) (by assumption) ?_; rotate_left; (focus (intro wS hSw; (try dsimp only at hSw); go_simp; (try with_reducible rfl))); (try simp only [Act.put, List.getElem_toArray, List.getElem_cons_zero, List.getElem_cons_succ, List.setIfInBounds_toArray, List.set_cons_zero, List.set_cons_succ])); (refine wpAnyH_take (i := 7) (v := ?_) rfl (by kernel_rfl) (by kernel_rfl) (by kernel_rfl) (fun _ _ _ h => h) (Or.inl ⟨by rfl, ?_⟩) (by assumption) ?_; rotate_left; (focus (intro wS hSw; (try dsimp only at hSw); go_simp; (try with_reducible rfl))); (try simp only [Act.put, List.getElem_toArray, List.getElem_cons_zero, List.getElem_cons_succ, List.setIfInBounds_toArray, List.set_cons_zero, List.set_cons_succ])); (refine wpAnyH_take (i := 8) (v := ?_) rfl (by kernel_rfl) (by kernel_rfl) (by kernel_rfl) (fun _ _ _ h => h) (Or.inl ⟨by rfl, ?_⟩) (by assumption) ?_; rotate_left; (focus (intro wS hSw; (try dsimp only at hSw); go_simp; (try with_reducible rfl))); (try simp only [Act.put, List.getElem_toArray, List.getElem_cons_zero, List.getElem_cons_succ, List.setIfInBounds_toArray, List.set_cons_zero, List.set_cons_succ])); (refine wpAnyH_take (i := 9) (v := ?_) rfl (by kernel_rfl) (by kernel_rfl) (by kernel_rfl) (fun _ _ _ h => h) (Or.inl ⟨by rfl, ?_⟩) (by assumption) ?_; rotate_left; (focus (intro wS hSw; (try dsimp only at hSw); go_simp; (try with_reducible rfl))); (try simp only [Act.put, List.getElem_toArray, List.getElem_cons_zero, List.getElem_cons_succ, List.setIfInBounds_toArray, List.set_cons_zero, List.set_cons_succ])); (refine wpAnyH_take (i := 10) (v := ?_) rfl (by kernel_rfl) (by kernel_rfl) (by kernel_rfl) (fun _ _ _ h => h) (Or.inl ⟨by rfl, ?_⟩) (by assumption) ?_; rotate_left; (focus (intro wS hSw; (try dsimp only at hSw); go_simp; (try with_reducible rfl))); (try simp only [Act.put, List.getElem_toArray, List.getElem_cons_zero, List.getElem_cons_succ, List.setIfInBounds_toArray, List.set_cons_zero, List.set_cons_succ])); (refine wpAnyH_take (i := 11) (v := ?_) rfl (by kernel_rfl) (by kernel_rfl) (by kernel_rfl) (fun _ _ _ h => h) (Or.inl ⟨by rfl, ?_⟩) (by assumption) ?_; rotate_left; (focus (intro wS hSw; (try dsimp only at hSw); go_simp; (try with_reducible rfl))); (try simp only [Act.put, List.getElem_toArray, List.getElem_cons_zero, List.getElem_cons_succ, List.setIfInBounds_toArray, List.set_cons_zero, List.set_cons_succ])); (refine wpAnyH_take (i := 12) (v := ?_) rfl (by kernel_rfl) (by kernel_rfl) (by kernel_rfl) (fun _ _ _ h => h) (Or.inl ⟨by rfl, ?_⟩) (by assumption) ?_; rotate_left; (focus (intro wS hSw; (try dsimp only at hSw); go_simp; (try with_reducible rfl))); (try simp only [Act.put, List.getElem_toArray, List.getElem_cons_zero, List.getElem_cons_succ, List.setIfInBounds_toArray, List.set_cons_zero, List.set_cons_succ])); (refine wpAnyH_take (i := 13) (v := ?_) rfl (by kernel_rfl) (by kernel_rfl) (by kernel_rfl) (fun _ _ _ h => h) (Or.inl ⟨by rfl, ?_⟩) (by assumption) ?_; rotate_left; (focus (intro wS hSw; (try dsimp only at hSw); go_simp; (try with_reducible rfl))); (try simp only [Act.put, List.getElem_toArray, List.getElem_cons_zero, List.getElem_cons_succ, List.setIfInBounds_toArray, List.set_cons_zero, List.set_cons_succ])))
            (refine wpAnyH_ready (rs := [14]) (by kernel_rfl) (by simp) ?_; refine AllReadyH.cons rfl (fun K hK => ?_) AllReadyH.nil; go_simp)
            go_at_call 13
            refine (HIF.out _ HIx24.out).mono ?_
            rintro e w25 ⟨rfl, hb⟩
            have HB25 := Lib.hid (HB24.out.trans (hb.mono HB24.out.size))
            have HR25 := Lib.hid (HR24.out.lift hb)
            have HIx25 := Lib.hid (HIx24.out.lift hb)
            have HIy25 := Lib.hid (HIy24.out.lift hb)
            have HIz25 := Lib.hid (HIz24.out.lift hb)
            have HSZ25 := Lib.hid (show p14 < w25.heap.size ∧ p15 < w25.heap.size ∧ g < w25.heap.size from by have := hb.size; have hz : w24.drew.heap.size = w24.heap.size := rfl; have := HSZ24.out; omega)
            have HF25 := Lib.hid (show w25.cell? ⟨p14, 0, none⟩ = some (.int .i64 n) ∧ w25.cell? ⟨p14, 1, none⟩ = some (.slice Aa X.length ca) ∧ w25.cell? ⟨p15, 0, none⟩ = some (.int .i64 n) ∧ w25.cell? ⟨p15, 1, none⟩ = some (.slice A15 X.length c15) ∧ w25.cell? ⟨g, j * 2, none⟩ = some (.int .i64 n) ∧ w25.cell? ⟨g, j * 2 + 1, none⟩ = some (.slice Az Z.length cz) from by
              have hk : ∀ b o x, b < w24.heap.size → w24.cell? ⟨b, o, none⟩ = some x → w25.cell? ⟨b, o, none⟩ = some x := fun b o x h e => (hb.cell (p := ⟨b, o, none⟩) h).trans e
              obtain ⟨z1, z2, z3⟩ := HSZ24.out
              obtain ⟨f1, f2, f3, f4, f5, f6⟩ := HF24.out
              exact ⟨hk _ _ _ z1 f1, hk _ _ _ z1 f2, hk _ _ _ z2 f3, hk _ _ _ z2 f4, hk _ _ _ z3 f5, hk _ _ _ z3 f6⟩)
            clear hb
            go_wp2_with fail
            (refine hK.out _ _ ?_ (fun hHeld2 => ?_); (focus ((try dsimp only); exact HF25.out)); (clear hK K); (try simp only [Act.put, List.getElem_toArray, List.getElem_cons_zero, List.getElem_cons_succ, List.setIfInBounds_toArray, List.set_cons_zero, List.set_cons_succ]))
            ((refine wpAnyH_take (i := 15) (v := ?_) rfl (by kernel_rfl) (by kernel_rfl) (by kernel_rfl) (fun _ _ _ h => h) (Or.inl ⟨by rfl, ?_⟩) (by assumption) ?_; rotate_left; (focus (intro wS hSw; (try dsimp only at hSw); go_simp; (try with_reducible rfl))); (try simp only [Act.put, List.getElem_toArray, List.getElem_cons_zero, List.getElem_cons_succ, List.setIfInBounds_toArray, List.set_cons_zero, List.set_cons_succ])); (refine wpAnyH_take (i := 16) (v := ?_) rfl (by kernel_rfl) (by kernel_rfl) (by kernel_rfl) (fun _ _ _ h => h) (Or.inl ⟨by rfl, ?_⟩) (by assumption) ?_; rotate_left; (focus (intro wS hSw; (try dsimp only at hSw); go_simp; (try with_reducible rfl))); (try simp only [Act.put, List.getElem_toArray, List.getElem_cons_zero, List.getElem_cons_succ, List.setIfInBounds_toArray, List.set_cons_zero, List.set_cons_succ])); (refine wpAnyH_take (i := 17) (v := ?_) rfl (by kernel_rfl) (by kernel_rfl) (by kernel_rfl) (fun _ _ _ h => h) (Or.inl ⟨by rfl, ?_⟩) (by assumption) ?_; rotate_left; (focus (intro wS hSw; (try dsimp only at hSw); go_simp; (try with_reducible rfl))); (try simp only [Act.put, List.getElem_toArray, List.getElem_cons_zero, List.getElem_cons_succ, List.setIfInBounds_toArray, List.set_cons_zero, List.set_cons_succ])); (refine wpAnyH_take (i := 18) (v := ?_) rfl (by kernel_rfl) (by kernel_rfl) (by kernel_rfl) (fun _ _ _ h => h) (Or.inl ⟨by rfl, ?_⟩) (by assumption) ?_; rotate_left; (focus (intro wS hSw; (try dsimp only at hSw); go_simp; (try with_reducible rfl))); (try simp only [Act.put, List.getElem_toArray, List.getElem_cons_zero, List.getElem_cons_succ, List.setIfInBounds_toArray, List.set_cons_zero, List.set_cons_succ])); (refine wpAnyH_take (i := 19) (v := ?_) rfl (by kernel_rfl) (by kernel_rfl) (by kernel_rfl) (fun _ _ _ h => h) (Or.inl ⟨by rfl, ?_⟩) (by assumption) ?_; rotate_left; (focus (intro wS hSw; (try dsimp only at hSw); go_simp; (try with_reducible rfl))); (try simp only [Act.put, List.getElem_toArray, List.getElem_cons_zero, List.getElem_cons_succ, List.setIfInBounds_toArray, List.set_cons_zero, List.set_cons_succ])); (refine wpAnyH_take (i := 20) (v := ?_) rfl (by kernel_rfl) (by kernel_rfl) (by kernel_rfl) (fun _ _ _ h => h) (Or.inl ⟨by rfl, ?_⟩) (by assumption) ?_; rotate_left; (focus (intro wS hSw; (try dsimp only at hSw); go_simp; (try with_reducible rfl))); (try simp only [Act.put, List.getElem_toArray, List.getElem_cons_zero, List.getElem_cons_succ, List.setIfInBounds_toArray, List.set_cons_zero, List.set_cons_succ])); (refine wpAnyH_take (i := 22) (v := ?_) rfl (by kernel_rfl) (by kernel_rfl) (by kernel_rfl) (fun _ _ _ h => h) (Or.inl ⟨by rfl, ?_⟩) (by assumption) ?_; rotate_left; (focus (intro wS hSw; (try dsimp only at hSw); go_simp; (try with_reducible rfl))); (try simp only [Act.put, List.getElem_toArray, List.getElem_cons_zero, List.getElem_cons_succ, List.setIfInBounds_toArray, List.set_cons_zero, List.set_cons_succ])))
            (refine wpAnyH_ready (rs := [21]) (by kernel_rfl) (by simp) ?_; refine AllReadyH.cons rfl (fun K hK => ?_) AllReadyH.nil; go_simp)
            go_at_call 14
            refine (HIX.out _ HIx25.out).mono ?_
            rintro e w26 ⟨rfl, hb⟩
            have HB26 := Lib.hid (HB25.out.trans (hb.mono HB25.out.size))
            have HR26 := Lib.hid (HR25.out.lift hb)
            have HIx26 := Lib.hid (HIx25.out.lift hb)
            have HIy26 := Lib.hid (HIy25.out.lift hb)
            have HIz26 := Lib.hid (HIz25.out.lift hb)
            have HSZ26 := Lib.hid (show p14 < w26.heap.size ∧ p15 < w26.heap.size ∧ g < w26.heap.size from by have := hb.size; have hz : w25.drew.heap.size = w25.heap.size := rfl; have := HSZ25.out; omega)
            have HF26 := Lib.hid (show w26.cell? ⟨p14, 0, none⟩ = some (.int .i64 n) ∧ w26.cell? ⟨p14, 1, none⟩ = some (.slice Aa X.length ca) ∧ w26.cell? ⟨p15, 0, none⟩ = some (.int .i64 n) ∧ w26.cell? ⟨p15, 1, none⟩ = some (.slice A15 X.length c15) ∧ w26.cell? ⟨g, j * 2, none⟩ = some (.int .i64 n) ∧ w26.cell? ⟨g, j * 2 + 1, none⟩ = some (.slice Az Z.length cz) from by
              have hk : ∀ b o x, b < w25.heap.size → w25.cell? ⟨b, o, none⟩ = some x → w26.cell? ⟨b, o, none⟩ = some x := fun b o x h e => (hb.cell (p := ⟨b, o, none⟩) h).trans e
              obtain ⟨z1, z2, z3⟩ := HSZ25.out
              obtain ⟨f1, f2, f3, f4, f5, f6⟩ := HF25.out
              exact ⟨hk _ _ _ z1 f1, hk _ _ _ z1 f2, hk _ _ _ z2 f3, hk _ _ _ z2 f4, hk _ _ _ z3 f5, hk _ _ _ z3 f6⟩)
            clear hb
            go_wp2_with fail
            (refine hK.out _ _ ?_ (fun hHeld2 => ?_); (focus ((try dsimp only); exact HF26.out)); (clear hK K); (try simp only [Act.put, List.getElem_toArray, List.getElem_cons_zero, List.getElem_cons_succ, List.setIfInBounds_toArray, List.set_cons_zero, List.set_cons_succ]))
            ((refine wpAnyH_take (i := 23) (v := ?_) rfl (by kernel_rfl) (by kernel_rfl) (by kernel_rfl) (fun _ _ _ h => h) (Or.inl ⟨by rfl, ?_⟩) (by assumption) ?_; rotate_left; (focus (intro wS hSw; (try dsimp only at hSw); go_simp; (try with_reducible rfl))); (try simp only [Act.put, List.getElem_toArray, List.getElem_cons_zero, List.getElem_cons_succ, List.setIfInBounds_toArray, List.set_cons_zero, List.set_cons_succ])); (refine wpAnyH_take (i := 24) (v := ?_) rfl (by kernel_rfl) (by kernel_rfl) (by kernel_rfl) (fun _ _ _ h => h) (Or.inl ⟨by rfl, ?_⟩) (by assumption) ?_; rotate_left; (focus (intro wS hSw; (try dsimp only at hSw); go_simp; (try with_reducible rfl))); (try simp only [Act.put, List.getElem_toArray, List.getElem_cons_zero, List.getElem_cons_succ, List.setIfInBounds_toArray, List.set_cons_zero, List.set_cons_succ])); (refine wpAnyH_take (i := 25) (v := ?_) rfl (by kernel_rfl) (by kernel_rfl) (by kernel_rfl) (fun _ _ _ h => h) (Or.inl ⟨by rfl, ?_⟩) (by assumption) ?_; rotate_left; (focus (intro wS hSw; (try dsimp only at hSw); go_simp; (try with_reducible rfl))); (try simp only [Act.put, List.getElem_toArray, List.getElem_cons_zero, List.getElem_cons_succ, List.setIfInBounds_toArray, List.set_cons_zero, List.set_cons_succ])); (refine wpAnyH_take (i := 26) (v := ?_) rfl (by kernel_rfl) (by kernel_rfl) (by kernel_rfl) (fun _ _ _ h => h) (Or.inl ⟨by rfl, ?_⟩) (by assumption) ?_; rotate_left; (focus (intro wS hSw; (try dsimp only at hSw); go_simp; (try with_reducible rfl))); (try simp only [Act.put, List.getElem_toArray, List.getElem_cons_zero, List.getElem_cons_succ, List.setIfInBounds_toArray, List.set_cons_zero, List.set_cons_succ])); (refine wpAnyH_take (i := 28) (v := ?_) rfl (by kernel_rfl) (by kernel_rfl) (by kernel_rfl) (fun _ _ _ h => h) (Or.inl ⟨by rfl, ?_⟩) (by assumption) ?_; rotate_left; (focus (intro wS hSw; (try dsimp only at hSw); go_simp; (try with_reducible rfl))); (try simp only [Act.put, List.getElem_toArray, List.getElem_cons_zero, List.getElem_cons_succ, List.setIfInBounds_toArray, List.set_cons_zero, List.set_cons_succ])))
            (refine wpAnyH_ready (rs := [27]) (by kernel_rfl) (by simp) ?_; refine AllReadyH.cons rfl (fun K hK => ?_) AllReadyH.nil; go_simp)
            go_at_call 15
            refine (HSS.out _ HIx26.out).mono ?_
            rintro e w27 ⟨rfl, hb⟩
            have HB27 := Lib.hid (HB26.out.trans (hb.mono HB26.out.size))
            have HR27 := Lib.hid (HR26.out.lift hb)
            have HIx27 := Lib.hid (HIx26.out.lift hb)
            have HIy27 := Lib.hid (HIy26.out.lift hb)
            have HIz27 := Lib.hid (HIz26.out.lift hb)
            have HSZ27 := Lib.hid (show p14 < w27.heap.size ∧ p15 < w27.heap.size ∧ g < w27.heap.size from by have := hb.size; have hz : w26.drew.heap.size = w26.heap.size := rfl; have := HSZ26.out; omega)
            have HF27 := Lib.hid (show w27.cell? ⟨p14, 0, none⟩ = some (.int .i64 n) ∧ w27.cell? ⟨p14, 1, none⟩ = some (.slice Aa X.length ca) ∧ w27.cell? ⟨p15, 0, none⟩ = some (.int .i64 n) ∧ w27.cell? ⟨p15, 1, none⟩ = some (.slice A15 X.length c15) ∧ w27.cell? ⟨g, j * 2, none⟩ = some (.int .i64 n) ∧ w27.cell? ⟨g, j * 2 + 1, none⟩ = some (.slice Az Z.length cz) from by
              have hk : ∀ b o x, b < w26.heap.size → w26.cell? ⟨b, o, none⟩ = some x → w27.cell? ⟨b, o, none⟩ = some x := fun b o x h e => (hb.cell (p := ⟨b, o, none⟩) h).trans e
              obtain ⟨z1, z2, z3⟩ := HSZ26.out
              obtain ⟨f1, f2, f3, f4, f5, f6⟩ := HF26.out
              exact ⟨hk _ _ _ z1 f1, hk _ _ _ z1 f2, hk _ _ _ z2 f3, hk _ _ _ z2 f4, hk _ _ _ z3 f5, hk _ _ _ z3 f6⟩)
            clear hb
            go_wp2_with fail
            (refine hK.out _ _ ?_ (fun hHeld2 => ?_); (focus ((try dsimp only); exact HF27.out)); (clear hK K); (try simp only [Act.put, List.getElem_toArray, List.getElem_cons_zero, List.getElem_cons_succ, List.setIfInBounds_toArray, List.set_cons_zero, List.set_cons_succ]))
            ((refine wpAnyH_take (i := 29) (v := ?_) rfl (by kernel_rfl) (by kernel_rfl) (by kernel_rfl) (fun _ _ _ h => h) (Or.inl ⟨by rfl, ?_⟩) (by assumption) ?_; rotate_left; (focus (intro wS hSw; (try dsimp only at hSw); go_simp; (try with_reducible rfl))); (try simp only [Act.put, List.getElem_toArray, List.getElem_cons_zero, List.getElem_cons_succ, List.setIfInBounds_toArray, List.set_cons_zero, List.set_cons_succ])); (refine wpAnyH_take (i := 30) (v := ?_) rfl (by kernel_rfl) (by kernel_rfl) (by kernel_rfl) (fun _ _ _ h => h) (Or.inl ⟨by rfl, ?_⟩) (by assumption) ?_; rotate_left; (focus (intro wS hSw; (try dsimp only at hSw); go_simp; (try with_reducible rfl))); (try simp only [Act.put, List.getElem_toArray, List.getElem_cons_zero, List.getElem_cons_succ, List.setIfInBounds_toArray, List.set_cons_zero, List.set_cons_succ])); (refine wpAnyH_take (i := 31) (v := ?_) rfl (by kernel_rfl) (by kernel_rfl) (by kernel_rfl) (fun _ _ _ h => h) (Or.inl ⟨by rfl, ?_⟩) (by assumption) ?_; rotate_left; (focus (intro wS hSw; (try dsimp only at hSw); go_simp; (try with_reducible rfl))); (try simp only [Act.put, List.getElem_toArray, List.getElem_cons_zero, List.getElem_cons_succ, List.setIfInBounds_toArray, List.set_cons_zero, List.set_cons_succ])); (refine wpAnyH_take (i := 32) (v := ?_) rfl (by kernel_rfl) (by kernel_rfl) (by kernel_rfl) (fun _ _ _ h => h) (Or.inl ⟨by rfl, ?_⟩) (by assumption) ?_; rotate_left; (focus (intro wS hSw; (try dsimp only at hSw); go_simp; (try with_reducible rfl))); (try simp only [Act.put, List.getElem_toArray, List.getElem_cons_zero, List.getElem_cons_succ, List.setIfInBounds_toArray, List.set_cons_zero, List.set_cons_succ])); (refine wpAnyH_take (i := 34) (v := ?_) rfl (by kernel_rfl) (by kernel_rfl) (by kernel_rfl) (fun _ _ _ h => h) (Or.inl ⟨by rfl, ?_⟩) (by assumption) ?_; rotate_left; (focus (intro wS hSw; (try dsimp only at hSw); go_simp; (try with_reducible rfl))); (try simp only [Act.put, List.getElem_toArray, List.getElem_cons_zero, List.getElem_cons_succ, List.setIfInBounds_toArray, List.set_cons_zero, List.set_cons_succ])))
            (refine wpAnyH_ready (rs := [33]) (by kernel_rfl) (by simp) ?_; refine AllReadyH.cons rfl (fun K hK => ?_) AllReadyH.nil; go_simp)
            go_at_call 16
            refine (HLS.out _ HIx27.out).mono ?_
            rintro e w28 ⟨rfl, hb⟩
            have HB28 := Lib.hid (HB27.out.trans (hb.mono HB27.out.size))
            have HR28 := Lib.hid (HR27.out.lift hb)
            have HIx28 := Lib.hid (HIx27.out.lift hb)
            have HIy28 := Lib.hid (HIy27.out.lift hb)
            have HIz28 := Lib.hid (HIz27.out.lift hb)
            have HSZ28 := Lib.hid (show p14 < w28.heap.size ∧ p15 < w28.heap.size ∧ g < w28.heap.size from by have := hb.size; have hz : w27.drew.heap.size = w27.heap.size := rfl; have := HSZ27.out; omega)
            have HF28 := Lib.hid (show w28.cell? ⟨p14, 0, none⟩ = some (.int .i64 n) ∧ w28.cell? ⟨p14, 1, none⟩ = some (.slice Aa X.length ca) ∧ w28.cell? ⟨p15, 0, none⟩ = some (.int .i64 n) ∧ w28.cell? ⟨p15, 1, none⟩ = some (.slice A15 X.length c15) ∧ w28.cell? ⟨g, j * 2, none⟩ = some (.int .i64 n) ∧ w28.cell? ⟨g, j * 2 + 1, none⟩ = some (.slice Az Z.length cz) from by
              have hk : ∀ b o x, b < w27.heap.size → w27.cell? ⟨b, o, none⟩ = some x → w28.cell? ⟨b, o, none⟩ = some x := fun b o x h e => (hb.cell (p := ⟨b, o, none⟩) h).trans e
              obtain ⟨z1, z2, z3⟩ := HSZ27.out
              obtain ⟨f1, f2, f3, f4, f5, f6⟩ := HF27.out
              exact ⟨hk _ _ _ z1 f1, hk _ _ _ z1 f2, hk _ _ _ z2 f3, hk _ _ _ z2 f4, hk _ _ _ z3 f5, hk _ _ _ z3 f6⟩)
            clear hb
            go_wp2_with fail
            (refine hK.out _ _ ?_ (fun hHeld2 => ?_); (focus ((try dsimp only); exact HF28.out)); (clear hK K); (try simp only [Act.put, List.getElem_toArray, List.getElem_cons_zero, List.getElem_cons_succ, List.setIfInBounds_toArray, List.set_cons_zero, List.set_cons_succ]))
            ((refine wpAnyH_take (i := 35) (v := ?_) rfl (by kernel_rfl) (by kernel_rfl) (by kernel_rfl) (fun _ _ _ h => h) (Or.inl ⟨by rfl, ?_⟩) (by assumption) ?_; rotate_left; (focus (intro wS hSw; (try dsimp only at hSw); go_simp; (try with_reducible rfl))); (try simp only [Act.put, List.getElem_toArray, List.getElem_cons_zero, List.getElem_cons_succ, List.setIfInBounds_toArray, List.set_cons_zero, List.set_cons_succ])); (refine wpAnyH_take (i := 36) (v := ?_) rfl (by kernel_rfl) (by kernel_rfl) (by kernel_rfl) (fun _ _ _ h => h) (Or.inl ⟨by rfl, ?_⟩) (by assumption) ?_; rotate_left; (focus (intro wS hSw; (try dsimp only at hSw); go_simp; (try with_reducible rfl))); (try simp only [Act.put, List.getElem_toArray, List.getElem_cons_zero, List.getElem_cons_succ, List.setIfInBounds_toArray, List.set_cons_zero, List.set_cons_succ])); (refine wpAnyH_take (i := 37) (v := ?_) rfl (by kernel_rfl) (by kernel_rfl) (by kernel_rfl) (fun _ _ _ h => h) (Or.inl ⟨by rfl, ?_⟩) (by assumption) ?_; rotate_left; (focus (intro wS hSw; (try dsimp only at hSw); go_simp; (try with_reducible rfl))); (try simp only [Act.put, List.getElem_toArray, List.getElem_cons_zero, List.getElem_cons_succ, List.setIfInBounds_toArray, List.set_cons_zero, List.set_cons_succ])))
            ((refine wpAnyH_take (i := 38) (v := ?_) rfl (by kernel_rfl) (by kernel_rfl) (by kernel_rfl) (fun _ _ _ h => h) (Or.inl ⟨by rfl, ?_⟩) (by assumption) ?_; rotate_left; (focus (intro wS hSw; (try dsimp only at hSw); go_simp; (try with_reducible rfl))); (try simp only [Act.put, List.getElem_toArray, List.getElem_cons_zero, List.getElem_cons_succ, List.setIfInBounds_toArray, List.set_cons_zero, List.set_cons_succ])); (refine wpAnyH_take (i := 39) (v := ?_) rfl (by kernel_rfl) (by kernel_rfl) (by kernel_rfl) (fun _ _ _ h => h) (Or.inl ⟨by rfl, ?_⟩) (by assumption) ?_; rotate_left; (focus (intro wS hSw; (try dsimp only at hSw); go_simp; (try with_reducible rfl))); (try simp only [Act.put, List.getElem_toArray, List.getElem_cons_zero, List.getElem_cons_succ, List.setIfInBounds_toArray, List.set_cons_zero, List.set_cons_succ])); (refine wpAnyH_take (i := 40) (v := ?_) rfl (by kernel_rfl) (by kernel_rfl) (by kernel_rfl) (fun _ _ _ h => h) (Or.inl ⟨by rfl, ?_⟩) (by assumption) ?_; rotate_left; (focus (intro wS hSw; (try dsimp only at hSw); go_simp; (try with_reducible rfl))); (try simp only [Act.put, List.getElem_toArray, List.getElem_cons_zero, List.getElem_cons_succ, List.setIfInBounds_toArray, List.set_cons_zero, List.set_cons_succ])); (refine wpAnyH_take (i := 41) (v := ?_) rfl (by kernel_rfl) (by kernel_rfl) (by kernel_rfl) (fun _ _ _ h => h) (Or.inl ⟨by rfl, ?_⟩) (by assumption) ?_; rotate_left; (focus (intro wS hSw; (try dsimp only at hSw); go_simp; (try with_reducible rfl))); (try simp only [Act.put, List.getElem_toArray, List.getElem_cons_zero, List.getElem_cons_succ, List.setIfInBounds_toArray, List.set_cons_zero, List.set_cons_succ])); (refine wpAnyH_take (i := 42) (v := ?_) rfl (by kernel_rfl) (by kernel_rfl) (by kernel_rfl) (fun _ _ _ h => h) (Or.inl ⟨by rfl, ?_⟩) (by assumption) ?_; rotate_left; (focus (intro wS hSw; (try dsimp only at hSw); go_simp; (try with_reducible rfl))); (try simp only [Act.put, List.getElem_toArray, List.getElem_cons_zero, List.getElem_cons_succ, List.setIfInBounds_toArray, List.set_cons_zero, List.set_cons_succ])); (refine wpAnyH_take (i := 43) (v := ?_) rfl (by kernel_rfl) (by kernel_rfl) (by kernel_rfl) (fun _ _ _ h => h) (Or.inl ⟨by rfl, ?_⟩) (by assumption) ?_; rotate_left; (focus (intro wS hSw; (try dsimp only at hSw); go_simp; (try with_reducible rfl))); (try simp only [Act.put, List.getElem_toArray, List.getElem_cons_zero, List.getElem_cons_succ, List.setIfInBounds_toArray, List.set_cons_zero, List.set_cons_succ])); (refine wpAnyH_take (i := 44) (v := ?_) rfl (by kernel_rfl) (by kernel_rfl) (by kernel_rfl) (fun _ _ _ h => h) (Or.inl ⟨by rfl, ?_⟩) (by assumption) ?_; rotate_left; (focus (intro wS hSw; (try dsimp only at hSw); go_simp; (try with_reducible rfl))); (try simp only [Act.put, List.getElem_toArray, List.getElem_cons_zero, List.getElem_cons_succ, List.setIfInBounds_toArray, List.set_cons_zero, List.set_cons_succ])); (refine wpAnyH_take (i := 45) (v := ?_) rfl (by kernel_rfl) (by kernel_rfl) (by kernel_rfl) (fun _ _ _ h => h) (Or.inl ⟨by rfl, ?_⟩) (by assumption) ?_; rotate_left; (focus (intro wS hSw; (try dsimp only at hSw); go_simp; (try with_reducible rfl))); (try simp only [Act.put, List.getElem_toArray, List.getElem_cons_zero, List.getElem_cons_succ, List.setIfInBounds_toArray, List.set_cons_zero, List.set_cons_succ])); (refine wpAnyH_take (i := 47) (v := ?_) rfl (by kernel_rfl) (by kernel_rfl) (by kernel_rfl) (fun _ _ _ h => h) (Or.inl ⟨by rfl, ?_⟩) (by assumption) ?_; rotate_left; (focus (intro wS hSw; (try dsimp only at hSw); go_simp; (try with_reducible rfl))); (try simp only [Act.put, List.getElem_toArray, List.getElem_cons_zero, List.getElem_cons_succ, List.setIfInBounds_toArray, List.set_cons_zero, List.set_cons_succ])))
            (refine wpAnyH_ready (rs := [46]) (by kernel_rfl) (by simp) ?_; refine AllReadyH.cons rfl (fun K hK => ?_) AllReadyH.nil; go_simp)
            go_at_call 18
            refine (HSZ.out _ HIz28.out).mono ?_
            rintro e w29 ⟨A29, c29, rfl, hI29, hb⟩
            have HIu29 := Lib.hid hI29
            clear hI29
            have HB29 := Lib.hid (HB28.out.trans (hb.mono HB28.out.size))
            have HR29 := Lib.hid (HR28.out.lift hb)
            have HIx29 := Lib.hid (HIx28.out.lift hb)
            have HIy29 := Lib.hid (HIy28.out.lift hb)
            have HIz29 := Lib.hid (HIz28.out.lift hb)
            have HSZ29 := Lib.hid (show p14 < w29.heap.size ∧ p15 < w29.heap.size ∧ g < w29.heap.size from by have := hb.size; have hz : w28.drew.heap.size = w28.heap.size := rfl; have := HSZ28.out; omega)
            have HF29 := Lib.hid (show w29.cell? ⟨p14, 0, none⟩ = some (.int .i64 n) ∧ w29.cell? ⟨p14, 1, none⟩ = some (.slice Aa X.length ca) ∧ w29.cell? ⟨p15, 0, none⟩ = some (.int .i64 n) ∧ w29.cell? ⟨p15, 1, none⟩ = some (.slice A15 X.length c15) ∧ w29.cell? ⟨g, j * 2, none⟩ = some (.int .i64 n) ∧ w29.cell? ⟨g, j * 2 + 1, none⟩ = some (.slice Az Z.length cz) from by
              have hk : ∀ b o x, b < w28.heap.size → w28.cell? ⟨b, o, none⟩ = some x → w29.cell? ⟨b, o, none⟩ = some x := fun b o x h e => (hb.cell (p := ⟨b, o, none⟩) h).trans e
              obtain ⟨z1, z2, z3⟩ := HSZ28.out
              obtain ⟨f1, f2, f3, f4, f5, f6⟩ := HF28.out
              exact ⟨hk _ _ _ z1 f1, hk _ _ _ z1 f2, hk _ _ _ z2 f3, hk _ _ _ z2 f4, hk _ _ _ z3 f5, hk _ _ _ z3 f6⟩)
            clear hb
            go_wp2_with fail
            (refine hK.out _ _ ?_ (fun hHeld2 => ?_); (focus ((try dsimp only); exact HF29.out)); (clear hK K); (try simp only [Act.put, List.getElem_toArray, List.getElem_cons_zero, List.getElem_cons_succ, List.setIfInBounds_toArray, List.set_cons_zero, List.set_cons_succ]))
            (refine wpAnyH_ready (rs := [48]) (by kernel_rfl) (by simp) ?_; refine AllReadyH.cons rfl (fun K hK => ?_) AllReadyH.nil; go_simp)
            go_at_call 18
            refine (HSX.out _ HIx29.out).mono ?_
            rintro e w30 ⟨A30, c30, rfl, hI30, hb⟩
            have HIv30 := Lib.hid hI30
            have HIu30 := Lib.hid (HIu29.out.lift hb)
            clear hI30
            have HB30 := Lib.hid (HB29.out.trans (hb.mono HB29.out.size))
            have HR30 := Lib.hid (HR29.out.lift hb)
            have HIx30 := Lib.hid (HIx29.out.lift hb)
            have HIy30 := Lib.hid (HIy29.out.lift hb)
            have HIz30 := Lib.hid (HIz29.out.lift hb)
            have HSZ30 := Lib.hid (show p14 < w30.heap.size ∧ p15 < w30.heap.size ∧ g < w30.heap.size from by have := hb.size; have hz : w29.drew.heap.size = w29.heap.size := rfl; have := HSZ29.out; omega)
            have HF30 := Lib.hid (show w30.cell? ⟨p14, 0, none⟩ = some (.int .i64 n) ∧ w30.cell? ⟨p14, 1, none⟩ = some (.slice Aa X.length ca) ∧ w30.cell? ⟨p15, 0, none⟩ = some (.int .i64 n) ∧ w30.cell? ⟨p15, 1, none⟩ = some (.slice A15 X.length c15) ∧ w30.cell? ⟨g, j * 2, none⟩ = some (.int .i64 n) ∧ w30.cell? ⟨g, j * 2 + 1, none⟩ = some (.slice Az Z.length cz) from by
              have hk : ∀ b o x, b < w29.heap.size → w29.cell? ⟨b, o, none⟩ = some x → w30.cell? ⟨b, o, none⟩ = some x := fun b o x h e => (hb.cell (p := ⟨b, o, none⟩) h).trans e
              obtain ⟨z1, z2, z3⟩ := HSZ29.out
              obtain ⟨f1, f2, f3, f4, f5, f6⟩ := HF29.out
              exact ⟨hk _ _ _ z1 f1, hk _ _ _ z1 f2, hk _ _ _ z2 f3, hk _ _ _ z2 f4, hk _ _ _ z3 f5, hk _ _ _ z3 f6⟩)
            clear hb
            go_wp2_with fail
            (refine hK.out _ _ ?_ (fun hHeld2 => ?_); (focus ((try dsimp only); exact HF30.out)); (clear hK K); (try simp only [Act.put, List.getElem_toArray, List.getElem_cons_zero, List.getElem_cons_succ, List.setIfInBounds_toArray, List.set_cons_zero, List.set_cons_succ]))
            (refine wpAnyH_ready (rs := [49]) (by kernel_rfl) (by simp) ?_; refine AllReadyH.cons rfl (fun K hK => ?_) AllReadyH.nil; go_simp)
            go_at_call 17
            refine (laws_before_yes A29 A30 c29 c30 SZ SX w30 HIu30.out HIv30.out HLE.out HBF.out).mono ?_
            rintro e w31 ⟨rfl, rfl⟩
            go_wp2_with fail
            (refine hK.out _ _ ?_ (fun hHeld2 => ?_); (focus ((try dsimp only); exact HF30.out)); (clear hK K); (try simp only [Act.put, List.getElem_toArray, List.getElem_cons_zero, List.getElem_cons_succ, List.setIfInBounds_toArray, List.set_cons_zero, List.set_cons_succ]))
            ((refine wpAnyH_take (i := 50) (v := ?_) rfl (by kernel_rfl) (by kernel_rfl) (by kernel_rfl) (fun _ _ _ h => h) (Or.inl ⟨by rfl, ?_⟩) (by assumption) ?_; rotate_left; (focus (intro wS hSw; (try dsimp only at hSw); go_simp; (try with_reducible rfl))); (try simp only [Act.put, List.getElem_toArray, List.getElem_cons_zero, List.getElem_cons_succ, List.setIfInBounds_toArray, List.set_cons_zero, List.set_cons_succ])); (refine wpAnyH_take (i := 51) (v := ?_) rfl (by kernel_rfl) (by kernel_rfl) (by kernel_rfl) (fun _ _ _ h => h) (Or.inl ⟨by rfl, ?_⟩) (by assumption) ?_; rotate_left; (focus (intro wS hSw; (try dsimp only at hSw); go_simp; (try with_reducible rfl))); (try simp only [Act.put, List.getElem_toArray, List.getElem_cons_zero, List.getElem_cons_succ, List.setIfInBounds_toArray, List.set_cons_zero, List.set_cons_succ])); (refine wpAnyH_take (i := 52) (v := ?_) rfl (by kernel_rfl) (by kernel_rfl) (by kernel_rfl) (fun _ _ _ h => h) (Or.inl ⟨by rfl, ?_⟩) (by assumption) ?_; rotate_left; (focus (intro wS hSw; (try dsimp only at hSw); go_simp; (try with_reducible rfl))); (try simp only [Act.put, List.getElem_toArray, List.getElem_cons_zero, List.getElem_cons_succ, List.setIfInBounds_toArray, List.set_cons_zero, List.set_cons_succ])))
            refine wpAnyH_done (by kernel_rfl) ?_ _
            go_wp2_with fail
            go_roundw
            case rel => exact ⟨i + 1, by omega, by go_num, HB30.out, HR30.out⟩
            case measure => simp [intOf]; omega
          · have h0i : ¬ (0 : Int) < (i : Int) := by omega
            have h0d : decide ((0 : Int) < (i : Int)) = false := decide_eq_false h0i
            (refine wp_region_held_drew (S := (fun w' => w'.cell? ⟨p14, 0, none⟩ = some (.int .i64 n) ∧ w'.cell? ⟨p14, 1, none⟩ = some (.slice Aa X.length ca) ∧ w'.cell? ⟨p15, 0, none⟩ = some (.int .i64 n) ∧ w'.cell? ⟨p15, 1, none⟩ = some (.slice A15 X.length c15) ∧ w'.cell? ⟨g, j * 2, none⟩ = some (.int .i64 n) ∧ w'.cell? ⟨g, j * 2 + 1, none⟩ = some (.slice Az Z.length cz))) (by kernel_rfl) ?_ (fun hHeld => ?_); (focus ((try dsimp only); exact HF23.out)))
            ((refine wpAnyH_take (i := 0) (v := ?_) rfl (by kernel_rfl) (by kernel_rfl) (by kernel_rfl) (fun _ _ _ h => h) (Or.inl ⟨by rfl, ?_⟩) (by assumption) ?_; rotate_left; (focus (intro wS hSw; (try dsimp only at hSw); go_simp; (try with_reducible rfl))); (try simp only [Act.put, List.getElem_toArray, List.getElem_cons_zero, List.getElem_cons_succ, List.setIfInBounds_toArray, List.set_cons_zero, List.set_cons_succ])); (refine wpAnyH_take (i := 1) (v := ?_) rfl (by kernel_rfl) (by kernel_rfl) (by kernel_rfl) (fun _ _ _ h => h) (Or.inl ⟨by rfl, ?_⟩) (by assumption) ?_; rotate_left; (focus (intro wS hSw; (try dsimp only at hSw); go_simp; (try with_reducible rfl))); (try simp only [Act.put, List.getElem_toArray, List.getElem_cons_zero, List.getElem_cons_succ, List.setIfInBounds_toArray, List.set_cons_zero, List.set_cons_succ])); (refine wpAnyH_take (i := 2) (v := ?_) rfl (by kernel_rfl) (by kernel_rfl) (by kernel_rfl) (fun _ _ _ h => h) (Or.inl ⟨by rfl, ?_⟩) (by assumption) ?_; rotate_left; (focus (intro wS hSw; (try dsimp only at hSw); go_simp; (try with_reducible rfl))); (try simp only [Act.put, List.getElem_toArray, List.getElem_cons_zero, List.getElem_cons_succ, List.setIfInBounds_toArray, List.set_cons_zero, List.set_cons_succ])); (refine wpAnyH_take (i := 3) (v := ?_) rfl (by kernel_rfl) (by kernel_rfl) (by kernel_rfl) (fun _ _ _ h => h) (Or.inl ⟨by rfl, ?_⟩) (by assumption) ?_; rotate_left; (focus (intro wS hSw; (try dsimp only at hSw); go_simp; (try with_reducible rfl))); (try simp only [Act.put, List.getElem_toArray, List.getElem_cons_zero, List.getElem_cons_succ, List.setIfInBounds_toArray, List.set_cons_zero, List.set_cons_succ])); (refine wpAnyH_take (i := 4) (v := ?_) rfl (by kernel_rfl) (by kernel_rfl) (by kernel_rfl) (fun _ _ _ h => h) (Or.inl ⟨by rfl, ?_⟩) (by assumption) ?_; rotate_left; (focus (intro wS hSw; (try dsimp only at hSw); go_simp; (try with_reducible rfl))); (try simp only [Act.put, List.getElem_toArray, List.getElem_cons_zero, List.getElem_cons_succ, List.setIfInBounds_toArray, List.set_cons_zero, List.set_cons_succ])))
            (refine wpAnyH_ready (rs := [5]) (by kernel_rfl) (by simp) ?_; refine AllReadyH.cons rfl (fun K hK => ?_) AllReadyH.nil; go_simp)
            go_at_call 10
            refine (laws_rhythms_self n A15 Aa _ _ X _ HIyd.out HIxd.out).mono ?_
            rintro e w24 ⟨rfl, hb⟩
            have HB24 := Lib.hid (HBd.out.trans (hb.mono HBd.out.size))
            have HR24 := Lib.hid (HRd.out.lift hb)
            have HIx24 := Lib.hid (HIxd.out.lift hb)
            have HIy24 := Lib.hid (HIyd.out.lift hb)
            have HIz24 := Lib.hid (HIzd.out.lift hb)
            have HSZ24 := Lib.hid (show p14 < w24.heap.size ∧ p15 < w24.heap.size ∧ g < w24.heap.size from by have := hb.size; have hz : w23.drew.heap.size = w23.heap.size := rfl; have := HSZd.out; omega)
            have HF24 := Lib.hid (show w24.cell? ⟨p14, 0, none⟩ = some (.int .i64 n) ∧ w24.cell? ⟨p14, 1, none⟩ = some (.slice Aa X.length ca) ∧ w24.cell? ⟨p15, 0, none⟩ = some (.int .i64 n) ∧ w24.cell? ⟨p15, 1, none⟩ = some (.slice A15 X.length c15) ∧ w24.cell? ⟨g, j * 2, none⟩ = some (.int .i64 n) ∧ w24.cell? ⟨g, j * 2 + 1, none⟩ = some (.slice Az Z.length cz) from by
              have hk : ∀ b o x, b < w23.heap.size → w23.cell? ⟨b, o, none⟩ = some x → w24.cell? ⟨b, o, none⟩ = some x := fun b o x h e => (hb.cell (p := ⟨b, o, none⟩) h).trans e
              obtain ⟨z1, z2, z3⟩ := HSZd.out
              obtain ⟨f1, f2, f3, f4, f5, f6⟩ := HFd.out
              exact ⟨hk _ _ _ z1 f1, hk _ _ _ z1 f2, hk _ _ _ z2 f3, hk _ _ _ z2 f4, hk _ _ _ z3 f5, hk _ _ _ z3 f6⟩)
            clear hb
            go_wp2_with fail
            (refine hK.out _ _ ?_ (fun hHeld2 => ?_); (focus ((try dsimp only); exact HF24.out)); (clear hK K); (try simp only [Act.put, List.getElem_toArray, List.getElem_cons_zero, List.getElem_cons_succ, List.setIfInBounds_toArray, List.set_cons_zero, List.set_cons_succ]))
            ((refine wpAnyH_take (i := 6) (v := ?_) rfl (by kernel_rfl) (by kernel_rfl) (by kernel_rfl) (fun _ _ _ h => h) (Or.inl ⟨by rfl, ?_⟩) (by assumption) ?_; rotate_left; (focus (intro wS hSw; (try dsimp only at hSw); go_simp; (try with_reducible rfl))); (try simp only [Act.put, List.getElem_toArray, List.getElem_cons_zero, List.getElem_cons_succ, List.setIfInBounds_toArray, List.set_cons_zero, List.set_cons_succ])); (refine wpAnyH_take (i := 7) (v := ?_) rfl (by kernel_rfl) (by kernel_rfl) (by kernel_rfl) (fun _ _ _ h => h) (Or.inl ⟨by rfl, ?_⟩) (by assumption) ?_; rotate_left; (focus (intro wS hSw; (try dsimp only at hSw); go_simp; (try with_reducible rfl))); (try simp only [Act.put, List.getElem_toArray, List.getElem_cons_zero, List.getElem_cons_succ, List.setIfInBounds_toArray, List.set_cons_zero, List.set_cons_succ])); (refine wpAnyH_take (i := 8) (v := ?_) rfl (by kernel_rfl) (by kernel_rfl) (by kernel_rfl) (fun _ _ _ h => h) (Or.inl ⟨by rfl, ?_⟩) (by assumption) ?_; rotate_left; (focus (intro wS hSw; (try dsimp only at hSw); go_simp; (try with_reducible rfl))); (try simp only [Act.put, List.getElem_toArray, List.getElem_cons_zero, List.getElem_cons_succ, List.setIfInBounds_toArray, List.set_cons_zero, List.set_cons_succ])); (refine wpAnyH_take (i := 9) (v := ?_) rfl (by kernel_rfl) (by kernel_rfl) (by kernel_rfl) (fun _ _ _ h => h) (Or.inl ⟨by rfl, ?_⟩) (by assumption) ?_; rotate_left; (focus (intro wS hSw; (try dsimp only at hSw); go_simp; (try with_reducible rfl))); (try simp only [Act.put, List.getElem_toArray, List.getElem_cons_zero, List.getElem_cons_succ, List.setIfInBounds_toArray, List.set_cons_zero, List.set_cons_succ])); (refine wpAnyH_take (i := 10) (v := ?_) rfl (by kernel_rfl) (by kernel_rfl) (by kernel_rfl) (fun _ _ _ h => h) (Or.inl ⟨by rfl, ?_⟩) (by assumption) ?_; rotate_left; (focus (intro wS hSw; (try dsimp only at hSw); go_simp; (try with_reducible rfl))); (try simp only [Act.put, List.getElem_toArray, List.getElem_cons_zero, List.getElem_cons_succ, List.setIfInBounds_toArray, List.set_cons_zero, List.set_cons_succ])); (refine wpAnyH_take (i := 11) (v := ?_) rfl (by kernel_rfl) (by kernel_rfl) (by kernel_rfl) (fun _ _ _ h => h) (Or.inl ⟨by rfl, ?_⟩) (by assumption) ?_; rotate_left; (focus (intro wS hSw; (try dsimp only at hSw); go_simp; (try with_reducible rfl))); (try simp only [Act.put, List.getElem_toArray, List.getElem_cons_zero, List.getElem_cons_succ, List.setIfInBounds_toArray, List.set_cons_zero, List.set_cons_succ])); (refine wpAnyH_take (i := 12) (v := ?_) rfl (by kernel_rfl) (by kernel_rfl) (by kernel_rfl) (fun _ _ _ h => h) (Or.inl ⟨by rfl, ?_⟩) (by assumption) ?_; rotate_left; (focus (intro wS hSw; (try dsimp only at hSw); go_simp; (try with_reducible rfl))); (try simp only [Act.put, List.getElem_toArray, List.getElem_cons_zero, List.getElem_cons_succ, List.setIfInBounds_toArray, List.set_cons_zero, List.set_cons_succ])); (refine wpAnyH_take (i := 13) (v := ?_) rfl (by kernel_rfl) (by kernel_rfl) (by kernel_rfl) (fun _ _ _ h => h) (Or.inl ⟨by rfl, ?_⟩) (by assumption) ?_; rotate_left; (focus (intro wS hSw; (try dsimp only at hSw); go_simp; (try with_reducible rfl))); (try simp only [Act.put, List.getElem_toArray, List.getElem_cons_zero, List.getElem_cons_succ, List.setIfInBounds_toArray, List.set_cons_zero, List.set_cons_succ])))
            (refine wpAnyH_ready (rs := [14]) (by kernel_rfl) (by simp) ?_; refine AllReadyH.cons rfl (fun K hK => ?_) AllReadyH.nil; go_simp)
            go_at_call 13
            refine (HIF.out _ HIx24.out).mono ?_
            rintro e w25 ⟨rfl, hb⟩
            have HB25 := Lib.hid (HB24.out.trans (hb.mono HB24.out.size))
            have HR25 := Lib.hid (HR24.out.lift hb)
            have HIx25 := Lib.hid (HIx24.out.lift hb)
            have HIy25 := Lib.hid (HIy24.out.lift hb)
            have HIz25 := Lib.hid (HIz24.out.lift hb)
            have HSZ25 := Lib.hid (show p14 < w25.heap.size ∧ p15 < w25.heap.size ∧ g < w25.heap.size from by have := hb.size; have hz : w24.drew.heap.size = w24.heap.size := rfl; have := HSZ24.out; omega)
            have HF25 := Lib.hid (show w25.cell? ⟨p14, 0, none⟩ = some (.int .i64 n) ∧ w25.cell? ⟨p14, 1, none⟩ = some (.slice Aa X.length ca) ∧ w25.cell? ⟨p15, 0, none⟩ = some (.int .i64 n) ∧ w25.cell? ⟨p15, 1, none⟩ = some (.slice A15 X.length c15) ∧ w25.cell? ⟨g, j * 2, none⟩ = some (.int .i64 n) ∧ w25.cell? ⟨g, j * 2 + 1, none⟩ = some (.slice Az Z.length cz) from by
              have hk : ∀ b o x, b < w24.heap.size → w24.cell? ⟨b, o, none⟩ = some x → w25.cell? ⟨b, o, none⟩ = some x := fun b o x h e => (hb.cell (p := ⟨b, o, none⟩) h).trans e
              obtain ⟨z1, z2, z3⟩ := HSZ24.out
              obtain ⟨f1, f2, f3, f4, f5, f6⟩ := HF24.out
              exact ⟨hk _ _ _ z1 f1, hk _ _ _ z1 f2, hk _ _ _ z2 f3, hk _ _ _ z2 f4, hk _ _ _ z3 f5, hk _ _ _ z3 f6⟩)
            clear hb
            go_wp2_with fail
            (refine hK.out _ _ ?_ (fun hHeld2 => ?_); (focus ((try dsimp only); exact HF25.out)); (clear hK K); (try simp only [Act.put, List.getElem_toArray, List.getElem_cons_zero, List.getElem_cons_succ, List.setIfInBounds_toArray, List.set_cons_zero, List.set_cons_succ]))
            ((refine wpAnyH_take (i := 15) (v := ?_) rfl (by kernel_rfl) (by kernel_rfl) (by kernel_rfl) (fun _ _ _ h => h) (Or.inl ⟨by rfl, ?_⟩) (by assumption) ?_; rotate_left; (focus (intro wS hSw; (try dsimp only at hSw); go_simp; (try with_reducible rfl))); (try simp only [Act.put, List.getElem_toArray, List.getElem_cons_zero, List.getElem_cons_succ, List.setIfInBounds_toArray, List.set_cons_zero, List.set_cons_succ])); (refine wpAnyH_take (i := 16) (v := ?_) rfl (by kernel_rfl) (by kernel_rfl) (by kernel_rfl) (fun _ _ _ h => h) (Or.inl ⟨by rfl, ?_⟩) (by assumption) ?_; rotate_left; (focus (intro wS hSw; (try dsimp only at hSw); go_simp; (try with_reducible rfl))); (try simp only [Act.put, List.getElem_toArray, List.getElem_cons_zero, List.getElem_cons_succ, List.setIfInBounds_toArray, List.set_cons_zero, List.set_cons_succ])); (refine wpAnyH_take (i := 17) (v := ?_) rfl (by kernel_rfl) (by kernel_rfl) (by kernel_rfl) (fun _ _ _ h => h) (Or.inl ⟨by rfl, ?_⟩) (by assumption) ?_; rotate_left; (focus (intro wS hSw; (try dsimp only at hSw); go_simp; (try with_reducible rfl))); (try simp only [Act.put, List.getElem_toArray, List.getElem_cons_zero, List.getElem_cons_succ, List.setIfInBounds_toArray, List.set_cons_zero, List.set_cons_succ])); (refine wpAnyH_take (i := 18) (v := ?_) rfl (by kernel_rfl) (by kernel_rfl) (by kernel_rfl) (fun _ _ _ h => h) (Or.inl ⟨by rfl, ?_⟩) (by assumption) ?_; rotate_left; (focus (intro wS hSw; (try dsimp only at hSw); go_simp; (try with_reducible rfl))); (try simp only [Act.put, List.getElem_toArray, List.getElem_cons_zero, List.getElem_cons_succ, List.setIfInBounds_toArray, List.set_cons_zero, List.set_cons_succ])); (refine wpAnyH_take (i := 19) (v := ?_) rfl (by kernel_rfl) (by kernel_rfl) (by kernel_rfl) (fun _ _ _ h => h) (Or.inl ⟨by rfl, ?_⟩) (by assumption) ?_; rotate_left; (focus (intro wS hSw; (try dsimp only at hSw); go_simp; (try with_reducible rfl))); (try simp only [Act.put, List.getElem_toArray, List.getElem_cons_zero, List.getElem_cons_succ, List.setIfInBounds_toArray, List.set_cons_zero, List.set_cons_succ])); (refine wpAnyH_take (i := 20) (v := ?_) rfl (by kernel_rfl) (by kernel_rfl) (by kernel_rfl) (fun _ _ _ h => h) (Or.inl ⟨by rfl, ?_⟩) (by assumption) ?_; rotate_left; (focus (intro wS hSw; (try dsimp only at hSw); go_simp; (try with_reducible rfl))); (try simp only [Act.put, List.getElem_toArray, List.getElem_cons_zero, List.getElem_cons_succ, List.setIfInBounds_toArray, List.set_cons_zero, List.set_cons_succ])); (refine wpAnyH_take (i := 22) (v := ?_) rfl (by kernel_rfl) (by kernel_rfl) (by kernel_rfl) (fun _ _ _ h => h) (Or.inl ⟨by rfl, ?_⟩) (by assumption) ?_; rotate_left; (focus (intro wS hSw; (try dsimp only at hSw); go_simp; (try with_reducible rfl))); (try simp only [Act.put, List.getElem_toArray, List.getElem_cons_zero, List.getElem_cons_succ, List.setIfInBounds_toArray, List.set_cons_zero, List.set_cons_succ])))
            (refine wpAnyH_ready (rs := [21]) (by kernel_rfl) (by simp) ?_; refine AllReadyH.cons rfl (fun K hK => ?_) AllReadyH.nil; go_simp)
            go_at_call 14
            refine (HIX.out _ HIx25.out).mono ?_
            rintro e w26 ⟨rfl, hb⟩
            have HB26 := Lib.hid (HB25.out.trans (hb.mono HB25.out.size))
            have HR26 := Lib.hid (HR25.out.lift hb)
            have HIx26 := Lib.hid (HIx25.out.lift hb)
            have HIy26 := Lib.hid (HIy25.out.lift hb)
            have HIz26 := Lib.hid (HIz25.out.lift hb)
            have HSZ26 := Lib.hid (show p14 < w26.heap.size ∧ p15 < w26.heap.size ∧ g < w26.heap.size from by have := hb.size; have hz : w25.drew.heap.size = w25.heap.size := rfl; have := HSZ25.out; omega)
            have HF26 := Lib.hid (show w26.cell? ⟨p14, 0, none⟩ = some (.int .i64 n) ∧ w26.cell? ⟨p14, 1, none⟩ = some (.slice Aa X.length ca) ∧ w26.cell? ⟨p15, 0, none⟩ = some (.int .i64 n) ∧ w26.cell? ⟨p15, 1, none⟩ = some (.slice A15 X.length c15) ∧ w26.cell? ⟨g, j * 2, none⟩ = some (.int .i64 n) ∧ w26.cell? ⟨g, j * 2 + 1, none⟩ = some (.slice Az Z.length cz) from by
              have hk : ∀ b o x, b < w25.heap.size → w25.cell? ⟨b, o, none⟩ = some x → w26.cell? ⟨b, o, none⟩ = some x := fun b o x h e => (hb.cell (p := ⟨b, o, none⟩) h).trans e
              obtain ⟨z1, z2, z3⟩ := HSZ25.out
              obtain ⟨f1, f2, f3, f4, f5, f6⟩ := HF25.out
              exact ⟨hk _ _ _ z1 f1, hk _ _ _ z1 f2, hk _ _ _ z2 f3, hk _ _ _ z2 f4, hk _ _ _ z3 f5, hk _ _ _ z3 f6⟩)
            clear hb
            go_wp2_with fail
            (refine hK.out _ _ ?_ (fun hHeld2 => ?_); (focus ((try dsimp only); exact HF26.out)); (clear hK K); (try simp only [Act.put, List.getElem_toArray, List.getElem_cons_zero, List.getElem_cons_succ, List.setIfInBounds_toArray, List.set_cons_zero, List.set_cons_succ]))
            ((refine wpAnyH_take (i := 23) (v := ?_) rfl (by kernel_rfl) (by kernel_rfl) (by kernel_rfl) (fun _ _ _ h => h) (Or.inl ⟨by rfl, ?_⟩) (by assumption) ?_; rotate_left; (focus (intro wS hSw; (try dsimp only at hSw); go_simp; (try with_reducible rfl))); (try simp only [Act.put, List.getElem_toArray, List.getElem_cons_zero, List.getElem_cons_succ, List.setIfInBounds_toArray, List.set_cons_zero, List.set_cons_succ])); (refine wpAnyH_take (i := 24) (v := ?_) rfl (by kernel_rfl) (by kernel_rfl) (by kernel_rfl) (fun _ _ _ h => h) (Or.inl ⟨by rfl, ?_⟩) (by assumption) ?_; rotate_left; (focus (intro wS hSw; (try dsimp only at hSw); go_simp; (try with_reducible rfl))); (try simp only [Act.put, List.getElem_toArray, List.getElem_cons_zero, List.getElem_cons_succ, List.setIfInBounds_toArray, List.set_cons_zero, List.set_cons_succ])); (refine wpAnyH_take (i := 25) (v := ?_) rfl (by kernel_rfl) (by kernel_rfl) (by kernel_rfl) (fun _ _ _ h => h) (Or.inl ⟨by rfl, ?_⟩) (by assumption) ?_; rotate_left; (focus (intro wS hSw; (try dsimp only at hSw); go_simp; (try with_reducible rfl))); (try simp only [Act.put, List.getElem_toArray, List.getElem_cons_zero, List.getElem_cons_succ, List.setIfInBounds_toArray, List.set_cons_zero, List.set_cons_succ])); (refine wpAnyH_take (i := 26) (v := ?_) rfl (by kernel_rfl) (by kernel_rfl) (by kernel_rfl) (fun _ _ _ h => h) (Or.inl ⟨by rfl, ?_⟩) (by assumption) ?_; rotate_left; (focus (intro wS hSw; (try dsimp only at hSw); go_simp; (try with_reducible rfl))); (try simp only [Act.put, List.getElem_toArray, List.getElem_cons_zero, List.getElem_cons_succ, List.setIfInBounds_toArray, List.set_cons_zero, List.set_cons_succ])); (refine wpAnyH_take (i := 28) (v := ?_) rfl (by kernel_rfl) (by kernel_rfl) (by kernel_rfl) (fun _ _ _ h => h) (Or.inl ⟨by rfl, ?_⟩) (by assumption) ?_; rotate_left; (focus (intro wS hSw; (try dsimp only at hSw); go_simp; (try with_reducible rfl))); (try simp only [Act.put, List.getElem_toArray, List.getElem_cons_zero, List.getElem_cons_succ, List.setIfInBounds_toArray, List.set_cons_zero, List.set_cons_succ])))
            (refine wpAnyH_ready (rs := [27]) (by kernel_rfl) (by simp) ?_; refine AllReadyH.cons rfl (fun K hK => ?_) AllReadyH.nil; go_simp)
            go_at_call 15
            refine (HSS.out _ HIx26.out).mono ?_
            rintro e w27 ⟨rfl, hb⟩
            have HB27 := Lib.hid (HB26.out.trans (hb.mono HB26.out.size))
            have HR27 := Lib.hid (HR26.out.lift hb)
            have HIx27 := Lib.hid (HIx26.out.lift hb)
            have HIy27 := Lib.hid (HIy26.out.lift hb)
            have HIz27 := Lib.hid (HIz26.out.lift hb)
            have HSZ27 := Lib.hid (show p14 < w27.heap.size ∧ p15 < w27.heap.size ∧ g < w27.heap.size from by have := hb.size; have hz : w26.drew.heap.size = w26.heap.size := rfl; have := HSZ26.out; omega)
            have HF27 := Lib.hid (show w27.cell? ⟨p14, 0, none⟩ = some (.int .i64 n) ∧ w27.cell? ⟨p14, 1, none⟩ = some (.slice Aa X.length ca) ∧ w27.cell? ⟨p15, 0, none⟩ = some (.int .i64 n) ∧ w27.cell? ⟨p15, 1, none⟩ = some (.slice A15 X.length c15) ∧ w27.cell? ⟨g, j * 2, none⟩ = some (.int .i64 n) ∧ w27.cell? ⟨g, j * 2 + 1, none⟩ = some (.slice Az Z.length cz) from by
              have hk : ∀ b o x, b < w26.heap.size → w26.cell? ⟨b, o, none⟩ = some x → w27.cell? ⟨b, o, none⟩ = some x := fun b o x h e => (hb.cell (p := ⟨b, o, none⟩) h).trans e
              obtain ⟨z1, z2, z3⟩ := HSZ26.out
              obtain ⟨f1, f2, f3, f4, f5, f6⟩ := HF26.out
              exact ⟨hk _ _ _ z1 f1, hk _ _ _ z1 f2, hk _ _ _ z2 f3, hk _ _ _ z2 f4, hk _ _ _ z3 f5, hk _ _ _ z3 f6⟩)
            clear hb
            go_wp2_with fail
            (refine hK.out _ _ ?_ (fun hHeld2 => ?_); (focus ((try dsimp only); exact HF27.out)); (clear hK K); (try simp only [Act.put, List.getElem_toArray, List.getElem_cons_zero, List.getElem_cons_succ, List.setIfInBounds_toArray, List.set_cons_zero, List.set_cons_succ]))
            ((refine wpAnyH_take (i := 29) (v := ?_) rfl (by kernel_rfl) (by kernel_rfl) (by kernel_rfl) (fun _ _ _ h => h) (Or.inl ⟨by rfl, ?_⟩) (by assumption) ?_; rotate_left; (focus (intro wS hSw; (try dsimp only at hSw); go_simp; (try with_reducible rfl))); (try simp only [Act.put, List.getElem_toArray, List.getElem_cons_zero, List.getElem_cons_succ, List.setIfInBounds_toArray, List.set_cons_zero, List.set_cons_succ])); (refine wpAnyH_take (i := 30) (v := ?_) rfl (by kernel_rfl) (by kernel_rfl) (by kernel_rfl) (fun _ _ _ h => h) (Or.inl ⟨by rfl, ?_⟩) (by assumption) ?_; rotate_left; (focus (intro wS hSw; (try dsimp only at hSw); go_simp; (try with_reducible rfl))); (try simp only [Act.put, List.getElem_toArray, List.getElem_cons_zero, List.getElem_cons_succ, List.setIfInBounds_toArray, List.set_cons_zero, List.set_cons_succ])); (refine wpAnyH_take (i := 31) (v := ?_) rfl (by kernel_rfl) (by kernel_rfl) (by kernel_rfl) (fun _ _ _ h => h) (Or.inl ⟨by rfl, ?_⟩) (by assumption) ?_; rotate_left; (focus (intro wS hSw; (try dsimp only at hSw); go_simp; (try with_reducible rfl))); (try simp only [Act.put, List.getElem_toArray, List.getElem_cons_zero, List.getElem_cons_succ, List.setIfInBounds_toArray, List.set_cons_zero, List.set_cons_succ])); (refine wpAnyH_take (i := 32) (v := ?_) rfl (by kernel_rfl) (by kernel_rfl) (by kernel_rfl) (fun _ _ _ h => h) (Or.inl ⟨by rfl, ?_⟩) (by assumption) ?_; rotate_left; (focus (intro wS hSw; (try dsimp only at hSw); go_simp; (try with_reducible rfl))); (try simp only [Act.put, List.getElem_toArray, List.getElem_cons_zero, List.getElem_cons_succ, List.setIfInBounds_toArray, List.set_cons_zero, List.set_cons_succ])); (refine wpAnyH_take (i := 34) (v := ?_) rfl (by kernel_rfl) (by kernel_rfl) (by kernel_rfl) (fun _ _ _ h => h) (Or.inl ⟨by rfl, ?_⟩) (by assumption) ?_; rotate_left; (focus (intro wS hSw; (try dsimp only at hSw); go_simp; (try with_reducible rfl))); (try simp only [Act.put, List.getElem_toArray, List.getElem_cons_zero, List.getElem_cons_succ, List.setIfInBounds_toArray, List.set_cons_zero, List.set_cons_succ])))
            (refine wpAnyH_ready (rs := [33]) (by kernel_rfl) (by simp) ?_; refine AllReadyH.cons rfl (fun K hK => ?_) AllReadyH.nil; go_simp)
            go_at_call 16
            refine (HLS.out _ HIx27.out).mono ?_
            rintro e w28 ⟨rfl, hb⟩
            have HB28 := Lib.hid (HB27.out.trans (hb.mono HB27.out.size))
            have HR28 := Lib.hid (HR27.out.lift hb)
            have HIx28 := Lib.hid (HIx27.out.lift hb)
            have HIy28 := Lib.hid (HIy27.out.lift hb)
            have HIz28 := Lib.hid (HIz27.out.lift hb)
            have HSZ28 := Lib.hid (show p14 < w28.heap.size ∧ p15 < w28.heap.size ∧ g < w28.heap.size from by have := hb.size; have hz : w27.drew.heap.size = w27.heap.size := rfl; have := HSZ27.out; omega)
            have HF28 := Lib.hid (show w28.cell? ⟨p14, 0, none⟩ = some (.int .i64 n) ∧ w28.cell? ⟨p14, 1, none⟩ = some (.slice Aa X.length ca) ∧ w28.cell? ⟨p15, 0, none⟩ = some (.int .i64 n) ∧ w28.cell? ⟨p15, 1, none⟩ = some (.slice A15 X.length c15) ∧ w28.cell? ⟨g, j * 2, none⟩ = some (.int .i64 n) ∧ w28.cell? ⟨g, j * 2 + 1, none⟩ = some (.slice Az Z.length cz) from by
              have hk : ∀ b o x, b < w27.heap.size → w27.cell? ⟨b, o, none⟩ = some x → w28.cell? ⟨b, o, none⟩ = some x := fun b o x h e => (hb.cell (p := ⟨b, o, none⟩) h).trans e
              obtain ⟨z1, z2, z3⟩ := HSZ27.out
              obtain ⟨f1, f2, f3, f4, f5, f6⟩ := HF27.out
              exact ⟨hk _ _ _ z1 f1, hk _ _ _ z1 f2, hk _ _ _ z2 f3, hk _ _ _ z2 f4, hk _ _ _ z3 f5, hk _ _ _ z3 f6⟩)
            clear hb
            go_wp2_with fail
            (refine hK.out _ _ ?_ (fun hHeld2 => ?_); (focus ((try dsimp only); exact HF28.out)); (clear hK K); (try simp only [Act.put, List.getElem_toArray, List.getElem_cons_zero, List.getElem_cons_succ, List.setIfInBounds_toArray, List.set_cons_zero, List.set_cons_succ]))
            ((refine wpAnyH_take (i := 35) (v := ?_) rfl (by kernel_rfl) (by kernel_rfl) (by kernel_rfl) (fun _ _ _ h => h) (Or.inl ⟨by rfl, ?_⟩) (by assumption) ?_; rotate_left; (focus (intro wS hSw; (try dsimp only at hSw); go_simp; (try with_reducible rfl))); (try simp only [Act.put, List.getElem_toArray, List.getElem_cons_zero, List.getElem_cons_succ, List.setIfInBounds_toArray, List.set_cons_zero, List.set_cons_succ])); (refine wpAnyH_take (i := 36) (v := ?_) rfl (by kernel_rfl) (by kernel_rfl) (by kernel_rfl) (fun _ _ _ h => h) (Or.inl ⟨by rfl, ?_⟩) (by assumption) ?_; rotate_left; (focus (intro wS hSw; (try dsimp only at hSw); go_simp; (try with_reducible rfl))); (try simp only [Act.put, List.getElem_toArray, List.getElem_cons_zero, List.getElem_cons_succ, List.setIfInBounds_toArray, List.set_cons_zero, List.set_cons_succ])); (refine wpAnyH_take (i := 37) (v := ?_) rfl (by kernel_rfl) (by kernel_rfl) (by kernel_rfl) (fun _ _ _ h => h) (Or.inl ⟨by rfl, ?_⟩) (by assumption) ?_; rotate_left; (focus (intro wS hSw; (try dsimp only at hSw); go_simp; (try with_reducible rfl))); (try simp only [Act.put, List.getElem_toArray, List.getElem_cons_zero, List.getElem_cons_succ, List.setIfInBounds_toArray, List.set_cons_zero, List.set_cons_succ])))
            ((refine wpAnyH_take (i := 38) (v := ?_) rfl (by kernel_rfl) (by kernel_rfl) (by kernel_rfl) (fun _ _ _ h => h) (Or.inl ⟨by rfl, ?_⟩) (by assumption) ?_; rotate_left; (focus (intro wS hSw; (try dsimp only at hSw); go_simp; (try with_reducible rfl))); (try simp only [Act.put, List.getElem_toArray, List.getElem_cons_zero, List.getElem_cons_succ, List.setIfInBounds_toArray, List.set_cons_zero, List.set_cons_succ])); (refine wpAnyH_take (i := 39) (v := ?_) rfl (by kernel_rfl) (by kernel_rfl) (by kernel_rfl) (fun _ _ _ h => h) (Or.inl ⟨by rfl, ?_⟩) (by assumption) ?_; rotate_left; (focus (intro wS hSw; (try dsimp only at hSw); go_simp; (try with_reducible rfl))); (try simp only [Act.put, List.getElem_toArray, List.getElem_cons_zero, List.getElem_cons_succ, List.setIfInBounds_toArray, List.set_cons_zero, List.set_cons_succ])); (refine wpAnyH_take (i := 40) (v := ?_) rfl (by kernel_rfl) (by kernel_rfl) (by kernel_rfl) (fun _ _ _ h => h) (Or.inl ⟨by rfl, ?_⟩) (by assumption) ?_; rotate_left; (focus (intro wS hSw; (try dsimp only at hSw); go_simp; (try with_reducible rfl))); (try simp only [Act.put, List.getElem_toArray, List.getElem_cons_zero, List.getElem_cons_succ, List.setIfInBounds_toArray, List.set_cons_zero, List.set_cons_succ])))
            ((refine wpAnyH_take (i := 41) (v := undef) rfl (by kernel_rfl) (by kernel_rfl) (by kernel_rfl) (fun _ _ _ h => h) (Or.inr ⟨by rfl, rfl⟩) (by assumption) ?_; (try simp only [Act.put, List.getElem_toArray, List.getElem_cons_zero, List.getElem_cons_succ, List.setIfInBounds_toArray, List.set_cons_zero, List.set_cons_succ])); (refine wpAnyH_take (i := 42) (v := undef) rfl (by kernel_rfl) (by kernel_rfl) (by kernel_rfl) (fun _ _ _ h => h) (Or.inr ⟨by rfl, rfl⟩) (by assumption) ?_; (try simp only [Act.put, List.getElem_toArray, List.getElem_cons_zero, List.getElem_cons_succ, List.setIfInBounds_toArray, List.set_cons_zero, List.set_cons_succ])); (refine wpAnyH_take (i := 43) (v := undef) rfl (by kernel_rfl) (by kernel_rfl) (by kernel_rfl) (fun _ _ _ h => h) (Or.inr ⟨by rfl, rfl⟩) (by assumption) ?_; (try simp only [Act.put, List.getElem_toArray, List.getElem_cons_zero, List.getElem_cons_succ, List.setIfInBounds_toArray, List.set_cons_zero, List.set_cons_succ])); (refine wpAnyH_take (i := 44) (v := undef) rfl (by kernel_rfl) (by kernel_rfl) (by kernel_rfl) (fun _ _ _ h => h) (Or.inr ⟨by rfl, rfl⟩) (by assumption) ?_; (try simp only [Act.put, List.getElem_toArray, List.getElem_cons_zero, List.getElem_cons_succ, List.setIfInBounds_toArray, List.set_cons_zero, List.set_cons_succ])); (refine wpAnyH_take (i := 45) (v := undef) rfl (by kernel_rfl) (by kernel_rfl) (by kernel_rfl) (fun _ _ _ h => h) (Or.inr ⟨by rfl, rfl⟩) (by assumption) ?_; (try simp only [Act.put, List.getElem_toArray, List.getElem_cons_zero, List.getElem_cons_succ, List.setIfInBounds_toArray, List.set_cons_zero, List.set_cons_succ])); (refine wpAnyH_take (i := 46) (v := undef) rfl (by kernel_rfl) (by kernel_rfl) (by kernel_rfl) (fun _ _ _ h => h) (Or.inr ⟨by rfl, rfl⟩) (by assumption) ?_; (try simp only [Act.put, List.getElem_toArray, List.getElem_cons_zero, List.getElem_cons_succ, List.setIfInBounds_toArray, List.set_cons_zero, List.set_cons_succ])); (refine wpAnyH_take (i := 47) (v := undef) rfl (by kernel_rfl) (by kernel_rfl) (by kernel_rfl) (fun _ _ _ h => h) (Or.inr ⟨by rfl, rfl⟩) (by assumption) ?_; (try simp only [Act.put, List.getElem_toArray, List.getElem_cons_zero, List.getElem_cons_succ, List.setIfInBounds_toArray, List.set_cons_zero, List.set_cons_succ])); (refine wpAnyH_take (i := 48) (v := undef) rfl (by kernel_rfl) (by kernel_rfl) (by kernel_rfl) (fun _ _ _ h => h) (Or.inr ⟨by rfl, rfl⟩) (by assumption) ?_; (try simp only [Act.put, List.getElem_toArray, List.getElem_cons_zero, List.getElem_cons_succ, List.setIfInBounds_toArray, List.set_cons_zero, List.set_cons_succ])); (refine wpAnyH_take (i := 49) (v := undef) rfl (by kernel_rfl) (by kernel_rfl) (by kernel_rfl) (fun _ _ _ h => h) (Or.inr ⟨by rfl, rfl⟩) (by assumption) ?_; (try simp only [Act.put, List.getElem_toArray, List.getElem_cons_zero, List.getElem_cons_succ, List.setIfInBounds_toArray, List.set_cons_zero, List.set_cons_succ])); (refine wpAnyH_take (i := 50) (v := undef) rfl (by kernel_rfl) (by kernel_rfl) (by kernel_rfl) (fun _ _ _ h => h) (Or.inr ⟨by rfl, rfl⟩) (by assumption) ?_; (try simp only [Act.put, List.getElem_toArray, List.getElem_cons_zero, List.getElem_cons_succ, List.setIfInBounds_toArray, List.set_cons_zero, List.set_cons_succ])))
            ((refine wpAnyH_take (i := 51) (v := ?_) rfl (by kernel_rfl) (by kernel_rfl) (by kernel_rfl) (fun _ _ _ h => h) (Or.inl ⟨by rfl, ?_⟩) (by assumption) ?_; rotate_left; (focus (intro wS hSw; (try dsimp only at hSw); go_simp; (try with_reducible rfl))); (try simp only [Act.put, List.getElem_toArray, List.getElem_cons_zero, List.getElem_cons_succ, List.setIfInBounds_toArray, List.set_cons_zero, List.set_cons_succ])); (refine wpAnyH_take (i := 52) (v := ?_) rfl (by kernel_rfl) (by kernel_rfl) (by kernel_rfl) (fun _ _ _ h => h) (Or.inl ⟨by rfl, ?_⟩) (by assumption) ?_; rotate_left; (focus (intro wS hSw; (try dsimp only at hSw); go_simp; (try with_reducible rfl))); (try simp only [Act.put, List.getElem_toArray, List.getElem_cons_zero, List.getElem_cons_succ, List.setIfInBounds_toArray, List.set_cons_zero, List.set_cons_succ])))
            refine wpAnyH_done (by kernel_rfl) ?_ _
            go_wp2_with fail
            go_roundw
            case rel => exact ⟨i + 1, by omega, by go_num, HB28.out, HR28.out⟩
            case measure => simp [intOf]; omega
      · as_aux_lemma =>
          have hie : ¬ (i : Int) < (rs.length : Int) := by omega
          have hfn : Fits (n : Int) := by unfold Fits; omega
          have HRF := Lib.hid (fun V => impl_RhythmFor_any n k lo hi rs.length V (by unfold Fits; omega))
          rw [sea_no HW.out HC.out] at HRF
          generalize forN n k lo hi rs.length = N17 at HRF
          generalize forL n k lo hi rs.length = L17 at HRF
          have HCA := Lib.hid (fun V => impl_CountFor_any n k 1 16 V)
          rw [sea_chs hk1 hkn hn10] at HCA
          obtain ⟨T, hT⟩ : ∃ T, chs n k (k - 1) = T := ⟨_, rfl⟩
          rw [hT] at HCA
          have HT := Lib.hid hT
          clear hT
          have htt : (T == T) = true := by simp
          go_wp2_with fail
          refine (HRF.out _).mono ?_
          rintro e w32 ⟨A17, c17, rfl, hrw, hb⟩
          have HB32 := Lib.hid (HB20.out.trans (hb.mono HB20.out.size))
          have HB33 := Lib.hid (HB32.out.alloc HB32.out.size (.cells #[.int .i64 N17, .slice A17 L17.length c17] 29))
          clear hb hrw
          go_wp2_with fail
          generalize w32.alloc (.cells #[.int .i64 N17, .slice A17 L17.length c17] 29) = w33 at *
          refine (spec_MakeOf_any A cap xs 8 n w33 (HA.out.lift HB33.out) (by decide) hn1 (by omega)).mono ?_
          rintro e w34 ⟨⟨bs, A19, c19, rfl, hok, hrw⟩, hb⟩
          have HB34 := Lib.hid (HB33.out.trans (hb.mono HB33.out.size))
          have HB35 := Lib.hid (HB34.out.alloc HB34.out.size (.cells #[.int .i64 n, .slice A19 bs.length c19] 29))
          have HQ35 := Lib.hid (Cells2.new w34 (.int .i64 n) (.slice A19 bs.length c19) 29)
          have HI35 := Lib.hid ((hrw.ints (rh_fits hok)).lift ((Below.refl _ _).alloc (Nat.le_refl _) (.cells #[.int .i64 n, .slice A19 bs.length c19] 29)))
          have HFT := Lib.hid (sea_fits (bs := bs) HW.out hok)
          obtain ⟨ft, hft⟩ : ∃ b, isForB (n : Int) bs n k lo hi = b := ⟨_, rfl⟩
          rw [hft] at HFT
          have HIF := Lib.hid (fun V h => impl_IsFor_any n A19 c19 bs n k lo hi V hfn h)
          rw [hft] at HIF
          obtain ⟨fl, hfl⟩ : ∃ b, isForB (n : Int) bs n bs.length lo hi = b := ⟨_, rfl⟩
          have HIL := Lib.hid (fun V h => impl_IsFor_any n A19 c19 bs n bs.length lo hi V hfn h)
          rw [hfl] at HIL
          have hix := sea_idx n bs lo hi
          rw [hfl] at hix
          have HIX := Lib.hid (fun V h => impl_IndexFor_any n A19 c19 bs lo hi V hfn h)
          generalize idxI (n : Int) bs lo hi = ix at HIX hix
          have HHB := Lib.hid (fun V h => show Calls Try.prog 20 #[.agg #[.int .i64 n, .slice A19 bs.length c19], .int .i64 0] V fun e w' => e = .returned (.bool (hasB bs 0)) ∧ Below V.heap.size V w' from impl_HasBeat_any n 0 A19 c19 bs V h hok (by omega))
          have HSS := Lib.hid (fun V h => impl_ShortestStep_any n A19 c19 bs V hfn h)
          have HLS := Lib.hid (fun V h => impl_LongestStep_any n A19 c19 bs V hfn h)
          generalize (collL (stepsOf (n : Int) bs)).getD 0 0 = t1 at HSS HFT
          generalize (collL (stepsOf (n : Int) bs)).getD ((collL (stepsOf (n : Int) bs)).length - 1) 0 = t2 at HLS HFT
          generalize hasB bs 0 = hb0 at HHB HFT
          have hfte : (ft == ft) = true := by simp
          have hfle : (fl == fl) = true := by simp
          clear hb hrw hok hft hfl
          go_wp2_with fail
          generalize w34.alloc (.cells #[.int .i64 n, .slice A19 bs.length c19] 29) = w35 at *
          generalize w34.heap.size = p19 at *
          refine (HCA.out _).mono ?_
          rintro e w36 ⟨rfl, hb⟩
          have HB36 := Lib.hid (HB35.out.trans (hb.mono HB35.out.size))
          have HQ36 := Lib.hid (HQ35.out.below hb HQ35.out.2.2.2.2)
          have HI36 := Lib.hid (HI35.out.lift hb)
          clear hb
          go_wp2_with fail
          go_loop [21, 22] (fun a b => ∃ (m : Nat) (v : Int), 1 ≤ m ∧ m ≤ k ∧ b = .int .i64 m ∧ a = .int .i64 v ∧ chs n k (m - 1) = v) (fun _ b => k - (intOf b).toNat)
          case atStart => exact ⟨1, 1, Nat.le_refl _, hk1, rfl, rfl, rfl⟩
          case round =>
            obtain ⟨m, v, hm1, hmk, rfl, rfl, hv⟩ := hrel
            by_cases hlm : m < k
            · have hlmi : (m : Int) < (k : Int) := by omega
              have hbd := chs_bound hn10 hkn (show m - 1 < k by omega)
              rw [hv] at hbd
              obtain ⟨c, rfl⟩ := Int.eq_ofNat_of_zero_le hbd.1
              obtain ⟨dk, hdk⟩ : ∃ dk : Nat, (n : Int) - (k : Int) = dk := ⟨n - k, by omega⟩
              obtain ⟨ee, hee⟩ : ∃ ee : Nat, (dk : Int) + (m : Int) = ee := ⟨dk + m, by omega⟩
              obtain ⟨pp, hpp⟩ : ∃ pp : Nat, (c : Int) * (ee : Int) = pp := ⟨c * ee, by rw [Int.natCast_mul]⟩
              obtain ⟨qq, hqq⟩ : ∃ qq : Nat, (pp : Int).tdiv (m : Int) = qq := ⟨pp / m, by rw [Int.tdiv_eq_ediv_of_nonneg (by omega)]; rfl⟩
              have hpb : pp ≤ 1000000 * 20 := by
                have h1 : c * ee ≤ 1000000 * 20 := Nat.mul_le_mul (by omega) (by omega)
                have h2 : ((c * ee : Nat) : Int) = pp := by rw [Int.natCast_mul]; exact hpp
                omega
              have hqb : qq ≤ 1000000 * 20 := by
                have h1 : pp / m ≤ pp := Nat.div_le_self _ _
                have h2 : ((pp / m : Nat) : Int) = qq := by rw [← hqq, Int.tdiv_eq_ediv_of_nonneg (by omega)]; rfl
                omega
              have HV := Lib.hid (show chs n k (m + 1 - 1) = qq from by
                obtain ⟨m', rfl⟩ : ∃ m', m = m' + 1 := ⟨m - 1, by omega⟩
                show chs n k m' * ((n : Int) - k + ((m' + 1 : Nat) : Int)) / ((m' + 1 : Nat) : Int) = qq
                rw [show m' + 1 - 1 = m' from rfl] at hv
                rw [hv, hdk, hee, hpp, ← hqq, Int.tdiv_eq_ediv_of_nonneg (by omega)])
              have hw1 : IntKind.i64.wrap (dk : Int) = dk := i64w (by omega)
              have hw2 : IntKind.i64.wrap (ee : Int) = ee := i64w (by omega)
              have hw3 : IntKind.i64.wrap (pp : Int) = pp := i64w (by omega)
              have hw4 : IntKind.i64.wrap (qq : Int) = qq := i64w (by omega)
              have hmz : ((m : Int) = 0) = False := by rw [eq_iff_iff, iff_false]; omega
              have hmz2 : ¬ m = 0 := by omega
              clear hv hbd
              go_wp2
              go_round
              case rel => exact ⟨m + 1, qq, by omega, by omega, by go_num, rfl, HV.out⟩
              case measure => simp [intOf]; omega
            · have hmk2 : m = k := by omega
              subst hmk2
              obtain rfl : v = T := hv.symm.trans HT.out
              have hlmi : ¬ (m : Int) < (m : Int) := by omega
              go_upto_region 28 with fail
              go_cut [23] from 216 to 269 (fun c wx => c = .bool ft ∧ Below w.heap.size w wx ∧ Cells2 wx p19 (.int .i64 n) (.slice A19 bs.length c19) ∧ Ints wx wx.heap.size A19 bs)
              case first =>
                obtain ⟨f0, f1, _, _, _⟩ := HQ36.out
                by_cases hlk : bs.length = m
                · have hlk1 : ((bs.length : Int) == (m : Int)) = true := beq_iff_eq.2 (by omega)
                  have hlk3 : ((bs.length : Int) = (m : Int)) := by omega
                  rw [decide_eq_true hlk3] at HFT
                  clear hlk hlk3
                  go_wp2_with fail
                  refine (HHB.out _ HI36.out).mono ?_
                  rintro e w37 ⟨rfl, hb⟩
                  have HB37 := Lib.hid (HB36.out.trans (hb.mono HB36.out.size))
                  have HQ37 := Lib.hid (HQ36.out.below hb HQ36.out.2.2.2.2)
                  have HI37 := Lib.hid (HI36.out.lift hb)
                  clear hb f0 f1
                  obtain ⟨f0, f1, _, _, _⟩ := HQ37.out
                  cases hb0
                  · have HRES := Lib.hid (show ft = false from HFT.out)
                    go_wp2_with fail
                    go_meet
                    exact ⟨by rw [HRES.out], HB37.out, HQ37.out, HI37.out⟩
                  · go_wp2_with fail
                    refine (HSS.out _ HI37.out).mono ?_
                    rintro e w38 ⟨rfl, hb⟩
                    have HB38 := Lib.hid (HB37.out.trans (hb.mono HB37.out.size))
                    have HQ38 := Lib.hid (HQ37.out.below hb HQ37.out.2.2.2.2)
                    have HI38 := Lib.hid (HI37.out.lift hb)
                    clear hb f0 f1
                    obtain ⟨f0, f1, _, _, _⟩ := HQ38.out
                    by_cases ht1 : (lo : Int) ≤ t1
                    · have ht1d : decide ((lo : Int) ≤ t1) = true := decide_eq_true ht1
                      go_wp2_with fail
                      refine (HLS.out _ HI38.out).mono ?_
                      rintro e w39 ⟨rfl, hb⟩
                      have HB39 := Lib.hid (HB38.out.trans (hb.mono HB38.out.size))
                      have HQ39 := Lib.hid (HQ38.out.below hb HQ38.out.2.2.2.2)
                      have HI39 := Lib.hid (HI38.out.lift hb)
                      clear hb f0 f1
                      obtain ⟨f0, f1, _, _, _⟩ := HQ39.out
                      have HRES := Lib.hid (show ft = decide (t2 ≤ (hi : Int)) from by
                        have := HFT.out
                        rw [ht1d] at this
                        exact this)
                      go_wp2_with fail
                      go_meet
                      exact ⟨by rw [HRES.out], HB39.out, HQ39.out, HI39.out⟩
                    · have ht1d : decide ((lo : Int) ≤ t1) = false := decide_eq_false ht1
                      have HRES := Lib.hid (show ft = false from by
                        have := HFT.out
                        rw [ht1d] at this
                        exact this)
                      go_wp2_with fail
                      go_meet
                      exact ⟨by rw [HRES.out], HB38.out, HQ38.out, HI38.out⟩
                · have hlk1 : ((bs.length : Int) == (m : Int)) = false := beq_eq_false_iff_ne.2 (by omega)
                  have hlk3 : ¬ ((bs.length : Int) = (m : Int)) := by omega
                  rw [decide_eq_false hlk3] at HFT
                  have HRES := Lib.hid (show ft = false from HFT.out)
                  clear hlk hlk3
                  go_wp2_with fail
                  go_meet
                  exact ⟨by rw [HRES.out], HB36.out, HQ36.out, HI36.out⟩
              case rest =>
                obtain ⟨rfl, hbel, hcel, hint⟩ := hcut
                have HB36 := Lib.hid hbel
                have HQ36 := Lib.hid hcel
                have HI36 := Lib.hid hint
                clear hbel hcel hint
                go_wp2_with fail
                have HBd := Lib.hid (Below.drew5_ HB36.out)
                have HQd := Lib.hid (show Cells2 wc.drew p19 (.int .i64 n) (.slice A19 bs.length c19) from HQ36.out)
                have HId := Lib.hid (show Ints wc.drew wc.drew.heap.size A19 bs from HI36.out)
                obtain ⟨f0, f1, _, _, _⟩ := HQd.out
                (refine wp_region_held_drew (S := (fun w' => w'.cell? ⟨p19, 0, none⟩ = some (.int .i64 n) ∧ w'.cell? ⟨p19, 1, none⟩ = some (.slice A19 bs.length c19))) (by kernel_rfl) ?_ (fun hHeld => ?_); (focus ((try dsimp only); exact ⟨f0, f1⟩)))
                ((refine wpAnyH_take (i := 0) (v := ?_) rfl (by kernel_rfl) (by kernel_rfl) (by kernel_rfl) (fun _ _ _ h => h) (Or.inl ⟨by rfl, ?_⟩) (by assumption) ?_; rotate_left; (focus (intro wS hSw; (try dsimp only at hSw); go_simp; (try with_reducible rfl))); (try simp only [Act.put, List.getElem_toArray, List.getElem_cons_zero, List.getElem_cons_succ, List.setIfInBounds_toArray, List.set_cons_zero, List.set_cons_succ])); (refine wpAnyH_take (i := 1) (v := ?_) rfl (by kernel_rfl) (by kernel_rfl) (by kernel_rfl) (fun _ _ _ h => h) (Or.inl ⟨by rfl, ?_⟩) (by assumption) ?_; rotate_left; (focus (intro wS hSw; (try dsimp only at hSw); go_simp; (try with_reducible rfl))); (try simp only [Act.put, List.getElem_toArray, List.getElem_cons_zero, List.getElem_cons_succ, List.setIfInBounds_toArray, List.set_cons_zero, List.set_cons_succ])); (refine wpAnyH_take (i := 2) (v := ?_) rfl (by kernel_rfl) (by kernel_rfl) (by kernel_rfl) (fun _ _ _ h => h) (Or.inl ⟨by rfl, ?_⟩) (by assumption) ?_; rotate_left; (focus (intro wS hSw; (try dsimp only at hSw); go_simp; (try with_reducible rfl))); (try simp only [Act.put, List.getElem_toArray, List.getElem_cons_zero, List.getElem_cons_succ, List.setIfInBounds_toArray, List.set_cons_zero, List.set_cons_succ])); (refine wpAnyH_take (i := 3) (v := ?_) rfl (by kernel_rfl) (by kernel_rfl) (by kernel_rfl) (fun _ _ _ h => h) (Or.inl ⟨by rfl, ?_⟩) (by assumption) ?_; rotate_left; (focus (intro wS hSw; (try dsimp only at hSw); go_simp; (try with_reducible rfl))); (try simp only [Act.put, List.getElem_toArray, List.getElem_cons_zero, List.getElem_cons_succ, List.setIfInBounds_toArray, List.set_cons_zero, List.set_cons_succ])); (refine wpAnyH_take (i := 4) (v := ?_) rfl (by kernel_rfl) (by kernel_rfl) (by kernel_rfl) (fun _ _ _ h => h) (Or.inl ⟨by rfl, ?_⟩) (by assumption) ?_; rotate_left; (focus (intro wS hSw; (try dsimp only at hSw); go_simp; (try with_reducible rfl))); (try simp only [Act.put, List.getElem_toArray, List.getElem_cons_zero, List.getElem_cons_succ, List.setIfInBounds_toArray, List.set_cons_zero, List.set_cons_succ])); (refine wpAnyH_take (i := 5) (v := ?_) rfl (by kernel_rfl) (by kernel_rfl) (by kernel_rfl) (fun _ _ _ h => h) (Or.inl ⟨by rfl, ?_⟩) (by assumption) ?_; rotate_left; (focus (intro wS hSw; (try dsimp only at hSw); go_simp; (try with_reducible rfl))); (try simp only [Act.put, List.getElem_toArray, List.getElem_cons_zero, List.getElem_cons_succ, List.setIfInBounds_toArray, List.set_cons_zero, List.set_cons_succ])); (refine wpAnyH_take (i := 6) (v := ?_) rfl (by kernel_rfl) (by kernel_rfl) (by kernel_rfl) (fun _ _ _ h => h) (Or.inl ⟨by rfl, ?_⟩) (by assumption) ?_; rotate_left; (focus (intro wS hSw; (try dsimp only at hSw); go_simp; (try with_reducible rfl))); (try simp only [Act.put, List.getElem_toArray, List.getElem_cons_zero, List.getElem_cons_succ, List.setIfInBounds_toArray, List.set_cons_zero, List.set_cons_succ])); (refine wpAnyH_take (i := 7) (v := ?_) rfl (by kernel_rfl) (by kernel_rfl) (by kernel_rfl) (fun _ _ _ h => h) (Or.inl ⟨by rfl, ?_⟩) (by assumption) ?_; rotate_left; (focus (intro wS hSw; (try dsimp only at hSw); go_simp; (try with_reducible rfl))); (try simp only [Act.put, List.getElem_toArray, List.getElem_cons_zero, List.getElem_cons_succ, List.setIfInBounds_toArray, List.set_cons_zero, List.set_cons_succ])); (refine wpAnyH_take (i := 8) (v := ?_) rfl (by kernel_rfl) (by kernel_rfl) (by kernel_rfl) (fun _ _ _ h => h) (Or.inl ⟨by rfl, ?_⟩) (by assumption) ?_; rotate_left; (focus (intro wS hSw; (try dsimp only at hSw); go_simp; (try with_reducible rfl))); (try simp only [Act.put, List.getElem_toArray, List.getElem_cons_zero, List.getElem_cons_succ, List.setIfInBounds_toArray, List.set_cons_zero, List.set_cons_succ])); (refine wpAnyH_take (i := 9) (v := ?_) rfl (by kernel_rfl) (by kernel_rfl) (by kernel_rfl) (fun _ _ _ h => h) (Or.inl ⟨by rfl, ?_⟩) (by assumption) ?_; rotate_left; (focus (intro wS hSw; (try dsimp only at hSw); go_simp; (try with_reducible rfl))); (try simp only [Act.put, List.getElem_toArray, List.getElem_cons_zero, List.getElem_cons_succ, List.setIfInBounds_toArray, List.set_cons_zero, List.set_cons_succ])); (refine wpAnyH_take (i := 10) (v := ?_) rfl (by kernel_rfl) (by kernel_rfl) (by kernel_rfl) (fun _ _ _ h => h) (Or.inl ⟨by rfl, ?_⟩) (by assumption) ?_; rotate_left; (focus (intro wS hSw; (try dsimp only at hSw); go_simp; (try with_reducible rfl))); (try simp only [Act.put, List.getElem_toArray, List.getElem_cons_zero, List.getElem_cons_succ, List.setIfInBounds_toArray, List.set_cons_zero, List.set_cons_succ])); (refine wpAnyH_take (i := 11) (v := ?_) rfl (by kernel_rfl) (by kernel_rfl) (by kernel_rfl) (fun _ _ _ h => h) (Or.inl ⟨by rfl, ?_⟩) (by assumption) ?_; rotate_left; (focus (intro wS hSw; (try dsimp only at hSw); go_simp; (try with_reducible rfl))); (try simp only [Act.put, List.getElem_toArray, List.getElem_cons_zero, List.getElem_cons_succ, List.setIfInBounds_toArray, List.set_cons_zero, List.set_cons_succ])); (refine wpAnyH_take (i := 12) (v := ?_) rfl (by kernel_rfl) (by kernel_rfl) (by kernel_rfl) (fun _ _ _ h => h) (Or.inl ⟨by rfl, ?_⟩) (by assumption) ?_; rotate_left; (focus (intro wS hSw; (try dsimp only at hSw); go_simp; (try with_reducible rfl))); (try simp only [Act.put, List.getElem_toArray, List.getElem_cons_zero, List.getElem_cons_succ, List.setIfInBounds_toArray, List.set_cons_zero, List.set_cons_succ])); (refine wpAnyH_take (i := 14) (v := ?_) rfl (by kernel_rfl) (by kernel_rfl) (by kernel_rfl) (fun _ _ _ h => h) (Or.inl ⟨by rfl, ?_⟩) (by assumption) ?_; rotate_left; (focus (intro wS hSw; (try dsimp only at hSw); go_simp; (try with_reducible rfl))); (try simp only [Act.put, List.getElem_toArray, List.getElem_cons_zero, List.getElem_cons_succ, List.setIfInBounds_toArray, List.set_cons_zero, List.set_cons_succ])))
                (refine wpAnyH_ready (rs := [13]) (by kernel_rfl) (by simp) ?_; refine AllReadyH.cons rfl (fun K hK => ?_) AllReadyH.nil; go_simp)
                go_at_call 13
                refine (HIF.out _ HId.out).mono ?_
                rintro e w41 ⟨rfl, hb⟩
                have HB41 := Lib.hid (HBd.out.trans (hb.mono HBd.out.size))
                have HQ41 := Lib.hid (HQd.out.below hb HQd.out.2.2.2.2)
                have HI41 := Lib.hid (HId.out.lift hb)
                clear hb f0 f1
                obtain ⟨f0, f1, _, _, _⟩ := HQ41.out
                go_wp2_with fail
                (refine hK.out _ _ ?_ (fun hHeld2 => ?_); (focus ((try dsimp only); exact ⟨f0, f1⟩)); (clear hK K); (try simp only [Act.put, List.getElem_toArray, List.getElem_cons_zero, List.getElem_cons_succ, List.setIfInBounds_toArray, List.set_cons_zero, List.set_cons_succ]))
                ((refine wpAnyH_take (i := 15) (v := ?_) rfl (by kernel_rfl) (by kernel_rfl) (by kernel_rfl) (fun _ _ _ h => h) (Or.inl ⟨by rfl, ?_⟩) (by assumption) ?_; rotate_left; (focus (intro wS hSw; (try dsimp only at hSw); go_simp; (try with_reducible rfl))); (try simp only [Act.put, List.getElem_toArray, List.getElem_cons_zero, List.getElem_cons_succ, List.setIfInBounds_toArray, List.set_cons_zero, List.set_cons_succ])); (refine wpAnyH_take (i := 16) (v := ?_) rfl (by kernel_rfl) (by kernel_rfl) (by kernel_rfl) (fun _ _ _ h => h) (Or.inl ⟨by rfl, ?_⟩) (by assumption) ?_; rotate_left; (focus (intro wS hSw; (try dsimp only at hSw); go_simp; (try with_reducible rfl))); (try simp only [Act.put, List.getElem_toArray, List.getElem_cons_zero, List.getElem_cons_succ, List.setIfInBounds_toArray, List.set_cons_zero, List.set_cons_succ])); (refine wpAnyH_take (i := 17) (v := ?_) rfl (by kernel_rfl) (by kernel_rfl) (by kernel_rfl) (fun _ _ _ h => h) (Or.inl ⟨by rfl, ?_⟩) (by assumption) ?_; rotate_left; (focus (intro wS hSw; (try dsimp only at hSw); go_simp; (try with_reducible rfl))); (try simp only [Act.put, List.getElem_toArray, List.getElem_cons_zero, List.getElem_cons_succ, List.setIfInBounds_toArray, List.set_cons_zero, List.set_cons_succ])); (refine wpAnyH_take (i := 18) (v := ?_) rfl (by kernel_rfl) (by kernel_rfl) (by kernel_rfl) (fun _ _ _ h => h) (Or.inl ⟨by rfl, ?_⟩) (by assumption) ?_; rotate_left; (focus (intro wS hSw; (try dsimp only at hSw); go_simp; (try with_reducible rfl))); (try simp only [Act.put, List.getElem_toArray, List.getElem_cons_zero, List.getElem_cons_succ, List.setIfInBounds_toArray, List.set_cons_zero, List.set_cons_succ])); (refine wpAnyH_take (i := 19) (v := ?_) rfl (by kernel_rfl) (by kernel_rfl) (by kernel_rfl) (fun _ _ _ h => h) (Or.inl ⟨by rfl, ?_⟩) (by assumption) ?_; rotate_left; (focus (intro wS hSw; (try dsimp only at hSw); go_simp; (try with_reducible rfl))); (try simp only [Act.put, List.getElem_toArray, List.getElem_cons_zero, List.getElem_cons_succ, List.setIfInBounds_toArray, List.set_cons_zero, List.set_cons_succ])); (refine wpAnyH_take (i := 20) (v := ?_) rfl (by kernel_rfl) (by kernel_rfl) (by kernel_rfl) (fun _ _ _ h => h) (Or.inl ⟨by rfl, ?_⟩) (by assumption) ?_; rotate_left; (focus (intro wS hSw; (try dsimp only at hSw); go_simp; (try with_reducible rfl))); (try simp only [Act.put, List.getElem_toArray, List.getElem_cons_zero, List.getElem_cons_succ, List.setIfInBounds_toArray, List.set_cons_zero, List.set_cons_succ])); (refine wpAnyH_take (i := 23) (v := ?_) rfl (by kernel_rfl) (by kernel_rfl) (by kernel_rfl) (fun _ _ _ h => h) (Or.inl ⟨by rfl, ?_⟩) (by assumption) ?_; rotate_left; (focus (intro wS hSw; (try dsimp only at hSw); go_simp; (try with_reducible rfl))); (try simp only [Act.put, List.getElem_toArray, List.getElem_cons_zero, List.getElem_cons_succ, List.setIfInBounds_toArray, List.set_cons_zero, List.set_cons_succ])); (refine wpAnyH_take (i := 24) (v := ?_) rfl (by kernel_rfl) (by kernel_rfl) (by kernel_rfl) (fun _ _ _ h => h) (Or.inl ⟨by rfl, ?_⟩) (by assumption) ?_; rotate_left; (focus (intro wS hSw; (try dsimp only at hSw); go_simp; (try with_reducible rfl))); (try simp only [Act.put, List.getElem_toArray, List.getElem_cons_zero, List.getElem_cons_succ, List.setIfInBounds_toArray, List.set_cons_zero, List.set_cons_succ])); (refine wpAnyH_take (i := 25) (v := ?_) rfl (by kernel_rfl) (by kernel_rfl) (by kernel_rfl) (fun _ _ _ h => h) (Or.inl ⟨by rfl, ?_⟩) (by assumption) ?_; rotate_left; (focus (intro wS hSw; (try dsimp only at hSw); go_simp; (try with_reducible rfl))); (try simp only [Act.put, List.getElem_toArray, List.getElem_cons_zero, List.getElem_cons_succ, List.setIfInBounds_toArray, List.set_cons_zero, List.set_cons_succ])); (refine wpAnyH_take (i := 26) (v := ?_) rfl (by kernel_rfl) (by kernel_rfl) (by kernel_rfl) (fun _ _ _ h => h) (Or.inl ⟨by rfl, ?_⟩) (by assumption) ?_; rotate_left; (focus (intro wS hSw; (try dsimp only at hSw); go_simp; (try with_reducible rfl))); (try simp only [Act.put, List.getElem_toArray, List.getElem_cons_zero, List.getElem_cons_succ, List.setIfInBounds_toArray, List.set_cons_zero, List.set_cons_succ])); (refine wpAnyH_take (i := 27) (v := ?_) rfl (by kernel_rfl) (by kernel_rfl) (by kernel_rfl) (fun _ _ _ h => h) (Or.inl ⟨by rfl, ?_⟩) (by assumption) ?_; rotate_left; (focus (intro wS hSw; (try dsimp only at hSw); go_simp; (try with_reducible rfl))); (try simp only [Act.put, List.getElem_toArray, List.getElem_cons_zero, List.getElem_cons_succ, List.setIfInBounds_toArray, List.set_cons_zero, List.set_cons_succ])); (refine wpAnyH_take (i := 28) (v := ?_) rfl (by kernel_rfl) (by kernel_rfl) (by kernel_rfl) (fun _ _ _ h => h) (Or.inl ⟨by rfl, ?_⟩) (by assumption) ?_; rotate_left; (focus (intro wS hSw; (try dsimp only at hSw); go_simp; (try with_reducible rfl))); (try simp only [Act.put, List.getElem_toArray, List.getElem_cons_zero, List.getElem_cons_succ, List.setIfInBounds_toArray, List.set_cons_zero, List.set_cons_succ])); (refine wpAnyH_take (i := 29) (v := ?_) rfl (by kernel_rfl) (by kernel_rfl) (by kernel_rfl) (fun _ _ _ h => h) (Or.inl ⟨by rfl, ?_⟩) (by assumption) ?_; rotate_left; (focus (intro wS hSw; (try dsimp only at hSw); go_simp; (try with_reducible rfl))); (try simp only [Act.put, List.getElem_toArray, List.getElem_cons_zero, List.getElem_cons_succ, List.setIfInBounds_toArray, List.set_cons_zero, List.set_cons_succ])))
                (refine wpAnyH_ready (rs := [21]) (by kernel_rfl) (by simp) ?_; refine AllReadyH.cons rfl (fun K hK => ?_) AllReadyH.nil; go_simp)
                go_at_call 14
                refine (HIX.out _ HI41.out).mono ?_
                rintro e w42 ⟨rfl, hb⟩
                have HB42 := Lib.hid (HB41.out.trans (hb.mono HB41.out.size))
                have HQ42 := Lib.hid (HQ41.out.below hb HQ41.out.2.2.2.2)
                have HI42 := Lib.hid (HI41.out.lift hb)
                clear hb f0 f1
                obtain ⟨f0, f1, _, _, _⟩ := HQ42.out
                go_wp2_with fail
                (refine hK.out _ _ ?_ (fun hHeld2 => ?_); (focus ((try dsimp only); exact ⟨f0, f1⟩)); (clear hK K); (try simp only [Act.put, List.getElem_toArray, List.getElem_cons_zero, List.getElem_cons_succ, List.setIfInBounds_toArray, List.set_cons_zero, List.set_cons_succ]))
                ((refine wpAnyH_take (i := 22) (v := ?_) rfl (by kernel_rfl) (by kernel_rfl) (by kernel_rfl) (fun _ _ _ h => h) (Or.inl ⟨by rfl, ?_⟩) (by assumption) ?_; rotate_left; (focus (intro wS hSw; (try dsimp only at hSw); go_simp; (try with_reducible rfl))); (try simp only [Act.put, List.getElem_toArray, List.getElem_cons_zero, List.getElem_cons_succ, List.setIfInBounds_toArray, List.set_cons_zero, List.set_cons_succ])))
                (refine wpAnyH_ready (rs := [30]) (by kernel_rfl) (by simp) ?_; refine AllReadyH.cons rfl (fun K hK => ?_) AllReadyH.nil; go_simp)
                go_at_call 13
                refine (HIL.out _ HI42.out).mono ?_
                rintro e w43 ⟨rfl, hb⟩
                have HB43 := Lib.hid (HB42.out.trans (hb.mono HB42.out.size))
                have HQ43 := Lib.hid (HQ42.out.below hb HQ42.out.2.2.2.2)
                have HI43 := Lib.hid (HI42.out.lift hb)
                clear hb f0 f1
                obtain ⟨f0, f1, _, _, _⟩ := HQ43.out
                go_wp2_with fail
                (refine hK.out _ _ ?_ (fun hHeld2 => ?_); (focus ((try dsimp only); exact ⟨f0, f1⟩)); (clear hK K); (try simp only [Act.put, List.getElem_toArray, List.getElem_cons_zero, List.getElem_cons_succ, List.setIfInBounds_toArray, List.set_cons_zero, List.set_cons_succ]))
                ((refine wpAnyH_take (i := 31) (v := ?_) rfl (by kernel_rfl) (by kernel_rfl) (by kernel_rfl) (fun _ _ _ h => h) (Or.inl ⟨by rfl, ?_⟩) (by assumption) ?_; rotate_left; (focus (intro wS hSw; (try dsimp only at hSw); go_simp; (try with_reducible rfl))); (try simp only [Act.put, List.getElem_toArray, List.getElem_cons_zero, List.getElem_cons_succ, List.setIfInBounds_toArray, List.set_cons_zero, List.set_cons_succ])); (refine wpAnyH_take (i := 32) (v := ?_) rfl (by kernel_rfl) (by kernel_rfl) (by kernel_rfl) (fun _ _ _ h => h) (Or.inl ⟨by rfl, ?_⟩) (by assumption) ?_; rotate_left; (focus (intro wS hSw; (try dsimp only at hSw); go_simp; (try with_reducible rfl))); (try simp only [Act.put, List.getElem_toArray, List.getElem_cons_zero, List.getElem_cons_succ, List.setIfInBounds_toArray, List.set_cons_zero, List.set_cons_succ])); (refine wpAnyH_take (i := 33) (v := ?_) rfl (by kernel_rfl) (by kernel_rfl) (by kernel_rfl) (fun _ _ _ h => h) (Or.inl ⟨by rfl, ?_⟩) (by assumption) ?_; rotate_left; (focus (intro wS hSw; (try dsimp only at hSw); go_simp; (try with_reducible rfl))); (try simp only [Act.put, List.getElem_toArray, List.getElem_cons_zero, List.getElem_cons_succ, List.setIfInBounds_toArray, List.set_cons_zero, List.set_cons_succ])))
                refine wpAnyH_done (by kernel_rfl) ?_ _
                go_wp2_with fail
                go_ret
                exact ⟨rfl, HB43.out⟩

end Go.Proofs.Ythfofjbegkjdmaa
