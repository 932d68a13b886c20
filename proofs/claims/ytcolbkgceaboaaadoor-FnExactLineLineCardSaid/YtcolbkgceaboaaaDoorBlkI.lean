/-
  A pattern on a line, of the program: PatternOk, the row of times, the laying.
-/
import Derived.Test.YtcolbkgceaboaaaDoorBlkT
import Derived.Test.YtcolbkgceaboaaaDoorFullC
import Derived.Test.YtcolbkgceaboaaaDoorOwn
import Derived.Test.YtcolbkgceaboaaaDoorFrm
import Derived.Deep.LoopGhost
namespace Go.Proofs.YtcolbkgceaboaaaDoor
open Go.RowKit
set_option linter.unusedVariables false
set_option linter.unusedSimpArgs false

theorem pat_step {xs : List Int} {k : Nat} (h : ∀ j, j < k → patAt xs j = true) (hk : patAt xs k = true) : ∀ j, j < k + 1 → patAt xs j = true := fun j hj => by
  by_cases e : j = k
  · subst e; exact hk
  · exact h j (by omega)

set_option maxRecDepth 100000 in
set_option maxHeartbeats 1000000 in
theorem impl_PatternOk_any (A : Option Addr) (cap : Nat) (xs : List Int) (w : World) (hA : Ints w w.heap.size A xs) :
    Calls Tryd.prog 15 #[.slice A xs.length cap] w fun e w' => e = .returned (.bool (patB xs)) ∧ w = w' := by
  obtain ⟨hlen, hfit, hcells⟩ := hA
  unfold maxLen at hlen
  have HC := Lib.hid hcells
  clear hfit hcells
  go_enter Tryd.func15, Tryd.ntmps15
  go_wp2
  go_loop [7] (fun i => ∃ k : Nat, k ≤ xs.length ∧ (∀ j, j < k → patAt xs j = true) ∧ i = .int .i64 k) (fun i => xs.length - (intOf i).toNat)
  case atStart => exact ⟨0, Nat.zero_le _, fun j hj => by omega, rfl⟩
  case round =>
    obtain ⟨k, hk, hall, rfl⟩ := hrel
    have HALL := Lib.hid hall
    clear hall
    by_cases hlt : k < xs.length
    · obtain ⟨b, off, rfl, hB, hc⟩ := HC.out (by omega)
      have hcell := hc k hlt
      have hcell1 := hc (k - 1) (by omega)
      obtain ⟨x, hx⟩ : ∃ x, xs.getD k 0 = x := ⟨_, rfl⟩
      obtain ⟨y, hy⟩ : ∃ y, xs.getD (k - 1) 0 = y := ⟨_, rfl⟩
      rw [hx] at hcell
      rw [hy] at hcell1
      have HX := Lib.hid hx
      have HY := Lib.hid hy
      clear hx hy hc
      cases hin : inB x 0 12
      · have HV := Lib.hid (pat_no hlt (show patAt xs k = false by unfold patAt; rw [HX.out, hin]; rfl))
        go_wp2_with (go_at_call 26; refine (within_any _ _ _ _).mono ?_; rintro e w' ⟨rfl, rfl⟩)
        go_ret
        exact ⟨ret_bool HV.out.symm, rfl⟩
      · by_cases h0 : k = 0
        · subst h0
          simp only [Nat.add_zero] at hcell
          by_cases hx0 : x = 0
          · have HV := Lib.hid (show patAt xs 0 = true by unfold patAt; rw [if_pos rfl, HX.out, hin, decide_eq_true hx0]; rfl)
            have hxn : (x != 0) = false := by simp [hx0]
            clear hx0
            go_wp2_with (go_at_call 26; refine (within_any _ _ _ _).mono ?_; rintro e w' ⟨rfl, rfl⟩)
            go_round
            case rel => exact ⟨1, by omega, pat_step HALL.out HV.out, by go_num⟩
            case measure => simp [intOf]; omega
          · have HV := Lib.hid (pat_no hlt (show patAt xs 0 = false by unfold patAt; rw [if_pos rfl, HX.out, hin, decide_eq_false hx0]; rfl))
            have hxn : (x != 0) = true := by simp [hx0]
            clear hx0
            go_wp2_with (go_at_call 26; refine (within_any _ _ _ _).mono ?_; rintro e w' ⟨rfl, rfl⟩)
            go_ret
            exact ⟨ret_bool HV.out.symm, rfl⟩
        · have hk0 : ((k : Int) == 0) = false := beq_eq_false_iff_ne.2 (by omega)
          have hk1 : (0 : Int) < (k : Int) := by omega
          have hk2 : decide ((0 : Int) < (k : Int)) = true := decide_eq_true hk1
          have hk3 : 0 < k := by omega
          by_cases hxy : y < x
          · have HV := Lib.hid (show patAt xs k = true by unfold patAt; rw [if_neg h0, HX.out, HY.out, hin, decide_eq_true hxy]; rfl)
            have hle : decide (x ≤ y) = false := decide_eq_false (by omega)
            have hle2 : ¬ x ≤ y := by omega
            go_wp2_with (go_at_call 26; refine (within_any _ _ _ _).mono ?_; rintro e w' ⟨rfl, rfl⟩)
            go_round
            case rel => exact ⟨k + 1, by omega, pat_step HALL.out HV.out, by go_num⟩
            case measure => simp [intOf]; omega
          · have HV := Lib.hid (pat_no hlt (show patAt xs k = false by unfold patAt; rw [if_neg h0, HX.out, HY.out, hin, decide_eq_false hxy]; rfl))
            have hle : decide (x ≤ y) = true := decide_eq_true (by omega)
            have hle2 : x ≤ y := by omega
            go_wp2_with (go_at_call 26; refine (within_any _ _ _ _).mono ?_; rintro e w' ⟨rfl, rfl⟩)
            go_ret
            exact ⟨ret_bool HV.out.symm, rfl⟩
    · have hke : k = xs.length := by omega
      subst hke
      have HV := Lib.hid (show patB xs = decide ((0 : Int) < (xs.length : Int)) by rw [pat_end HALL.out, decide_eq_decide]; omega)
      go_wp2_with (go_at_call 26; refine (within_any _ _ _ _).mono ?_; rintro e w' ⟨rfl, rfl⟩)
      go_ret
      exact ⟨by rw [HV.out]; first | rfl | simp, rfl⟩

/-- Block g is a row of times: the time, the times taken, the pattern. -/
def Lin3 (w : World) (g : Nat) (t s M : Int) : Prop :=
  g < w.heap.size ∧ w.cell? ⟨g, 0, none⟩ = some (.int .i64 t) ∧ w.cell? ⟨g, 1, none⟩ = some (.int .i64 s) ∧ w.cell? ⟨g, 2, none⟩ = some (.int .i64 M) ∧
    w.frozen? ⟨g, 0, none⟩ = false ∧ w.frozen? ⟨g, 1, none⟩ = false
section
variable {w w' : World} {g : Nat} {t s M : Int} {S : Nat → Prop}
theorem Lin3.frm (h : Lin3 w g t s M) (hf : Frm S w w') (hS : ¬ S g) : Lin3 w' g t s M :=
  ⟨Nat.lt_of_lt_of_le h.1 hf.size, (hf.cell h.1 hS).trans h.2.1, (hf.cell h.1 hS).trans h.2.2.1, (hf.cell h.1 hS).trans h.2.2.2.1, (hf.frozen h.1 hS).trans h.2.2.2.2.1, (hf.frozen h.1 hS).trans h.2.2.2.2.2⟩
theorem Lin3.below {B : Nat} (h : Lin3 w g t s M) (hb : Below B w w') (hg : g < B) : Lin3 w' g t s M :=
  h.frm (Frm.of_below (S := fun c => B ≤ c) hb (fun c _ h => h)) (by omega)
theorem Lin3.set0 (h : Lin3 w g t s M) (u : Int) : Lin3 (w.setCell ⟨g, 0, none⟩ (.int .i64 u)) g u s M :=
  ⟨by simpa [World.setCell] using h.1, World.cell?_setCell_same w _ _ h.2.1, (World.cell?_setCell_other w ⟨g, 0, none⟩ ⟨g, 1, none⟩ _ (fun q => by injection q; omega)).trans h.2.2.1,
    (World.cell?_setCell_other w ⟨g, 0, none⟩ ⟨g, 2, none⟩ _ (fun q => by injection q; omega)).trans h.2.2.2.1, (World.frozen?_setCell _ _ _ _).trans h.2.2.2.2.1, (World.frozen?_setCell _ _ _ _).trans h.2.2.2.2.2⟩
theorem Lin3.set1 (h : Lin3 w g t s M) (u : Int) : Lin3 (w.setCell ⟨g, 1, none⟩ (.int .i64 u)) g t u M :=
  ⟨by simpa [World.setCell] using h.1, (World.cell?_setCell_other w ⟨g, 1, none⟩ ⟨g, 0, none⟩ _ (fun q => by injection q; omega)).trans h.2.1, World.cell?_setCell_same w _ _ h.2.2.1,
    (World.cell?_setCell_other w ⟨g, 1, none⟩ ⟨g, 2, none⟩ _ (fun q => by injection q; omega)).trans h.2.2.2.1, (World.frozen?_setCell _ _ _ _).trans h.2.2.2.2.1, (World.frozen?_setCell _ _ _ _).trans h.2.2.2.2.2⟩
end

theorem lin3_new (w : World) (m : Int) : Lin3 (w.alloc (.cells #[.int .i64 0, .int .i64 0, .int .i64 m] 45)) w.heap.size 0 0 m := by
  have hh : (w.alloc (.cells #[.int .i64 0, .int .i64 0, .int .i64 m] 45)).heap[w.heap.size]? = some (.cells #[.int .i64 0, .int .i64 0, .int .i64 m] 45 (0, 0)) := heap_alloc_new w _
  exact ⟨by simp, by rw [cell_of_row _ _ _ _ _ _ hh]; rfl, by rw [cell_of_row _ _ _ _ _ _ hh]; rfl, by rw [cell_of_row _ _ _ _ _ _ hh]; rfl, frozen_of_row _ _ _ _ _ hh, frozen_of_row _ _ _ _ _ hh⟩

theorem shl_small (v : Nat) (hv : v < 16) : wrap64 (2 ^ v) = ((2 ^ v : Nat) : Int) := by
  have h2 : (2 : Nat) ^ v < 2 ^ 16 := Nat.pow_lt_pow_right (by omega) hv
  rw [show ((2 : Int) ^ v) = ((2 ^ v : Nat) : Int) by simp]
  generalize 2 ^ v = x at h2
  unfold wrap64
  omega

set_option maxRecDepth 100000 in
set_option maxHeartbeats 1000000 in
theorem impl_newLine_ok (A : Option Addr) (cap : Nat) (xs : List Int) (w : World) (hA : Ints w w.heap.size A xs) (hp : patB xs = true) :
    Calls Tryd.prog 33 #[.slice A xs.length cap] w fun e w' => e = .returned (.pointer (some ⟨w.heap.size, 0, none⟩)) ∧ Lin3 w' w.heap.size 0 0 (patM xs) ∧ Below w.heap.size w w' := by
  obtain ⟨hpos, hpat⟩ := pat_all hp
  obtain ⟨hlen, hfit, hcells⟩ := hA
  unfold maxLen at hlen
  have HC := Lib.hid hcells
  have HP := Lib.hid hpat
  clear hfit hcells hpat hp
  go_enter Tryd.func33, Tryd.ntmps33
  go_wp2
  go_loop [3, 8] (fun m i => ∃ k : Nat, k ≤ xs.length ∧ m = .int .i64 (mkN xs k) ∧ i = .int .i64 k) (fun _ i => xs.length - (intOf i).toNat)
  case atStart => exact ⟨0, Nat.zero_le _, rfl, rfl⟩
  case round =>
    obtain ⟨k, hk, rfl, rfl⟩ := hrel
    by_cases hlt : k < xs.length
    · obtain ⟨b, off, rfl, hB, hc⟩ := HC.out (by omega)
      have hcell := hc k hlt
      have hin := pat_in (HP.out k hlt)
      have hor0 := mk_or HP.out k hlt
      have hsm := mk_small HP.out k (by omega)
      obtain ⟨v, hv⟩ := Int.eq_ofNat_of_zero_le hin.1
      rw [hv] at hcell hor0 hin
      have hor := i64_or_pow (mkN xs k) v (by omega) (by omega)
      rw [show mkN xs k ||| 2 ^ v = mkN xs (k + 1) from hor0] at hor
      obtain ⟨m', hm'⟩ : ∃ x, mkN xs (k + 1) = x := ⟨_, rfl⟩
      rw [hm'] at hor
      have HM := Lib.hid hm'
      generalize mkN xs k = m at hor ⊢
      have hv16 : v < 16 := by omega
      have hv0 : (0 : Int) ≤ (v : Int) := Int.natCast_nonneg _
      clear hc hv hin hor0 hsm hm'
      go_wp2
      go_round
      case rel => exact ⟨k + 1, by omega, by rw [HM.out], by go_num⟩
      case measure => simp [intOf]; omega
    · have hke : k = xs.length := by omega
      subst hke
      have HL := Lib.hid (lin3_new w (mkN xs xs.length))
      go_wp2
      go_ret
      exact ⟨rfl, HL.out, (Below.refl _ _).alloc (Nat.le_refl _) _⟩

set_option maxRecDepth 100000 in
set_option maxHeartbeats 1000000 in
theorem impl_lay_no (g t s M : Nat) (w : World) (hL : Lin3 w g t s M) (hs : s < 8192) (hM : M < 8192) (h : s &&& M ≠ 0) :
    Calls Tryd.prog 34 #[.pointer (some ⟨g, 0, none⟩)] w fun e w' => e = .returned (.bool false) ∧ Below w.heap.size w w' := by
  obtain ⟨hg, c0, c1, c2, f0, f1⟩ := hL
  have hand := i64_and_nat s M (by omega) (by omega)
  obtain ⟨a, ha⟩ : ∃ a, s &&& M = a := ⟨_, rfl⟩
  rw [ha] at hand h
  have han : ((a : Int) != 0) = true := by rw [bne_iff_ne]; omega
  have han2 : ¬ (a : Int) = 0 := by omega
  clear ha
  go_enter Tryd.func34, Tryd.ntmps34
  go_wp2_with fail
  go_quiet (fail)
  go_wp2_with fail
  go_ret
  exact ⟨rfl, by first | exact Below.drewN_ (Below.refl _ _) _ | exact Below.refl _ _⟩

set_option maxRecDepth 100000 in
set_option maxHeartbeats 2000000 in
theorem impl_lay_yes (g t s M s' n : Nat) (w : World) (hL : Lin3 w g t s M) (hs : s < 8192) (hM : M < 8192) (h : s &&& M = 0) (ht : t ≤ 1000) (hn : strF 14 (s + M) = (s', n)) :
    Calls Tryd.prog 34 #[.pointer (some ⟨g, 0, none⟩)] w fun e w' => e = .returned (.bool true) ∧ Lin3 w' g (t + n : Nat) s' M ∧ Frm (fun c => c = g) w w' := by
  have HL := Lib.hid hL
  obtain ⟨hg, c0, c1, c2, f0, f1⟩ := hL
  have hand := i64_and_nat s M (by omega) (by omega)
  rw [h] at hand
  have hor := i64_or_nat s M (by omega) (by omega)
  rw [or_add h (by omega) (by omega)] at hor
  obtain ⟨z, hz⟩ : ∃ z, s + M = z := ⟨_, rfl⟩
  rw [hz] at hor hn
  have hzs : z < 16384 := by omega
  have HN := Lib.hid hn
  have hn14 : n ≤ 14 := by have := (strF_lt 14 z).2; rw [hn] at this; exact this
  clear hz hn h
  go_enter Tryd.func34, Tryd.ntmps34
  go_wp2_with fail
  go_quiet (fail)
  go_wp2_with fail
  have HF := Lib.hid (Frm.drewN (Frm.refl (fun c => c = g) w) nq)
  have HL1 := Lib.hid (show Lin3 (w.drewN nq) g t s M from HL.out)
  clear c0 c1 c2 f0 f1 hg hand
  generalize w.drewN nq = W at *
  obtain ⟨hg, c0, c1, c2, f0, f1⟩ := HL1.out
  go_still_tail 11, (by kernel_rfl)
  change wpList _ _ _ _ _ W.drew
  have HF2 := Lib.hid (Frm.drew HF.out)
  have HL2 := Lib.hid (show Lin3 W.drew g t s M from HL1.out)
  clear c0 c1 c2 f0 f1 hg
  generalize W.drew = W2 at *
  obtain ⟨hg, c0, c1, c2, f0, f1⟩ := HL2.out
  have HF3 := Lib.hid (Frm.setCell (p := ⟨g, 1, none⟩) HF2.out rfl (.int .i64 z))
  have HL3 := Lib.hid (HL2.out.set1 z)
  go_wp2_with fail
  generalize W2.setCell ⟨g, 1, none⟩ (.int .i64 z) = W3 at *
  clear c0 c1 c2 f0 f1 hg
  go_loopg [] z (fun k wr => ∃ (u T r f : Nat), u = k ∧ u < 2 ^ f ∧ f ≤ 14 ∧ strF f u = (s', r) ∧ T + r = t + n ∧ r ≤ 14 ∧ Lin3 wr g T u M ∧ Frm (fun c => c = g) w wr)
  case atStart => exact ⟨z, t, n, 14, rfl, hzs, Nat.le_refl _, HN.out, rfl, by have := (strF_lt 14 z).2; rw [HN.out] at this; exact this, HL3.out, HF3.out⟩
  case round =>
    obtain ⟨u, T, r, f, rfl, hu, hf, hst, hT, hr, hlin, hfr⟩ := hrel
    obtain ⟨wo, rfl⟩ : ∃ wo : World, wo = wr := ⟨_, rfl⟩
    have HL := Lib.hid hlin
    have HFR := Lib.hid hfr
    obtain ⟨hg, c0, c1, c2, f0, f1⟩ := hlin
    have hul : u < 16384 := Nat.lt_of_lt_of_le hu (Nat.pow_le_pow_right (by omega) hf)
    have hand := i64_and_nat u 1 (by omega) (by omega)
    rw [Nat.and_one_is_mod] at hand
    by_cases hodd : u % 2 = 1
    · rw [hodd] at hand
      have hand : bits .and .i64 (u : Int) 1 = 1 := hand
      obtain ⟨f', rfl⟩ : ∃ f', f = f' + 1 := by
        cases f with
        | zero => rw [Nat.pow_zero] at hu; omega
        | succ f => exact ⟨f, rfl⟩
      rw [strF_odd hodd] at hst
      have e1 := congrArg Prod.fst hst
      have e2 := congrArg Prod.snd hst
      obtain ⟨q, hq⟩ : ∃ q, u / 2 = q := ⟨_, rfl⟩
      rw [hq] at e1 e2
      have HE := Lib.hid (And.intro e1 e2)
      have hqi : (u : Int) / 2 = (q : Int) := by rw [← hq]; rfl
      have hqu : q < u := by omega
      have hqf : q < 2 ^ f' := by rw [Nat.pow_succ] at hu; omega
      have hwT : IntKind.i64.wrap ((T : Int) + 1) = (T : Int) + 1 := i64w (by omega)
      have hL1 := HL.out.set1 (q : Int)
      have d0 := hL1.2.1
      have d1 := hL1.2.2.2.2.1
      have HL2 := Lib.hid (hL1.set0 ((T : Int) + 1))
      have HF2 := Lib.hid (Frm.setCell (p := ⟨g, 0, none⟩) (Frm.setCell (p := ⟨g, 1, none⟩) HFR.out rfl (.int .i64 (q : Int))) rfl (.int .i64 ((T : Int) + 1)))
      clear hfr hst e1 e2 hq hL1 hodd
      go_wp2_with fail
      go_roundg q
      case measure => exact hqu
      case rel => exact ⟨q, T + 1, r - 1, f', rfl, hqf, by omega, Prod.ext HE.out.1 (by have := HE.out.2; show (strF f' q).2 = r - 1; omega), by have := HE.out.2; omega, by omega, HL2.out, HF2.out⟩
    · have h0 : u % 2 = 0 := by omega
      rw [h0] at hand
      have hand : bits .and .i64 (u : Int) 1 = 0 := hand
      rw [strF_even h0] at hst
      have e1 : u = s' := congrArg Prod.fst hst
      have e2 : 0 = r := congrArg Prod.snd hst
      have hTe : T = t + n := by omega
      subst e1
      subst hTe
      clear hst hodd h0 e2 hT hr
      go_wp2_with fail
      go_ret
      exact ⟨rfl, HL.out, HFR.out⟩

end Go.Proofs.YtcolbkgceaboaaaDoor
