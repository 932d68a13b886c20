/-
  The time of a tempo, of both: a reduced fraction.
-/
import Derived.Test.YtinmhjeljkiefaaDoorTemW
import Derived.Test.YtinmhjeljkiefaaDoorCells
namespace Go.Proofs.YtinmhjeljkiefaaDoor
open Go.RowKit
set_option linter.unusedVariables false
set_option linter.unusedSimpArgs false

theorem temOk_parts {xs : List (Int × Int)} (h : temOk xs = true) : 1 ≤ xs.length ∧ xs.length ≤ 8 ∧ xs.all pOk = true := by
  unfold temOk at h
  rw [Bool.and_eq_true] at h
  have := inB_iff.1 h.1
  exact ⟨by omega, by omega, h.2⟩

set_option maxHeartbeats 400000 in
theorem impl_CountTempo_any (A : Option Addr) (cap : Nat) (xs : List (Int × Int)) (w : World) (hA : Pas w w.heap.size A xs) :
    Calls Tryd.prog 45 #[.slice A xs.length cap] w fun e w' => e = .returned (.int .i64 (if temOk xs then cntT xs else -1)) ∧ Below w.heap.size w w' := by
  have HTO := Lib.hid (impl_TempoOk_any A cap xs w hA)
  have HA := Lib.hid hA
  clear hA
  cases h : temOk xs
  · rw [h] at HTO
    go_enter Tryd.func45, Tryd.ntmps45
    go_wp2_with (go_at_call 60; refine HTO.out.mono ?_; rintro e w1 ⟨rfl, hb1⟩)
    go_ret
    exact ⟨rfl, hb1⟩
  · obtain ⟨h1, h8, hall⟩ := temOk_parts h
    rw [h] at HTO
    have HBO := Lib.hid (fun V hv => impl_beatsOf_any A cap xs V hv hall h8)
    clear h hall
    rw [if_pos rfl]
    generalize cntT xs = c at HBO ⊢
    go_enter Tryd.func45, Tryd.ntmps45
    go_wp2_with (first | (go_at_call 60; refine HTO.out.mono ?_; rintro e w1 ⟨rfl, hb1⟩) | (go_at_call 61; refine (HBO.out _ (HA.out.lift hb1)).mono ?_; rintro e w2 ⟨rfl, hb2⟩))
    go_ret
    exact ⟨rfl, hb1.trans (hb2.mono hb1.size)⟩

set_option maxHeartbeats 400000 in
theorem spec_CountTempo_any (A : Option Addr) (cap : Nat) (xs : List (Int × Int)) (w : World) (hA : Pas w w.heap.size A xs) :
    Calls Tryd.prog 42 #[.slice A xs.length cap] w fun e w' => e = .returned (.int .i64 (if temOk xs then cntT xs else -1)) ∧ Below w.heap.size w w' := by
  have HTO := Lib.hid (spec_TempoOk_any A cap xs w hA)
  have HA := Lib.hid hA
  clear hA
  cases h : temOk xs
  · rw [h] at HTO
    go_enter Tryd.func42, Tryd.ntmps42
    go_wp2_with (go_at_call 56; refine HTO.out.mono ?_; rintro e w1 ⟨rfl, hb1⟩)
    go_ret
    exact ⟨rfl, hb1⟩
  · obtain ⟨h1, h8, hall⟩ := temOk_parts h
    rw [h] at HTO
    have HBO := Lib.hid (fun V hv => spec_l20Count_any A cap xs V hv hall h8)
    clear h hall
    rw [if_pos rfl]
    generalize cntT xs = c at HBO ⊢
    go_enter Tryd.func42, Tryd.ntmps42
    go_wp2_with (first | (go_at_call 56; refine HTO.out.mono ?_; rintro e w1 ⟨rfl, hb1⟩) | (go_at_call 58; refine (HBO.out _ (HA.out.lift hb1)).mono ?_; rintro e w2 ⟨rfl, hb2⟩))
    go_ret
    exact ⟨rfl, hb1.trans (hb2.mono hb1.size)⟩

set_option maxRecDepth 100000 in
set_option maxHeartbeats 1000000 in
theorem impl_unitsAt_any (A : Option Addr) (cap : Nat) (xs : List (Int × Int)) (w : World) (hA : Pas w w.heap.size A xs) (hok : xs.all pOk = true) (hl : xs.length ≤ 8) :
    Calls Tryd.prog 62 #[.slice A xs.length cap, .int .i64 (cntT xs)] w fun e w' => e = .returned (.int .i64 (uniT xs)) ∧ Below w.heap.size w w' := by
  have HC := Lib.hid hA.2.2
  have HOK := Lib.hid hok
  clear hA hok
  go_enter Tryd.func62, Tryd.ntmps62
  go_wp2
  go_loopw [1, 5, 11] (fun t s i wr => ∃ k : Nat, k ≤ xs.length ∧ i = .int .i64 k ∧ s = .int .i64 (uniT (xs.take k)) ∧ t = .int .i64 (cntT (xs.drop k)) ∧ Below w.heap.size w wr) (fun _ _ i _ => xs.length - (intOf i).toNat)
  case atStart => exact ⟨0, Nat.zero_le _, rfl, rfl, rfl, Below.refl _ _⟩
  case round =>
    obtain ⟨k, hk, rfl, rfl, rfl, hbel⟩ := hrel
    obtain ⟨wo, rfl⟩ : ∃ wo : World, wo = wr := ⟨_, rfl⟩
    by_cases hlt : k < xs.length
    · obtain ⟨b0, off, rfl, hB, hc⟩ := HC.out (by omega)
      obtain ⟨hc0, hc1⟩ := hc k hlt
      rw [← hbel.cell (p := ⟨b0, off + k * 2, none⟩) hB] at hc0
      rw [← hbel.cell (p := ⟨b0, off + k * 2 + 1, none⟩) hB] at hc1
      have hsn := uniT_snoc xs k hlt
      have hdr := cntT_drop xs k hlt
      have hp := pOk_iff.1 (all_at HOK.out k hlt)
      have hb1 := uni_bound _ (all_take HOK.out k)
      have hb3 := cnt_bound _ (all_drop HOK.out (k + 1))
      rw [List.length_take] at hb1
      rw [List.length_drop] at hb3
      obtain ⟨q, hq⟩ : ∃ q, xs.getD k (0, 0) = q := ⟨_, rfl⟩
      rw [hq] at hc0 hc1 hsn hdr hp
      obtain ⟨x, y⟩ := q
      simp only at hsn hc0 hc1 hdr hp
      obtain ⟨⟨hx1, hx2⟩, ⟨hy1, hy2⟩, hz⟩ := hp
      have htd := tdiv_pos (y := y) (by omega)
      have hqb := quo_bound hy1 hy2
      have hy0 : (y = 0) = False := by rw [eq_iff_iff, iff_false]; omega
      have hyn : ¬ y = 0 := by omega
      obtain ⟨q, hq2⟩ : ∃ q, (3600 : Int) / y = q := ⟨_, rfl⟩
      rw [hq2] at htd hsn hqb
      have hmb := mul_bound hx1 hx2 hqb.1 hqb.2
      obtain ⟨s, hs⟩ : ∃ s, uniT (xs.take k) = s := ⟨_, rfl⟩
      rw [hs] at hsn hb1 ⊢
      obtain ⟨r, hr⟩ : ∃ r, cntT (xs.drop (k + 1)) = r := ⟨_, rfl⟩
      rw [hr] at hdr hb3
      obtain ⟨d, hd⟩ : ∃ d, cntT (xs.drop k) = d := ⟨_, rfl⟩
      rw [hd] at hdr ⊢
      have hmn : min d x = x := by omega
      have hdx : ¬ d < x := by omega
      have hwq : IntKind.i64.wrap q = q := i64w (by omega)
      have hwm : IntKind.i64.wrap (x * q) = x * q := i64w (by omega)
      have hws : IntKind.i64.wrap (s + x * q) = s + x * q := i64w (by omega)
      have hwd : IntKind.i64.wrap (d - x) = d - x := i64w (by omega)
      have HSN := Lib.hid hsn
      have HR := Lib.hid (show cntT (xs.drop (k + 1)) = d - x by rw [hr]; omega)
      clear hq hc hs hsn hb1 hb3 hz hq2 hr hd hdr
      have HB := Lib.hid (hbel.alloc hbel.size (.cells #[.int .i64 x, .int .i64 y] 59))
      clear hbel
      obtain ⟨d0, d1⟩ := box2 (Below.refl (wo.heap.size + 1) (wo.alloc (.cells #[.int .i64 x, .int .i64 y] 59)))
      go_wp2
      go_roundw
      case rel => exact ⟨k + 1, by omega, by go_num, by rw [HSN.out], by rw [HR.out], HB.out⟩
      case measure => simp [intOf]; omega
    · have HF := Lib.hid (show uniT (xs.take k) = uniT xs by rw [List.take_of_length_le (by omega)])
      go_wp2
      go_ret
      exact ⟨ret_int HF.out, hbel⟩

set_option maxRecDepth 100000 in
set_option maxHeartbeats 1000000 in
theorem impl_TimeOf_ok (A : Option Addr) (cap : Nat) (xs : List (Int × Int)) (w : World) (hA : Pas w w.heap.size A xs) (hok : temOk xs = true) :
    Calls Tryd.prog 44 #[.slice A xs.length cap, .int .i64 (cntT xs)] w fun e w' => e = .returned (.tuple #[.agg #[.int .i64 (topN (uniT xs).toNat), .int .i64 (botN (uniT xs).toNat)], .bool true]) ∧ Below w.heap.size w w' := by
  obtain ⟨h1, h8, hall⟩ := temOk_parts hok
  have HA := Lib.hid hA
  have HTO := Lib.hid (fun V h => impl_TempoOk_any A cap xs V h)
  rw [hok] at HTO
  have HBO := Lib.hid (fun V h => impl_beatsOf_any A cap xs V h hall h8)
  have HUA := Lib.hid (fun V h => impl_unitsAt_any A cap xs V h hall h8)
  have hcb := cnt_bound xs hall
  have hub := uni_bound xs hall
  obtain ⟨u, hu⟩ := Int.eq_ofNat_of_zero_le hub.1
  have hu' : (uniT xs).toNat = u := by rw [hu]; rfl
  rw [hu'] 
  rw [hu] at HUA hub
  obtain ⟨c, hc⟩ : ∃ c, cntT xs = c := ⟨_, rfl⟩
  rw [hc] at HBO HUA hcb ⊢
  have hin : inB c 0 c = true := inB_true ⟨by omega, by omega⟩
  have hw50 : IntKind.i64.wrap (50 * (u : Int)) = ((50 * u : Nat) : Int) := by rw [Int.natCast_mul]; exact i64w (by omega)
  have hgp := gcd3 u
  have hg0 : (((Nat.gcd (50 * u) 3 : Nat) : Int) = 0) = False := by rw [eq_iff_iff, iff_false]; omega
  have HT := Lib.hid (show (50 * u) / Nat.gcd (50 * u) 3 = topN u from rfl)
  have HBT := Lib.hid (show 3 / Nat.gcd (50 * u) 3 = botN u from rfl)
  have htb := top_bound u
  have hbb := bot_bound u
  have HGC := Lib.hid (fun V => impl_gcd_any (50 * u) 3 V (by omega) (by omega))
  have hmb : 50 * u ≤ 72000000 := by omega
  generalize topN u = t at HT htb ⊢
  generalize botN u = b at HBT hbb ⊢
  generalize Nat.gcd (50 * u) 3 = g at HT HBT HGC hg0 hgp
  generalize 50 * u = m at HT HGC hw50 htb hmb
  have hgn : ¬ (g : Int) = 0 := by omega
  have hgz : ¬ g = 0 := by omega
  have hd1 : (m : Int).tdiv (g : Int) = (t : Int) := by rw [← HT.out]; rfl
  have hd2 : (3 : Int).tdiv (g : Int) = (b : Int) := by rw [← HBT.out]; rfl
  have hd3 : (m : Int) / (g : Int) = (t : Int) := by rw [← HT.out]; rfl
  have hd4 : (3 : Int) / (g : Int) = (b : Int) := by rw [← HBT.out]; rfl
  have hwt : IntKind.i64.wrap (t : Int) = (t : Int) := i64w (by omega)
  have hwb : IntKind.i64.wrap (b : Int) = (b : Int) := i64w (by omega)
  clear hA hok hall hu hu' hc
  go_enter Tryd.func44, Tryd.ntmps44
  go_wp2_with fail
  refine (HTO.out _ (HA.out.lift (by repeat (first | exact Below.refl _ _ | assumption | (refine Below.alloc ?_ (by first | exact Nat.le_refl _ | (simp; done) | (simp; omega) | omega) _) | (refine Below.drew ?_) | (refine Below.setCell ?_ (by first | exact Nat.le_refl _ | (simp; done) | (simp; omega) | omega) _))))).mono ?_
  rintro e w1 ⟨rfl, hb1⟩
  have HB1 := Lib.hid (((Below.refl w.heap.size w).alloc (Nat.le_refl _) (.cells #[.int .i64 0, .int .i64 0] 54)).trans (hb1.mono (by simp)))
  have HC1 := Lib.hid ((Cells2.new w (.int .i64 0) (.int .i64 0) 54).below hb1 (by simp))
  clear hb1
  go_wp2_with fail
  refine (HBO.out _ (HA.out.lift HB1.out)).mono ?_
  rintro e w2 ⟨rfl, hb2⟩
  have HB2 := Lib.hid (HB1.out.trans (hb2.mono HB1.out.size))
  have HC2 := Lib.hid (HC1.out.below hb2 HC1.out.2.2.2.2)
  clear hb2
  go_wp2_with (go_at_call 53; refine (within_any _ _ _ _).mono ?_; rintro e w' ⟨rfl, rfl⟩)
  refine (HUA.out _ (HA.out.lift HB2.out)).mono ?_
  rintro e w3 ⟨rfl, hb3⟩
  have HB3 := Lib.hid (HB2.out.trans (hb3.mono HB2.out.size))
  have HC3 := Lib.hid (HC2.out.below hb3 HC2.out.2.2.2.2)
  clear hb3
  go_wp2_with fail
  refine (HGC.out _).mono ?_
  rintro e w4 ⟨rfl, hb4⟩
  have HB4 := Lib.hid (HB3.out.trans (hb4.mono HB3.out.size))
  have HC4 := Lib.hid (HC3.out.below hb4 HC3.out.2.2.2.2)
  obtain ⟨f0, f1, f2, f3, f4⟩ := HC4.out
  clear hb4
  go_wp2_with fail
  go_region_law (fail)
  all_goals
    go_wp2_with fail
    refine bodyPost_ret (v := .tuple #[.agg #[.int .i64 t, .int .i64 b], .bool true]) (by simp [results, Tryd.results44, go_sem, f0, f1]) rfl ⟨rfl, ?_⟩
    exact ((Below.drew1_ HB4.out).setCell (Nat.le_refl _) _).setCell (Nat.le_refl _) _

set_option maxRecDepth 100000 in
set_option maxHeartbeats 400000 in
theorem impl_TimeOf_no (A : Option Addr) (cap : Nat) (xs : List (Int × Int)) (c : Int) (w : World) (hA : Pas w w.heap.size A xs) (hok : temOk xs = false) :
    Calls Tryd.prog 44 #[.slice A xs.length cap, .int .i64 c] w fun e w' => e = .returned (.tuple #[.agg #[.int .i64 0, .int .i64 0], .bool false]) ∧ Below w.heap.size w w' := by
  have HA := Lib.hid hA
  have HTO := Lib.hid (fun V h => impl_TempoOk_any A cap xs V h)
  rw [hok] at HTO
  clear hA hok
  go_enter Tryd.func44, Tryd.ntmps44
  go_wp2_with fail
  refine (HTO.out _ (HA.out.lift (by repeat (first | exact Below.refl _ _ | assumption | (refine Below.alloc ?_ (by first | exact Nat.le_refl _ | (simp; done) | (simp; omega) | omega) _) | (refine Below.drew ?_) | (refine Below.setCell ?_ (by first | exact Nat.le_refl _ | (simp; done) | (simp; omega) | omega) _))))).mono ?_
  rintro e w1 ⟨rfl, hb1⟩
  have HB1 := Lib.hid (((Below.refl w.heap.size w).alloc (Nat.le_refl _) (.cells #[.int .i64 0, .int .i64 0] 54)).trans (hb1.mono (by simp)))
  have HC1 := Lib.hid ((Cells2.new w (.int .i64 0) (.int .i64 0) 54).below hb1 (by simp))
  obtain ⟨f0, f1, f2, f3, f4⟩ := HC1.out
  clear hb1
  go_wp2_with fail
  refine bodyPost_ret (v := .tuple #[.agg #[.int .i64 0, .int .i64 0], .bool false]) (by simp [results, Tryd.results44, go_sem, f0, f1]) rfl ⟨rfl, ?_⟩
  exact (HB1.out.setCell (Nat.le_refl _) _).setCell (Nat.le_refl _) _

set_option maxRecDepth 100000 in
set_option maxHeartbeats 400000 in
theorem spec_TimeOf_no (A : Option Addr) (cap : Nat) (xs : List (Int × Int)) (c : Int) (w : World) (hA : Pas w w.heap.size A xs) (hok : temOk xs = false) :
    Calls Tryd.prog 41 #[.slice A xs.length cap, .int .i64 c] w fun e w' => e = .returned (.tuple #[.agg #[.int .i64 0, .int .i64 0], .bool false]) ∧ Below w.heap.size w w' := by
  have HA := Lib.hid hA
  have HTO := Lib.hid (fun V h => spec_TempoOk_any A cap xs V h)
  rw [hok] at HTO
  clear hA hok
  go_enter Tryd.func41, Tryd.ntmps41
  go_wp2_with fail
  refine (HTO.out _ (HA.out.lift (by repeat (first | exact Below.refl _ _ | assumption | (refine Below.alloc ?_ (by first | exact Nat.le_refl _ | (simp; done) | (simp; omega) | omega) _) | (refine Below.drew ?_) | (refine Below.setCell ?_ (by first | exact Nat.le_refl _ | (simp; done) | (simp; omega) | omega) _))))).mono ?_
  rintro e w1 ⟨rfl, hb1⟩
  have HB1 := Lib.hid (((Below.refl w.heap.size w).alloc (Nat.le_refl _) (.cells #[.int .i64 0, .int .i64 0] 54)).trans (hb1.mono (by simp)))
  have HC1 := Lib.hid ((Cells2.new w (.int .i64 0) (.int .i64 0) 54).below hb1 (by simp))
  obtain ⟨f0, f1, f2, f3, f4⟩ := HC1.out
  clear hb1
  go_wp2_with fail
  refine bodyPost_ret (v := .tuple #[.agg #[.int .i64 0, .int .i64 0], .bool false]) (by simp [results, Tryd.results41, go_sem, f0, f1]) rfl ⟨rfl, ?_⟩
  exact (HB1.out.setCell (Nat.le_refl _) _).setCell (Nat.le_refl _) _

set_option maxRecDepth 100000 in
set_option maxHeartbeats 1000000 in
theorem spec_l20Add_any (t b x r t' b' : Nat) (w : World) (ht : t ≤ 72000000) (hb : 1 ≤ b ∧ b ≤ 3) (hx : x ≤ 1000) (hr : 1 ≤ r ∧ r ≤ 400)
    (h1 : (t * r + 60000 * x * b) / Nat.gcd (t * r + 60000 * x * b) (b * r) = t') (h2 : b * r / Nat.gcd (t * r + 60000 * x * b) (b * r) = b') (hb' : b' ≤ 3) (ht' : t' ≤ 72000000) :
    Calls Tryd.prog 82 #[.agg #[.int .i64 t, .int .i64 b], .int .i64 (60000 * (x : Int)), .int .i64 r] w fun e w' => e = .returned (.agg #[.int .i64 t', .int .i64 b']) ∧ Below w.heap.size w w' := by
  have m1 : t * r ≤ 72000000 * 400 := Nat.mul_le_mul ht hr.2
  have m2 : 60000 * x * b ≤ 60000000 * 3 := Nat.mul_le_mul (by omega) hb.2
  have m3 : b * r ≤ 3 * 400 := Nat.mul_le_mul hb.2 hr.2
  have m4 : 1 * 1 ≤ b * r := Nat.mul_le_mul hb.1 hr.1
  have e1 : (t : Int) * (r : Int) = ((t * r : Nat) : Int) := (Int.natCast_mul _ _).symm
  have e2 : 60000 * (x : Int) * (b : Int) = ((60000 * x * b : Nat) : Int) := by rw [Int.natCast_mul, Int.natCast_mul]; rfl
  have e3 : (b : Int) * (r : Int) = ((b * r : Nat) : Int) := (Int.natCast_mul _ _).symm
  have HGC := Lib.hid (fun V => spec_l02Gcd_any (t * r + 60000 * x * b) (b * r) V (by omega) (by omega))
  generalize t * r = p1 at *
  generalize 60000 * x * b = p2 at *
  generalize b * r = p3 at *
  have hw1 : IntKind.i64.wrap (p1 : Int) = p1 := i64w (by omega)
  have hw2 : IntKind.i64.wrap (p2 : Int) = p2 := i64w (by omega)
  have hw3 : IntKind.i64.wrap (p3 : Int) = p3 := i64w (by omega)
  have hw4 : IntKind.i64.wrap ((p1 : Int) + (p2 : Int)) = ((p1 + p2 : Nat) : Int) := by rw [Int.natCast_add]; exact i64w (by omega)
  obtain ⟨s, hs⟩ : ∃ s, p1 + p2 = s := ⟨_, rfl⟩
  rw [hs] at HGC hw4 h1 h2
  have hneg : IntKind.i64.wrap (-(s : Int)) = -(s : Int) := i64w (by omega)
  have hmx : max (s : Int) (-(s : Int)) = s := by omega
  have hgp : 0 < Nat.gcd s p3 := Nat.gcd_pos_of_pos_right _ (by omega)
  generalize Nat.gcd s p3 = g at HGC h1 h2 hgp
  have hg0 : ((g : Int) = 0) = False := by rw [eq_iff_iff, iff_false]; omega
  have hgn : ¬ (g : Int) = 0 := by omega
  have hgz : ¬ g = 0 := by omega
  have hd1 : (s : Int).tdiv (g : Int) = (t' : Int) := by rw [← h1]; rfl
  have hd2 : (p3 : Int).tdiv (g : Int) = (b' : Int) := by rw [← h2]; rfl
  have hd3 : (s : Int) / (g : Int) = (t' : Int) := by rw [← h1]; rfl
  have hd4 : (p3 : Int) / (g : Int) = (b' : Int) := by rw [← h2]; rfl
  have hwt : IntKind.i64.wrap (t' : Int) = (t' : Int) := i64w (by omega)
  have hwb : IntKind.i64.wrap (b' : Int) = (b' : Int) := i64w (by omega)
  clear h1 h2 hs
  have HC := Lib.hid (Cells2.new (w.alloc (.cells #[.int .i64 t, .int .i64 b] 54)) (.int .i64 0) (.int .i64 0) 54)
  obtain ⟨c0, c1, _, _, _⟩ := (Cells2.new w (.int .i64 t) (.int .i64 b) 54).alloc (.cells #[.int .i64 0, .int .i64 0] 54)
  obtain ⟨f0, f1, f2, f3, f4⟩ := HC.out
  simp only [World.size_alloc] at f0 f1 f2 f3
  go_enter Tryd.func82, Tryd.ntmps82
  go_wp2_with fail
  refine (HGC.out _).mono ?_
  rintro e w4 ⟨rfl, rfl⟩
  go_wp2_with fail
  go_region_law (fail)
  all_goals
    go_wp2_with fail
    refine bodyPost_ret (v := .agg #[.int .i64 t', .int .i64 b']) (by simp [results, Tryd.results82, go_sem, f0, f1]) rfl ⟨rfl, ?_⟩
    exact Below.drew1_ (((Below.refl w.heap.size w).alloc (Nat.le_refl _) _).alloc (by first | exact Nat.le_refl _ | (simp; done) | (simp; omega) | omega) _)

set_option maxRecDepth 100000 in
set_option maxHeartbeats 1000000 in
theorem spec_RatioOk_yes (t b : Nat) (w : World) (ht : t ≤ 72000000) (hb : 1 ≤ b ∧ b ≤ 3) (hg : Nat.gcd t b = 1) :
    Calls Tryd.prog 83 #[.agg #[.int .i64 t, .int .i64 b]] w fun e w' => e = .returned (.bool true) ∧ Below w.heap.size w w' := by
  have h1 : inB (t : Int) (-1000000000000) 1000000000000 = true := inB_true ⟨by omega, by omega⟩
  have h2 : inB (b : Int) 1 1000000000000 = true := inB_true ⟨by omega, by omega⟩
  have hneg : IntKind.i64.wrap (-(t : Int)) = -(t : Int) := i64w (by omega)
  have hmx : max (t : Int) (-(t : Int)) = t := by omega
  have HGC := Lib.hid (fun V => spec_l02Gcd_any t b V (by omega) (by omega))
  rw [hg] at HGC
  obtain ⟨c0, c1, _, _, _⟩ := (Cells2.new w (.int .i64 t) (.int .i64 b) 54)
  go_enter Tryd.func83, Tryd.ntmps83
  go_wp2_with (first | (go_at_call 57; refine (l01In_any _ _ _ _).mono ?_; rintro e w' ⟨rfl, rfl⟩) | (go_at_call 98; refine (HGC.out _).mono ?_; rintro e w4 ⟨rfl, rfl⟩))
  go_ret
  exact ⟨rfl, (Below.refl _ _).alloc (Nat.le_refl _) _⟩

set_option maxRecDepth 100000 in
set_option maxHeartbeats 2000000 in
theorem spec_l20Time_any (A : Option Addr) (cap : Nat) (xs : List (Int × Int)) (w : World) (hA : Pas w w.heap.size A xs) (hok : xs.all pOk = true) (hl : xs.length ≤ 8) :
    Calls Tryd.prog 59 #[.slice A xs.length cap, .int .i64 (cntT xs)] w fun e w' => e = .returned (.tuple #[.agg #[.int .i64 (topN (uniT xs).toNat), .int .i64 (botN (uniT xs).toNat)], .bool true]) ∧ Below w.heap.size w w' := by
  have HC := Lib.hid hA.2.2
  have HOK := Lib.hid hok
  have HN1 := Lib.hid ((Cells2.new w (.int .i64 0) (.int .i64 0) 54).alloc (.cells #[.int .i64 0, .int .i64 1] 54))
  have HN2 := Lib.hid (Cells2.new (w.alloc (.cells #[.int .i64 0, .int .i64 0] 54)) (.int .i64 0) (.int .i64 1) 54)
  clear hA hok
  go_enter Tryd.func59, Tryd.ntmps59
  go_wp2_with fail
  go_loopw [1, 13] (fun t i wr => ∃ k : Nat, k ≤ xs.length ∧ i = .int .i64 k ∧ t = .int .i64 (cntT (xs.drop k)) ∧ Below w.heap.size w wr ∧ Cells2 wr w.heap.size (.int .i64 0) (.int .i64 0) ∧ Cells2 wr (w.heap.size + 1) (.int .i64 (topN (uniT (xs.take k)).toNat)) (.int .i64 (botN (uniT (xs.take k)).toNat))) (fun _ i _ => xs.length - (intOf i).toNat)
  case atStart => exact ⟨0, Nat.zero_le _, rfl, rfl, ((Below.refl _ _).alloc (Nat.le_refl _) _).alloc (by first | exact Nat.le_refl _ | (simp; done) | (simp; omega) | omega) _, HN1.out, by have h := HN2.out; simp only [World.size_alloc] at h; have e0 : topN (uniT (xs.take 0)).toNat = 0 ∧ botN (uniT (xs.take 0)).toNat = 1 := by { rw [List.take_zero]; exact ⟨by decide, by decide⟩ }; rw [e0.1, e0.2]; exact h⟩
  case round =>
    obtain ⟨k, hk, rfl, rfl, hbel, hq1, hq2⟩ := hrel
    obtain ⟨wo, rfl⟩ : ∃ wo : World, wo = wr := ⟨_, rfl⟩
    by_cases hlt : k < xs.length
    · obtain ⟨b0, off, rfl, hB, hc⟩ := HC.out (by omega)
      obtain ⟨hc0, hc1⟩ := hc k hlt
      rw [← hbel.cell (p := ⟨b0, off + k * 2, none⟩) hB] at hc0
      rw [← hbel.cell (p := ⟨b0, off + k * 2 + 1, none⟩) hB] at hc1
      have hsn := uniT_snoc xs k hlt
      have hdr := cntT_drop xs k hlt
      have hp := pOk_iff.1 (all_at HOK.out k hlt)
      have hb1 := uni_bound _ (all_take HOK.out k)
      have hb2 := uni_bound _ (all_take HOK.out (k + 1))
      have hb3 := cnt_bound _ (all_drop HOK.out (k + 1))
      rw [List.length_take] at hb1 hb2
      rw [List.length_drop] at hb3
      obtain ⟨q, hq⟩ : ∃ q, xs.getD k (0, 0) = q := ⟨_, rfl⟩
      rw [hq] at hc0 hc1 hsn hdr hp
      obtain ⟨x, y⟩ := q
      simp only at hsn hc0 hc1 hdr hp
      obtain ⟨⟨hx1, hx2⟩, ⟨hy1, hy2⟩, hz⟩ := hp
      obtain ⟨x, rfl⟩ := Int.eq_ofNat_of_zero_le (show 0 ≤ x by omega)
      obtain ⟨y, rfl⟩ := Int.eq_ofNat_of_zero_le (show 0 ≤ y by omega)
      obtain ⟨u, hu⟩ := Int.eq_ofNat_of_zero_le hb1.1
      obtain ⟨v, hv⟩ := Int.eq_ofNat_of_zero_le hb2.1
      have h36 : y * (3600 / y) = 3600 := by
        have : (y : Int) * ((3600 : Int) / y) = 3600 := Int.mul_ediv_cancel' (Int.dvd_of_emod_eq_zero hz)
        exact_mod_cast this
      have hvu : v = u + x * (3600 / y) := by
        rw [hu, hv] at hsn
        exact_mod_cast hsn
      have hst := add_step u x y (3600 / y) (by omega) h36
      rw [← hvu] at hst
      have hut : (uniT (xs.take k)).toNat = u := by rw [hu]; rfl
      have hvt : (uniT (xs.take (k + 1))).toNat = v := by rw [hv]; rfl
      have hbu := bot_bound u
      have hbv := bot_bound v
      have htu := top_bound u
      have htv := top_bound v
      have htg := top_bot_gcd v
      rw [hut] at hq2
      have HVT := Lib.hid hvt
      obtain ⟨r, hr⟩ : ∃ r, cntT (xs.drop (k + 1)) = r := ⟨_, rfl⟩
      rw [hr] at hdr hb3
      obtain ⟨d, hd⟩ : ∃ d, cntT (xs.drop k) = d := ⟨_, rfl⟩
      rw [hd] at hdr ⊢
      have hmn : min d (x : Int) = x := by omega
      have hdx : ¬ d < (x : Int) := by omega
      have hwd : IntKind.i64.wrap (d - (x : Int)) = d - x := i64w (by omega)
      have hwx : IntKind.i64.wrap (60000 * (x : Int)) = 60000 * (x : Int) := i64w (by omega)
      have HR := Lib.hid (show cntT (xs.drop (k + 1)) = d - x by rw [hr]; omega)
      have HAD := Lib.hid (fun V => spec_l20Add_any (topN u) (botN u) x y (topN v) (botN v) V (by omega) hbu (by omega) ⟨by omega, by omega⟩ hst.1 hst.2 (by omega) (by omega))
      have HRO := Lib.hid (fun V => spec_RatioOk_yes (topN v) (botN v) V (by omega) hbv htg)
      generalize topN u = t0 at hq2 HAD
      generalize botN u = q0 at hq2 HAD
      have HTV := Lib.hid (show (topN v, botN v) = (topN (uniT (xs.take (k + 1))).toNat, botN (uniT (xs.take (k + 1))).toNat) by rw [HVT.out])
      generalize topN v = t1 at HAD HRO HTV
      generalize botN v = q1 at HAD HRO HTV
      clear hq hc hb1 hb2 hb3 hz hr hd hdr hut hvt hu hv hst htg hbu hbv htu htv hsn hvu h36
      have HB := Lib.hid (hbel.alloc hbel.size (.cells #[.int .i64 x, .int .i64 y] 59))
      have hg1 := hq1.2.2.2.2
      have hg2 := hq2.2.2.2.2
      have HQ1 := Lib.hid (hq1.alloc (.cells #[.int .i64 x, .int .i64 y] 59))
      have HQ2 := Lib.hid (hq2.alloc (.cells #[.int .i64 x, .int .i64 y] 59))
      clear hbel hq1 hq2
      obtain ⟨d0, d1⟩ := box2 (Below.refl (wo.heap.size + 1) (wo.alloc (.cells #[.int .i64 x, .int .i64 y] 59)))
      obtain ⟨p0, p1, _, _, _⟩ := HQ2.out
      go_wp2_with fail
      refine (HAD.out _).mono ?_
      rintro e w1 ⟨rfl, hb1⟩
      have HB1 := Lib.hid (HB.out.trans (hb1.mono HB.out.size))
      have HQ11 := Lib.hid (HQ1.out.below hb1 HQ1.out.2.2.2.2)
      have HQ21 := Lib.hid (HQ2.out.below hb1 HQ2.out.2.2.2.2)
      obtain ⟨s0, s1, s2, s3, s4⟩ := HQ21.out
      have HQ22 := Lib.hid ((HQ21.out.set0 (.int .i64 t1)).set1 (.int .i64 q1))
      have HQ12 := Lib.hid ((HQ11.out.far (p := ⟨w.heap.size + 1, 0, none⟩) (by simp) (.int .i64 t1)).far (p := ⟨w.heap.size + 1, 1, none⟩) (by simp) (.int .i64 q1))
      have HB2 := Lib.hid ((HB1.out.setCell (p := ⟨w.heap.size + 1, 0, none⟩) (by simp) (.int .i64 t1)).setCell (p := ⟨w.heap.size + 1, 1, none⟩) (by simp) (.int .i64 q1))
      clear hb1 p0 p1
      go_wp2_with fail
      refine (HRO.out _).mono ?_
      rintro e w2 ⟨rfl, hb2⟩
      have HB3 := Lib.hid (HB2.out.trans (hb2.mono HB2.out.size))
      have HQ13 := Lib.hid (HQ12.out.below hb2 HQ12.out.2.2.2.2)
      have HQ23 := Lib.hid (HQ22.out.below hb2 HQ22.out.2.2.2.2)
      clear hb2
      go_wp2_with fail
      go_roundw
      case rel =>
        have hh := HTV.out
        injection hh with h1 h2
        exact ⟨k + 1, by omega, by go_num, by rw [HR.out], HB3.out, HQ13.out, by rw [← h1, ← h2]; exact HQ23.out⟩
      case measure => simp [intOf]; omega
    · have HF := Lib.hid (show xs.take k = xs from List.take_of_length_le (by omega))
      rw [HF.out] at hq2
      obtain ⟨t, ht⟩ : ∃ t, topN (uniT xs).toNat = t := ⟨_, rfl⟩
      obtain ⟨b, hb⟩ : ∃ b, botN (uniT xs).toNat = b := ⟨_, rfl⟩
      rw [ht, hb] at hq2
      have HTB := Lib.hid (And.intro ht hb)
      clear ht hb
      obtain ⟨f0, f1, f2, f3, f4⟩ := hq1
      obtain ⟨p0, p1, _, _, _⟩ := hq2
      go_wp2_with fail
      refine bodyPost_ret (v := .tuple #[.agg #[.int .i64 t, .int .i64 b], .bool true]) (by simp [results, Tryd.results59, go_sem, f0, f1]) rfl ⟨by rw [HTB.out.1, HTB.out.2], ?_⟩
      exact (hbel.setCell (Nat.le_refl _) _).setCell (Nat.le_refl _) _

set_option maxRecDepth 100000 in
set_option maxHeartbeats 1000000 in
theorem spec_TimeOf_ok (A : Option Addr) (cap : Nat) (xs : List (Int × Int)) (w : World) (hA : Pas w w.heap.size A xs) (hok : temOk xs = true) :
    Calls Tryd.prog 41 #[.slice A xs.length cap, .int .i64 (cntT xs)] w fun e w' => e = .returned (.tuple #[.agg #[.int .i64 (topN (uniT xs).toNat), .int .i64 (botN (uniT xs).toNat)], .bool true]) ∧ Below w.heap.size w w' := by
  obtain ⟨h1, h8, hall⟩ := temOk_parts hok
  have HA := Lib.hid hA
  have HTO := Lib.hid (fun V h => spec_TempoOk_any A cap xs V h)
  rw [hok] at HTO
  have HBO := Lib.hid (fun V h => spec_l20Count_any A cap xs V h hall h8)
  have HUA := Lib.hid (fun V h => spec_l20Time_any A cap xs V h hall h8)
  have hcb := cnt_bound xs hall
  obtain ⟨c, hc⟩ : ∃ c, cntT xs = c := ⟨_, rfl⟩
  rw [hc] at HBO HUA hcb ⊢
  have hin : inB c 0 c = true := inB_true ⟨by omega, by omega⟩
  generalize topN (uniT xs).toNat = t at HUA ⊢
  generalize botN (uniT xs).toNat = b at HUA ⊢
  clear hA hok hall hc
  go_enter Tryd.func41, Tryd.ntmps41
  go_wp2_with fail
  refine (HTO.out _ (HA.out.lift (by repeat (first | exact Below.refl _ _ | assumption | (refine Below.alloc ?_ (by first | exact Nat.le_refl _ | (simp; done) | (simp; omega) | omega) _) | (refine Below.drew ?_) | (refine Below.setCell ?_ (by first | exact Nat.le_refl _ | (simp; done) | (simp; omega) | omega) _))))).mono ?_
  rintro e w1 ⟨rfl, hb1⟩
  have HB1 := Lib.hid (((Below.refl w.heap.size w).alloc (Nat.le_refl _) (.cells #[.int .i64 0, .int .i64 0] 54)).trans (hb1.mono (by simp)))
  have HC1 := Lib.hid ((Cells2.new w (.int .i64 0) (.int .i64 0) 54).below hb1 (by simp))
  clear hb1
  go_wp2_with fail
  refine (HBO.out _ (HA.out.lift HB1.out)).mono ?_
  rintro e w2 ⟨rfl, hb2⟩
  have HB2 := Lib.hid (HB1.out.trans (hb2.mono HB1.out.size))
  have HC2 := Lib.hid (HC1.out.below hb2 HC1.out.2.2.2.2)
  clear hb2
  go_wp2_with (go_at_call 57; refine (l01In_any _ _ _ _).mono ?_; rintro e w' ⟨rfl, rfl⟩)
  refine (HUA.out _ (HA.out.lift HB2.out)).mono ?_
  rintro e w3 ⟨rfl, hb3⟩
  have HB3 := Lib.hid (HB2.out.trans (hb3.mono HB2.out.size))
  have HC3 := Lib.hid (HC2.out.below hb3 HC2.out.2.2.2.2)
  clear hb3
  obtain ⟨f0, f1, f2, f3, f4⟩ := HC3.out
  go_wp2_with fail
  refine bodyPost_ret (v := .tuple #[.agg #[.int .i64 t, .int .i64 b], .bool true]) (by simp [results, Tryd.results41, go_sem, f0, f1]) rfl ⟨rfl, ?_⟩
  exact (HB3.out.setCell (Nat.le_refl _) _).setCell (Nat.le_refl _) _

end Go.Proofs.YtinmhjeljkiefaaDoor
