/-
  Several texts of this proof in one: Few, FewS, PopT, Pop, ComS, PopC, Code, Com, Near, NearS, Frh, Strs, Join, FmtS, FmtI, EvL, PowL.
-/
import Derived.Test.YtabjklhnghdfoaaGreatDoorEvn
import Derived.Test.YtabjklhnghdfoaaGreatDoorDst
import Derived.Test.YtabjklhnghdfoaaGreatDoorTurn
import Derived.Test.YtabjklhnghdfoaaGreatDoorRv
import Derived.Test.YtabjklhnghdfoaaGreatDoorSrok
import Derived.Test.YtabjklhnghdfoaaGreatDoorBase
import Derived.Test.YtabjklhnghdfoaaGreatDoorFullC
import Derived.Test.YtabjklhnghdfoaaGreatDoorSpcR
import Derived.Test.YtabjklhnghdfoaaGreatDoorWin
import Derived.Test.YtabjklhnghdfoaaGreatDoorCells
import Derived.Test.YtabjklhnghdfoaaGreatDoorMovT
import Derived.Test.YtabjklhnghdfoaaGreatDoorEvnT
import Derived.Test.YtabjklhnghdfoaaGreatDoorFulT
import Derived.Test.YtabjklhnghdfoaaGreatDoorRlaw
import Derived.Test.YtabjklhnghdfoaaGreatDoorFrm
import Derived.Test.YtabjklhnghdfoaaGreatDoorText
import Derived.Test.YtabjklhnghdfoaaGreatDoorStr
import Derived.Test.YtabjklhnghdfoaaGreatDoorOwn
import Derived.Laws.AppendOwnNone
import Derived.Test.YtabjklhnghdfoaaGreatDoorShJ
import Derived.Lib.Join
import Derived.Test.YtabjklhnghdfoaaGreatDoorShF
import Derived.Test.YtabjklhnghdfoaaGreatDoorTabU
import Derived.Deep.RegionLaw
import Derived.Lib.SmallJoins
import Derived.Lib.AppendIntMem
import Derived.Test.YtabjklhnghdfoaaGreatDoorIsEv
import Derived.Lib.LaidTab
import Derived.Stop.LaidErr
import Derived.MakeChecks
namespace Go.Proofs.YtabjklhnghdfoaaGreatDoor
open Go.RowKit
set_option linter.unusedVariables false
set_option linter.unusedSimpArgs false

theorem RW.rvOf {w : World} {base : Nat} {A : Option Addr} {xs : List Int} (h : RW w base A xs) (q : Nat) (hq : q < w.heap.size) (hb : q ≤ base) (n : Int) (c : Nat) : ∃ b, (RV.mk n xs A c b).Lies w q ∧ (b = q ∨ base ≤ b) := by
  by_cases hn : 0 < xs.length
  · obtain ⟨b, e, hge, ht⟩ := h.2 hn
    exact ⟨b, ⟨h.1, by show q ≤ b; omega, ht.1, fun _ => ⟨e, ht.tabV⟩⟩, .inr hge⟩
  · exact ⟨q, ⟨h.1, Nat.le_refl _, hq, fun h' => absurd h' hn⟩, .inl rfl⟩
theorem RV.Lies.rw' {r : RV} {w : World} {base : Nat} (h : r.Lies w base) : RW w base r.A r.xs :=
  ⟨h.1, fun hn => ⟨r.b, (h.2.2.2 hn).1, h.2.1, (h.2.2.2 hn).2⟩⟩
theorem Cells2.frmY {w w' : World} {g : Nat} {u v : Value} {S : Nat → Prop} (h : Cells2 w g u v) (hf : Frm S w w') (hS : ¬ S g) : Cells2 w' g u v :=
  ⟨(hf.cell h.2.2.2.2 hS).trans h.1, (hf.cell h.2.2.2.2 hS).trans h.2.1, (hf.frozen h.2.2.2.2 hS).trans h.2.2.1, (hf.frozen h.2.2.2.2 hS).trans h.2.2.2.1, Nat.lt_of_lt_of_le h.2.2.2.2 hf.size⟩
theorem rh_fitsE {N : Nat} {bs : List Int} (hok : RhOk N bs) : ∀ x ∈ bs, Fits x := fun x hx => by
  have h1 := rhok_range hok x hx
  have h2 := hok.2.1
  unfold Fits; omega

/-- What a call hands back that hands a rhythm and a number. -/
def RetRhI (w : World) (n : Int) (xs : List Int) (d : Int) (e : Ending) (w' : World) : Prop := ∃ A cap, e = .returned (.tuple #[.agg #[.int .i64 n, .slice A xs.length cap], .int .i64 d]) ∧ RW w' w.heap.size A xs ∧ Below w.heap.size w w'

def fewF (N : Nat) (a : List Int) (k : Nat) : Int := farV N a (rotL N (evB N a.length) (k : Int))

set_option maxRecDepth 100000 in
set_option maxHeartbeats 4000000 in
theorem impl_FewestMoves_any (N : Nat) (A : Option Addr) (ca : Nat) (a : List Int) (w : World) (hA : Ints w w.heap.size A a) (ha : RhOk N a) :
    Calls Tryz.prog 20 #[.agg #[.int .i64 N, .slice A a.length ca]] w (RetRhI w N (fewX N a) (farV N a (fewX N a))) := by
  have hn1 : 1 ≤ N := by have := ha.1; omega
  have hn2 : N ≤ 24 := by have := ha.2.1; omega
  have hal : a.length ≤ N := rhok_len ha
  have hfn : Fits (N : Int) := by unfold Fits; omega
  have heok := evB_ok hn1 hn2 hal
  have hel := evB_len N a.length
  have hr : rhB N a = true := rhB_iff.2 ha
  have HRO := Lib.hid (fun V h => hr ▸ impl_RhythmOk_any N A ca a V hfn h)
  have HEV := Lib.hid (fun V => impl_EvenRhythm_any N a.length V hn1 hn2 hal)
  have HXL := Lib.hid (fun (k : Nat) => (show RhOk N (rotL N (evB N a.length) (k : Int)) ∧ (rotL N (evB N a.length) (k : Int)).length = a.length from ⟨(rotL_ok heok k).1, (rotL_ok heok k).2.trans hel⟩))
  have HX0 := Lib.hid (show rotL N (evB N a.length) ((0 : Nat) : Int) = evB N a.length from (rotL_same heok 0).2 (fun t ht => by rw [show (t : Int) - 0 = t by omega, Int.emod_eq_of_lt (by omega) (by omega)]))
  have HRT := Lib.hid (fun (k : Nat) (hk : k ≤ 1000) (A1 : Option Addr) (c1 : Nat) V h => impl_rotated_any N A1 c1 (evB N a.length) k V h heok hk)
  have HDI := Lib.hid (fun (k : Nat) (B : Option Addr) (cb : Nat) V h1 h2 => show Calls Tryz.prog 37 #[.agg #[.int .i64 N, .slice A a.length ca], .agg #[.int .i64 N, .slice B (rotL N (evB N a.length) (k : Int)).length cb]] V (fun e w' => e = .returned (.int .i64 (fewF N a k)) ∧ Below V.heap.size V w') from impl_distance_any N A B ca cb a (rotL N (evB N a.length) (k : Int)) V h1 h2 ha (rotL_ok heok k).1 ((rotL_ok heok k).2.trans hel).symm)
  have HK := Lib.hid (show bestK (fewF N a) N = fewK N a from rfl)
  have HKM := Lib.hid (fun m (hm : 1 ≤ m) => bestK_lt (fewF N a) m hm)
  have HEF := Lib.hid (rh_fitsE heok)
  have HEL := Lib.hid hel
  have HA := Lib.hid hA
  have hal0 := (Below.refl w.heap.size w).alloc (Nat.le_refl _) (.cells #[.int .i64 N, .slice A a.length ca] 27)
  have hal1 := hal0.alloc hal0.size (.cells #[.int .i64 0, .slice none 0 0] 27)
  have HC0 := Lib.hid ((Cells2.new w (.int .i64 N) (.slice A a.length ca) 27).alloc (.cells #[.int .i64 0, .slice none 0 0] 27))
  have HZ0 := Lib.hid (Cells2.new_at (w.alloc (.cells #[.int .i64 N, .slice A a.length ca] 27)) (.int .i64 0) (.slice none 0 0) 27 (w.heap.size + 1) (by simp))
  have HB0 := Lib.hid hal1
  have HI0 := Lib.hid (hA.lift hal1)
  clear hA ha heok hel hr hal0 hal1 hfn
  obtain ⟨c0, c1, _, _, _⟩ := HC0.out
  go_enter Tryz.func20, Tryz.ntmps20
  go_wp2_with fail
  refine (HRO.out _ HI0.out).mono ?_
  rintro e w1 ⟨rfl, hb⟩
  have HB1 := Lib.hid (HB0.out.trans (hb.mono HB0.out.size))
  have HC1 := Lib.hid (HC0.out.below hb HC0.out.2.2.2.2)
  have HZ1 := Lib.hid (HZ0.out.below hb HZ0.out.2.2.2.2)
  clear hb c0 c1
  obtain ⟨c0, c1, _, _, _⟩ := HC1.out
  go_wp2_with fail
  refine (HEV.out _).mono ?_
  rintro e w2 ⟨Ae, ce, rfl, hrw, hb⟩
  obtain ⟨q, hq⟩ : ∃ q, w.heap.size = q := ⟨_, rfl⟩
  have HQ := Lib.hid hq
  rw [hq] at HB1 HC1 HZ1 HA ⊢
  clear hq
  have hq1 : q + 2 ≤ w1.heap.size := by have := HZ1.out.2.2.2.2; omega
  have hz2 := hb.size
  obtain ⟨be, hLe, hbe⟩ := hrw.rvOf q (by omega) (by omega) (N : Int) ce
  have hbl : be < w2.heap.size := hLe.2.2.1
  have HB2 := Lib.hid (HB1.out.trans (hb.mono (by omega)))
  have HC2 := Lib.hid (HC1.out.below hb HC1.out.2.2.2.2)
  have HZ2 := Lib.hid (HZ1.out.below hb HZ1.out.2.2.2.2)
  have hal2 := (Below.refl w2.heap.size w2).alloc (Nat.le_refl _) (.cells #[.int .i64 N, .slice Ae (evB N a.length).length ce] 27)
  have hal3 := hal2.alloc hal2.size (.cells #[.int .i64 N, .slice Ae (evB N a.length).length ce] 27)
  have HE2 := Lib.hid (Cells2.new w2 (.int .i64 N) (.slice Ae (evB N a.length).length ce) 27)
  have HE3 := Lib.hid (HE2.out.alloc (.cells #[.int .i64 N, .slice Ae (evB N a.length).length ce] 27))
  have HG3 := Lib.hid (Cells2.new_at (w2.alloc (.cells #[.int .i64 N, .slice Ae (evB N a.length).length ce] 27)) (.int .i64 N) (.slice Ae (evB N a.length).length ce) 27 (w2.heap.size + 1) (by simp))
  have HL3 := Lib.hid (hLe.frm (Frm.pure hal3 (fun _ => False)) (fun h => h))
  have HC3 := Lib.hid (HC2.out.below hal3 HC2.out.2.2.2.2)
  have HZ3 := Lib.hid (HZ2.out.below hal3 HZ2.out.2.2.2.2)
  have HB3 := Lib.hid (HB2.out.trans (hal3.mono (by omega)))
  clear hb hrw hLe hal2 hal3 c0 c1
  obtain ⟨e0, e1, _, _, _⟩ := HE2.out
  obtain ⟨c0, c1, _, _, _⟩ := HC3.out
  go_wp2_with fail
  generalize (w2.alloc (.cells #[.int .i64 N, .slice Ae (evB N a.length).length ce] 27)).alloc (.cells #[.int .i64 N, .slice Ae (evB N a.length).length ce] 27) = w3 at *
  obtain ⟨ge, hge⟩ : ∃ g, w2.heap.size = g := ⟨_, rfl⟩
  rw [hge] at HE2 HE3 HG3 hz2 hbl ⊢
  obtain ⟨E, hE⟩ : ∃ E, evB N a.length = E := ⟨_, rfl⟩
  rw [hE] at HEV HXL HX0 HRT HDI HEF HEL HE3 HG3 HL3 ⊢
  have HEE := Lib.hid hE
  have hgq : q + 2 ≤ ge := by omega
  clear hge hE HE2 e0 e1 c0 c1
  go_loopw [25] (fun i wr => ∃ (j : Nat) (r : RV), j ≤ N ∧ i = .int .i64 j ∧ r.n = N ∧ r.xs = rotL N E (bestK (fewF N a) j : Nat) ∧ r.Lies wr q ∧ (r.b ≠ q + 1 ∧ r.b ≠ ge + 1) ∧ Cells2 wr (ge + 1) (.int .i64 N) r.slc ∧ Cells2 wr ge (.int .i64 N) (.slice Ae E.length ce) ∧ (⟨N, E, Ae, ce, be⟩ : RV).Lies wr q ∧ Cells2 wr q (.int .i64 N) (.slice A a.length ca) ∧ Cells2 wr (q + 1) (.int .i64 0) (.slice none 0 0) ∧ Below q w wr) (fun i _ => N - (intOf i).toNat)
  case atStart => exact ⟨0, ⟨N, E, Ae, ce, be⟩, Nat.zero_le _, rfl, rfl, HX0.out.symm, HL3.out, ⟨by show be ≠ q + 1; omega, by show be ≠ ge + 1; omega⟩, HG3.out, HE3.out, HL3.out, HC3.out, HZ3.out, HB3.out⟩
  case round =>
    obtain ⟨j, r, hj, rfl, hrn, hrx, hrl, hrb, hbest, hec, hel, hac, hzc, hbel⟩ := hrel
    obtain ⟨wo, rfl⟩ : ∃ wo : World, wo = wr := ⟨_, rfl⟩
    have HBS := Lib.hid hbest
    have HEC := Lib.hid hec
    have HELs := Lib.hid hel
    have HAC := Lib.hid hac
    have HZC := Lib.hid hzc
    have HBE := Lib.hid hbel
    have HRL := Lib.hid hrl
    have hgs := hbest.2.2.2.2
    obtain ⟨n', X, AX, cX, bX⟩ := r
    change n' = (N : Int) at hrn
    subst hrn
    change X = _ at hrx
    have HRX := Lib.hid hrx
    dsimp only at hrb
    obtain ⟨c0, c1, _, _, _⟩ := hac
    obtain ⟨e0, e1, _, _, _⟩ := hec
    clear hbest hel hzc hbel hrl hrx
    by_cases hlt : j < N
    · have hI := HELs.out.ints HEF.out
      have HIE := Lib.hid (show Ints wo wo.heap.size Ae E from hI)
      have HRJ := Lib.hid (HRT.out j (by omega) Ae ce)
      have HXJ := Lib.hid (HXL.out j)
      have HDJ := Lib.hid (HDI.out j)
      have HDB := Lib.hid (HDI.out (bestK (fewF N a) j))
      rw [← HRX.out] at HDB
      have HBK := Lib.hid (show bestK (fewF N a) (j + 1) = if fewF N a j < fewF N a (bestK (fewF N a) j) then j else bestK (fewF N a) j from rfl)
      obtain ⟨Y, hY⟩ : ∃ Y, rotL N E (j : Int) = Y := ⟨_, rfl⟩
      have HYY := Lib.hid hY
      rw [hY] at HRJ HXJ HDJ
      obtain ⟨F1, hF1⟩ : ∃ F, fewF N a j = F := ⟨_, rfl⟩
      obtain ⟨F2, hF2⟩ : ∃ F, fewF N a (bestK (fewF N a) j) = F := ⟨_, rfl⟩
      rw [hF1] at HDJ HBK
      rw [hF2] at HDB HBK
      have hji : (j : Int) < (N : Int) := by omega
      clear hI hY hF1 hF2
      go_wp2_with fail
      refine (HRJ.out _ HIE.out).mono ?_
      rintro e w5 ⟨A5, c5, rfl, hrw, hb⟩
      have hz5 := hb.size
      obtain ⟨b5, hL5, hb5⟩ := hrw.rvOf q (by omega) (by omega) (N : Int) c5
      have hal := (Below.refl w5.heap.size w5).alloc (Nat.le_refl _) (.cells #[.int .i64 N, .slice A5 Y.length c5] 27)
      have HF6 := Lib.hid ((Frm.pure hb (fun _ => False)).trans (Frm.pure hal (fun _ => False)))
      have HB6 := Lib.hid ((HBE.out.trans (hb.mono (by omega))).trans (hal.mono (by omega)))
      have HL6 := Lib.hid (hL5.frm (Frm.pure hal (fun _ => False)) (fun h => h))
      have HN6 := Lib.hid (Cells2.new w5 (.int .i64 N) (.slice A5 Y.length c5) 27)
      have hbY : b5 ≠ q + 1 ∧ b5 ≠ ge + 1 := by omega
      clear hb hrw hL5 hal e0 e1 c0 c1
      have HBS6 := Lib.hid (HBS.out.frmY HF6.out (fun h => h))
      have HAC6 := Lib.hid (HAC.out.frmY HF6.out (fun h => h))
      have HRL6 := Lib.hid (HRL.out.frm HF6.out (fun h => h))
      obtain ⟨c0, c1, _, _, _⟩ := HAC6.out
      obtain ⟨n0, n1, _, _, _⟩ := HN6.out
      obtain ⟨g0, g1, _, _, _⟩ := HBS6.out
      unfold RV.slc at g1
      dsimp only at g1
      go_wp2_with fail
      generalize w5.alloc (.cells #[.int .i64 N, .slice A5 Y.length c5] 27) = w6 at *
      obtain ⟨nx, hnx⟩ : ∃ x, w5.heap.size = x := ⟨_, rfl⟩
      rw [hnx] at HN6 n0 n1 hz5 ⊢
      clear hnx
      (refine wp_region_held_drew (S := (fun w' => w'.cell? ⟨q, 0, none⟩ = some (.int .i64 N) ∧ w'.cell? ⟨q, 1, none⟩ = some (.slice A a.length ca) ∧ w'.cell? ⟨nx, 0, none⟩ = some (.int .i64 N) ∧ w'.cell? ⟨nx, 1, none⟩ = some (.slice A5 Y.length c5) ∧ w'.cell? ⟨ge + 1, 0, none⟩ = some (.int .i64 N) ∧ w'.cell? ⟨ge + 1, 1, none⟩ = some (.slice AX X.length cX))) (by kernel_rfl) ?_ (fun hHeld => ?_); (focus ((try dsimp only); exact ⟨c0, c1, n0, n1, g0, g1⟩)))
      have HF7 := Lib.hid (HF6.out.drew)
      have HG7 := Lib.hid ((Frm.refl (fun _ => False) w6).drew)
      have HB7 := Lib.hid (Below.drew5_ HB6.out)
      have hq6 : q ≤ w6.drew.heap.size := by have := HN6.out.2.2.2.2; show q ≤ w6.heap.size; omega
      generalize w6.drew = w7 at *
      have HIA7 := Lib.hid ((HA.out.below HB7.out).mono hq6)
      have HIY7 := Lib.hid ((HL6.out.frm HG7.out (fun h => h)).ints (rh_fitsE HXJ.out.1))
      have HIX7 := Lib.hid ((HRL6.out.frm HG7.out (fun h => h)).ints (show ∀ x ∈ X, Fits x by rw [HRX.out]; exact rh_fitsE (HXL.out _).1))
      (refine wpAnyH_take (i := 0) (v := ?_) rfl (by kernel_rfl) (by kernel_rfl) (by kernel_rfl) (fun _ _ _ h => h) (Or.inl ⟨by rfl, ?_⟩) (by assumption) ?_; rotate_left; (focus (intro wS hSw; (try dsimp only at hSw); go_simp; (try with_reducible rfl))); (try simp only [Act.put, List.getElem_toArray, List.getElem_cons_zero, List.getElem_cons_succ, List.setIfInBounds_toArray, List.set_cons_zero, List.set_cons_succ]))
      (refine wpAnyH_take (i := 1) (v := ?_) rfl (by kernel_rfl) (by kernel_rfl) (by kernel_rfl) (fun _ _ _ h => h) (Or.inl ⟨by rfl, ?_⟩) (by assumption) ?_; rotate_left; (focus (intro wS hSw; (try dsimp only at hSw); go_simp; (try with_reducible rfl))); (try simp only [Act.put, List.getElem_toArray, List.getElem_cons_zero, List.getElem_cons_succ, List.setIfInBounds_toArray, List.set_cons_zero, List.set_cons_succ]))
      (refine wpAnyH_take (i := 3) (v := ?_) rfl (by kernel_rfl) (by kernel_rfl) (by kernel_rfl) (fun _ _ _ h => h) (Or.inl ⟨by rfl, ?_⟩) (by assumption) ?_; rotate_left; (focus (intro wS hSw; (try dsimp only at hSw); go_simp; (try with_reducible rfl))); (try simp only [Act.put, List.getElem_toArray, List.getElem_cons_zero, List.getElem_cons_succ, List.setIfInBounds_toArray, List.set_cons_zero, List.set_cons_succ]))
      (refine wpAnyH_take (i := 4) (v := ?_) rfl (by kernel_rfl) (by kernel_rfl) (by kernel_rfl) (fun _ _ _ h => h) (Or.inl ⟨by rfl, ?_⟩) (by assumption) ?_; rotate_left; (focus (intro wS hSw; (try dsimp only at hSw); go_simp; (try with_reducible rfl))); (try simp only [Act.put, List.getElem_toArray, List.getElem_cons_zero, List.getElem_cons_succ, List.setIfInBounds_toArray, List.set_cons_zero, List.set_cons_succ]))
      (refine wpAnyH_ready (rs := [2]) (by kernel_rfl) (by simp) ?_; refine AllReadyH.cons rfl (fun K hK => ?_) AllReadyH.nil; go_simp)
      go_at_call 37
      refine (HDJ.out _ _ _ HIA7.out HIY7.out).mono ?_
      rintro e w8 ⟨rfl, hb⟩
      have HG8 := Lib.hid (HG7.out.trans (Frm.pure hb (fun _ => False)))
      have HIA8 := Lib.hid (HIA7.out.lift hb)
      have HIX8 := Lib.hid (HIX7.out.lift hb)
      have HB8 := Lib.hid (HB7.out.trans (hb.mono hq6))
      have hq8 := Nat.le_trans hq6 hb.size
      clear hb c0 c1 n0 n1 g0 g1
      have HAC8 := Lib.hid (HAC6.out.frmY HG8.out (fun h => h))
      have HN8 := Lib.hid (HN6.out.frmY HG8.out (fun h => h))
      have HBS8 := Lib.hid (HBS6.out.frmY HG8.out (fun h => h))
      obtain ⟨c0, c1, _, _, _⟩ := HAC8.out
      obtain ⟨n0, n1, _, _, _⟩ := HN8.out
      obtain ⟨g0, g1, _, _, _⟩ := HBS8.out
      unfold RV.slc at g1
      dsimp only at g1
      go_wp2_with fail
      (refine hK.out _ _ ?_ (fun hHeld2 => ?_); (focus ((try dsimp only); exact ⟨c0, c1, n0, n1, g0, g1⟩)); (clear hK K); (try simp only [Act.put, List.getElem_toArray, List.getElem_cons_zero, List.getElem_cons_succ, List.setIfInBounds_toArray, List.set_cons_zero, List.set_cons_succ]))
      (refine wpAnyH_ready (rs := [5]) (by kernel_rfl) (by simp) ?_; refine AllReadyH.cons rfl (fun K hK => ?_) AllReadyH.nil; go_simp)
      go_at_call 37
      refine (HDB.out _ _ _ HIA8.out HIX8.out).mono ?_
      rintro e w9 ⟨rfl, hb⟩
      have HG9 := Lib.hid (HG8.out.trans (Frm.pure hb (fun _ => False)))
      have HB9 := Lib.hid (HB8.out.trans (hb.mono hq8))
      clear hb c0 c1 n0 n1 g0 g1
      have HAC9 := Lib.hid (HAC6.out.frmY HG9.out (fun h => h))
      have HN9 := Lib.hid (HN6.out.frmY HG9.out (fun h => h))
      have HBS9 := Lib.hid (HBS6.out.frmY HG9.out (fun h => h))
      have HEC9 := Lib.hid ((HEC.out.frmY HF6.out (fun h => h)).frmY HG9.out (fun h => h))
      have HEL9 := Lib.hid ((HELs.out.frm HF6.out (fun h => h)).frm HG9.out (fun h => h))
      have HZC9 := Lib.hid ((HZC.out.frmY HF6.out (fun h => h)).frmY HG9.out (fun h => h))
      have HL9 := Lib.hid (HL6.out.frm HG9.out (fun h => h))
      have HRL9 := Lib.hid (HRL6.out.frm HG9.out (fun h => h))
      obtain ⟨c0, c1, _, _, _⟩ := HAC9.out
      obtain ⟨n0, n1, _, _, _⟩ := HN9.out
      obtain ⟨g0, g1, gf0, gf1, _⟩ := HBS9.out
      unfold RV.slc at g1
      dsimp only at g1
      go_wp2_with fail
      (refine hK.out _ _ ?_ (fun hHeld2 => ?_); (focus ((try dsimp only); exact ⟨c0, c1, n0, n1, g0, g1⟩)); (clear hK K); (try simp only [Act.put, List.getElem_toArray, List.getElem_cons_zero, List.getElem_cons_succ, List.setIfInBounds_toArray, List.set_cons_zero, List.set_cons_succ]))
      (refine wpAnyH_take (i := 6) (v := ?_) rfl (by kernel_rfl) (by kernel_rfl) (by kernel_rfl) (fun _ _ _ h => h) (Or.inl ⟨by rfl, ?_⟩) (by assumption) ?_; rotate_left; (focus (intro wS hSw; (try dsimp only at hSw); go_simp; (try with_reducible rfl))); (try simp only [Act.put, List.getElem_toArray, List.getElem_cons_zero, List.getElem_cons_succ, List.setIfInBounds_toArray, List.set_cons_zero, List.set_cons_succ]))
      refine wpAnyH_done (by kernel_rfl) ?_ _
      by_cases hlt2 : F1 < F2
      · rw [if_pos hlt2] at HBK
        have HS9 := Lib.hid ((HBS9.out.set0 (.int .i64 N)).set1 (.slice A5 Y.length c5))
        have HFS := Lib.hid ((Frm.setCell (S := fun c => c = ge + 1) (p := ⟨ge + 1, 0, none⟩) (Frm.refl _ w9) rfl (.int .i64 N)).setCell (p := ⟨ge + 1, 1, none⟩) rfl (.slice A5 Y.length c5))
        go_wp2_with fail
        go_roundw
        case rel => exact ⟨j + 1, ⟨N, Y, A5, c5, b5⟩, by omega, by go_num, rfl, by rw [HBK.out]; exact HYY.out.symm, HL9.out.frm HFS.out (show ¬ b5 = ge + 1 from hbY.2), hbY, HS9.out, HEC9.out.frmY HFS.out (show ¬ ge = ge + 1 by omega), HEL9.out.frm HFS.out (show ¬ be = ge + 1 by omega), HAC9.out.frmY HFS.out (show ¬ q = ge + 1 by omega), HZC9.out.frmY HFS.out (show ¬ q + 1 = ge + 1 by omega), HB9.out.trans (HFS.out.below (B := q) (fun c h => by have h : c = ge + 1 := h; omega) (by have := HAC9.out.2.2.2.2; omega))⟩
        case measure => simp [intOf]; omega
      · rw [if_neg hlt2] at HBK
        go_wp2_with fail
        go_roundw
        case rel => exact ⟨j + 1, ⟨N, X, AX, cX, bX⟩, by omega, by go_num, rfl, by rw [HBK.out]; exact HRX.out, HRL9.out, hrb, HBS9.out, HEC9.out, HEL9.out, HAC9.out, HZC9.out, HB9.out⟩
        case measure => simp [intOf]; omega
    · have hjN : j = N := by omega
      subst hjN
      have HVX := Lib.hid (show fewX j a = X by
        have h1 := HRX.out
        rw [HK.out] at h1
        rw [h1, ← HEE.out]
        rfl)
      have HDB := Lib.hid (HDI.out (bestK (fewF j a) j))
      rw [← HRX.out] at HDB
      have HVF := Lib.hid (show fewF j a (bestK (fewF j a) j) = farV j a (fewX j a) by
        unfold fewX
        rw [HK.out]
        rfl)
      rw [HVF.out] at HDB
      obtain ⟨F, hF⟩ : ∃ F, farV j a (fewX j a) = F := ⟨_, rfl⟩
      have HFF := Lib.hid hF
      rw [hF] at HDB
      obtain ⟨g0, g1, _, _, _⟩ := HBS.out
      unfold RV.slc at g1
      dsimp only at g1
      clear hF e0 e1
      go_wp2_with fail
      (refine wp_region_held_drew (S := (fun w' => w'.cell? ⟨q, 0, none⟩ = some (.int .i64 j) ∧ w'.cell? ⟨q, 1, none⟩ = some (.slice A a.length ca) ∧ w'.cell? ⟨ge + 1, 0, none⟩ = some (.int .i64 j) ∧ w'.cell? ⟨ge + 1, 1, none⟩ = some (.slice AX X.length cX))) (by kernel_rfl) ?_ (fun hHeld => ?_); (focus ((try dsimp only); exact ⟨c0, c1, g0, g1⟩)))
      have HG7 := Lib.hid ((Frm.refl (fun _ => False) wo).drew)
      have HB7 := Lib.hid (Below.drew5_ HBE.out)
      have hq6 : q + 2 ≤ wo.drew.heap.size := by have := HZC.out.2.2.2.2; show q + 2 ≤ wo.heap.size; omega
      generalize wo.drew = w7 at *
      have HIA7 := Lib.hid ((HA.out.below HB7.out).mono (show q ≤ w7.heap.size by omega))
      have HIX7 := Lib.hid ((HRL.out.frm HG7.out (fun h => h)).ints (show ∀ x ∈ X, Fits x by rw [HRX.out]; exact rh_fitsE (HXL.out _).1))
      (refine wpAnyH_take (i := 0) (v := ?_) rfl (by kernel_rfl) (by kernel_rfl) (by kernel_rfl) (fun _ _ _ h => h) (Or.inl ⟨by rfl, ?_⟩) (by assumption) ?_; rotate_left; (focus (intro wS hSw; (try dsimp only at hSw); go_simp; (try with_reducible rfl))); (try simp only [Act.put, List.getElem_toArray, List.getElem_cons_zero, List.getElem_cons_succ, List.setIfInBounds_toArray, List.set_cons_zero, List.set_cons_succ]))
      (refine wpAnyH_take (i := 1) (v := ?_) rfl (by kernel_rfl) (by kernel_rfl) (by kernel_rfl) (fun _ _ _ h => h) (Or.inl ⟨by rfl, ?_⟩) (by assumption) ?_; rotate_left; (focus (intro wS hSw; (try dsimp only at hSw); go_simp; (try with_reducible rfl))); (try simp only [Act.put, List.getElem_toArray, List.getElem_cons_zero, List.getElem_cons_succ, List.setIfInBounds_toArray, List.set_cons_zero, List.set_cons_succ]))
      (refine wpAnyH_take (i := 2) (v := ?_) rfl (by kernel_rfl) (by kernel_rfl) (by kernel_rfl) (fun _ _ _ h => h) (Or.inl ⟨by rfl, ?_⟩) (by assumption) ?_; rotate_left; (focus (intro wS hSw; (try dsimp only at hSw); go_simp; (try with_reducible rfl))); (try simp only [Act.put, List.getElem_toArray, List.getElem_cons_zero, List.getElem_cons_succ, List.setIfInBounds_toArray, List.set_cons_zero, List.set_cons_succ]))
      (refine wpAnyH_ready (rs := [3]) (by kernel_rfl) (by simp) ?_; refine AllReadyH.cons rfl (fun K hK => ?_) AllReadyH.nil; go_simp)
      go_at_call 37
      refine (HDB.out _ _ _ HIA7.out HIX7.out).mono ?_
      rintro e w8 ⟨rfl, hb⟩
      have HG8 := Lib.hid (HG7.out.trans (Frm.pure hb (fun _ => False)))
      have HB8 := Lib.hid (HB7.out.trans (hb.mono (by omega)))
      have hq8 := Nat.le_trans hq6 hb.size
      clear hb c0 c1 g0 g1
      have HAC8 := Lib.hid (HAC.out.frmY HG8.out (fun h => h))
      have HBS8 := Lib.hid (HBS.out.frmY HG8.out (fun h => h))
      have HZC8 := Lib.hid (HZC.out.frmY HG8.out (fun h => h))
      have HRL8 := Lib.hid (HRL.out.frm HG8.out (fun h => h))
      obtain ⟨c0, c1, _, _, _⟩ := HAC8.out
      obtain ⟨g0, g1, _, _, _⟩ := HBS8.out
      obtain ⟨z0, z1, zf0, zf1, _⟩ := HZC8.out
      unfold RV.slc at g1
      dsimp only at g1
      go_wp2_with fail
      (refine hK.out _ _ ?_ (fun hHeld2 => ?_); (focus ((try dsimp only); exact ⟨c0, c1, g0, g1⟩)); (clear hK K); (try simp only [Act.put, List.getElem_toArray, List.getElem_cons_zero, List.getElem_cons_succ, List.setIfInBounds_toArray, List.set_cons_zero, List.set_cons_succ]))
      (refine wpAnyH_ready (rs := [4]) (by kernel_rfl) (by simp) ?_; refine AllReadyH.cons rfl (fun K hK => ?_) AllReadyH.nil; go_simp)
      have HS9 := Lib.hid ((HZC8.out.set0 (.int .i64 j)).set1 (.slice AX X.length cX))
      have HFS := Lib.hid ((Frm.setCell (S := fun c => c = q + 1) (p := ⟨q + 1, 0, none⟩) (Frm.refl _ w8) rfl (.int .i64 j)).setCell (p := ⟨q + 1, 1, none⟩) rfl (.slice AX X.length cX))
      have HAC9 := Lib.hid (HAC8.out.frmY HFS.out (show ¬ q = q + 1 by omega))
      have HBS9 := Lib.hid (HBS8.out.frmY HFS.out (show ¬ ge + 1 = q + 1 by omega))
      have HRL9 := Lib.hid (HRL8.out.frm HFS.out (show ¬ bX = q + 1 from hrb.1))
      have HB9 := Lib.hid (HB8.out.trans (HFS.out.below (B := q) (fun c h => by have h : c = q + 1 := h; omega) (by omega)))
      clear c0 c1 g0 g1 z0 z1
      obtain ⟨c0, c1, _, _, _⟩ := HAC9.out
      obtain ⟨g0, g1, _, _, _⟩ := HBS9.out
      obtain ⟨z0, z1, _, _, _⟩ := HS9.out
      unfold RV.slc at g1
      dsimp only at g1
      (refine hK.out _ _ ?_ (fun hHeld2 => ?_); (focus ((try dsimp only); exact ⟨c0, c1, g0, g1⟩)); (clear hK K); (try simp only [Act.put, List.getElem_toArray, List.getElem_cons_zero, List.getElem_cons_succ, List.setIfInBounds_toArray, List.set_cons_zero, List.set_cons_succ]))
      (refine wpAnyH_take (i := 5) (v := ?_) rfl (by kernel_rfl) (by kernel_rfl) (by kernel_rfl) (fun _ _ _ h => h) (Or.inl ⟨by rfl, ?_⟩) (by assumption) ?_; rotate_left; (focus (intro wS hSw; (try dsimp only at hSw); go_simp; (try with_reducible rfl))); (try simp only [Act.put, List.getElem_toArray, List.getElem_cons_zero, List.getElem_cons_succ, List.setIfInBounds_toArray, List.set_cons_zero, List.set_cons_succ]))
      refine wpAnyH_done (by kernel_rfl) ?_ _
      go_wp2_with fail
      refine bodyPost_ret (v := .tuple #[.agg #[.int .i64 j, .slice AX X.length cX], .int .i64 F]) (by simp [results, Tryz.results20, go_sem, z0, z1]) rfl ?_
      rw [HFF.out, HVX.out]
      exact ⟨AX, cX, rfl, by rw [HQ.out]; exact HRL9.out.rw', by rw [HQ.out]; exact HB9.out⟩

end Go.Proofs.YtabjklhnghdfoaaGreatDoor

namespace Go.Proofs.YtabjklhnghdfoaaGreatDoor
open Go.RowKit
set_option linter.unusedVariables false
set_option linter.unusedSimpArgs false

set_option maxRecDepth 100000 in
set_option maxHeartbeats 4000000 in
theorem spec_FewestMoves_any (N : Nat) (A : Option Addr) (ca : Nat) (a : List Int) (w : World) (hA : Ints w w.heap.size A a) (ha : RhOk N a) :
    Calls Tryz.prog 13 #[.agg #[.int .i64 N, .slice A a.length ca]] w (RetRhI w N (fewX N a) (farV N a (fewX N a))) := by
  have hn1 : 1 ≤ N := by have := ha.1; omega
  have hn2 : N ≤ 24 := by have := ha.2.1; omega
  have hal : a.length ≤ N := rhok_len ha
  have hfn : Fits (N : Int) := by unfold Fits; omega
  have heok := evB_ok hn1 hn2 hal
  have hel := evB_len N a.length
  have hr : rhB N a = true := rhB_iff.2 ha
  have HRO := Lib.hid (fun V h => hr ▸ spec_RhythmOk_any N A ca a V h)
  have HEV := Lib.hid (fun V => spec_even_any N a.length V hn1 hn2 hal)
  have HXL := Lib.hid (fun (k : Nat) => (show RhOk N (rotL N (evB N a.length) (k : Int)) ∧ (rotL N (evB N a.length) (k : Int)).length = a.length from ⟨(rotL_ok heok k).1, (rotL_ok heok k).2.trans hel⟩))
  have HX0 := Lib.hid (show rotL N (evB N a.length) ((0 : Nat) : Int) = evB N a.length from (rotL_same heok 0).2 (fun t ht => by rw [show (t : Int) - 0 = t by omega, Int.emod_eq_of_lt (by omega) (by omega)]))
  have HRT := Lib.hid (fun (k : Nat) (hk : k ≤ 1000) (A1 : Option Addr) (c1 : Nat) V h => show Calls Tryz.prog 28 #[.agg #[.int .i64 N, .slice A1 (evB N a.length).length c1], .int .i64 1, .int .i64 k] V (RetRh1 V N (rotL N (evB N a.length) (k : Int))) from (rotL_of heok (k : Int)) ▸ spec_l02Map_any N A1 c1 (evB N a.length) 1 k V h heok (fun x h1 h2 => by omega) (by omega))
  have HDI := Lib.hid (fun (k : Nat) (B : Option Addr) (cb : Nat) V h1 h2 => show Calls Tryz.prog 30 #[.agg #[.int .i64 N, .slice A a.length ca], .agg #[.int .i64 N, .slice B (rotL N (evB N a.length) (k : Int)).length cb]] V (fun e w' => e = .returned (.int .i64 (fewF N a k)) ∧ Below V.heap.size V w') from spec_l24Far_any N A B ca cb a (rotL N (evB N a.length) (k : Int)) V h1 h2 ha (rotL_ok heok k).1 ((rotL_ok heok k).2.trans hel).symm)
  have HK := Lib.hid (show bestK (fewF N a) N = fewK N a from rfl)
  have HKM := Lib.hid (fun m (hm : 1 ≤ m) => bestK_lt (fewF N a) m hm)
  have HEF := Lib.hid (rh_fitsE heok)
  have HEL := Lib.hid hel
  have HA := Lib.hid hA
  have hal0 := (Below.refl w.heap.size w).alloc (Nat.le_refl _) (.cells #[.int .i64 N, .slice A a.length ca] 27)
  have hal1 := hal0.alloc hal0.size (.cells #[.int .i64 0, .slice none 0 0] 27)
  have HC0 := Lib.hid ((Cells2.new w (.int .i64 N) (.slice A a.length ca) 27).alloc (.cells #[.int .i64 0, .slice none 0 0] 27))
  have HZ0 := Lib.hid (Cells2.new_at (w.alloc (.cells #[.int .i64 N, .slice A a.length ca] 27)) (.int .i64 0) (.slice none 0 0) 27 (w.heap.size + 1) (by simp))
  have HB0 := Lib.hid hal1
  have HI0 := Lib.hid (hA.lift hal1)
  clear hA ha heok hel hr hal0 hal1 hfn
  obtain ⟨c0, c1, _, _, _⟩ := HC0.out
  go_enter Tryz.func13, Tryz.ntmps13
  go_wp2_with fail
  refine (HRO.out _ HI0.out).mono ?_
  rintro e w1 ⟨rfl, hb⟩
  have HB1 := Lib.hid (HB0.out.trans (hb.mono HB0.out.size))
  have HC1 := Lib.hid (HC0.out.below hb HC0.out.2.2.2.2)
  have HZ1 := Lib.hid (HZ0.out.below hb HZ0.out.2.2.2.2)
  clear hb c0 c1
  obtain ⟨c0, c1, _, _, _⟩ := HC1.out
  go_wp2_with fail
  refine (HEV.out _).mono ?_
  rintro e w2 ⟨Ae, ce, rfl, hrw, hb⟩
  obtain ⟨q, hq⟩ : ∃ q, w.heap.size = q := ⟨_, rfl⟩
  have HQ := Lib.hid hq
  rw [hq] at HB1 HC1 HZ1 HA ⊢
  clear hq
  have hq1 : q + 2 ≤ w1.heap.size := by have := HZ1.out.2.2.2.2; omega
  have hz2 := hb.size
  obtain ⟨be, hLe, hbe⟩ := hrw.rvOf q (by omega) (by omega) (N : Int) ce
  have hbl : be < w2.heap.size := hLe.2.2.1
  have HB2 := Lib.hid (HB1.out.trans (hb.mono (by omega)))
  have HC2 := Lib.hid (HC1.out.below hb HC1.out.2.2.2.2)
  have HZ2 := Lib.hid (HZ1.out.below hb HZ1.out.2.2.2.2)
  have hal2 := (Below.refl w2.heap.size w2).alloc (Nat.le_refl _) (.cells #[.int .i64 N, .slice Ae (evB N a.length).length ce] 27)
  have hal3 := hal2.alloc hal2.size (.cells #[.int .i64 N, .slice Ae (evB N a.length).length ce] 27)
  have HE2 := Lib.hid (Cells2.new w2 (.int .i64 N) (.slice Ae (evB N a.length).length ce) 27)
  have HE3 := Lib.hid (HE2.out.alloc (.cells #[.int .i64 N, .slice Ae (evB N a.length).length ce] 27))
  have HG3 := Lib.hid (Cells2.new_at (w2.alloc (.cells #[.int .i64 N, .slice Ae (evB N a.length).length ce] 27)) (.int .i64 N) (.slice Ae (evB N a.length).length ce) 27 (w2.heap.size + 1) (by simp))
  have HL3 := Lib.hid (hLe.frm (Frm.pure hal3 (fun _ => False)) (fun h => h))
  have HC3 := Lib.hid (HC2.out.below hal3 HC2.out.2.2.2.2)
  have HZ3 := Lib.hid (HZ2.out.below hal3 HZ2.out.2.2.2.2)
  have HB3 := Lib.hid (HB2.out.trans (hal3.mono (by omega)))
  clear hb hrw hLe hal2 hal3 c0 c1
  obtain ⟨e0, e1, _, _, _⟩ := HE2.out
  obtain ⟨c0, c1, _, _, _⟩ := HC3.out
  go_wp2_with fail
  generalize (w2.alloc (.cells #[.int .i64 N, .slice Ae (evB N a.length).length ce] 27)).alloc (.cells #[.int .i64 N, .slice Ae (evB N a.length).length ce] 27) = w3 at *
  obtain ⟨ge, hge⟩ : ∃ g, w2.heap.size = g := ⟨_, rfl⟩
  rw [hge] at HE2 HE3 HG3 hz2 hbl ⊢
  obtain ⟨E, hE⟩ : ∃ E, evB N a.length = E := ⟨_, rfl⟩
  rw [hE] at HEV HXL HX0 HRT HDI HEF HEL HE3 HG3 HL3 ⊢
  have HEE := Lib.hid hE
  have hgq : q + 2 ≤ ge := by omega
  clear hge hE HE2 e0 e1 c0 c1
  go_loopw [6] (fun i wr => ∃ (j : Nat) (r : RV), j ≤ N ∧ i = .int .i64 j ∧ r.n = N ∧ r.xs = rotL N E (bestK (fewF N a) j : Nat) ∧ r.Lies wr q ∧ (r.b ≠ q + 1 ∧ r.b ≠ ge + 1) ∧ Cells2 wr (ge + 1) (.int .i64 N) r.slc ∧ Cells2 wr ge (.int .i64 N) (.slice Ae E.length ce) ∧ (⟨N, E, Ae, ce, be⟩ : RV).Lies wr q ∧ Cells2 wr q (.int .i64 N) (.slice A a.length ca) ∧ Cells2 wr (q + 1) (.int .i64 0) (.slice none 0 0) ∧ Below q w wr) (fun i _ => N - (intOf i).toNat)
  case atStart => exact ⟨1, ⟨N, E, Ae, ce, be⟩, hn1, rfl, rfl, by rw [bestK_one]; exact HX0.out.symm, HL3.out, ⟨by show be ≠ q + 1; omega, by show be ≠ ge + 1; omega⟩, HG3.out, HE3.out, HL3.out, HC3.out, HZ3.out, HB3.out⟩
  case round =>
    obtain ⟨j, r, hj, rfl, hrn, hrx, hrl, hrb, hbest, hec, hel, hac, hzc, hbel⟩ := hrel
    obtain ⟨wo, rfl⟩ : ∃ wo : World, wo = wr := ⟨_, rfl⟩
    have HBS := Lib.hid hbest
    have HEC := Lib.hid hec
    have HELs := Lib.hid hel
    have HAC := Lib.hid hac
    have HZC := Lib.hid hzc
    have HBE := Lib.hid hbel
    have HRL := Lib.hid hrl
    have hgs := hbest.2.2.2.2
    obtain ⟨n', X, AX, cX, bX⟩ := r
    change n' = (N : Int) at hrn
    subst hrn
    change X = _ at hrx
    have HRX := Lib.hid hrx
    dsimp only at hrb
    obtain ⟨c0, c1, _, _, _⟩ := hac
    obtain ⟨e0, e1, _, _, _⟩ := hec
    clear hbest hel hzc hbel hrl hrx
    by_cases hlt : j < N
    · have hI := HELs.out.ints HEF.out
      have HIE := Lib.hid (show Ints wo wo.heap.size Ae E from hI)
      have HRJ := Lib.hid (HRT.out j (by omega) Ae ce)
      have HXJ := Lib.hid (HXL.out j)
      have HDJ := Lib.hid (HDI.out j)
      have HDB := Lib.hid (HDI.out (bestK (fewF N a) j))
      rw [← HRX.out] at HDB
      have HBK := Lib.hid (show bestK (fewF N a) (j + 1) = if fewF N a j < fewF N a (bestK (fewF N a) j) then j else bestK (fewF N a) j from rfl)
      obtain ⟨Y, hY⟩ : ∃ Y, rotL N E (j : Int) = Y := ⟨_, rfl⟩
      have HYY := Lib.hid hY
      rw [hY] at HRJ HXJ HDJ
      obtain ⟨F1, hF1⟩ : ∃ F, fewF N a j = F := ⟨_, rfl⟩
      obtain ⟨F2, hF2⟩ : ∃ F, fewF N a (bestK (fewF N a) j) = F := ⟨_, rfl⟩
      rw [hF1] at HDJ HBK
      rw [hF2] at HDB HBK
      have hji : (j : Int) < (N : Int) := by omega
      clear hI hY hF1 hF2
      go_wp2_with fail
      refine (HRJ.out _ HIE.out).mono ?_
      rintro e w5 ⟨A5, c5, rfl, hrw, hb⟩
      have hz5 := hb.size
      obtain ⟨b5, hL5, hb5⟩ := hrw.rvOf q (by omega) (by omega) (N : Int) c5
      have hal := (Below.refl w5.heap.size w5).alloc (Nat.le_refl _) (.cells #[.int .i64 N, .slice A5 Y.length c5] 27)
      have HF6 := Lib.hid ((Frm.pure hb (fun _ => False)).trans (Frm.pure hal (fun _ => False)))
      have HB6 := Lib.hid ((HBE.out.trans (hb.mono (by omega))).trans (hal.mono (by omega)))
      have HL6 := Lib.hid (hL5.frm (Frm.pure hal (fun _ => False)) (fun h => h))
      have HN6 := Lib.hid (Cells2.new w5 (.int .i64 N) (.slice A5 Y.length c5) 27)
      have hbY : b5 ≠ q + 1 ∧ b5 ≠ ge + 1 := by omega
      clear hb hrw hL5 hal e0 e1 c0 c1
      have HBS6 := Lib.hid (HBS.out.frmY HF6.out (fun h => h))
      have HAC6 := Lib.hid (HAC.out.frmY HF6.out (fun h => h))
      have HRL6 := Lib.hid (HRL.out.frm HF6.out (fun h => h))
      obtain ⟨c0, c1, _, _, _⟩ := HAC6.out
      obtain ⟨n0, n1, _, _, _⟩ := HN6.out
      obtain ⟨g0, g1, _, _, _⟩ := HBS6.out
      unfold RV.slc at g1
      dsimp only at g1
      go_wp2_with fail
      generalize w5.alloc (.cells #[.int .i64 N, .slice A5 Y.length c5] 27) = w6 at *
      obtain ⟨nx, hnx⟩ : ∃ x, w5.heap.size = x := ⟨_, rfl⟩
      rw [hnx] at HN6 n0 n1 hz5 ⊢
      clear hnx
      (refine wp_region_held_drew (S := (fun w' => w'.cell? ⟨q, 0, none⟩ = some (.int .i64 N) ∧ w'.cell? ⟨q, 1, none⟩ = some (.slice A a.length ca) ∧ w'.cell? ⟨nx, 0, none⟩ = some (.int .i64 N) ∧ w'.cell? ⟨nx, 1, none⟩ = some (.slice A5 Y.length c5) ∧ w'.cell? ⟨ge + 1, 0, none⟩ = some (.int .i64 N) ∧ w'.cell? ⟨ge + 1, 1, none⟩ = some (.slice AX X.length cX))) (by kernel_rfl) ?_ (fun hHeld => ?_); (focus ((try dsimp only); exact ⟨c0, c1, n0, n1, g0, g1⟩)))
      have HF7 := Lib.hid (HF6.out.drew)
      have HG7 := Lib.hid ((Frm.refl (fun _ => False) w6).drew)
      have HB7 := Lib.hid (Below.drew5_ HB6.out)
      have hq6 : q ≤ w6.drew.heap.size := by have := HN6.out.2.2.2.2; show q ≤ w6.heap.size; omega
      generalize w6.drew = w7 at *
      have HIA7 := Lib.hid ((HA.out.below HB7.out).mono hq6)
      have HIY7 := Lib.hid ((HL6.out.frm HG7.out (fun h => h)).ints (rh_fitsE HXJ.out.1))
      have HIX7 := Lib.hid ((HRL6.out.frm HG7.out (fun h => h)).ints (show ∀ x ∈ X, Fits x by rw [HRX.out]; exact rh_fitsE (HXL.out _).1))
      (refine wpAnyH_take (i := 0) (v := ?_) rfl (by kernel_rfl) (by kernel_rfl) (by kernel_rfl) (fun _ _ _ h => h) (Or.inl ⟨by rfl, ?_⟩) (by assumption) ?_; rotate_left; (focus (intro wS hSw; (try dsimp only at hSw); go_simp; (try with_reducible rfl))); (try simp only [Act.put, List.getElem_toArray, List.getElem_cons_zero, List.getElem_cons_succ, List.setIfInBounds_toArray, List.set_cons_zero, List.set_cons_succ]))
      (refine wpAnyH_take (i := 1) (v := ?_) rfl (by kernel_rfl) (by kernel_rfl) (by kernel_rfl) (fun _ _ _ h => h) (Or.inl ⟨by rfl, ?_⟩) (by assumption) ?_; rotate_left; (focus (intro wS hSw; (try dsimp only at hSw); go_simp; (try with_reducible rfl))); (try simp only [Act.put, List.getElem_toArray, List.getElem_cons_zero, List.getElem_cons_succ, List.setIfInBounds_toArray, List.set_cons_zero, List.set_cons_succ]))
      (refine wpAnyH_take (i := 3) (v := ?_) rfl (by kernel_rfl) (by kernel_rfl) (by kernel_rfl) (fun _ _ _ h => h) (Or.inl ⟨by rfl, ?_⟩) (by assumption) ?_; rotate_left; (focus (intro wS hSw; (try dsimp only at hSw); go_simp; (try with_reducible rfl))); (try simp only [Act.put, List.getElem_toArray, List.getElem_cons_zero, List.getElem_cons_succ, List.setIfInBounds_toArray, List.set_cons_zero, List.set_cons_succ]))
      (refine wpAnyH_take (i := 4) (v := ?_) rfl (by kernel_rfl) (by kernel_rfl) (by kernel_rfl) (fun _ _ _ h => h) (Or.inl ⟨by rfl, ?_⟩) (by assumption) ?_; rotate_left; (focus (intro wS hSw; (try dsimp only at hSw); go_simp; (try with_reducible rfl))); (try simp only [Act.put, List.getElem_toArray, List.getElem_cons_zero, List.getElem_cons_succ, List.setIfInBounds_toArray, List.set_cons_zero, List.set_cons_succ]))
      (refine wpAnyH_ready (rs := [2]) (by kernel_rfl) (by simp) ?_; refine AllReadyH.cons rfl (fun K hK => ?_) AllReadyH.nil; go_simp)
      go_at_call 30
      refine (HDJ.out _ _ _ HIA7.out HIY7.out).mono ?_
      rintro e w8 ⟨rfl, hb⟩
      have HG8 := Lib.hid (HG7.out.trans (Frm.pure hb (fun _ => False)))
      have HIA8 := Lib.hid (HIA7.out.lift hb)
      have HIX8 := Lib.hid (HIX7.out.lift hb)
      have HB8 := Lib.hid (HB7.out.trans (hb.mono hq6))
      have hq8 := Nat.le_trans hq6 hb.size
      clear hb c0 c1 n0 n1 g0 g1
      have HAC8 := Lib.hid (HAC6.out.frmY HG8.out (fun h => h))
      have HN8 := Lib.hid (HN6.out.frmY HG8.out (fun h => h))
      have HBS8 := Lib.hid (HBS6.out.frmY HG8.out (fun h => h))
      obtain ⟨c0, c1, _, _, _⟩ := HAC8.out
      obtain ⟨n0, n1, _, _, _⟩ := HN8.out
      obtain ⟨g0, g1, _, _, _⟩ := HBS8.out
      unfold RV.slc at g1
      dsimp only at g1
      go_wp2_with fail
      (refine hK.out _ _ ?_ (fun hHeld2 => ?_); (focus ((try dsimp only); exact ⟨c0, c1, n0, n1, g0, g1⟩)); (clear hK K); (try simp only [Act.put, List.getElem_toArray, List.getElem_cons_zero, List.getElem_cons_succ, List.setIfInBounds_toArray, List.set_cons_zero, List.set_cons_succ]))
      (refine wpAnyH_ready (rs := [5]) (by kernel_rfl) (by simp) ?_; refine AllReadyH.cons rfl (fun K hK => ?_) AllReadyH.nil; go_simp)
      go_at_call 30
      refine (HDB.out _ _ _ HIA8.out HIX8.out).mono ?_
      rintro e w9 ⟨rfl, hb⟩
      have HG9 := Lib.hid (HG8.out.trans (Frm.pure hb (fun _ => False)))
      have HB9 := Lib.hid (HB8.out.trans (hb.mono hq8))
      clear hb c0 c1 n0 n1 g0 g1
      have HAC9 := Lib.hid (HAC6.out.frmY HG9.out (fun h => h))
      have HN9 := Lib.hid (HN6.out.frmY HG9.out (fun h => h))
      have HBS9 := Lib.hid (HBS6.out.frmY HG9.out (fun h => h))
      have HEC9 := Lib.hid ((HEC.out.frmY HF6.out (fun h => h)).frmY HG9.out (fun h => h))
      have HEL9 := Lib.hid ((HELs.out.frm HF6.out (fun h => h)).frm HG9.out (fun h => h))
      have HZC9 := Lib.hid ((HZC.out.frmY HF6.out (fun h => h)).frmY HG9.out (fun h => h))
      have HL9 := Lib.hid (HL6.out.frm HG9.out (fun h => h))
      have HRL9 := Lib.hid (HRL6.out.frm HG9.out (fun h => h))
      obtain ⟨c0, c1, _, _, _⟩ := HAC9.out
      obtain ⟨n0, n1, _, _, _⟩ := HN9.out
      obtain ⟨g0, g1, gf0, gf1, _⟩ := HBS9.out
      unfold RV.slc at g1
      dsimp only at g1
      go_wp2_with fail
      (refine hK.out _ _ ?_ (fun hHeld2 => ?_); (focus ((try dsimp only); exact ⟨c0, c1, n0, n1, g0, g1⟩)); (clear hK K); (try simp only [Act.put, List.getElem_toArray, List.getElem_cons_zero, List.getElem_cons_succ, List.setIfInBounds_toArray, List.set_cons_zero, List.set_cons_succ]))
      (refine wpAnyH_take (i := 6) (v := ?_) rfl (by kernel_rfl) (by kernel_rfl) (by kernel_rfl) (fun _ _ _ h => h) (Or.inl ⟨by rfl, ?_⟩) (by assumption) ?_; rotate_left; (focus (intro wS hSw; (try dsimp only at hSw); go_simp; (try with_reducible rfl))); (try simp only [Act.put, List.getElem_toArray, List.getElem_cons_zero, List.getElem_cons_succ, List.setIfInBounds_toArray, List.set_cons_zero, List.set_cons_succ]))
      refine wpAnyH_done (by kernel_rfl) ?_ _
      by_cases hlt2 : F1 < F2
      · rw [if_pos hlt2] at HBK
        have HS9 := Lib.hid ((HBS9.out.set0 (.int .i64 N)).set1 (.slice A5 Y.length c5))
        have HFS := Lib.hid ((Frm.setCell (S := fun c => c = ge + 1) (p := ⟨ge + 1, 0, none⟩) (Frm.refl _ w9) rfl (.int .i64 N)).setCell (p := ⟨ge + 1, 1, none⟩) rfl (.slice A5 Y.length c5))
        go_wp2_with fail
        go_roundw
        case rel => exact ⟨j + 1, ⟨N, Y, A5, c5, b5⟩, by omega, by go_num, rfl, by rw [HBK.out]; exact HYY.out.symm, HL9.out.frm HFS.out (show ¬ b5 = ge + 1 from hbY.2), hbY, HS9.out, HEC9.out.frmY HFS.out (show ¬ ge = ge + 1 by omega), HEL9.out.frm HFS.out (show ¬ be = ge + 1 by omega), HAC9.out.frmY HFS.out (show ¬ q = ge + 1 by omega), HZC9.out.frmY HFS.out (show ¬ q + 1 = ge + 1 by omega), HB9.out.trans (HFS.out.below (B := q) (fun c h => by have h : c = ge + 1 := h; omega) (by have := HAC9.out.2.2.2.2; omega))⟩
        case measure => simp [intOf]; omega
      · rw [if_neg hlt2] at HBK
        go_wp2_with fail
        go_roundw
        case rel => exact ⟨j + 1, ⟨N, X, AX, cX, bX⟩, by omega, by go_num, rfl, by rw [HBK.out]; exact HRX.out, HRL9.out, hrb, HBS9.out, HEC9.out, HEL9.out, HAC9.out, HZC9.out, HB9.out⟩
        case measure => simp [intOf]; omega
    · have hjN : j = N := by omega
      subst hjN
      have HVX := Lib.hid (show fewX j a = X by
        have h1 := HRX.out
        rw [HK.out] at h1
        rw [h1, ← HEE.out]
        rfl)
      have HDB := Lib.hid (HDI.out (bestK (fewF j a) j))
      rw [← HRX.out] at HDB
      have HVF := Lib.hid (show fewF j a (bestK (fewF j a) j) = farV j a (fewX j a) by
        unfold fewX
        rw [HK.out]
        rfl)
      rw [HVF.out] at HDB
      obtain ⟨F, hF⟩ : ∃ F, farV j a (fewX j a) = F := ⟨_, rfl⟩
      have HFF := Lib.hid hF
      rw [hF] at HDB
      obtain ⟨g0, g1, _, _, _⟩ := HBS.out
      unfold RV.slc at g1
      dsimp only at g1
      clear hF e0 e1
      go_wp2_with fail
      (refine wp_region_held_drew (S := (fun w' => w'.cell? ⟨q, 0, none⟩ = some (.int .i64 j) ∧ w'.cell? ⟨q, 1, none⟩ = some (.slice A a.length ca) ∧ w'.cell? ⟨ge + 1, 0, none⟩ = some (.int .i64 j) ∧ w'.cell? ⟨ge + 1, 1, none⟩ = some (.slice AX X.length cX))) (by kernel_rfl) ?_ (fun hHeld => ?_); (focus ((try dsimp only); exact ⟨c0, c1, g0, g1⟩)))
      have HG7 := Lib.hid ((Frm.refl (fun _ => False) wo).drew)
      have HB7 := Lib.hid (Below.drew5_ HBE.out)
      have hq6 : q + 2 ≤ wo.drew.heap.size := by have := HZC.out.2.2.2.2; show q + 2 ≤ wo.heap.size; omega
      generalize wo.drew = w7 at *
      have HIA7 := Lib.hid ((HA.out.below HB7.out).mono (show q ≤ w7.heap.size by omega))
      have HIX7 := Lib.hid ((HRL.out.frm HG7.out (fun h => h)).ints (show ∀ x ∈ X, Fits x by rw [HRX.out]; exact rh_fitsE (HXL.out _).1))
      (refine wpAnyH_take (i := 0) (v := ?_) rfl (by kernel_rfl) (by kernel_rfl) (by kernel_rfl) (fun _ _ _ h => h) (Or.inl ⟨by rfl, ?_⟩) (by assumption) ?_; rotate_left; (focus (intro wS hSw; (try dsimp only at hSw); go_simp; (try with_reducible rfl))); (try simp only [Act.put, List.getElem_toArray, List.getElem_cons_zero, List.getElem_cons_succ, List.setIfInBounds_toArray, List.set_cons_zero, List.set_cons_succ]))
      (refine wpAnyH_take (i := 1) (v := ?_) rfl (by kernel_rfl) (by kernel_rfl) (by kernel_rfl) (fun _ _ _ h => h) (Or.inl ⟨by rfl, ?_⟩) (by assumption) ?_; rotate_left; (focus (intro wS hSw; (try dsimp only at hSw); go_simp; (try with_reducible rfl))); (try simp only [Act.put, List.getElem_toArray, List.getElem_cons_zero, List.getElem_cons_succ, List.setIfInBounds_toArray, List.set_cons_zero, List.set_cons_succ]))
      (refine wpAnyH_take (i := 2) (v := ?_) rfl (by kernel_rfl) (by kernel_rfl) (by kernel_rfl) (fun _ _ _ h => h) (Or.inl ⟨by rfl, ?_⟩) (by assumption) ?_; rotate_left; (focus (intro wS hSw; (try dsimp only at hSw); go_simp; (try with_reducible rfl))); (try simp only [Act.put, List.getElem_toArray, List.getElem_cons_zero, List.getElem_cons_succ, List.setIfInBounds_toArray, List.set_cons_zero, List.set_cons_succ]))
      (refine wpAnyH_ready (rs := [3]) (by kernel_rfl) (by simp) ?_; refine AllReadyH.cons rfl (fun K hK => ?_) AllReadyH.nil; go_simp)
      go_at_call 30
      refine (HDB.out _ _ _ HIA7.out HIX7.out).mono ?_
      rintro e w8 ⟨rfl, hb⟩
      have HG8 := Lib.hid (HG7.out.trans (Frm.pure hb (fun _ => False)))
      have HB8 := Lib.hid (HB7.out.trans (hb.mono (by omega)))
      have hq8 := Nat.le_trans hq6 hb.size
      clear hb c0 c1 g0 g1
      have HAC8 := Lib.hid (HAC.out.frmY HG8.out (fun h => h))
      have HBS8 := Lib.hid (HBS.out.frmY HG8.out (fun h => h))
      have HZC8 := Lib.hid (HZC.out.frmY HG8.out (fun h => h))
      have HRL8 := Lib.hid (HRL.out.frm HG8.out (fun h => h))
      obtain ⟨c0, c1, _, _, _⟩ := HAC8.out
      obtain ⟨g0, g1, _, _, _⟩ := HBS8.out
      obtain ⟨z0, z1, zf0, zf1, _⟩ := HZC8.out
      unfold RV.slc at g1
      dsimp only at g1
      go_wp2_with fail
      (refine hK.out _ _ ?_ (fun hHeld2 => ?_); (focus ((try dsimp only); exact ⟨c0, c1, g0, g1⟩)); (clear hK K); (try simp only [Act.put, List.getElem_toArray, List.getElem_cons_zero, List.getElem_cons_succ, List.setIfInBounds_toArray, List.set_cons_zero, List.set_cons_succ]))
      (refine wpAnyH_ready (rs := [4]) (by kernel_rfl) (by simp) ?_; refine AllReadyH.cons rfl (fun K hK => ?_) AllReadyH.nil; go_simp)
      have HS9 := Lib.hid ((HZC8.out.set0 (.int .i64 j)).set1 (.slice AX X.length cX))
      have HFS := Lib.hid ((Frm.setCell (S := fun c => c = q + 1) (p := ⟨q + 1, 0, none⟩) (Frm.refl _ w8) rfl (.int .i64 j)).setCell (p := ⟨q + 1, 1, none⟩) rfl (.slice AX X.length cX))
      have HAC9 := Lib.hid (HAC8.out.frmY HFS.out (show ¬ q = q + 1 by omega))
      have HBS9 := Lib.hid (HBS8.out.frmY HFS.out (show ¬ ge + 1 = q + 1 by omega))
      have HRL9 := Lib.hid (HRL8.out.frm HFS.out (show ¬ bX = q + 1 from hrb.1))
      have HB9 := Lib.hid (HB8.out.trans (HFS.out.below (B := q) (fun c h => by have h : c = q + 1 := h; omega) (by omega)))
      clear c0 c1 g0 g1 z0 z1
      obtain ⟨c0, c1, _, _, _⟩ := HAC9.out
      obtain ⟨g0, g1, _, _, _⟩ := HBS9.out
      obtain ⟨z0, z1, _, _, _⟩ := HS9.out
      unfold RV.slc at g1
      dsimp only at g1
      (refine hK.out _ _ ?_ (fun hHeld2 => ?_); (focus ((try dsimp only); exact ⟨c0, c1, g0, g1⟩)); (clear hK K); (try simp only [Act.put, List.getElem_toArray, List.getElem_cons_zero, List.getElem_cons_succ, List.setIfInBounds_toArray, List.set_cons_zero, List.set_cons_succ]))
      (refine wpAnyH_take (i := 5) (v := ?_) rfl (by kernel_rfl) (by kernel_rfl) (by kernel_rfl) (fun _ _ _ h => h) (Or.inl ⟨by rfl, ?_⟩) (by assumption) ?_; rotate_left; (focus (intro wS hSw; (try dsimp only at hSw); go_simp; (try with_reducible rfl))); (try simp only [Act.put, List.getElem_toArray, List.getElem_cons_zero, List.getElem_cons_succ, List.setIfInBounds_toArray, List.set_cons_zero, List.set_cons_succ]))
      refine wpAnyH_done (by kernel_rfl) ?_ _
      go_wp2_with fail
      refine bodyPost_ret (v := .tuple #[.agg #[.int .i64 j, .slice AX X.length cX], .int .i64 F]) (by simp [results, Tryz.results13, go_sem, z0, z1]) rfl ?_
      rw [HFF.out, HVX.out]
      exact ⟨AX, cX, rfl, by rw [HQ.out]; exact HRL9.out.rw', by rw [HQ.out]; exact HB9.out⟩

end Go.Proofs.YtabjklhnghdfoaaGreatDoor

namespace Go.Proofs.YtabjklhnghdfoaaGreatDoor
set_option linter.unusedVariables false
set_option linter.unusedSimpArgs false

/-- k nibbles of c. -/
def nibs (c : Nat) : Nat → Nat
  | 0 => 0
  | k + 1 => c + 16 * nibs c k
def pop1 (k x : Nat) : Nat := (x / 2 &&& nibs 5 k) + (x &&& nibs 5 k)
def pop2 (k y : Nat) : Nat := (y / 4 &&& nibs 3 k) + (y &&& nibs 3 k)
def nib1 (n : Nat) : Nat := (n / 2 &&& 5) + (n &&& 5)
def nib2 (p : Nat) : Nat := (p / 4 &&& 3) + (p &&& 3)
theorem and_nib (a c m : Nat) (hc : c < 16) : a &&& (c + 16 * m) = (a % 16 &&& c) + 16 * (a / 16 &&& m) := by
  have h1 := @Nat.and_mod_two_pow a (c + 16 * m) 4
  have h2 := @Nat.and_div_two_pow a (c + 16 * m) 4
  rw [show (2 : Nat) ^ 4 = 16 from rfl] at h1 h2
  rw [show (c + 16 * m) % 16 = c by omega] at h1
  rw [show (c + 16 * m) / 16 = m by omega] at h2
  have := Nat.div_add_mod (a &&& (c + 16 * m)) 16
  rw [h1, h2] at this
  omega
theorem and5 : ∀ n < 16, ∀ e < 2, (n / 2 + 8 * e) &&& 5 = n / 2 &&& 5 := by decide
theorem and3 : ∀ n < 16, ∀ e < 4, (n / 4 + 4 * e) &&& 3 = n / 4 &&& 3 := by decide
theorem pop1_succ (k x : Nat) : pop1 (k + 1) x = nib1 (x % 16) + 16 * pop1 k (x / 16) := by
  unfold pop1 nib1
  rw [show nibs 5 (k + 1) = 5 + 16 * nibs 5 k from rfl, and_nib (x / 2) 5 _ (by decide), and_nib x 5 _ (by decide)]
  rw [show x / 2 % 16 = x % 16 / 2 + 8 * (x / 16 % 2) by omega, and5 _ (by omega) _ (by omega), show x / 2 / 16 = x / 16 / 2 by omega]
  omega
theorem pop2_succ (k p Y : Nat) (hp : p < 16) : pop2 (k + 1) (p + 16 * Y) = nib2 p + 16 * pop2 k Y := by
  unfold pop2 nib2
  rw [show nibs 3 (k + 1) = 3 + 16 * nibs 3 k from rfl, and_nib ((p + 16 * Y) / 4) 3 _ (by decide), and_nib (p + 16 * Y) 3 _ (by decide)]
  rw [show (p + 16 * Y) / 4 % 16 = p / 4 + 4 * (Y % 4) by omega, and3 _ hp _ (by omega), show (p + 16 * Y) / 4 / 16 = Y / 4 by omega, show (p + 16 * Y) % 16 = p by omega, show (p + 16 * Y) / 16 = Y by omega]
  omega
theorem nib1_lt : ∀ n < 16, nib1 n < 16 := by decide
def popZ (k x : Nat) : Nat := pop2 k (pop1 k x)
def popN (n : Nat) : Nat := n % 2 + n / 2 % 2 + n / 4 % 2 + n / 8 % 2
theorem nib_pop : ∀ n < 16, nib2 (nib1 n) = popN n := by decide
theorem popZ_succ (k x : Nat) : popZ (k + 1) x = popN (x % 16) + 16 * popZ k (x / 16) := by
  unfold popZ
  rw [pop1_succ, pop2_succ _ _ _ (nib1_lt _ (by omega)), nib_pop _ (by omega)]
theorem popN_le (n : Nat) : popN n ≤ 4 := by unfold popN; omega
/-- What the library makes of the nibbles. -/
def popE (u : Nat) : Nat := (let v := u + u / 256; let v2 := v + v / 65536; v2 + v2 / 4294967296)
theorem popE_sum (a b c : Nat) (ha : a ≤ 8) (hb : b ≤ 8) (hc : c ≤ 8) : popE (a + 256 * b + 65536 * c) % 128 = a + b + c := by
  unfold popE
  simp only []
  have e1 : (a + 256 * b + 65536 * c) / 256 = b + 256 * c := by omega
  rw [e1]
  have e2 : (a + 256 * b + 65536 * c + (b + 256 * c)) / 65536 = c := by omega
  rw [e2]
  have e3 : (a + 256 * b + 65536 * c + (b + 256 * c) + c) / 4294967296 = 0 := by omega
  rw [e3]
  omega
def nib0F : Nat := 15 + 16 * (0 + 16 * (15 + 16 * (0 + 16 * (15 + 16 * (0 + 16 * 0)))))
theorem and15 : ∀ n < 16, n &&& 15 = n := by decide
theorem pop_fold (n0 n1 n2 n3 n4 n5 M : Nat) (h0 : n0 ≤ 4) (h1 : n1 ≤ 4) (h2 : n2 ≤ 4) (h3 : n3 ≤ 4) (h4 : n4 ≤ 4) (h5 : n5 ≤ 4) (z : Nat) (hz : z = n0 + 16 * (n1 + 16 * (n2 + 16 * (n3 + 16 * (n4 + 16 * n5))))) :
    (z / 16 + z) &&& (15 + 16 * (0 + 16 * (15 + 16 * (0 + 16 * (15 + 16 * (0 + 16 * M)))))) = (n0 + n1) + 256 * (n2 + n3) + 65536 * (n4 + n5) := by
  have e : z / 16 + z = (n0 + n1) + 16 * ((n1 + n2) + 16 * ((n2 + n3) + 16 * ((n3 + n4) + 16 * ((n4 + n5) + 16 * n5)))) := by omega
  rw [e]
  have st : ∀ (s r c m : Nat), s < 16 → c < 16 → (s + 16 * r) &&& (c + 16 * m) = (s &&& c) + 16 * (r &&& m) := fun s r c m hs hc => by
    rw [and_nib _ c m hc, show (s + 16 * r) % 16 = s by omega, show (s + 16 * r) / 16 = r by omega]
  rw [st _ _ _ _ (by omega) (by omega), st _ _ _ _ (by omega) (by omega), st _ _ _ _ (by omega) (by omega), st _ _ _ _ (by omega) (by omega), st _ _ _ _ (by omega) (by omega)]
  rw [and15 _ (by omega), and15 _ (by omega), and15 _ (by omega), Nat.and_zero, Nat.and_zero]
  have hl : n5 &&& (0 + 16 * M) = 0 := by
    have := and_nib n5 0 M (by decide)
    rw [show n5 / 16 = 0 by omega, Nat.zero_and, Nat.and_zero] at this
    exact this
  rw [hl]
  omega
/-- The number of bits set among the first m. -/
def bitsN (x : Nat) : Nat → Nat
  | 0 => 0
  | m + 1 => bitsN x m + (if x.testBit m = true then 1 else 0)

end Go.Proofs.YtabjklhnghdfoaaGreatDoor

namespace Go.Proofs.YtabjklhnghdfoaaGreatDoor
open Go.RowKit
set_option linter.unusedVariables false
set_option linter.unusedSimpArgs false

theorem u64w {x : Int} (h : 0 ≤ x ∧ x < 18446744073709551616) : IntKind.u64.wrap x = x := by
  rw [IntKind.wrap_u64]; omega
theorem ofInt_u64 (a : Nat) (ha : a < 18446744073709551616) : (BitVec.ofInt 64 (a : Int)).toNat = a := by
  rw [BitVec.toNat_ofInt]; omega
theorem u64_and_nat (a b : Nat) (ha : a < 18446744073709551616) (hb : b < 18446744073709551616) : bits .and .u64 (a : Int) (b : Int) = ((a &&& b : Nat) : Int) := by
  have hx : a &&& b < 2 ^ 64 := Nat.and_lt_two_pow _ (by omega)
  show IntKind.u64.wrap ((BitVec.ofInt 64 (a : Int) &&& BitVec.ofInt 64 (b : Int)).toNat : Int) = _
  rw [BitVec.toNat_and, ofInt_u64 a ha, ofInt_u64 b hb]
  exact u64w (by omega)

/-- The number of bits of a number below 2^24, nibble by nibble. -/
def popX (x : Nat) : Nat := popN (x % 16) + popN (x / 16 % 16) + popN (x / 256 % 16) + popN (x / 4096 % 16) + popN (x / 65536 % 16) + popN (x / 1048576 % 16)
theorem pop1_zero (k : Nat) : pop1 k 0 = 0 := by unfold pop1; simp
theorem pop2_zero (k : Nat) : pop2 k 0 = 0 := by unfold pop2; simp
theorem pop_all (x : Nat) (hx : x < 16777216) : popE ((popZ 16 x / 16 + popZ 16 x) &&& 1085102592571150095) % 128 = popX x ∧ popZ 16 x < 268435456 := by
  have hz : popZ 16 x = popN (x % 16) + 16 * (popN (x / 16 % 16) + 16 * (popN (x / 256 % 16) + 16 * (popN (x / 4096 % 16) + 16 * (popN (x / 65536 % 16) + 16 * popN (x / 1048576 % 16))))) := by
    rw [popZ_succ, popZ_succ, popZ_succ, popZ_succ, popZ_succ, popZ_succ]
    simp only [Nat.div_div_eq_div_mul]
    rw [show x / (16 * 16 * 16 * 16 * 16 * 16) = 0 by omega]
    rw [show popZ 10 0 = 0 by unfold popZ; rw [pop1_zero, pop2_zero]]
    simp only [Nat.reduceMul, Nat.mul_zero, Nat.add_zero]
  have l0 := popN_le (x % 16)
  have l1 := popN_le (x / 16 % 16)
  have l2 := popN_le (x / 256 % 16)
  have l3 := popN_le (x / 4096 % 16)
  have l4 := popN_le (x / 65536 % 16)
  have l5 := popN_le (x / 1048576 % 16)
  refine ⟨?_, by omega⟩
  have hf := pop_fold _ _ _ _ _ _ 64677154575 l0 l1 l2 l3 l4 l5 _ hz
  rw [show (15 + 16 * (0 + 16 * (15 + 16 * (0 + 16 * (15 + 16 * (0 + 16 * 64677154575))))) : Nat) = 1085102592571150095 from rfl] at hf
  rw [hf, popE_sum _ _ _ (by omega) (by omega) (by omega)]
  unfold popX
  omega

set_option maxRecDepth 100000 in
set_option maxHeartbeats 1000000 in
theorem bits_OnesCount64_any (x : Nat) (w : World) (hx : x < 16777216) :
    Calls Tryz.prog 68 #[.int .u64 x] w fun e w' => e = .returned (.int .i64 (popX x)) ∧ w = w' := by
  obtain ⟨hp, hzl⟩ := pop_all x hx
  have hA1 := u64_and_nat (x / 2) 6148914691236517205 (by omega) (by omega)
  have hA2 := u64_and_nat x 6148914691236517205 (by omega) (by omega)
  have l1 : x / 2 &&& 6148914691236517205 ≤ x / 2 := Nat.and_le_left
  have l2 : x &&& 6148914691236517205 ≤ x := Nat.and_le_left
  have hy : (x / 2 &&& 6148914691236517205) + (x &&& 6148914691236517205) = pop1 16 x := rfl
  obtain ⟨a1, ha1⟩ : ∃ a, x / 2 &&& 6148914691236517205 = a := ⟨_, rfl⟩
  obtain ⟨a2, ha2⟩ : ∃ a, x &&& 6148914691236517205 = a := ⟨_, rfl⟩
  rw [ha1] at hA1 l1 hy
  rw [ha2] at hA2 l2 hy
  have hw1 : IntKind.u64.wrap ((a1 : Int) + a2) = (a1 : Int) + a2 := u64w (by omega)
  obtain ⟨y, hyy⟩ : ∃ y, a1 + a2 = y := ⟨_, rfl⟩
  have hy0 : (a1 : Int) + a2 = (y : Int) := by omega
  have hz0 : popZ 16 x = (y / 4 &&& 3689348814741910323) + (y &&& 3689348814741910323) := by unfold popZ; rw [← hy, hyy]; rfl
  have hB1 := u64_and_nat (y / 4) 3689348814741910323 (by omega) (by omega)
  have hB2 := u64_and_nat y 3689348814741910323 (by omega) (by omega)
  have l3 : y / 4 &&& 3689348814741910323 ≤ y / 4 := Nat.and_le_left
  have l4 : y &&& 3689348814741910323 ≤ y := Nat.and_le_left
  obtain ⟨b1, hb1⟩ : ∃ a, y / 4 &&& 3689348814741910323 = a := ⟨_, rfl⟩
  obtain ⟨b2, hb2⟩ : ∃ a, y &&& 3689348814741910323 = a := ⟨_, rfl⟩
  rw [hb1] at hB1 l3 hz0
  rw [hb2] at hB2 l4 hz0
  have hw2 : IntKind.u64.wrap ((b1 : Int) + b2) = (b1 : Int) + b2 := u64w (by omega)
  obtain ⟨z, hzz⟩ : ∃ z, b1 + b2 = z := ⟨_, rfl⟩
  have hz1 : (b1 : Int) + b2 = (z : Int) := by omega
  rw [hz0, hzz] at hp
  have hC := u64_and_nat (z / 16 + z) 1085102592571150095 (by omega) (by omega)
  have l5 : (z / 16 + z) &&& 1085102592571150095 ≤ z / 16 + z := Nat.and_le_left
  have hw3 : IntKind.u64.wrap ((z : Int) / 16 + z) = (z : Int) / 16 + z := u64w (by omega)
  have hc0 : (z : Int) / 16 + z = ((z / 16 + z : Nat) : Int) := by omega
  obtain ⟨u, hu⟩ : ∃ u, (z / 16 + z) &&& 1085102592571150095 = u := ⟨_, rfl⟩
  rw [hu] at hC l5 hp
  rw [← hc0] at hC
  rw [Int.natCast_ediv] at hA1 hB1
  replace hA1 : bits .and .u64 ((x : Int) / 2) 6148914691236517205 = (a1 : Int) := hA1
  replace hA2 : bits .and .u64 (x : Int) 6148914691236517205 = (a2 : Int) := hA2
  replace hB1 : bits .and .u64 ((y : Int) / 4) 3689348814741910323 = (b1 : Int) := hB1
  replace hB2 : bits .and .u64 (y : Int) 3689348814741910323 = (b2 : Int) := hB2
  replace hC : bits .and .u64 ((z : Int) / 16 + z) 1085102592571150095 = (u : Int) := hC
  obtain ⟨v, hv⟩ : ∃ v, u + u / 256 = v := ⟨_, rfl⟩
  obtain ⟨t, ht⟩ : ∃ t, v + v / 65536 = t := ⟨_, rfl⟩
  have hv1 : (u : Int) + (u : Int) / 256 = (v : Int) := by omega
  have ht1 : (v : Int) + (v : Int) / 65536 = (t : Int) := by omega
  have hs1 : (t : Int) + (t : Int) / 4294967296 = (t : Int) := by omega
  have hwv : IntKind.u64.wrap (v : Int) = (v : Int) := u64w (by omega)
  have hwt : IntKind.u64.wrap (t : Int) = (t : Int) := u64w (by omega)
  have hwi : IntKind.i64.wrap (t : Int) = (t : Int) := i64w (by omega)
  have hD := i64_and_nat t 127 (by omega) (by omega)
  rw [show t &&& 127 = t % 128 from Nat.and_two_pow_sub_one_eq_mod t 7] at hD
  replace hD : bits .and .i64 (t : Int) 127 = ((t % 128 : Nat) : Int) := hD
  have hpe : popE u = t := by
    unfold popE
    simp only []
    rw [hv, ht]; omega
  rw [hpe] at hp
  rw [hp] at hD
  clear hv ht hpe
  have HP := Lib.hid hp
  clear hp hu hz0 hzl hc0 hzz hyy hb1 hb2 ha1 ha2 hy
  go_enter Tryz.func68, Tryz.ntmps68
  go_wp2
  go_ret
  exact ⟨rfl, rfl⟩

end Go.Proofs.YtabjklhnghdfoaaGreatDoor

namespace Go.Proofs.YtabjklhnghdfoaaGreatDoor
open Go.RowKit
set_option linter.unusedVariables false
set_option linter.unusedSimpArgs false

def comN (a b : List Int) : Nat → Nat
  | 0 => 0
  | i + 1 => comN a b i + (if hasB b (a.getD i 0) = true then 1 else 0)
theorem comN_le (a b : List Int) : ∀ i, comN a b i ≤ i
  | 0 => Nat.le_refl _
  | i + 1 => by
    have := comN_le a b i
    unfold comN
    split <;> omega

set_option maxRecDepth 100000 in
set_option maxHeartbeats 1000000 in
theorem spec_l05Common_any (n m : Int) (A B : Option Addr) (ca cb : Nat) (a b : List Int) (w : World) (hA : Ints w w.heap.size A a) (hB : Ints w w.heap.size B b) (hl : a.length ≤ 24) :
    Calls Tryz.prog 29 #[.agg #[.int .i64 n, .slice A a.length ca], .agg #[.int .i64 m, .slice B b.length cb]] w fun e w' => e = .returned (.int .i64 (comN a b a.length)) ∧ Below w.heap.size w w' := by
  have hal0 := (Below.refl w.heap.size w).alloc (Nat.le_refl _) (.cells #[.int .i64 n, .slice A a.length ca] 27)
  have hal1 := hal0.alloc hal0.size (.cells #[.int .i64 m, .slice B b.length cb] 27)
  have HC0 := Lib.hid ((Cells2.new w (.int .i64 n) (.slice A a.length ca) 27).alloc (.cells #[.int .i64 m, .slice B b.length cb] 27))
  have HD0 := Lib.hid (Cells2.new_at (w.alloc (.cells #[.int .i64 n, .slice A a.length ca] 27)) (.int .i64 m) (.slice B b.length cb) 27 (w.heap.size + 1) (by simp))
  have HB0 := Lib.hid hal1
  have HIA := Lib.hid (hA.lift hal1)
  have HIB := Lib.hid (hB.lift hal1)
  clear hA hB hal0 hal1
  obtain ⟨c0, c1, _, _, _⟩ := HC0.out
  obtain ⟨d0, d1, _, _, _⟩ := HD0.out
  go_enter Tryz.func29, Tryz.ntmps29
  go_wp2_with fail
  generalize (w.alloc (.cells #[.int .i64 n, .slice A a.length ca] 27)).alloc (.cells #[.int .i64 m, .slice B b.length cb] 27) = w0 at *
  have HIAX := Lib.hid HIA.out.2.2
  go_loopw [5, 11] (fun so i wr => ∃ j : Nat, j ≤ a.length ∧ i = .int .i64 j ∧ so = .int .i64 (comN a b j : Nat) ∧ wr = w0) (fun _ i _ => a.length - (intOf i).toNat)
  case atStart => exact ⟨0, Nat.zero_le _, rfl, rfl, rfl⟩
  case round =>
    obtain ⟨j, hj, rfl, rfl, rfl⟩ := hrel
    have hcl := comN_le a b j
    by_cases hlt : j < a.length
    · obtain ⟨bA, oA, rfl, hAB, hac⟩ := HIAX.out (by omega)
      have hcell := hac j hlt
      have HSU := Lib.hid (show comN a b (j + 1) = comN a b j + (if hasB b (a.getD j 0) = true then 1 else 0) from rfl)
      obtain ⟨p, hp⟩ : ∃ p, a.getD j 0 = p := ⟨_, rfl⟩
      rw [hp] at hcell HSU
      obtain ⟨C, hC⟩ : ∃ C, comN a b j = C := ⟨_, rfl⟩
      rw [hC] at HSU hcl ⊢
      have hw1 : IntKind.i64.wrap ((C : Int) + 1) = (C : Int) + 1 := i64w (by omega)
      have HHS := Lib.hid (fun V (hV : Ints V V.heap.size B b) => spec_l02Has_any B cb b p V V.heap.size hV)
      clear hac hp hC
      cases hh : hasB b p
      · rw [hh] at HHS HSU
        clear hh
        go_wp2_with (go_at_call 31; refine (HHS.out _ HIB.out).mono ?_; rintro e w' ⟨rfl, rfl⟩)
        go_roundw
        case rel => exact ⟨j + 1, by omega, by go_num, by rw [HSU.out]; rfl, trivial⟩
        case measure => simp [intOf]; omega
      · rw [hh] at HHS HSU
        clear hh
        go_wp2_with (go_at_call 31; refine (HHS.out _ HIB.out).mono ?_; rintro e w' ⟨rfl, rfl⟩)
        go_roundw
        case rel => exact ⟨j + 1, by omega, by go_num, by rw [HSU.out]; rfl, trivial⟩
        case measure => simp [intOf]; omega
    · have hje : j = a.length := by omega
      have HV := Lib.hid (show comN a b j = comN a b a.length by rw [hje])
      have hli : ¬ (j : Int) < (a.length : Int) := by omega
      rw [HV.out]
      obtain ⟨C, hC⟩ : ∃ C, comN a b a.length = C := ⟨_, rfl⟩
      have HCC := Lib.hid hC
      rw [hC]
      clear hje hC
      go_wp2_with fail
      go_ret
      exact ⟨ret_int (by rw [HCC.out]), HB0.out⟩

end Go.Proofs.YtabjklhnghdfoaaGreatDoor

namespace Go.Proofs.YtabjklhnghdfoaaGreatDoor
open Go.RowKit
set_option linter.unusedVariables false
set_option linter.unusedSimpArgs false

theorem bit_mod (x m : Nat) : (if x.testBit m = true then 1 else 0) = x / 2 ^ m % 2 := by
  rw [Nat.testBit_eq_decide_div_mod_eq]
  by_cases h : x / 2 ^ m % 2 = 1
  · rw [h]; simp
  · have : x / 2 ^ m % 2 = 0 := by omega
    rw [this]; simp
theorem bitsN_succ (x m : Nat) : bitsN x (m + 1) = bitsN x m + x / 2 ^ m % 2 := by
  rw [← bit_mod]; rfl
theorem bitsN_nib (x : Nat) : ∀ m, bitsN x (4 + m) = popN (x % 16) + bitsN (x / 16) m
  | 0 => by
    show bitsN x 4 = _ + 0
    rw [bitsN_succ, bitsN_succ, bitsN_succ, bitsN_succ, show bitsN x 0 = 0 from rfl]
    unfold popN
    simp only [Nat.reducePow]
    omega
  | m + 1 => by
    rw [show 4 + (m + 1) = 4 + m + 1 from rfl, bitsN_succ, bitsN_nib x m, bitsN_succ (x / 16) m, Nat.div_div_eq_div_mul, Nat.pow_add, show (2 : Nat) ^ 4 = 16 from rfl]
    omega
theorem popX_bits (x : Nat) : popX x = bitsN x 24 := by
  rw [bitsN_nib x 20, bitsN_nib (x / 16) 16, bitsN_nib (x / 16 / 16) 12, bitsN_nib (x / 16 / 16 / 16) 8, bitsN_nib (x / 16 / 16 / 16 / 16) 4, bitsN_nib (x / 16 / 16 / 16 / 16 / 16) 0]
  rw [show bitsN (x / 16 / 16 / 16 / 16 / 16 / 16) 0 = 0 from rfl]
  simp only [Nat.div_div_eq_div_mul, Nat.reduceMul]
  unfold popX
  omega
theorem bitsN_filter (x : Nat) : ∀ m, bitsN x m = ((List.range m).filter fun j => x.testBit j).length
  | 0 => rfl
  | m + 1 => by
    have ih := bitsN_filter x m
    rw [List.range_succ, List.filter_append, List.length_append, ← ih]
    show bitsN x m + (if x.testBit m = true then 1 else 0) = _
    cases h : x.testBit m <;> simp [h]
theorem comN_filter (a b : List Int) : ∀ i, i ≤ a.length → comN a b i = ((a.take i).filter (hasB b)).length
  | 0, _ => rfl
  | i + 1, h => by
    have ih := comN_filter a b i (by omega)
    rw [List.take_succ_eq_append_getElem (by omega), List.filter_append, List.length_append, ← ih]
    show comN a b i + (if hasB b (a.getD i 0) = true then 1 else 0) = _
    rw [List.getD_eq_getElem?_getD, List.getElem?_eq_getElem (by omega : i < a.length)]
    show comN a b i + (if hasB b a[i] = true then 1 else 0) = _
    cases h2 : hasB b a[i] <;> simp [h2]
theorem com_bits {N : Nat} {a b : List Int} (ha : RhOk N a) (hb : RhOk N b) : popX (codI N a &&& codI N b) = comN a b a.length := by
  have hN : N ≤ 24 := by have := ha.2.1; omega
  rw [popX_bits, bitsN_filter, comN_filter a b _ (Nat.le_refl _), List.take_length]
  have hp : (((List.range 24).filter fun j => (codI N a &&& codI N b).testBit j).map fun j : Nat => (N : Int) - 1 - (j : Int)).Perm (a.filter (hasB b)) := by
    refine (List.perm_ext_iff_of_nodup ?_ ?_).2 fun p => ?_
    · have hf : ((List.range 24).filter fun j => (codI N a &&& codI N b).testBit j).Pairwise (fun x y : Nat => x ≠ y) := List.Pairwise.filter _ (@List.nodup_range 24)
      refine List.pairwise_map.2 (List.Pairwise.imp (R := fun x y : Nat => x ≠ y) ?_ hf)
      intro x y h e
      exact h (by omega)
    · exact List.Pairwise.filter _ (show a.Pairwise (fun x y => x ≠ y) from asc_nodup (rhok_asc ha))
    · rw [List.mem_map, List.mem_filter]
      constructor
      · rintro ⟨j, hj, rfl⟩
        rw [List.mem_filter, Nat.testBit_and, Bool.and_eq_true] at hj
        obtain ⟨_, h1, h2⟩ := hj
        have hjn : j < N := by
          rcases Nat.lt_or_ge j N with h | h
          · exact h
          · rw [codI_out ha j h] at h1; cases h1
        rw [codI_bit ha j hjn] at h1
        rw [codI_bit hb j hjn] at h2
        unfold hasB at h1
        exact ⟨of_decide_eq_true h1, h2⟩
      · rintro ⟨h1, h2⟩
        have hr := rhok_range ha p h1
        obtain ⟨j, hj⟩ := Int.eq_ofNat_of_zero_le (show 0 ≤ (N : Int) - 1 - p by omega)
        refine ⟨j, ?_, by omega⟩
        rw [List.mem_filter, Nat.testBit_and, Bool.and_eq_true, codI_bit ha j (by omega), codI_bit hb j (by omega), show (N : Int) - 1 - j = p by omega]
        exact ⟨List.mem_range.2 (by omega), by unfold hasB; exact decide_eq_true h1, h2⟩
  have := hp.length_eq
  rwa [List.length_map] at this

end Go.Proofs.YtabjklhnghdfoaaGreatDoor

namespace Go.Proofs.YtabjklhnghdfoaaGreatDoor
open Go.RowKit
set_option linter.unusedVariables false
set_option linter.unusedSimpArgs false

theorem i64_or_pow2 (m v : Nat) (hm : m < 16777216) (hv : v < 24) : bits BinOp.or IntKind.i64 (m : Int) (wrap64 (2 ^ v)) = ((m ||| 2 ^ v : Nat) : Int) := by
  have h2 : (2 : Nat) ^ v < 2 ^ 24 := Nat.pow_lt_pow_right (by omega) hv
  have e : wrap64 (2 ^ v) = ((2 ^ v : Nat) : Int) := by
    rw [show ((2 : Int) ^ v) = ((2 ^ v : Nat) : Int) by simp]
    generalize 2 ^ v = x at h2
    unfold wrap64
    omega
  rw [e]
  exact i64_or_nat m (2 ^ v) (by omega) (by omega)

set_option maxRecDepth 100000 in
set_option maxHeartbeats 1000000 in
theorem impl_code_any (n : Int) (A : Option Addr) (cap : Nat) (bs : List Int) (w : World) (hA : Ints w w.heap.size A bs) (hok : RhOk n bs) :
    Calls Tryz.prog 53 #[.agg #[.int .i64 n, .slice A bs.length cap]] w fun e w' => e = .returned (.int .i64 (codeN n bs bs.length)) ∧ Below w.heap.size w w' := by
  have hlen := hA.1
  unfold maxLen at hlen
  have HC := Lib.hid hA.2.2
  have hn1 := hok.1
  have hn2 := hok.2.1
  have HOK := Lib.hid hok
  obtain ⟨c0, c1⟩ := box2 (Below.refl (w.heap.size + 1) (w.alloc (.cells #[.int .i64 n, .slice A bs.length cap] 27)))
  have HB := Lib.hid ((Below.refl w.heap.size w).alloc (Nat.le_refl _) (.cells #[.int .i64 n, .slice A bs.length cap] 27))
  clear hA hok
  go_enter Tryz.func53, Tryz.ntmps53
  go_wp2_with fail
  go_loop [3, 9] (fun m i => ∃ k : Nat, k ≤ bs.length ∧ i = .int .i64 k ∧ m = .int .i64 (codeN n bs k)) (fun _ i => bs.length - (intOf i).toNat)
  case atStart => exact ⟨0, Nat.zero_le _, rfl, rfl⟩
  case round =>
    obtain ⟨k, hk, rfl, rfl⟩ := hrel
    by_cases hlt : k < bs.length
    · obtain ⟨b, off, rfl, hB, hc⟩ := HC.out (by omega)
      have hcell := (HB.out.cell (p := ⟨b, off + k, none⟩) hB).trans (hc k hlt)
      have hx0 := HOK.out.2.2.1 k hlt
      have hsu : codeN n bs (k + 1) = codeN n bs k ||| 2 ^ (n - 1 - bs.getD k 0).toNat := rfl
      have hcl := codeN_lt n bs (by omega) HOK.out.2.2.1 k (by omega)
      have hcl2 : codeN n bs k < 16777216 := Nat.lt_of_lt_of_le hcl (Nat.le_trans (Nat.pow_le_pow_right (by omega) (show n.toNat ≤ 24 by omega)) (by decide))
      clear hcl
      obtain ⟨x, hx⟩ : ∃ x, bs.getD k 0 = x := ⟨_, rfl⟩
      rw [hx] at hcell hx0 hsu
      obtain ⟨hx1, hx2⟩ := hx0
      obtain ⟨v, hv⟩ : ∃ v : Nat, n - 1 - x = v := ⟨(n - 1 - x).toNat, by omega⟩
      have hv24 : v < 24 := by omega
      have hor := i64_or_pow2 (codeN n bs k) v hcl2 hv24
      rw [hv, Int.toNat_natCast] at hsu
      rw [← hsu] at hor
      have hx3 : x = n - 1 - v := by omega
      obtain ⟨M', hM'⟩ : ∃ M', codeN n bs (k + 1) = M' := ⟨_, rfl⟩
      rw [hM'] at hor
      have HM' := Lib.hid hM'
      have hw1 : IntKind.i64.wrap (n - 1 - x) = (v : Int) := by rw [hv]; exact i64w (by omega)
      generalize codeN n bs k = M at hor hcl2 ⊢
      clear hc hx hsu hM' hx3
      go_wp2_with fail
      go_round
      case rel => exact ⟨k + 1, by omega, by go_num, by rw [HM'.out]⟩
      case measure => simp [intOf]; omega
    · have hke : k = bs.length := by omega
      subst hke
      go_wp2_with fail
      go_ret
      exact ⟨rfl, HB.out⟩

end Go.Proofs.YtabjklhnghdfoaaGreatDoor

namespace Go.Proofs.YtabjklhnghdfoaaGreatDoor
open Go.RowKit
set_option linter.unusedVariables false
set_option linter.unusedSimpArgs false

set_option maxRecDepth 100000 in
set_option maxHeartbeats 1000000 in
theorem bits_OnesCount_any (x : Nat) (w : World) (hx : x < 16777216) :
    Calls Tryz.prog 52 #[.int .u64 x] w fun e w' => e = .returned (.int .i64 (popX x)) ∧ w = w' := by
  have HC := Lib.hid (fun V => bits_OnesCount64_any x V hx)
  go_enter Tryz.func52, Tryz.ntmps52
  go_wp2_with (go_at_call 68; refine (HC.out _).mono ?_; rintro e w' ⟨rfl, rfl⟩)
  go_ret
  exact ⟨rfl, rfl⟩

theorem cells2_frm {w w' : World} {g : Nat} {u v : Value} {S : Nat → Prop} (h : Cells2 w g u v) (hf : Frm S w w') (hS : ¬ S g) : Cells2 w' g u v :=
  ⟨(hf.cell h.2.2.2.2 hS).trans h.1, (hf.cell h.2.2.2.2 hS).trans h.2.1, (hf.frozen h.2.2.2.2 hS).trans h.2.2.1, (hf.frozen h.2.2.2.2 hS).trans h.2.2.2.1, Nat.lt_of_lt_of_le h.2.2.2.2 hf.size⟩

set_option maxRecDepth 100000 in
set_option maxHeartbeats 1000000 in
theorem impl_common_any (n : Nat) (A B : Option Addr) (ca cb : Nat) (a b : List Int) (w : World) (hA : Ints w w.heap.size A a) (hB : Ints w w.heap.size B b) (ha : RhOk n a) (hb : RhOk n b) :
    Calls Tryz.prog 36 #[.agg #[.int .i64 n, .slice A a.length ca], .agg #[.int .i64 n, .slice B b.length cb]] w fun e w' => e = .returned (.int .i64 (comN a b a.length)) ∧ Below w.heap.size w w' := by
  have HCA := Lib.hid (fun V h => show Calls Tryz.prog 53 #[.agg #[.int .i64 n, .slice A a.length ca]] V (fun e w' => e = .returned (.int .i64 (codI n a)) ∧ Below V.heap.size V w') from impl_code_any n A ca a V h ha)
  have HCB := Lib.hid (fun V h => show Calls Tryz.prog 53 #[.agg #[.int .i64 n, .slice B b.length cb]] V (fun e w' => e = .returned (.int .i64 (codI n b)) ∧ Below V.heap.size V w') from impl_code_any n B cb b V h hb)
  have hc := com_bits ha hb
  have l1 := codI_small ha
  have l2 := codI_small hb
  have hle : codI n a &&& codI n b ≤ codI n a := Nat.and_le_left
  have hand := i64_and_nat (codI n a) (codI n b) (by omega) (by omega)
  generalize codI n a = C at *
  generalize codI n b = D at *
  have HON := Lib.hid (fun V => bits_OnesCount_any (C &&& D) V (by omega))
  rw [hc] at HON
  obtain ⟨X, hX⟩ : ∃ X, C &&& D = X := ⟨_, rfl⟩
  rw [hX] at HON hand hle
  have hwu : IntKind.u64.wrap (X : Int) = (X : Int) := u64w (by omega)
  clear hc hX
  have hal0 := (Below.refl w.heap.size w).alloc (Nat.le_refl _) (.cells #[.int .i64 n, .slice A a.length ca] 27)
  have hal1 := hal0.alloc hal0.size (.cells #[.int .i64 n, .slice B b.length cb] 27)
  have HC0 := Lib.hid ((Cells2.new w (.int .i64 n) (.slice A a.length ca) 27).alloc (.cells #[.int .i64 n, .slice B b.length cb] 27))
  have HD0 := Lib.hid (Cells2.new_at (w.alloc (.cells #[.int .i64 n, .slice A a.length ca] 27)) (.int .i64 n) (.slice B b.length cb) 27 (w.heap.size + 1) (by simp))
  have HB0 := Lib.hid hal1
  have HIA := Lib.hid (hA.lift hal1)
  have HIB := Lib.hid (hB.lift hal1)
  clear hA hB hal0 hal1
  obtain ⟨c0, c1, _, _, _⟩ := HC0.out
  obtain ⟨d0, d1, _, _, _⟩ := HD0.out
  go_enter Tryz.func36, Tryz.ntmps36
  go_wp2_with fail
  generalize (w.alloc (.cells #[.int .i64 n, .slice A a.length ca] 27)).alloc (.cells #[.int .i64 n, .slice B b.length cb] 27) = w0 at *
  obtain ⟨q, hq⟩ : ∃ q, w.heap.size = q := ⟨_, rfl⟩
  have HQ := Lib.hid hq
  rw [hq] at HC0 HD0 HB0 c0 c1 d0 d1 ⊢
  clear hq
  (refine wp_region_held_drew (S := (fun w' => w'.cell? ⟨q, 0, none⟩ = some (.int .i64 n) ∧ w'.cell? ⟨q, 1, none⟩ = some (.slice A a.length ca) ∧ w'.cell? ⟨q + 1, 0, none⟩ = some (.int .i64 n) ∧ w'.cell? ⟨q + 1, 1, none⟩ = some (.slice B b.length cb))) (by kernel_rfl) ?_ (fun hHeld => ?_); (focus ((try dsimp only); exact ⟨c0, c1, d0, d1⟩)))
  have HG1 := Lib.hid ((Frm.refl (fun _ => False) w0).drew)
  have HB1 := Lib.hid (Below.drew5_ HB0.out)
  have HIA1 := Lib.hid (show Ints w0.drew w0.drew.heap.size A a from HIA.out)
  have HIB1 := Lib.hid (show Ints w0.drew w0.drew.heap.size B b from HIB.out)
  have hq1 : q ≤ w0.drew.heap.size := by have := HC0.out.2.2.2.2; show q ≤ w0.heap.size; omega
  generalize w0.drew = w1 at *
  (refine wpAnyH_take (i := 0) (v := ?_) rfl (by kernel_rfl) (by kernel_rfl) (by kernel_rfl) (fun _ _ _ h => h) (Or.inl ⟨by rfl, ?_⟩) (by assumption) ?_; rotate_left; (focus (intro wS hSw; (try dsimp only at hSw); go_simp; (try with_reducible rfl))); (try simp only [Act.put, List.getElem_toArray, List.getElem_cons_zero, List.getElem_cons_succ, List.setIfInBounds_toArray, List.set_cons_zero, List.set_cons_succ]))
  (refine wpAnyH_take (i := 2) (v := ?_) rfl (by kernel_rfl) (by kernel_rfl) (by kernel_rfl) (fun _ _ _ h => h) (Or.inl ⟨by rfl, ?_⟩) (by assumption) ?_; rotate_left; (focus (intro wS hSw; (try dsimp only at hSw); go_simp; (try with_reducible rfl))); (try simp only [Act.put, List.getElem_toArray, List.getElem_cons_zero, List.getElem_cons_succ, List.setIfInBounds_toArray, List.set_cons_zero, List.set_cons_succ]))
  (refine wpAnyH_ready (rs := [1]) (by kernel_rfl) (by simp) ?_; refine AllReadyH.cons rfl (fun K hK => ?_) AllReadyH.nil; go_simp)
  go_at_call 53
  refine (HCA.out _ HIA1.out).mono ?_
  rintro e w2 ⟨rfl, hb⟩
  have HG2 := Lib.hid (HG1.out.trans (Frm.pure hb (fun _ => False)))
  have HB2 := Lib.hid (HB1.out.trans (hb.mono hq1))
  have HIB2 := Lib.hid (HIB1.out.lift hb)
  have hq2 := Nat.le_trans hq1 hb.size
  clear hb c0 c1 d0 d1
  obtain ⟨c0, c1, _, _, _⟩ := cells2_frm HC0.out HG2.out (fun h => h)
  obtain ⟨d0, d1, _, _, _⟩ := cells2_frm HD0.out HG2.out (fun h => h)
  go_wp2_with fail
  (refine hK.out _ _ ?_ (fun hHeld2 => ?_); (focus ((try dsimp only); exact ⟨c0, c1, d0, d1⟩)); (clear hK K); (try simp only [Act.put, List.getElem_toArray, List.getElem_cons_zero, List.getElem_cons_succ, List.setIfInBounds_toArray, List.set_cons_zero, List.set_cons_succ]))
  (refine wpAnyH_ready (rs := [3]) (by kernel_rfl) (by simp) ?_; refine AllReadyH.cons rfl (fun K hK => ?_) AllReadyH.nil; go_simp)
  go_at_call 53
  refine (HCB.out _ HIB2.out).mono ?_
  rintro e w3 ⟨rfl, hb⟩
  have HG3 := Lib.hid (HG2.out.trans (Frm.pure hb (fun _ => False)))
  have HB3 := Lib.hid (HB2.out.trans (hb.mono hq2))
  clear hb c0 c1 d0 d1
  obtain ⟨c0, c1, _, _, _⟩ := cells2_frm HC0.out HG3.out (fun h => h)
  obtain ⟨d0, d1, _, _, _⟩ := cells2_frm HD0.out HG3.out (fun h => h)
  go_wp2_with fail
  (refine hK.out _ _ ?_ (fun hHeld2 => ?_); (focus ((try dsimp only); exact ⟨c0, c1, d0, d1⟩)); (clear hK K); (try simp only [Act.put, List.getElem_toArray, List.getElem_cons_zero, List.getElem_cons_succ, List.setIfInBounds_toArray, List.set_cons_zero, List.set_cons_succ]))
  (refine wpAnyH_take (i := 4) (v := ?_) rfl (by kernel_rfl) (by kernel_rfl) (by kernel_rfl) (fun _ _ _ h => h) (Or.inl ⟨by rfl, ?_⟩) (by assumption) ?_; rotate_left; (focus (intro wS hSw; (try dsimp only at hSw); go_simp; (try with_reducible rfl))); (try simp only [Act.put, List.getElem_toArray, List.getElem_cons_zero, List.getElem_cons_succ, List.setIfInBounds_toArray, List.set_cons_zero, List.set_cons_succ]))
  (refine wpAnyH_take (i := 5) (v := ?_) rfl (by kernel_rfl) (by kernel_rfl) (by kernel_rfl) (fun _ _ _ h => h) (Or.inl ⟨by rfl, ?_⟩) (by assumption) ?_; rotate_left; (focus (intro wS hSw; (try dsimp only at hSw); go_simp; (try with_reducible rfl))); (try simp only [Act.put, List.getElem_toArray, List.getElem_cons_zero, List.getElem_cons_succ, List.setIfInBounds_toArray, List.set_cons_zero, List.set_cons_succ]))
  (refine wpAnyH_ready (rs := [6]) (by kernel_rfl) (by simp) ?_; refine AllReadyH.cons rfl (fun K hK => ?_) AllReadyH.nil; go_simp)
  go_at_call 52
  refine (HON.out _).mono ?_
  rintro e w4 ⟨rfl, rfl⟩
  go_wp2_with fail
  (refine hK.out _ _ ?_ (fun hHeld2 => ?_); (focus ((try dsimp only); exact ⟨c0, c1, d0, d1⟩)); (clear hK K); (try simp only [Act.put, List.getElem_toArray, List.getElem_cons_zero, List.getElem_cons_succ, List.setIfInBounds_toArray, List.set_cons_zero, List.set_cons_succ]))
  (refine wpAnyH_take (i := 7) (v := ?_) rfl (by kernel_rfl) (by kernel_rfl) (by kernel_rfl) (fun _ _ _ h => h) (Or.inl ⟨by rfl, ?_⟩) (by assumption) ?_; rotate_left; (focus (intro wS hSw; (try dsimp only at hSw); go_simp; (try with_reducible rfl))); (try simp only [Act.put, List.getElem_toArray, List.getElem_cons_zero, List.getElem_cons_succ, List.setIfInBounds_toArray, List.set_cons_zero, List.set_cons_succ]))
  refine wpAnyH_done (by kernel_rfl) ?_ _
  go_wp2_with fail
  go_ret
  exact ⟨rfl, by rw [HQ.out]; exact HB3.out⟩

end Go.Proofs.YtabjklhnghdfoaaGreatDoor

namespace Go.Proofs.YtabjklhnghdfoaaGreatDoor
open Go.RowKit
set_option linter.unusedVariables false
set_option linter.unusedSimpArgs false

/-- How many beats the even rhythm, turned by k, shares with a. -/
def nearG (N : Nat) (a : List Int) (k : Nat) : Int := (comN (rotL N (evB N a.length) (k : Int)) a (rotL N (evB N a.length) (k : Int)).length : Nat)
def nearF (N : Nat) (a : List Int) (k : Nat) : Int := -nearG N a k
def nearK (N : Nat) (a : List Int) : Nat := bestK (nearF N a) N
def nearX (N : Nat) (a : List Int) : List Int := rotL N (evB N a.length) (nearK N a : Int)

set_option maxRecDepth 100000 in
set_option maxHeartbeats 4000000 in
theorem impl_NearestEven_any (N : Nat) (A : Option Addr) (ca : Nat) (a : List Int) (w : World) (hA : Ints w w.heap.size A a) (ha : RhOk N a) :
    Calls Tryz.prog 19 #[.agg #[.int .i64 N, .slice A a.length ca]] w (RetRhI w N (nearX N a) (comN (nearX N a) a (nearX N a).length : Nat)) := by
  have hn1 : 1 ≤ N := by have := ha.1; omega
  have hn2 : N ≤ 24 := by have := ha.2.1; omega
  have hal : a.length ≤ N := rhok_len ha
  have hfn : Fits (N : Int) := by unfold Fits; omega
  have heok := evB_ok hn1 hn2 hal
  have hel := evB_len N a.length
  have hr : rhB N a = true := rhB_iff.2 ha
  have HRO := Lib.hid (fun V h => hr ▸ impl_RhythmOk_any N A ca a V hfn h)
  have HEV := Lib.hid (fun V => impl_EvenRhythm_any N a.length V hn1 hn2 hal)
  have HXL := Lib.hid (fun (k : Nat) => (show RhOk N (rotL N (evB N a.length) (k : Int)) ∧ (rotL N (evB N a.length) (k : Int)).length = a.length from ⟨(rotL_ok heok k).1, (rotL_ok heok k).2.trans hel⟩))
  have HX0 := Lib.hid (show rotL N (evB N a.length) ((0 : Nat) : Int) = evB N a.length from (rotL_same heok 0).2 (fun t ht => by rw [show (t : Int) - 0 = t by omega, Int.emod_eq_of_lt (by omega) (by omega)]))
  have HRT := Lib.hid (fun (k : Nat) (hk : k ≤ 1000) (A1 : Option Addr) (c1 : Nat) V h => impl_rotated_any N A1 c1 (evB N a.length) k V h heok hk)
  have HDI := Lib.hid (fun (k : Nat) (B : Option Addr) (cb : Nat) V h1 h2 => show Calls Tryz.prog 36 #[.agg #[.int .i64 N, .slice B (rotL N (evB N a.length) (k : Int)).length cb], .agg #[.int .i64 N, .slice A a.length ca]] V (fun e w' => e = .returned (.int .i64 (nearG N a k)) ∧ Below V.heap.size V w') from impl_common_any N B A cb ca (rotL N (evB N a.length) (k : Int)) a V h1 h2 (rotL_ok heok k).1 ha)
  have HK := Lib.hid (show bestK (nearF N a) N = nearK N a from rfl)
  have HKM := Lib.hid (fun m (hm : 1 ≤ m) => bestK_lt (nearF N a) m hm)
  have HEF := Lib.hid (rh_fitsE heok)
  have HEL := Lib.hid hel
  have HA := Lib.hid hA
  have hal0 := (Below.refl w.heap.size w).alloc (Nat.le_refl _) (.cells #[.int .i64 N, .slice A a.length ca] 27)
  have hal1 := hal0.alloc hal0.size (.cells #[.int .i64 0, .slice none 0 0] 27)
  have HC0 := Lib.hid ((Cells2.new w (.int .i64 N) (.slice A a.length ca) 27).alloc (.cells #[.int .i64 0, .slice none 0 0] 27))
  have HZ0 := Lib.hid (Cells2.new_at (w.alloc (.cells #[.int .i64 N, .slice A a.length ca] 27)) (.int .i64 0) (.slice none 0 0) 27 (w.heap.size + 1) (by simp))
  have HB0 := Lib.hid hal1
  have HI0 := Lib.hid (hA.lift hal1)
  clear hA ha heok hel hr hal0 hal1 hfn
  obtain ⟨c0, c1, _, _, _⟩ := HC0.out
  go_enter Tryz.func19, Tryz.ntmps19
  go_wp2_with fail
  refine (HRO.out _ HI0.out).mono ?_
  rintro e w1 ⟨rfl, hb⟩
  have HB1 := Lib.hid (HB0.out.trans (hb.mono HB0.out.size))
  have HC1 := Lib.hid (HC0.out.below hb HC0.out.2.2.2.2)
  have HZ1 := Lib.hid (HZ0.out.below hb HZ0.out.2.2.2.2)
  clear hb c0 c1
  obtain ⟨c0, c1, _, _, _⟩ := HC1.out
  go_wp2_with fail
  refine (HEV.out _).mono ?_
  rintro e w2 ⟨Ae, ce, rfl, hrw, hb⟩
  obtain ⟨q, hq⟩ : ∃ q, w.heap.size = q := ⟨_, rfl⟩
  have HQ := Lib.hid hq
  rw [hq] at HB1 HC1 HZ1 HA ⊢
  clear hq
  have hq1 : q + 2 ≤ w1.heap.size := by have := HZ1.out.2.2.2.2; omega
  have hz2 := hb.size
  obtain ⟨be, hLe, hbe⟩ := hrw.rvOf q (by omega) (by omega) (N : Int) ce
  have hbl : be < w2.heap.size := hLe.2.2.1
  have HB2 := Lib.hid (HB1.out.trans (hb.mono (by omega)))
  have HC2 := Lib.hid (HC1.out.below hb HC1.out.2.2.2.2)
  have HZ2 := Lib.hid (HZ1.out.below hb HZ1.out.2.2.2.2)
  have hal2 := (Below.refl w2.heap.size w2).alloc (Nat.le_refl _) (.cells #[.int .i64 N, .slice Ae (evB N a.length).length ce] 27)
  have hal3 := hal2.alloc hal2.size (.cells #[.int .i64 N, .slice Ae (evB N a.length).length ce] 27)
  have HE2 := Lib.hid (Cells2.new w2 (.int .i64 N) (.slice Ae (evB N a.length).length ce) 27)
  have HE3 := Lib.hid (HE2.out.alloc (.cells #[.int .i64 N, .slice Ae (evB N a.length).length ce] 27))
  have HG3 := Lib.hid (Cells2.new_at (w2.alloc (.cells #[.int .i64 N, .slice Ae (evB N a.length).length ce] 27)) (.int .i64 N) (.slice Ae (evB N a.length).length ce) 27 (w2.heap.size + 1) (by simp))
  have HL3 := Lib.hid (hLe.frm (Frm.pure hal3 (fun _ => False)) (fun h => h))
  have HC3 := Lib.hid (HC2.out.below hal3 HC2.out.2.2.2.2)
  have HZ3 := Lib.hid (HZ2.out.below hal3 HZ2.out.2.2.2.2)
  have HB3 := Lib.hid (HB2.out.trans (hal3.mono (by omega)))
  clear hb hrw hLe hal2 hal3 c0 c1
  obtain ⟨e0, e1, _, _, _⟩ := HE2.out
  obtain ⟨c0, c1, _, _, _⟩ := HC3.out
  go_wp2_with fail
  generalize (w2.alloc (.cells #[.int .i64 N, .slice Ae (evB N a.length).length ce] 27)).alloc (.cells #[.int .i64 N, .slice Ae (evB N a.length).length ce] 27) = w3 at *
  obtain ⟨ge, hge⟩ : ∃ g, w2.heap.size = g := ⟨_, rfl⟩
  rw [hge] at HE2 HE3 HG3 hz2 hbl ⊢
  obtain ⟨E, hE⟩ : ∃ E, evB N a.length = E := ⟨_, rfl⟩
  rw [hE] at HEV HXL HX0 HRT HDI HEF HEL HE3 HG3 HL3 ⊢
  have HEE := Lib.hid hE
  have hgq : q + 2 ≤ ge := by omega
  clear hge hE HE2 e0 e1 c0 c1
  go_loopw [25] (fun i wr => ∃ (j : Nat) (r : RV), j ≤ N ∧ i = .int .i64 j ∧ r.n = N ∧ r.xs = rotL N E (bestK (nearF N a) j : Nat) ∧ r.Lies wr q ∧ (r.b ≠ q + 1 ∧ r.b ≠ ge + 1) ∧ Cells2 wr (ge + 1) (.int .i64 N) r.slc ∧ Cells2 wr ge (.int .i64 N) (.slice Ae E.length ce) ∧ (⟨N, E, Ae, ce, be⟩ : RV).Lies wr q ∧ Cells2 wr q (.int .i64 N) (.slice A a.length ca) ∧ Cells2 wr (q + 1) (.int .i64 0) (.slice none 0 0) ∧ Below q w wr) (fun i _ => N - (intOf i).toNat)
  case atStart => exact ⟨0, ⟨N, E, Ae, ce, be⟩, Nat.zero_le _, rfl, rfl, HX0.out.symm, HL3.out, ⟨by show be ≠ q + 1; omega, by show be ≠ ge + 1; omega⟩, HG3.out, HE3.out, HL3.out, HC3.out, HZ3.out, HB3.out⟩
  case round =>
    obtain ⟨j, r, hj, rfl, hrn, hrx, hrl, hrb, hbest, hec, hel, hac, hzc, hbel⟩ := hrel
    obtain ⟨wo, rfl⟩ : ∃ wo : World, wo = wr := ⟨_, rfl⟩
    have HBS := Lib.hid hbest
    have HEC := Lib.hid hec
    have HELs := Lib.hid hel
    have HAC := Lib.hid hac
    have HZC := Lib.hid hzc
    have HBE := Lib.hid hbel
    have HRL := Lib.hid hrl
    have hgs := hbest.2.2.2.2
    obtain ⟨n', X, AX, cX, bX⟩ := r
    change n' = (N : Int) at hrn
    subst hrn
    change X = _ at hrx
    have HRX := Lib.hid hrx
    dsimp only at hrb
    obtain ⟨c0, c1, _, _, _⟩ := hac
    obtain ⟨e0, e1, _, _, _⟩ := hec
    clear hbest hel hzc hbel hrl hrx
    by_cases hlt : j < N
    · have hI := HELs.out.ints HEF.out
      have HIE := Lib.hid (show Ints wo wo.heap.size Ae E from hI)
      have HRJ := Lib.hid (HRT.out j (by omega) Ae ce)
      have HXJ := Lib.hid (HXL.out j)
      have HDJ := Lib.hid (HDI.out j)
      have HDB := Lib.hid (HDI.out (bestK (nearF N a) j))
      rw [← HRX.out] at HDB
      have HBK := Lib.hid (show bestK (nearF N a) (j + 1) = if nearF N a j < nearF N a (bestK (nearF N a) j) then j else bestK (nearF N a) j from rfl)
      obtain ⟨Y, hY⟩ : ∃ Y, rotL N E (j : Int) = Y := ⟨_, rfl⟩
      have HYY := Lib.hid hY
      rw [hY] at HRJ HXJ HDJ
      obtain ⟨F1, hF1⟩ : ∃ F, nearG N a j = F := ⟨_, rfl⟩
      obtain ⟨F2, hF2⟩ : ∃ F, nearG N a (bestK (nearF N a) j) = F := ⟨_, rfl⟩
      rw [show nearF N a j = -nearG N a j from rfl, show nearF N a (bestK (nearF N a) j) = -nearG N a (bestK (nearF N a) j) from rfl] at HBK
      rw [hF1] at HDJ HBK
      rw [hF2] at HDB HBK
      have hji : (j : Int) < (N : Int) := by omega
      clear hI hY hF1 hF2
      go_wp2_with fail
      refine (HRJ.out _ HIE.out).mono ?_
      rintro e w5 ⟨A5, c5, rfl, hrw, hb⟩
      have hz5 := hb.size
      obtain ⟨b5, hL5, hb5⟩ := hrw.rvOf q (by omega) (by omega) (N : Int) c5
      have hal := (Below.refl w5.heap.size w5).alloc (Nat.le_refl _) (.cells #[.int .i64 N, .slice A5 Y.length c5] 27)
      have HF6 := Lib.hid ((Frm.pure hb (fun _ => False)).trans (Frm.pure hal (fun _ => False)))
      have HB6 := Lib.hid ((HBE.out.trans (hb.mono (by omega))).trans (hal.mono (by omega)))
      have HL6 := Lib.hid (hL5.frm (Frm.pure hal (fun _ => False)) (fun h => h))
      have HN6 := Lib.hid (Cells2.new w5 (.int .i64 N) (.slice A5 Y.length c5) 27)
      have hbY : b5 ≠ q + 1 ∧ b5 ≠ ge + 1 := by omega
      clear hb hrw hL5 hal e0 e1 c0 c1
      have HBS6 := Lib.hid (HBS.out.frmY HF6.out (fun h => h))
      have HAC6 := Lib.hid (HAC.out.frmY HF6.out (fun h => h))
      have HRL6 := Lib.hid (HRL.out.frm HF6.out (fun h => h))
      obtain ⟨c0, c1, _, _, _⟩ := HAC6.out
      obtain ⟨n0, n1, _, _, _⟩ := HN6.out
      obtain ⟨g0, g1, _, _, _⟩ := HBS6.out
      unfold RV.slc at g1
      dsimp only at g1
      go_wp2_with fail
      generalize w5.alloc (.cells #[.int .i64 N, .slice A5 Y.length c5] 27) = w6 at *
      obtain ⟨nx, hnx⟩ : ∃ x, w5.heap.size = x := ⟨_, rfl⟩
      rw [hnx] at HN6 n0 n1 hz5 ⊢
      clear hnx
      (refine wp_region_held_drew (S := (fun w' => w'.cell? ⟨q, 0, none⟩ = some (.int .i64 N) ∧ w'.cell? ⟨q, 1, none⟩ = some (.slice A a.length ca) ∧ w'.cell? ⟨nx, 0, none⟩ = some (.int .i64 N) ∧ w'.cell? ⟨nx, 1, none⟩ = some (.slice A5 Y.length c5) ∧ w'.cell? ⟨ge + 1, 0, none⟩ = some (.int .i64 N) ∧ w'.cell? ⟨ge + 1, 1, none⟩ = some (.slice AX X.length cX))) (by kernel_rfl) ?_ (fun hHeld => ?_); (focus ((try dsimp only); exact ⟨c0, c1, n0, n1, g0, g1⟩)))
      have HF7 := Lib.hid (HF6.out.drew)
      have HG7 := Lib.hid ((Frm.refl (fun _ => False) w6).drew)
      have HB7 := Lib.hid (Below.drew5_ HB6.out)
      have hq6 : q ≤ w6.drew.heap.size := by have := HN6.out.2.2.2.2; show q ≤ w6.heap.size; omega
      generalize w6.drew = w7 at *
      have HIA7 := Lib.hid ((HA.out.below HB7.out).mono hq6)
      have HIY7 := Lib.hid ((HL6.out.frm HG7.out (fun h => h)).ints (rh_fitsE HXJ.out.1))
      have HIX7 := Lib.hid ((HRL6.out.frm HG7.out (fun h => h)).ints (show ∀ x ∈ X, Fits x by rw [HRX.out]; exact rh_fitsE (HXL.out _).1))
      (refine wpAnyH_take (i := 0) (v := ?_) rfl (by kernel_rfl) (by kernel_rfl) (by kernel_rfl) (fun _ _ _ h => h) (Or.inl ⟨by rfl, ?_⟩) (by assumption) ?_; rotate_left; (focus (intro wS hSw; (try dsimp only at hSw); go_simp; (try with_reducible rfl))); (try simp only [Act.put, List.getElem_toArray, List.getElem_cons_zero, List.getElem_cons_succ, List.setIfInBounds_toArray, List.set_cons_zero, List.set_cons_succ]))
      (refine wpAnyH_take (i := 1) (v := ?_) rfl (by kernel_rfl) (by kernel_rfl) (by kernel_rfl) (fun _ _ _ h => h) (Or.inl ⟨by rfl, ?_⟩) (by assumption) ?_; rotate_left; (focus (intro wS hSw; (try dsimp only at hSw); go_simp; (try with_reducible rfl))); (try simp only [Act.put, List.getElem_toArray, List.getElem_cons_zero, List.getElem_cons_succ, List.setIfInBounds_toArray, List.set_cons_zero, List.set_cons_succ]))
      (refine wpAnyH_take (i := 3) (v := ?_) rfl (by kernel_rfl) (by kernel_rfl) (by kernel_rfl) (fun _ _ _ h => h) (Or.inl ⟨by rfl, ?_⟩) (by assumption) ?_; rotate_left; (focus (intro wS hSw; (try dsimp only at hSw); go_simp; (try with_reducible rfl))); (try simp only [Act.put, List.getElem_toArray, List.getElem_cons_zero, List.getElem_cons_succ, List.setIfInBounds_toArray, List.set_cons_zero, List.set_cons_succ]))
      (refine wpAnyH_take (i := 4) (v := ?_) rfl (by kernel_rfl) (by kernel_rfl) (by kernel_rfl) (fun _ _ _ h => h) (Or.inl ⟨by rfl, ?_⟩) (by assumption) ?_; rotate_left; (focus (intro wS hSw; (try dsimp only at hSw); go_simp; (try with_reducible rfl))); (try simp only [Act.put, List.getElem_toArray, List.getElem_cons_zero, List.getElem_cons_succ, List.setIfInBounds_toArray, List.set_cons_zero, List.set_cons_succ]))
      (refine wpAnyH_ready (rs := [2]) (by kernel_rfl) (by simp) ?_; refine AllReadyH.cons rfl (fun K hK => ?_) AllReadyH.nil; go_simp)
      go_at_call 36
      refine (HDJ.out _ _ _ HIY7.out HIA7.out).mono ?_
      rintro e w8 ⟨rfl, hb⟩
      have HG8 := Lib.hid (HG7.out.trans (Frm.pure hb (fun _ => False)))
      have HIA8 := Lib.hid (HIA7.out.lift hb)
      have HIX8 := Lib.hid (HIX7.out.lift hb)
      have HB8 := Lib.hid (HB7.out.trans (hb.mono hq6))
      have hq8 := Nat.le_trans hq6 hb.size
      clear hb c0 c1 n0 n1 g0 g1
      have HAC8 := Lib.hid (HAC6.out.frmY HG8.out (fun h => h))
      have HN8 := Lib.hid (HN6.out.frmY HG8.out (fun h => h))
      have HBS8 := Lib.hid (HBS6.out.frmY HG8.out (fun h => h))
      obtain ⟨c0, c1, _, _, _⟩ := HAC8.out
      obtain ⟨n0, n1, _, _, _⟩ := HN8.out
      obtain ⟨g0, g1, _, _, _⟩ := HBS8.out
      unfold RV.slc at g1
      dsimp only at g1
      go_wp2_with fail
      (refine hK.out _ _ ?_ (fun hHeld2 => ?_); (focus ((try dsimp only); exact ⟨c0, c1, n0, n1, g0, g1⟩)); (clear hK K); (try simp only [Act.put, List.getElem_toArray, List.getElem_cons_zero, List.getElem_cons_succ, List.setIfInBounds_toArray, List.set_cons_zero, List.set_cons_succ]))
      (refine wpAnyH_ready (rs := [5]) (by kernel_rfl) (by simp) ?_; refine AllReadyH.cons rfl (fun K hK => ?_) AllReadyH.nil; go_simp)
      go_at_call 36
      refine (HDB.out _ _ _ HIX8.out HIA8.out).mono ?_
      rintro e w9 ⟨rfl, hb⟩
      have HG9 := Lib.hid (HG8.out.trans (Frm.pure hb (fun _ => False)))
      have HB9 := Lib.hid (HB8.out.trans (hb.mono hq8))
      clear hb c0 c1 n0 n1 g0 g1
      have HAC9 := Lib.hid (HAC6.out.frmY HG9.out (fun h => h))
      have HN9 := Lib.hid (HN6.out.frmY HG9.out (fun h => h))
      have HBS9 := Lib.hid (HBS6.out.frmY HG9.out (fun h => h))
      have HEC9 := Lib.hid ((HEC.out.frmY HF6.out (fun h => h)).frmY HG9.out (fun h => h))
      have HEL9 := Lib.hid ((HELs.out.frm HF6.out (fun h => h)).frm HG9.out (fun h => h))
      have HZC9 := Lib.hid ((HZC.out.frmY HF6.out (fun h => h)).frmY HG9.out (fun h => h))
      have HL9 := Lib.hid (HL6.out.frm HG9.out (fun h => h))
      have HRL9 := Lib.hid (HRL6.out.frm HG9.out (fun h => h))
      obtain ⟨c0, c1, _, _, _⟩ := HAC9.out
      obtain ⟨n0, n1, _, _, _⟩ := HN9.out
      obtain ⟨g0, g1, gf0, gf1, _⟩ := HBS9.out
      unfold RV.slc at g1
      dsimp only at g1
      go_wp2_with fail
      (refine hK.out _ _ ?_ (fun hHeld2 => ?_); (focus ((try dsimp only); exact ⟨c0, c1, n0, n1, g0, g1⟩)); (clear hK K); (try simp only [Act.put, List.getElem_toArray, List.getElem_cons_zero, List.getElem_cons_succ, List.setIfInBounds_toArray, List.set_cons_zero, List.set_cons_succ]))
      (refine wpAnyH_take (i := 6) (v := ?_) rfl (by kernel_rfl) (by kernel_rfl) (by kernel_rfl) (fun _ _ _ h => h) (Or.inl ⟨by rfl, ?_⟩) (by assumption) ?_; rotate_left; (focus (intro wS hSw; (try dsimp only at hSw); go_simp; (try with_reducible rfl))); (try simp only [Act.put, List.getElem_toArray, List.getElem_cons_zero, List.getElem_cons_succ, List.setIfInBounds_toArray, List.set_cons_zero, List.set_cons_succ]))
      refine wpAnyH_done (by kernel_rfl) ?_ _
      by_cases hlt2 : F2 < F1
      · rw [if_pos (show -F1 < -F2 by omega)] at HBK
        have HS9 := Lib.hid ((HBS9.out.set0 (.int .i64 N)).set1 (.slice A5 Y.length c5))
        have HFS := Lib.hid ((Frm.setCell (S := fun c => c = ge + 1) (p := ⟨ge + 1, 0, none⟩) (Frm.refl _ w9) rfl (.int .i64 N)).setCell (p := ⟨ge + 1, 1, none⟩) rfl (.slice A5 Y.length c5))
        go_wp2_with fail
        go_roundw
        case rel => exact ⟨j + 1, ⟨N, Y, A5, c5, b5⟩, by omega, by go_num, rfl, by rw [HBK.out]; exact HYY.out.symm, HL9.out.frm HFS.out (show ¬ b5 = ge + 1 from hbY.2), hbY, HS9.out, HEC9.out.frmY HFS.out (show ¬ ge = ge + 1 by omega), HEL9.out.frm HFS.out (show ¬ be = ge + 1 by omega), HAC9.out.frmY HFS.out (show ¬ q = ge + 1 by omega), HZC9.out.frmY HFS.out (show ¬ q + 1 = ge + 1 by omega), HB9.out.trans (HFS.out.below (B := q) (fun c h => by have h : c = ge + 1 := h; omega) (by have := HAC9.out.2.2.2.2; omega))⟩
        case measure => simp [intOf]; omega
      · rw [if_neg (show ¬ -F1 < -F2 by omega)] at HBK
        go_wp2_with fail
        go_roundw
        case rel => exact ⟨j + 1, ⟨N, X, AX, cX, bX⟩, by omega, by go_num, rfl, by rw [HBK.out]; exact HRX.out, HRL9.out, hrb, HBS9.out, HEC9.out, HEL9.out, HAC9.out, HZC9.out, HB9.out⟩
        case measure => simp [intOf]; omega
    · have hjN : j = N := by omega
      subst hjN
      have HVX := Lib.hid (show nearX j a = X by
        have h1 := HRX.out
        rw [HK.out] at h1
        rw [h1, ← HEE.out]
        rfl)
      have HDB := Lib.hid (HDI.out (bestK (nearF j a) j))
      rw [← HRX.out] at HDB
      have HVF := Lib.hid (show nearG j a (bestK (nearF j a) j) = (comN (nearX j a) a (nearX j a).length : Nat) by
        unfold nearX
        rw [HK.out]
        rfl)
      rw [HVF.out] at HDB
      obtain ⟨F, hF⟩ : ∃ F : Int, ((comN (nearX j a) a (nearX j a).length : Nat) : Int) = F := ⟨_, rfl⟩
      have HFF := Lib.hid hF
      rw [hF] at HDB
      obtain ⟨g0, g1, _, _, _⟩ := HBS.out
      unfold RV.slc at g1
      dsimp only at g1
      clear hF e0 e1
      go_wp2_with fail
      (refine wp_region_held_drew (S := (fun w' => w'.cell? ⟨q, 0, none⟩ = some (.int .i64 j) ∧ w'.cell? ⟨q, 1, none⟩ = some (.slice A a.length ca) ∧ w'.cell? ⟨ge + 1, 0, none⟩ = some (.int .i64 j) ∧ w'.cell? ⟨ge + 1, 1, none⟩ = some (.slice AX X.length cX))) (by kernel_rfl) ?_ (fun hHeld => ?_); (focus ((try dsimp only); exact ⟨c0, c1, g0, g1⟩)))
      have HG7 := Lib.hid ((Frm.refl (fun _ => False) wo).drew)
      have HB7 := Lib.hid (Below.drew5_ HBE.out)
      have hq6 : q + 2 ≤ wo.drew.heap.size := by have := HZC.out.2.2.2.2; show q + 2 ≤ wo.heap.size; omega
      generalize wo.drew = w7 at *
      have HIA7 := Lib.hid ((HA.out.below HB7.out).mono (show q ≤ w7.heap.size by omega))
      have HIX7 := Lib.hid ((HRL.out.frm HG7.out (fun h => h)).ints (show ∀ x ∈ X, Fits x by rw [HRX.out]; exact rh_fitsE (HXL.out _).1))
      (refine wpAnyH_take (i := 0) (v := ?_) rfl (by kernel_rfl) (by kernel_rfl) (by kernel_rfl) (fun _ _ _ h => h) (Or.inl ⟨by rfl, ?_⟩) (by assumption) ?_; rotate_left; (focus (intro wS hSw; (try dsimp only at hSw); go_simp; (try with_reducible rfl))); (try simp only [Act.put, List.getElem_toArray, List.getElem_cons_zero, List.getElem_cons_succ, List.setIfInBounds_toArray, List.set_cons_zero, List.set_cons_succ]))
      (refine wpAnyH_take (i := 1) (v := ?_) rfl (by kernel_rfl) (by kernel_rfl) (by kernel_rfl) (fun _ _ _ h => h) (Or.inl ⟨by rfl, ?_⟩) (by assumption) ?_; rotate_left; (focus (intro wS hSw; (try dsimp only at hSw); go_simp; (try with_reducible rfl))); (try simp only [Act.put, List.getElem_toArray, List.getElem_cons_zero, List.getElem_cons_succ, List.setIfInBounds_toArray, List.set_cons_zero, List.set_cons_succ]))
      (refine wpAnyH_take (i := 2) (v := ?_) rfl (by kernel_rfl) (by kernel_rfl) (by kernel_rfl) (fun _ _ _ h => h) (Or.inl ⟨by rfl, ?_⟩) (by assumption) ?_; rotate_left; (focus (intro wS hSw; (try dsimp only at hSw); go_simp; (try with_reducible rfl))); (try simp only [Act.put, List.getElem_toArray, List.getElem_cons_zero, List.getElem_cons_succ, List.setIfInBounds_toArray, List.set_cons_zero, List.set_cons_succ]))
      (refine wpAnyH_ready (rs := [3]) (by kernel_rfl) (by simp) ?_; refine AllReadyH.cons rfl (fun K hK => ?_) AllReadyH.nil; go_simp)
      go_at_call 36
      refine (HDB.out _ _ _ HIX7.out HIA7.out).mono ?_
      rintro e w8 ⟨rfl, hb⟩
      have HG8 := Lib.hid (HG7.out.trans (Frm.pure hb (fun _ => False)))
      have HB8 := Lib.hid (HB7.out.trans (hb.mono (by omega)))
      have hq8 := Nat.le_trans hq6 hb.size
      clear hb c0 c1 g0 g1
      have HAC8 := Lib.hid (HAC.out.frmY HG8.out (fun h => h))
      have HBS8 := Lib.hid (HBS.out.frmY HG8.out (fun h => h))
      have HZC8 := Lib.hid (HZC.out.frmY HG8.out (fun h => h))
      have HRL8 := Lib.hid (HRL.out.frm HG8.out (fun h => h))
      obtain ⟨c0, c1, _, _, _⟩ := HAC8.out
      obtain ⟨g0, g1, _, _, _⟩ := HBS8.out
      obtain ⟨z0, z1, zf0, zf1, _⟩ := HZC8.out
      unfold RV.slc at g1
      dsimp only at g1
      go_wp2_with fail
      (refine hK.out _ _ ?_ (fun hHeld2 => ?_); (focus ((try dsimp only); exact ⟨c0, c1, g0, g1⟩)); (clear hK K); (try simp only [Act.put, List.getElem_toArray, List.getElem_cons_zero, List.getElem_cons_succ, List.setIfInBounds_toArray, List.set_cons_zero, List.set_cons_succ]))
      (refine wpAnyH_ready (rs := [4]) (by kernel_rfl) (by simp) ?_; refine AllReadyH.cons rfl (fun K hK => ?_) AllReadyH.nil; go_simp)
      have HS9 := Lib.hid ((HZC8.out.set0 (.int .i64 j)).set1 (.slice AX X.length cX))
      have HFS := Lib.hid ((Frm.setCell (S := fun c => c = q + 1) (p := ⟨q + 1, 0, none⟩) (Frm.refl _ w8) rfl (.int .i64 j)).setCell (p := ⟨q + 1, 1, none⟩) rfl (.slice AX X.length cX))
      have HAC9 := Lib.hid (HAC8.out.frmY HFS.out (show ¬ q = q + 1 by omega))
      have HBS9 := Lib.hid (HBS8.out.frmY HFS.out (show ¬ ge + 1 = q + 1 by omega))
      have HRL9 := Lib.hid (HRL8.out.frm HFS.out (show ¬ bX = q + 1 from hrb.1))
      have HB9 := Lib.hid (HB8.out.trans (HFS.out.below (B := q) (fun c h => by have h : c = q + 1 := h; omega) (by omega)))
      clear c0 c1 g0 g1 z0 z1
      obtain ⟨c0, c1, _, _, _⟩ := HAC9.out
      obtain ⟨g0, g1, _, _, _⟩ := HBS9.out
      obtain ⟨z0, z1, _, _, _⟩ := HS9.out
      unfold RV.slc at g1
      dsimp only at g1
      (refine hK.out _ _ ?_ (fun hHeld2 => ?_); (focus ((try dsimp only); exact ⟨c0, c1, g0, g1⟩)); (clear hK K); (try simp only [Act.put, List.getElem_toArray, List.getElem_cons_zero, List.getElem_cons_succ, List.setIfInBounds_toArray, List.set_cons_zero, List.set_cons_succ]))
      (refine wpAnyH_take (i := 5) (v := ?_) rfl (by kernel_rfl) (by kernel_rfl) (by kernel_rfl) (fun _ _ _ h => h) (Or.inl ⟨by rfl, ?_⟩) (by assumption) ?_; rotate_left; (focus (intro wS hSw; (try dsimp only at hSw); go_simp; (try with_reducible rfl))); (try simp only [Act.put, List.getElem_toArray, List.getElem_cons_zero, List.getElem_cons_succ, List.setIfInBounds_toArray, List.set_cons_zero, List.set_cons_succ]))
      refine wpAnyH_done (by kernel_rfl) ?_ _
      go_wp2_with fail
      refine bodyPost_ret (v := .tuple #[.agg #[.int .i64 j, .slice AX X.length cX], .int .i64 F]) (by simp [results, Tryz.results19, go_sem, z0, z1]) rfl ?_
      rw [HFF.out, HVX.out]
      exact ⟨AX, cX, rfl, by rw [HQ.out]; exact HRL9.out.rw', by rw [HQ.out]; exact HB9.out⟩

end Go.Proofs.YtabjklhnghdfoaaGreatDoor

namespace Go.Proofs.YtabjklhnghdfoaaGreatDoor
open Go.RowKit
set_option linter.unusedVariables false
set_option linter.unusedSimpArgs false

set_option maxRecDepth 100000 in
set_option maxHeartbeats 4000000 in
theorem spec_NearestEven_any (N : Nat) (A : Option Addr) (ca : Nat) (a : List Int) (w : World) (hA : Ints w w.heap.size A a) (ha : RhOk N a) :
    Calls Tryz.prog 12 #[.agg #[.int .i64 N, .slice A a.length ca]] w (RetRhI w N (nearX N a) (comN (nearX N a) a (nearX N a).length : Nat)) := by
  have hn1 : 1 ≤ N := by have := ha.1; omega
  have hn2 : N ≤ 24 := by have := ha.2.1; omega
  have hal : a.length ≤ N := rhok_len ha
  have hfn : Fits (N : Int) := by unfold Fits; omega
  have heok := evB_ok hn1 hn2 hal
  have hel := evB_len N a.length
  have hr : rhB N a = true := rhB_iff.2 ha
  have HRO := Lib.hid (fun V h => hr ▸ spec_RhythmOk_any N A ca a V h)
  have HEV := Lib.hid (fun V => spec_even_any N a.length V hn1 hn2 hal)
  have HXL := Lib.hid (fun (k : Nat) => (show RhOk N (rotL N (evB N a.length) (k : Int)) ∧ (rotL N (evB N a.length) (k : Int)).length = a.length from ⟨(rotL_ok heok k).1, (rotL_ok heok k).2.trans hel⟩))
  have HX0 := Lib.hid (show rotL N (evB N a.length) ((0 : Nat) : Int) = evB N a.length from (rotL_same heok 0).2 (fun t ht => by rw [show (t : Int) - 0 = t by omega, Int.emod_eq_of_lt (by omega) (by omega)]))
  have HRT := Lib.hid (fun (k : Nat) (hk : k ≤ 1000) (A1 : Option Addr) (c1 : Nat) V h => show Calls Tryz.prog 28 #[.agg #[.int .i64 N, .slice A1 (evB N a.length).length c1], .int .i64 1, .int .i64 k] V (RetRh1 V N (rotL N (evB N a.length) (k : Int))) from (rotL_of heok (k : Int)) ▸ spec_l02Map_any N A1 c1 (evB N a.length) 1 k V h heok (fun x h1 h2 => by omega) (by omega))
  have HDI := Lib.hid (fun (k : Nat) (B : Option Addr) (cb : Nat) V h1 h2 => show Calls Tryz.prog 29 #[.agg #[.int .i64 N, .slice B (rotL N (evB N a.length) (k : Int)).length cb], .agg #[.int .i64 N, .slice A a.length ca]] V (fun e w' => e = .returned (.int .i64 (nearG N a k)) ∧ Below V.heap.size V w') from spec_l05Common_any N N B A cb ca (rotL N (evB N a.length) (k : Int)) a V h1 h2 (by have := (rotL_ok heok k).2; omega))
  have HK := Lib.hid (show bestK (nearF N a) N = nearK N a from rfl)
  have HKM := Lib.hid (fun m (hm : 1 ≤ m) => bestK_lt (nearF N a) m hm)
  have HEF := Lib.hid (rh_fitsE heok)
  have HEL := Lib.hid hel
  have HA := Lib.hid hA
  have hal0 := (Below.refl w.heap.size w).alloc (Nat.le_refl _) (.cells #[.int .i64 N, .slice A a.length ca] 27)
  have hal1 := hal0.alloc hal0.size (.cells #[.int .i64 0, .slice none 0 0] 27)
  have HC0 := Lib.hid ((Cells2.new w (.int .i64 N) (.slice A a.length ca) 27).alloc (.cells #[.int .i64 0, .slice none 0 0] 27))
  have HZ0 := Lib.hid (Cells2.new_at (w.alloc (.cells #[.int .i64 N, .slice A a.length ca] 27)) (.int .i64 0) (.slice none 0 0) 27 (w.heap.size + 1) (by simp))
  have HB0 := Lib.hid hal1
  have HI0 := Lib.hid (hA.lift hal1)
  clear hA ha heok hel hr hal0 hal1 hfn
  obtain ⟨c0, c1, _, _, _⟩ := HC0.out
  go_enter Tryz.func12, Tryz.ntmps12
  go_wp2_with fail
  refine (HRO.out _ HI0.out).mono ?_
  rintro e w1 ⟨rfl, hb⟩
  have HB1 := Lib.hid (HB0.out.trans (hb.mono HB0.out.size))
  have HC1 := Lib.hid (HC0.out.below hb HC0.out.2.2.2.2)
  have HZ1 := Lib.hid (HZ0.out.below hb HZ0.out.2.2.2.2)
  clear hb c0 c1
  obtain ⟨c0, c1, _, _, _⟩ := HC1.out
  go_wp2_with fail
  refine (HEV.out _).mono ?_
  rintro e w2 ⟨Ae, ce, rfl, hrw, hb⟩
  obtain ⟨q, hq⟩ : ∃ q, w.heap.size = q := ⟨_, rfl⟩
  have HQ := Lib.hid hq
  rw [hq] at HB1 HC1 HZ1 HA ⊢
  clear hq
  have hq1 : q + 2 ≤ w1.heap.size := by have := HZ1.out.2.2.2.2; omega
  have hz2 := hb.size
  obtain ⟨be, hLe, hbe⟩ := hrw.rvOf q (by omega) (by omega) (N : Int) ce
  have hbl : be < w2.heap.size := hLe.2.2.1
  have HB2 := Lib.hid (HB1.out.trans (hb.mono (by omega)))
  have HC2 := Lib.hid (HC1.out.below hb HC1.out.2.2.2.2)
  have HZ2 := Lib.hid (HZ1.out.below hb HZ1.out.2.2.2.2)
  have hal2 := (Below.refl w2.heap.size w2).alloc (Nat.le_refl _) (.cells #[.int .i64 N, .slice Ae (evB N a.length).length ce] 27)
  have hal3 := hal2.alloc hal2.size (.cells #[.int .i64 N, .slice Ae (evB N a.length).length ce] 27)
  have HE2 := Lib.hid (Cells2.new w2 (.int .i64 N) (.slice Ae (evB N a.length).length ce) 27)
  have HE3 := Lib.hid (HE2.out.alloc (.cells #[.int .i64 N, .slice Ae (evB N a.length).length ce] 27))
  have HG3 := Lib.hid (Cells2.new_at (w2.alloc (.cells #[.int .i64 N, .slice Ae (evB N a.length).length ce] 27)) (.int .i64 N) (.slice Ae (evB N a.length).length ce) 27 (w2.heap.size + 1) (by simp))
  have HL3 := Lib.hid (hLe.frm (Frm.pure hal3 (fun _ => False)) (fun h => h))
  have HC3 := Lib.hid (HC2.out.below hal3 HC2.out.2.2.2.2)
  have HZ3 := Lib.hid (HZ2.out.below hal3 HZ2.out.2.2.2.2)
  have HB3 := Lib.hid (HB2.out.trans (hal3.mono (by omega)))
  clear hb hrw hLe hal2 hal3 c0 c1
  obtain ⟨e0, e1, _, _, _⟩ := HE2.out
  obtain ⟨c0, c1, _, _, _⟩ := HC3.out
  go_wp2_with fail
  generalize (w2.alloc (.cells #[.int .i64 N, .slice Ae (evB N a.length).length ce] 27)).alloc (.cells #[.int .i64 N, .slice Ae (evB N a.length).length ce] 27) = w3 at *
  obtain ⟨ge, hge⟩ : ∃ g, w2.heap.size = g := ⟨_, rfl⟩
  rw [hge] at HE2 HE3 HG3 hz2 hbl ⊢
  obtain ⟨E, hE⟩ : ∃ E, evB N a.length = E := ⟨_, rfl⟩
  rw [hE] at HEV HXL HX0 HRT HDI HEF HEL HE3 HG3 HL3 ⊢
  have HEE := Lib.hid hE
  have hgq : q + 2 ≤ ge := by omega
  clear hge hE HE2 e0 e1 c0 c1
  go_loopw [6] (fun i wr => ∃ (j : Nat) (r : RV), j ≤ N ∧ i = .int .i64 j ∧ r.n = N ∧ r.xs = rotL N E (bestK (nearF N a) j : Nat) ∧ r.Lies wr q ∧ (r.b ≠ q + 1 ∧ r.b ≠ ge + 1) ∧ Cells2 wr (ge + 1) (.int .i64 N) r.slc ∧ Cells2 wr ge (.int .i64 N) (.slice Ae E.length ce) ∧ (⟨N, E, Ae, ce, be⟩ : RV).Lies wr q ∧ Cells2 wr q (.int .i64 N) (.slice A a.length ca) ∧ Cells2 wr (q + 1) (.int .i64 0) (.slice none 0 0) ∧ Below q w wr) (fun i _ => N - (intOf i).toNat)
  case atStart => exact ⟨1, ⟨N, E, Ae, ce, be⟩, hn1, rfl, rfl, by rw [bestK_one]; exact HX0.out.symm, HL3.out, ⟨by show be ≠ q + 1; omega, by show be ≠ ge + 1; omega⟩, HG3.out, HE3.out, HL3.out, HC3.out, HZ3.out, HB3.out⟩
  case round =>
    obtain ⟨j, r, hj, rfl, hrn, hrx, hrl, hrb, hbest, hec, hel, hac, hzc, hbel⟩ := hrel
    obtain ⟨wo, rfl⟩ : ∃ wo : World, wo = wr := ⟨_, rfl⟩
    have HBS := Lib.hid hbest
    have HEC := Lib.hid hec
    have HELs := Lib.hid hel
    have HAC := Lib.hid hac
    have HZC := Lib.hid hzc
    have HBE := Lib.hid hbel
    have HRL := Lib.hid hrl
    have hgs := hbest.2.2.2.2
    obtain ⟨n', X, AX, cX, bX⟩ := r
    change n' = (N : Int) at hrn
    subst hrn
    change X = _ at hrx
    have HRX := Lib.hid hrx
    dsimp only at hrb
    obtain ⟨c0, c1, _, _, _⟩ := hac
    obtain ⟨e0, e1, _, _, _⟩ := hec
    clear hbest hel hzc hbel hrl hrx
    by_cases hlt : j < N
    · have hI := HELs.out.ints HEF.out
      have HIE := Lib.hid (show Ints wo wo.heap.size Ae E from hI)
      have HRJ := Lib.hid (HRT.out j (by omega) Ae ce)
      have HXJ := Lib.hid (HXL.out j)
      have HDJ := Lib.hid (HDI.out j)
      have HDB := Lib.hid (HDI.out (bestK (nearF N a) j))
      rw [← HRX.out] at HDB
      have HBK := Lib.hid (show bestK (nearF N a) (j + 1) = if nearF N a j < nearF N a (bestK (nearF N a) j) then j else bestK (nearF N a) j from rfl)
      obtain ⟨Y, hY⟩ : ∃ Y, rotL N E (j : Int) = Y := ⟨_, rfl⟩
      have HYY := Lib.hid hY
      rw [hY] at HRJ HXJ HDJ
      obtain ⟨F1, hF1⟩ : ∃ F, nearG N a j = F := ⟨_, rfl⟩
      obtain ⟨F2, hF2⟩ : ∃ F, nearG N a (bestK (nearF N a) j) = F := ⟨_, rfl⟩
      rw [show nearF N a j = -nearG N a j from rfl, show nearF N a (bestK (nearF N a) j) = -nearG N a (bestK (nearF N a) j) from rfl] at HBK
      rw [hF1] at HDJ HBK
      rw [hF2] at HDB HBK
      have hji : (j : Int) < (N : Int) := by omega
      clear hI hY hF1 hF2
      go_wp2_with fail
      refine (HRJ.out _ HIE.out).mono ?_
      rintro e w5 ⟨A5, c5, rfl, hrw, hb⟩
      have hz5 := hb.size
      obtain ⟨b5, hL5, hb5⟩ := hrw.rvOf q (by omega) (by omega) (N : Int) c5
      have hal := (Below.refl w5.heap.size w5).alloc (Nat.le_refl _) (.cells #[.int .i64 N, .slice A5 Y.length c5] 27)
      have HF6 := Lib.hid ((Frm.pure hb (fun _ => False)).trans (Frm.pure hal (fun _ => False)))
      have HB6 := Lib.hid ((HBE.out.trans (hb.mono (by omega))).trans (hal.mono (by omega)))
      have HL6 := Lib.hid (hL5.frm (Frm.pure hal (fun _ => False)) (fun h => h))
      have HN6 := Lib.hid (Cells2.new w5 (.int .i64 N) (.slice A5 Y.length c5) 27)
      have hbY : b5 ≠ q + 1 ∧ b5 ≠ ge + 1 := by omega
      clear hb hrw hL5 hal e0 e1 c0 c1
      have HBS6 := Lib.hid (HBS.out.frmY HF6.out (fun h => h))
      have HAC6 := Lib.hid (HAC.out.frmY HF6.out (fun h => h))
      have HRL6 := Lib.hid (HRL.out.frm HF6.out (fun h => h))
      obtain ⟨c0, c1, _, _, _⟩ := HAC6.out
      obtain ⟨n0, n1, _, _, _⟩ := HN6.out
      obtain ⟨g0, g1, _, _, _⟩ := HBS6.out
      unfold RV.slc at g1
      dsimp only at g1
      go_wp2_with fail
      generalize w5.alloc (.cells #[.int .i64 N, .slice A5 Y.length c5] 27) = w6 at *
      obtain ⟨nx, hnx⟩ : ∃ x, w5.heap.size = x := ⟨_, rfl⟩
      rw [hnx] at HN6 n0 n1 hz5 ⊢
      clear hnx
      (refine wp_region_held_drew (S := (fun w' => w'.cell? ⟨q, 0, none⟩ = some (.int .i64 N) ∧ w'.cell? ⟨q, 1, none⟩ = some (.slice A a.length ca) ∧ w'.cell? ⟨nx, 0, none⟩ = some (.int .i64 N) ∧ w'.cell? ⟨nx, 1, none⟩ = some (.slice A5 Y.length c5) ∧ w'.cell? ⟨ge + 1, 0, none⟩ = some (.int .i64 N) ∧ w'.cell? ⟨ge + 1, 1, none⟩ = some (.slice AX X.length cX))) (by kernel_rfl) ?_ (fun hHeld => ?_); (focus ((try dsimp only); exact ⟨c0, c1, n0, n1, g0, g1⟩)))
      have HF7 := Lib.hid (HF6.out.drew)
      have HG7 := Lib.hid ((Frm.refl (fun _ => False) w6).drew)
      have HB7 := Lib.hid (Below.drew5_ HB6.out)
      have hq6 : q ≤ w6.drew.heap.size := by have := HN6.out.2.2.2.2; show q ≤ w6.heap.size; omega
      generalize w6.drew = w7 at *
      have HIA7 := Lib.hid ((HA.out.below HB7.out).mono hq6)
      have HIY7 := Lib.hid ((HL6.out.frm HG7.out (fun h => h)).ints (rh_fitsE HXJ.out.1))
      have HIX7 := Lib.hid ((HRL6.out.frm HG7.out (fun h => h)).ints (show ∀ x ∈ X, Fits x by rw [HRX.out]; exact rh_fitsE (HXL.out _).1))
      (refine wpAnyH_take (i := 0) (v := ?_) rfl (by kernel_rfl) (by kernel_rfl) (by kernel_rfl) (fun _ _ _ h => h) (Or.inl ⟨by rfl, ?_⟩) (by assumption) ?_; rotate_left; (focus (intro wS hSw; (try dsimp only at hSw); go_simp; (try with_reducible rfl))); (try simp only [Act.put, List.getElem_toArray, List.getElem_cons_zero, List.getElem_cons_succ, List.setIfInBounds_toArray, List.set_cons_zero, List.set_cons_succ]))
      (refine wpAnyH_take (i := 1) (v := ?_) rfl (by kernel_rfl) (by kernel_rfl) (by kernel_rfl) (fun _ _ _ h => h) (Or.inl ⟨by rfl, ?_⟩) (by assumption) ?_; rotate_left; (focus (intro wS hSw; (try dsimp only at hSw); go_simp; (try with_reducible rfl))); (try simp only [Act.put, List.getElem_toArray, List.getElem_cons_zero, List.getElem_cons_succ, List.setIfInBounds_toArray, List.set_cons_zero, List.set_cons_succ]))
      (refine wpAnyH_take (i := 3) (v := ?_) rfl (by kernel_rfl) (by kernel_rfl) (by kernel_rfl) (fun _ _ _ h => h) (Or.inl ⟨by rfl, ?_⟩) (by assumption) ?_; rotate_left; (focus (intro wS hSw; (try dsimp only at hSw); go_simp; (try with_reducible rfl))); (try simp only [Act.put, List.getElem_toArray, List.getElem_cons_zero, List.getElem_cons_succ, List.setIfInBounds_toArray, List.set_cons_zero, List.set_cons_succ]))
      (refine wpAnyH_take (i := 4) (v := ?_) rfl (by kernel_rfl) (by kernel_rfl) (by kernel_rfl) (fun _ _ _ h => h) (Or.inl ⟨by rfl, ?_⟩) (by assumption) ?_; rotate_left; (focus (intro wS hSw; (try dsimp only at hSw); go_simp; (try with_reducible rfl))); (try simp only [Act.put, List.getElem_toArray, List.getElem_cons_zero, List.getElem_cons_succ, List.setIfInBounds_toArray, List.set_cons_zero, List.set_cons_succ]))
      (refine wpAnyH_ready (rs := [2]) (by kernel_rfl) (by simp) ?_; refine AllReadyH.cons rfl (fun K hK => ?_) AllReadyH.nil; go_simp)
      go_at_call 29
      refine (HDJ.out _ _ _ HIY7.out HIA7.out).mono ?_
      rintro e w8 ⟨rfl, hb⟩
      have HG8 := Lib.hid (HG7.out.trans (Frm.pure hb (fun _ => False)))
      have HIA8 := Lib.hid (HIA7.out.lift hb)
      have HIX8 := Lib.hid (HIX7.out.lift hb)
      have HB8 := Lib.hid (HB7.out.trans (hb.mono hq6))
      have hq8 := Nat.le_trans hq6 hb.size
      clear hb c0 c1 n0 n1 g0 g1
      have HAC8 := Lib.hid (HAC6.out.frmY HG8.out (fun h => h))
      have HN8 := Lib.hid (HN6.out.frmY HG8.out (fun h => h))
      have HBS8 := Lib.hid (HBS6.out.frmY HG8.out (fun h => h))
      obtain ⟨c0, c1, _, _, _⟩ := HAC8.out
      obtain ⟨n0, n1, _, _, _⟩ := HN8.out
      obtain ⟨g0, g1, _, _, _⟩ := HBS8.out
      unfold RV.slc at g1
      dsimp only at g1
      go_wp2_with fail
      (refine hK.out _ _ ?_ (fun hHeld2 => ?_); (focus ((try dsimp only); exact ⟨c0, c1, n0, n1, g0, g1⟩)); (clear hK K); (try simp only [Act.put, List.getElem_toArray, List.getElem_cons_zero, List.getElem_cons_succ, List.setIfInBounds_toArray, List.set_cons_zero, List.set_cons_succ]))
      (refine wpAnyH_ready (rs := [5]) (by kernel_rfl) (by simp) ?_; refine AllReadyH.cons rfl (fun K hK => ?_) AllReadyH.nil; go_simp)
      go_at_call 29
      refine (HDB.out _ _ _ HIX8.out HIA8.out).mono ?_
      rintro e w9 ⟨rfl, hb⟩
      have HG9 := Lib.hid (HG8.out.trans (Frm.pure hb (fun _ => False)))
      have HB9 := Lib.hid (HB8.out.trans (hb.mono hq8))
      clear hb c0 c1 n0 n1 g0 g1
      have HAC9 := Lib.hid (HAC6.out.frmY HG9.out (fun h => h))
      have HN9 := Lib.hid (HN6.out.frmY HG9.out (fun h => h))
      have HBS9 := Lib.hid (HBS6.out.frmY HG9.out (fun h => h))
      have HEC9 := Lib.hid ((HEC.out.frmY HF6.out (fun h => h)).frmY HG9.out (fun h => h))
      have HEL9 := Lib.hid ((HELs.out.frm HF6.out (fun h => h)).frm HG9.out (fun h => h))
      have HZC9 := Lib.hid ((HZC.out.frmY HF6.out (fun h => h)).frmY HG9.out (fun h => h))
      have HL9 := Lib.hid (HL6.out.frm HG9.out (fun h => h))
      have HRL9 := Lib.hid (HRL6.out.frm HG9.out (fun h => h))
      obtain ⟨c0, c1, _, _, _⟩ := HAC9.out
      obtain ⟨n0, n1, _, _, _⟩ := HN9.out
      obtain ⟨g0, g1, gf0, gf1, _⟩ := HBS9.out
      unfold RV.slc at g1
      dsimp only at g1
      go_wp2_with fail
      (refine hK.out _ _ ?_ (fun hHeld2 => ?_); (focus ((try dsimp only); exact ⟨c0, c1, n0, n1, g0, g1⟩)); (clear hK K); (try simp only [Act.put, List.getElem_toArray, List.getElem_cons_zero, List.getElem_cons_succ, List.setIfInBounds_toArray, List.set_cons_zero, List.set_cons_succ]))
      (refine wpAnyH_take (i := 6) (v := ?_) rfl (by kernel_rfl) (by kernel_rfl) (by kernel_rfl) (fun _ _ _ h => h) (Or.inl ⟨by rfl, ?_⟩) (by assumption) ?_; rotate_left; (focus (intro wS hSw; (try dsimp only at hSw); go_simp; (try with_reducible rfl))); (try simp only [Act.put, List.getElem_toArray, List.getElem_cons_zero, List.getElem_cons_succ, List.setIfInBounds_toArray, List.set_cons_zero, List.set_cons_succ]))
      refine wpAnyH_done (by kernel_rfl) ?_ _
      by_cases hlt2 : F2 < F1
      · rw [if_pos (show -F1 < -F2 by omega)] at HBK
        have HS9 := Lib.hid ((HBS9.out.set0 (.int .i64 N)).set1 (.slice A5 Y.length c5))
        have HFS := Lib.hid ((Frm.setCell (S := fun c => c = ge + 1) (p := ⟨ge + 1, 0, none⟩) (Frm.refl _ w9) rfl (.int .i64 N)).setCell (p := ⟨ge + 1, 1, none⟩) rfl (.slice A5 Y.length c5))
        go_wp2_with fail
        go_roundw
        case rel => exact ⟨j + 1, ⟨N, Y, A5, c5, b5⟩, by omega, by go_num, rfl, by rw [HBK.out]; exact HYY.out.symm, HL9.out.frm HFS.out (show ¬ b5 = ge + 1 from hbY.2), hbY, HS9.out, HEC9.out.frmY HFS.out (show ¬ ge = ge + 1 by omega), HEL9.out.frm HFS.out (show ¬ be = ge + 1 by omega), HAC9.out.frmY HFS.out (show ¬ q = ge + 1 by omega), HZC9.out.frmY HFS.out (show ¬ q + 1 = ge + 1 by omega), HB9.out.trans (HFS.out.below (B := q) (fun c h => by have h : c = ge + 1 := h; omega) (by have := HAC9.out.2.2.2.2; omega))⟩
        case measure => simp [intOf]; omega
      · rw [if_neg (show ¬ -F1 < -F2 by omega)] at HBK
        go_wp2_with fail
        go_roundw
        case rel => exact ⟨j + 1, ⟨N, X, AX, cX, bX⟩, by omega, by go_num, rfl, by rw [HBK.out]; exact HRX.out, HRL9.out, hrb, HBS9.out, HEC9.out, HEL9.out, HAC9.out, HZC9.out, HB9.out⟩
        case measure => simp [intOf]; omega
    · have hjN : j = N := by omega
      subst hjN
      have HVX := Lib.hid (show nearX j a = X by
        have h1 := HRX.out
        rw [HK.out] at h1
        rw [h1, ← HEE.out]
        rfl)
      have HDB := Lib.hid (HDI.out (bestK (nearF j a) j))
      rw [← HRX.out] at HDB
      have HVF := Lib.hid (show nearG j a (bestK (nearF j a) j) = (comN (nearX j a) a (nearX j a).length : Nat) by
        unfold nearX
        rw [HK.out]
        rfl)
      rw [HVF.out] at HDB
      obtain ⟨F, hF⟩ : ∃ F : Int, ((comN (nearX j a) a (nearX j a).length : Nat) : Int) = F := ⟨_, rfl⟩
      have HFF := Lib.hid hF
      rw [hF] at HDB
      obtain ⟨g0, g1, _, _, _⟩ := HBS.out
      unfold RV.slc at g1
      dsimp only at g1
      clear hF e0 e1
      go_wp2_with fail
      (refine wp_region_held_drew (S := (fun w' => w'.cell? ⟨q, 0, none⟩ = some (.int .i64 j) ∧ w'.cell? ⟨q, 1, none⟩ = some (.slice A a.length ca) ∧ w'.cell? ⟨ge + 1, 0, none⟩ = some (.int .i64 j) ∧ w'.cell? ⟨ge + 1, 1, none⟩ = some (.slice AX X.length cX))) (by kernel_rfl) ?_ (fun hHeld => ?_); (focus ((try dsimp only); exact ⟨c0, c1, g0, g1⟩)))
      have HG7 := Lib.hid ((Frm.refl (fun _ => False) wo).drew)
      have HB7 := Lib.hid (Below.drew5_ HBE.out)
      have hq6 : q + 2 ≤ wo.drew.heap.size := by have := HZC.out.2.2.2.2; show q + 2 ≤ wo.heap.size; omega
      generalize wo.drew = w7 at *
      have HIA7 := Lib.hid ((HA.out.below HB7.out).mono (show q ≤ w7.heap.size by omega))
      have HIX7 := Lib.hid ((HRL.out.frm HG7.out (fun h => h)).ints (show ∀ x ∈ X, Fits x by rw [HRX.out]; exact rh_fitsE (HXL.out _).1))
      (refine wpAnyH_take (i := 0) (v := ?_) rfl (by kernel_rfl) (by kernel_rfl) (by kernel_rfl) (fun _ _ _ h => h) (Or.inl ⟨by rfl, ?_⟩) (by assumption) ?_; rotate_left; (focus (intro wS hSw; (try dsimp only at hSw); go_simp; (try with_reducible rfl))); (try simp only [Act.put, List.getElem_toArray, List.getElem_cons_zero, List.getElem_cons_succ, List.setIfInBounds_toArray, List.set_cons_zero, List.set_cons_succ]))
      (refine wpAnyH_take (i := 1) (v := ?_) rfl (by kernel_rfl) (by kernel_rfl) (by kernel_rfl) (fun _ _ _ h => h) (Or.inl ⟨by rfl, ?_⟩) (by assumption) ?_; rotate_left; (focus (intro wS hSw; (try dsimp only at hSw); go_simp; (try with_reducible rfl))); (try simp only [Act.put, List.getElem_toArray, List.getElem_cons_zero, List.getElem_cons_succ, List.setIfInBounds_toArray, List.set_cons_zero, List.set_cons_succ]))
      (refine wpAnyH_take (i := 2) (v := ?_) rfl (by kernel_rfl) (by kernel_rfl) (by kernel_rfl) (fun _ _ _ h => h) (Or.inl ⟨by rfl, ?_⟩) (by assumption) ?_; rotate_left; (focus (intro wS hSw; (try dsimp only at hSw); go_simp; (try with_reducible rfl))); (try simp only [Act.put, List.getElem_toArray, List.getElem_cons_zero, List.getElem_cons_succ, List.setIfInBounds_toArray, List.set_cons_zero, List.set_cons_succ]))
      (refine wpAnyH_ready (rs := [3]) (by kernel_rfl) (by simp) ?_; refine AllReadyH.cons rfl (fun K hK => ?_) AllReadyH.nil; go_simp)
      go_at_call 29
      refine (HDB.out _ _ _ HIX7.out HIA7.out).mono ?_
      rintro e w8 ⟨rfl, hb⟩
      have HG8 := Lib.hid (HG7.out.trans (Frm.pure hb (fun _ => False)))
      have HB8 := Lib.hid (HB7.out.trans (hb.mono (by omega)))
      have hq8 := Nat.le_trans hq6 hb.size
      clear hb c0 c1 g0 g1
      have HAC8 := Lib.hid (HAC.out.frmY HG8.out (fun h => h))
      have HBS8 := Lib.hid (HBS.out.frmY HG8.out (fun h => h))
      have HZC8 := Lib.hid (HZC.out.frmY HG8.out (fun h => h))
      have HRL8 := Lib.hid (HRL.out.frm HG8.out (fun h => h))
      obtain ⟨c0, c1, _, _, _⟩ := HAC8.out
      obtain ⟨g0, g1, _, _, _⟩ := HBS8.out
      obtain ⟨z0, z1, zf0, zf1, _⟩ := HZC8.out
      unfold RV.slc at g1
      dsimp only at g1
      go_wp2_with fail
      (refine hK.out _ _ ?_ (fun hHeld2 => ?_); (focus ((try dsimp only); exact ⟨c0, c1, g0, g1⟩)); (clear hK K); (try simp only [Act.put, List.getElem_toArray, List.getElem_cons_zero, List.getElem_cons_succ, List.setIfInBounds_toArray, List.set_cons_zero, List.set_cons_succ]))
      (refine wpAnyH_ready (rs := [4]) (by kernel_rfl) (by simp) ?_; refine AllReadyH.cons rfl (fun K hK => ?_) AllReadyH.nil; go_simp)
      have HS9 := Lib.hid ((HZC8.out.set0 (.int .i64 j)).set1 (.slice AX X.length cX))
      have HFS := Lib.hid ((Frm.setCell (S := fun c => c = q + 1) (p := ⟨q + 1, 0, none⟩) (Frm.refl _ w8) rfl (.int .i64 j)).setCell (p := ⟨q + 1, 1, none⟩) rfl (.slice AX X.length cX))
      have HAC9 := Lib.hid (HAC8.out.frmY HFS.out (show ¬ q = q + 1 by omega))
      have HBS9 := Lib.hid (HBS8.out.frmY HFS.out (show ¬ ge + 1 = q + 1 by omega))
      have HRL9 := Lib.hid (HRL8.out.frm HFS.out (show ¬ bX = q + 1 from hrb.1))
      have HB9 := Lib.hid (HB8.out.trans (HFS.out.below (B := q) (fun c h => by have h : c = q + 1 := h; omega) (by omega)))
      clear c0 c1 g0 g1 z0 z1
      obtain ⟨c0, c1, _, _, _⟩ := HAC9.out
      obtain ⟨g0, g1, _, _, _⟩ := HBS9.out
      obtain ⟨z0, z1, _, _, _⟩ := HS9.out
      unfold RV.slc at g1
      dsimp only at g1
      (refine hK.out _ _ ?_ (fun hHeld2 => ?_); (focus ((try dsimp only); exact ⟨c0, c1, g0, g1⟩)); (clear hK K); (try simp only [Act.put, List.getElem_toArray, List.getElem_cons_zero, List.getElem_cons_succ, List.setIfInBounds_toArray, List.set_cons_zero, List.set_cons_succ]))
      (refine wpAnyH_take (i := 5) (v := ?_) rfl (by kernel_rfl) (by kernel_rfl) (by kernel_rfl) (fun _ _ _ h => h) (Or.inl ⟨by rfl, ?_⟩) (by assumption) ?_; rotate_left; (focus (intro wS hSw; (try dsimp only at hSw); go_simp; (try with_reducible rfl))); (try simp only [Act.put, List.getElem_toArray, List.getElem_cons_zero, List.getElem_cons_succ, List.setIfInBounds_toArray, List.set_cons_zero, List.set_cons_succ]))
      refine wpAnyH_done (by kernel_rfl) ?_ _
      go_wp2_with fail
      refine bodyPost_ret (v := .tuple #[.agg #[.int .i64 j, .slice AX X.length cX], .int .i64 F]) (by simp [results, Tryz.results12, go_sem, z0, z1]) rfl ?_
      rw [HFF.out, HVX.out]
      exact ⟨AX, cX, rfl, by rw [HQ.out]; exact HRL9.out.rw', by rw [HQ.out]; exact HB9.out⟩

end Go.Proofs.YtabjklhnghdfoaaGreatDoor

namespace Go.Proofs.YtabjklhnghdfoaaGreatDoor
open Go.RowKit Go.Shelf
set_option linter.unusedVariables false
set_option linter.unusedSimpArgs false

set_option maxRecDepth 100000 in
set_option maxHeartbeats 1000000 in
theorem spec_FormatRhythm_ok (N : Nat) (A : Option Addr) (cap : Nat) (bs : List Int) (w : World) (hA : Ints w w.heap.size A bs) (hok : RhOk N bs) :
    Calls Tryz.prog 14 #[.agg #[.int .i64 N, .slice A bs.length cap]] w fun e w' => e = .returned (.string (mkS (textF N bs (fun _ => 120)))) ∧ Below w.heap.size w w' := by
  have hlen := hA.1
  unfold maxLen at hlen
  have hn1 : 1 ≤ N := by have := hok.1; omega
  have hn2 : N ≤ 24 := by have := hok.2.1; omega
  have hro := fun (V : World) (hV : Ints V V.heap.size A bs) => spec_RhythmOk_any N A cap bs V hV
  rw [rhB_iff.2 hok] at hro
  have HRO := Lib.hid hro
  have HA := Lib.hid hA
  clear hA hok hro
  have HW := Lib.hid ((Below.refl w.heap.size w).alloc (Nat.le_refl _) (.cells #[.int .i64 N, .slice A bs.length cap] 27))
  obtain ⟨c0, c1⟩ := box2 (Below.refl (w.heap.size + 1) (w.alloc (.cells #[.int .i64 N, .slice A bs.length cap] 27)))
  go_enter Tryz.func14, Tryz.ntmps14
  go_wp2_with fail
  refine (HRO.out _ (HA.out.lift HW.out)).mono ?_
  rintro e w0 ⟨rfl, hb0⟩
  have hb0' := (bcellB hb0).1
  have e0 := (hb0' w.heap.size 0 (by first | exact Nat.le_refl _ | (simp; done) | (simp; omega) | omega)).trans c0
  have e1 := (hb0' w.heap.size 1 (by first | exact Nat.le_refl _ | (simp; done) | (simp; omega) | omega)).trans c1
  have HW1 := Lib.hid (HW.out.trans (hb0.mono (by first | exact Nat.le_refl _ | (simp; done) | (simp; omega) | omega)))
  have HI := Lib.hid (HA.out.lift HW1.out)
  clear c0 c1 hb0 hb0'
  go_wp2_with fail
  go_loop [3, 4] (fun s p => ∃ (q : Nat) (u : ByteArray), q ≤ N ∧ p = .int .i64 q ∧ s = .string u ∧ Str u (tabL q (txF bs (fun _ => 120)))) (fun _ p => N - (intOf p).toNat)
  case atStart => exact ⟨0, _, Nat.zero_le _, rfl, rfl, str_nil⟩
  case round =>
    obtain ⟨q, u, hq, rfl, rfl, hu⟩ := hrel
    by_cases hlt : q < N
    · have hsz := hu.size
      rw [tabL_len] at hsz
      have hsz' : u.size ≤ 1000 := by omega
      clear hsz
      have hs := tabL_succ q (txF bs (fun _ => 120))
      have HH := fun V hV => spec_l02Has_any A cap bs (q : Int) V V.heap.size hV
      cases hh : hasB bs (q : Int)
      · rw [show txF bs (fun _ => 120) q = 46 by unfold txF; rw [hh]; rfl] at hs
        rw [hh] at HH
        have HS := Lib.hid hs
        have HHH := Lib.hid HH
        clear hs HH hh
        go_wp2_with fail
        refine (HHH.out _ HI.out).mono ?_
        rintro e w' ⟨rfl, rfl⟩
        go_wp2_with fail
        go_round
        case rel => exact ⟨q + 1, _, by omega, by go_num, rfl, by rw [HS.out]; exact hu.app (str_one _)⟩
        case measure => simp [intOf]; omega
      · rw [show txF bs (fun _ => 120) q = 120 by unfold txF; rw [hh]; rfl] at hs
        rw [hh] at HH
        have HS := Lib.hid hs
        have HHH := Lib.hid HH
        clear hs HH hh
        go_wp2_with fail
        refine (HHH.out _ HI.out).mono ?_
        rintro e w' ⟨rfl, rfl⟩
        go_wp2_with fail
        go_round
        case rel => exact ⟨q + 1, _, by omega, by go_num, rfl, by rw [HS.out]; exact hu.app (str_one _)⟩
        case measure => simp [intOf]; omega
    · have hqe : q = N := by omega
      subst hqe
      have HU := Lib.hid hu.eq
      clear hu
      go_wp2_with fail
      go_ret
      exact ⟨ret_str HU.out, HW1.out⟩

end Go.Proofs.YtabjklhnghdfoaaGreatDoor

namespace Go.Proofs.YtabjklhnghdfoaaGreatDoor
open Go.RowKit
set_option linter.unusedVariables false
set_option linter.unusedSimpArgs false

theorem Tryz.infoString : (Tryz.prog.info? 9).map (fun i => (i.zero, i.size, i.bytes)) = some (some (.string ByteArray.empty), 1, 16) := by kernel_rfl

abbrev Txt := List UInt8
def emS (l : Txt) : Value := .string (mkS l)

/-- A slice of strings that lies below block B and reads as the list. -/
def Strs (w : World) (B : Nat) (A : Option Addr) (xs : List Txt) : Prop :=
  xs.length ≤ 1048576 ∧ (0 < xs.length → ∃ b off, A = some ⟨b, off, none⟩ ∧ b < B ∧ ∀ i, i < xs.length → w.cell? ⟨b, off + i, none⟩ = some (emS (xs.getD i [])))
section
variable {w w' : World} {B B' : Nat} {A : Option Addr} {xs : List Txt}
theorem Strs.below (h : Strs w B A xs) (hb : Below B w w') : Strs w' B A xs :=
  ⟨h.1, fun hn => by
    obtain ⟨b, off, rfl, hlt, hc⟩ := h.2 hn
    exact ⟨b, off, rfl, hlt, fun i hi => (hb.cell (p := ⟨b, off + i, none⟩) hlt).trans (hc i hi)⟩⟩
theorem Strs.mono (h : Strs w B A xs) (hB : B ≤ B') : Strs w B' A xs :=
  ⟨h.1, fun hn => by
    obtain ⟨b, off, rfl, hlt, hc⟩ := h.2 hn
    exact ⟨b, off, rfl, by omega, hc⟩⟩
theorem Strs.lift (h : Strs w w.heap.size A xs) (hb : Below w.heap.size w w') : Strs w' w'.heap.size A xs := (h.below hb).mono hb.size
theorem Strs.drewN (h : Strs w B A xs) (n : Nat) : Strs (w.drewN n) B A xs := h
theorem Strs.nil (w : World) (B : Nat) (A : Option Addr) : Strs w B A [] := ⟨Nat.zero_le _, fun h => absurd h (by simp)⟩
theorem Strs.take (h : Strs w B A xs) (k : Nat) : Strs w B A (xs.take k) :=
  ⟨by rw [List.length_take]; have := h.1; omega, fun hn => by
    rw [List.length_take] at hn
    obtain ⟨b, off, rfl, hlt, hc⟩ := h.2 (by omega)
    refine ⟨b, off, rfl, hlt, fun i hi => ?_⟩
    rw [List.length_take] at hi
    rw [hc i (by omega), List.getD_eq_getElem?_getD, List.getD_eq_getElem?_getD, List.getElem?_take_of_lt (by omega)]⟩
theorem Strs.drop {b off : Nat} (h : Strs w B (some ⟨b, off, none⟩) xs) (k : Nat) : Strs w B (some ⟨b, off + k, none⟩) (xs.drop k) :=
  ⟨by rw [List.length_drop]; have := h.1; omega, fun hn => by
    rw [List.length_drop] at hn
    obtain ⟨b', off', e, hlt, hc⟩ := h.2 (by omega)
    injection e with e
    injection e with e1 e2
    subst e1 e2
    refine ⟨b, off + k, rfl, hlt, fun i hi => ?_⟩
    rw [List.length_drop] at hi
    rw [Nat.add_assoc, hc (k + i) (by omega), List.getD_eq_getElem?_getD, List.getD_eq_getElem?_getD, List.getElem?_drop]⟩
end

/-- v is a slice of strings of the call's own, in blocks from base on, that holds the list. -/
def OwnS (w : World) (base : Nat) (v : Value) (xs : List Txt) : Prop := w.ownsRow base 9 1 v xs.length (xs.map emS)
section
variable {w w' : World} {base : Nat} {v : Value} {xs : List Txt}
theorem OwnS.nil (w : World) (base : Nat) : OwnS w base (.slice none 0 0) [] := World.ownsRow_nil _ _ _ _
theorem OwnS.empty_at (w : World) (base g : Nat) (hg : w.heap.size = g) (hb : base ≤ g) : OwnS (w.alloc (.cells #[] 9)) base (.slice (some ⟨g, 0, none⟩) 0 0) [] := by
  subst hg
  exact ⟨rfl, .inr ⟨w.heap.size, 0, #[], rfl, hb, heap_alloc_new w _, Nat.le_refl _, Nat.zero_le _, rfl, rfl⟩⟩
theorem OwnS.alloc (h : OwnS w base v xs) (o : Obj) : OwnS (w.alloc o) base v xs := World.ownsRow.alloc h o
theorem OwnS.drew (h : OwnS w base v xs) : OwnS w.drew base v xs := h
theorem OwnS.drewN (h : OwnS w base v xs) (n : Nat) : OwnS (w.drewN n) base v xs := h
theorem OwnS.mono {base' : Nat} (h : OwnS w base v xs) (hb : base' ≤ base) : OwnS w base' v xs := by
  refine ⟨h.1, ?_⟩
  rcases h.2 with h | ⟨g, cap, cur, e, hg, r⟩
  · exact .inl h
  · exact .inr ⟨g, cap, cur, e, by omega, r⟩
theorem OwnS.form (h : OwnS w base v xs) : ∃ A cap, v = .slice A xs.length cap ∧ xs.length ≤ cap ∧ (0 < cap → ∃ g, A = some ⟨g, 0, none⟩ ∧ base ≤ g ∧ g < w.heap.size) ∧ cap ≤ maxLen := by
  rcases h.2 with ⟨rfl, h0⟩ | ⟨g, cap, cur, rfl, hg, hh, hnc, hm, _⟩
  · exact ⟨none, 0, by rw [h0], by omega, fun h => by omega, by unfold maxLen; omega⟩
  · exact ⟨some ⟨g, 0, none⟩, cap, rfl, hnc, fun _ => ⟨g, rfl, hg, (Array.getElem?_eq_some_iff.1 hh).1⟩, hm⟩
theorem OwnS.lt (h : OwnS w base v xs) : ∀ k, v.ownBlock = some k → base ≤ k ∧ k < w.heap.size := World.ownsRow.lt h
theorem OwnS.grown (h : OwnS w base v xs) (hb : Below w.heap.size w w') : OwnS w' base v xs := by
  refine ⟨h.1, ?_⟩
  rcases h.2 with ⟨rfl, h0⟩ | ⟨g, cap, cur, rfl, hg, hh, r⟩
  · exact .inl ⟨rfl, h0⟩
  · have hlt : g < w.heap.size := (Array.getElem?_eq_some_iff.1 hh).1
    exact .inr ⟨g, cap, cur, rfl, hg, by rw [hb.block g hlt]; exact hh, r⟩
theorem OwnS.strs {A : Option Addr} {cap : Nat} (h : OwnS w base (.slice A xs.length cap) xs) (hl : xs.length ≤ 1048576) : Strs w w.heap.size A xs := by
  rcases h.2 with ⟨hv, h0⟩ | ⟨g, cap', cur, hv, _, hh, hnc, hm, hsz, hxs⟩
  · exact ⟨hl, fun hn => absurd h0 (by omega)⟩
  · refine ⟨hl, fun hn => ?_⟩
    have hA : A = some ⟨g, 0, none⟩ := by injection hv
    subst hA
    have hlt := (h.lt g rfl).2
    refine ⟨g, 0, rfl, hlt, fun i hi => ?_⟩
    have := World.ownsRow.cells h (g := g) rfl i (emS (xs.getD i [])) (by rw [List.getElem?_map, List.getElem?_eq_getElem hi]; simp [List.getD_eq_getElem?_getD, hi])
    rwa [Go.WideShapes.add_plain] at this
end

theorem news_strs {w : World} {b off : Nat} {ys : List Txt} (hc : ∀ i, i < ys.length → w.cell? ⟨b, off + i, none⟩ = some (emS (ys.getD i []))) :
    (∀ j u, (ys.map emS)[j]? = some u → w.cell? ((⟨b, off, none⟩ : Addr).add j) = some u) ∧ ∀ u ∈ ys.map emS, u.oneCell' = true := by
  refine ⟨fun j u hu => ?_, fun u hu => ?_⟩
  · rw [List.getElem?_map] at hu
    have hj : j < ys.length := by
      apply Classical.byContradiction
      intro hh
      rw [List.getElem?_eq_none (by omega)] at hu
      cases hu
    rw [Addr.add_lit, hc j hj, List.getD_eq_getElem?_getD]
    rw [List.getElem?_eq_getElem hj] at hu ⊢
    exact hu
  · obtain ⟨t, _, rfl⟩ := List.mem_map.1 hu
    rfl

set_option maxRecDepth 100000 in
/-- 'append(s, ys...)' onto a slice of strings of the call's own; ys lies anywhere, nil let in. -/
theorem wpList_append_strs {w : World} {ops : Array Oper} {rest : List Oper} {o : Oper} {a : Act} {Q : Exit → Act → World → Prop} (hgd : o.guard = none) (s x : Operand)
    (ho : o.op = .call { callee := .builtin .append, args := #[s, x], argTypes := #[39, 39] })
    (base : Nat) (v : Value) (xs : List Txt) (hs : a.eval s = v) (hown : OwnS w base v xs) (A : Option Addr) (c : Nat) (ys : List Txt) (hx : a.eval x = .slice A ys.length c)
    (B : Nat) (hy : Strs w B A ys) (hform : A = none → c = 0) (hpl : ∀ ad, A = some ad → ∃ b off, ad = ⟨b, off, none⟩) (hlen : xs.length + ys.length ≤ 1048576) (hbase : base ≤ w.heap.size)
    (h : ∀ v' w', OwnS w' base v' (xs ++ ys) → Below base w w' → wpList Tryz.prog ops Q rest (a.put o.dst v') w') : wpList Tryz.prog ops Q (o :: rest) a w := by
  obtain ⟨i, hi, hz, hsz, hby⟩ := info_parts Tryz.infoString
  cases A with
  | none =>
    have h0 : ys = [] := by
      cases ys with
      | nil => rfl
      | cons y ys => obtain ⟨b, off, e, _⟩ := hy.2 (by simp); cases e
    subst h0
    have := hform rfl
    subst this
    refine wpList_append_own_none hgd s x _ ho base 9 i 1 Tryz.underlying39 hi v xs.length _ hs hown hx ?_
    exact h v w (by simpa using hown) (Below.refl _ _)
  | some ad =>
    obtain ⟨b, off, rfl⟩ := hpl ad rfl
    have hcells : ∀ i, i < ys.length → w.cell? ⟨b, off + i, none⟩ = some (emS (ys.getD i [])) := by
      intro i hi
      obtain ⟨b', off', e, _, hc⟩ := hy.2 (by omega)
      injection e with e
      injection e with e1 e2
      subst e1 e2
      exact hc i hi
    refine wpList_append_own _ hgd s x _ ho base 9 i _ 1 16 Tryz.underlying39 hi hz hsz hby rfl (by omega) v xs.length _ hs hown ⟨b, off, none⟩ ys.length c (ys.map emS) hx (by simp) (news_strs hcells).1 (news_strs hcells).2 (by unfold maxLen; omega) (by omega) hbase ?_
    intro v' w' hown' hgrow _
    refine h v' w' ?_ ?_
    · unfold OwnS
      rw [List.length_append, List.map_append]
      exact hown'
    · exact (Below.refl base w).grown hgrow hbase (fun k hk => (hown.lt k hk).1)

set_option maxRecDepth 100000 in
/-- 'append(s, y)'. -/
theorem wpList_append_str {w : World} {ops : Array Oper} {rest : List Oper} {o : Oper} {a : Act} {Q : Exit → Act → World → Prop} (hgd : o.guard = none) (s x : Operand)
    (ho : o.op = .call { callee := .builtin .append, args := #[s, x], argTypes := #[39, 39] })
    (base : Nat) (v : Value) (xs : List Txt) (hs : a.eval s = v) (hown : OwnS w base v xs) (g : Nat) (y : Txt) (hx : a.eval x = .slice (some ⟨g, 0, none⟩) 1 1)
    (hcell : w.cell? ⟨g, 0, none⟩ = some (emS y)) (hlen : xs.length < 1048576) (hbase : base ≤ w.heap.size)
    (h : ∀ v' w', OwnS w' base v' (xs ++ [y]) → Below base w w' → wpList Tryz.prog ops Q rest (a.put o.dst v') w') : wpList Tryz.prog ops Q (o :: rest) a w := by
  refine wpList_append_strs hgd s x ho base v xs hs hown (some ⟨g, 0, none⟩) 1 [y] hx (g + 1) ⟨by simp, fun _ => ⟨g, 0, rfl, Nat.lt_succ_self _, fun i hi => ?_⟩⟩ (fun h => by cases h) (fun ad h => by injection h with h; exact ⟨g, 0, h.symm⟩) (by simp; omega) hbase h
  have : i = 0 := by simpa using hi
  subst this
  exact hcell

theorem strs_cells (w : World) (g : Nat) (xs : List Txt) (hl : xs.length ≤ 1048576) (hg : w.heap.size = g) : Strs (w.alloc (.cells (xs.map emS).toArray 9)) (w.alloc (.cells (xs.map emS).toArray 9)).heap.size (some ⟨g, 0, none⟩) xs := by
  subst hg
  refine ⟨hl, fun _ => ⟨w.heap.size, 0, rfl, by simp, fun i hi => ?_⟩⟩
  rw [cell_of_row _ _ _ _ _ _ (heap_alloc_new w _), Nat.zero_add]
  rw [List.getElem?_toArray, List.getElem?_map, List.getElem?_eq_getElem hi, List.getD_eq_getElem?_getD, List.getElem?_eq_getElem hi]
  rfl

end Go.Proofs.YtabjklhnghdfoaaGreatDoor

namespace Go.Proofs.YtabjklhnghdfoaaGreatDoor
open Go.RowKit Go.Shelf
set_option linter.unusedVariables false
set_option linter.unusedSimpArgs false

def joinT (xs : List Txt) (sep : Txt) : Txt := Lib.join xs sep
theorem joinTail_snoc (sep : Txt) (r : List Txt) (y : Txt) : Lib.joinTail sep (r ++ [y]) = Lib.joinTail sep r ++ (sep ++ y) := by
  unfold Lib.joinTail; simp
theorem joinT_snoc (xs : List Txt) (y sep : Txt) (h : xs ≠ []) : joinT (xs ++ [y]) sep = joinT xs sep ++ (sep ++ y) := by
  cases xs with
  | nil => exact absurd rfl h
  | cons x r =>
    unfold joinT
    rw [List.cons_append, Lib.join_cons, Lib.join_cons, joinTail_snoc, List.append_assoc]
theorem joinT_nil (sep : Txt) : joinT [] sep = [] := rfl
theorem joinT_one (x sep : Txt) : joinT [x] sep = x := Lib.join_one x sep
theorem take_snocT (xs : List Txt) (k : Nat) (h : k < xs.length) : xs.take (k + 1) = xs.take k ++ [xs.getD k []] := by
  rw [List.take_succ_eq_append_getElem h, List.getD_eq_getElem?_getD, List.getElem?_eq_getElem h]; rfl
theorem joinT_take (xs : List Txt) (sep : Txt) (k : Nat) (h : k < xs.length) : joinT (xs.take (k + 1)) sep = joinT (xs.take k) sep ++ ((if k = 0 then [] else sep) ++ xs.getD k []) := by
  rw [take_snocT xs k h]
  by_cases h0 : k = 0
  · subst h0; simp [joinT_nil, joinT_one]
  · rw [if_neg h0, joinT_snoc]
    intro e
    have : min k xs.length = 0 := by rw [← List.length_take, e]; rfl
    omega
theorem joinT_len (sep : Txt) (M : Nat) : ∀ xs : List Txt, (∀ x ∈ xs, x.length ≤ M) → (joinT xs sep).length ≤ xs.length * (M + sep.length)
  | [], _ => by simp [joinT_nil]
  | x :: r, h => by
    have hr : ∀ r : List Txt, (∀ x ∈ r, x.length ≤ M) → (Lib.joinTail sep r).length ≤ r.length * (M + sep.length) := by
      intro r
      induction r with
      | nil => intro _; simp [Lib.joinTail]
      | cons y r ih =>
        intro h
        have h1 := ih (fun x hx => h x (List.mem_cons_of_mem _ hx))
        have h2 := h y List.mem_cons_self
        have : Lib.joinTail sep (y :: r) = (sep ++ y) ++ Lib.joinTail sep r := by unfold Lib.joinTail; simp
        rw [this, List.length_append, List.length_append, List.length_cons, Nat.succ_mul]
        generalize r.length * (M + sep.length) = q at h1 ⊢
        omega
    have h1 := hr r (fun y hy => h y (List.mem_cons_of_mem _ hy))
    have h2 := h x List.mem_cons_self
    unfold joinT
    rw [Lib.join_cons, List.length_append, List.length_cons, Nat.succ_mul]
    generalize r.length * (M + sep.length) = q at h1 ⊢
    omega

set_option maxRecDepth 100000 in
theorem impl_Join_any (A : Option Addr) (c : Nat) (xs : List Txt) (sep : Txt) (M : Nat) (w : World) (hI : Strs w w.heap.size A xs) (hc : xs.length ≤ c) (hM : ∀ x ∈ xs, x.length ≤ M) (hM2 : M + sep.length ≤ 134217728) :
    Calls Tryz.prog 21 #[.slice A xs.length c, .string (mkS sep)] w fun e w' => e = .returned (.string (mkS (joinT xs sep))) ∧ Below w.heap.size w w' := by
  have hl := joinT_len sep M xs hM
  have hx := hI.1
  have hJ : Calls Tryz.prog 38 #[.slice A xs.length c, .string (mkS sep)] w fun e w' => e = .returned (.string (mkS (joinT xs sep))) ∧ Below w.heap.size w w' := by
    cases xs with
    | nil =>
      refine (Any.strings_Join_none Tryz.lays156 Tryz.bx156 A c (mkS sep) w).mono ?_
      rintro e w' ⟨rfl, rfl⟩
      exact ⟨rfl, Below.refl _ _⟩
    | cons x r =>
      obtain ⟨b, off, rfl, hb, hcell⟩ := hI.2 (by simp)
      have e1 : ((x :: r).map mkS).map (fun t => t.data.toList) = x :: r := by
        rw [List.map_map]
        conv => rhs; rw [← List.map_id (x :: r)]
        exact List.map_congr_left fun t _ => str_mk t
      have hbig : (joinT (x :: r) sep).length ≤ 140737488355328 := by
        have : (x :: r).length * (M + sep.length) ≤ 1048576 * 134217728 := Nat.mul_le_mul hx hM2
        omega
      have := Any.strings_Join Tryz.lays156 Tryz.bx156 b off c ((x :: r).map mkS) (mkS sep) w (fun j t ht => by
          rw [List.getElem?_map] at ht
          have hj : j < (x :: r).length := by
            apply Classical.byContradiction
            intro hh
            rw [List.getElem?_eq_none (by omega)] at ht
            cases ht
          rw [hcell j hj]
          rw [List.getElem?_eq_getElem hj] at ht
          injection ht with ht
          rw [← ht, List.getD_eq_getElem?_getD, List.getElem?_eq_getElem hj]
          rfl) hb (by rw [List.length_map]; omega) (by rw [List.length_map]; exact hc) (by rw [e1, show (mkS sep).data.toList = sep from str_mk sep]; exact hbig)
      rw [e1, List.length_map, show (mkS sep).data.toList = sep from str_mk sep] at this
      exact this
  have HJ := Lib.hid hJ
  generalize mkS (joinT xs sep) = X at HJ ⊢
  generalize mkS sep = SP at HJ ⊢
  clear hJ hl hx hI
  go_enter Tryz.func21, Tryz.ntmps21
  go_wp2_with fail
  refine HJ.out.mono ?_
  rintro e w1 ⟨rfl, hb⟩
  go_wp2_with fail
  go_ret
  exact ⟨rfl, hb⟩

end Go.Proofs.YtabjklhnghdfoaaGreatDoor

namespace Go.Proofs.YtabjklhnghdfoaaGreatDoor
open Go.RowKit Go.Shelf
set_option linter.unusedVariables false
set_option linter.unusedSimpArgs false

def digT (r : Nat) : List UInt8 := [UInt8.ofNat (48 + r)]

theorem impl_FormatInt_dig (r : Nat) (hr : r < 10) (w : World) :
    Calls Tryz.prog 23 #[.int .i64 r] w fun e w' => e = .returned (.string (mkS (digT r))) ∧ w = w' := by
  have HI := Lib.hid (Any.strconv_Itoa_small Tryz.lays171 r (by omega) w)
  have he : (⟨(Lib.decDigits r).toArray⟩ : ByteArray) = mkS (digT r) := by
    rw [Lib.decDigits, dif_pos hr]; rfl
  rw [he] at HI
  clear he
  generalize mkS (digT r) = X at HI ⊢
  go_enter Tryz.func23, Tryz.ntmps23
  go_wp2_with fail
  refine HI.out.mono ?_
  rintro e w' ⟨rfl, rfl⟩
  go_wp2_with fail
  go_ret
  exact ⟨rfl, rfl⟩

set_option maxRecDepth 100000 in
set_option maxHeartbeats 1000000 in
theorem spec_FormatInt_dig (r : Nat) (hr : r < 10) (w : World) :
    Calls Tryz.prog 15 #[.int .i64 r] w fun e w' => e = .returned (.string (mkS (digT r))) ∧ Below w.heap.size w w' := by
  have hw2 : IntKind.i64.wrap (48 + (r : Int)) = 48 + (r : Int) := i64w (by omega)
  have hw3 : IntKind.u8.wrap (48 + (r : Int)) = 48 + (r : Int) := by rw [IntKind.wrap_u8]; omega
  obtain ⟨c, hc⟩ : ∃ c : UInt8, UInt8.ofNat (48 + r) = c := ⟨_, rfl⟩
  have hcn : (c.toNat : Int) = 48 + (r : Int) := by rw [← hc, UInt8.toNat_ofNat']; omega
  have htb : TabU (w.alloc (.cells #[.int .u8 (48 + (r : Int))] 5)) w.heap.size 1 (fun _ => c) := by
    refine ⟨by simp, fun t ht => ?_⟩
    have ht0 : t = 0 := by omega
    subst ht0
    refine ⟨?_, frozen_of_row _ _ _ _ _ (heap_alloc_new w _)⟩
    rw [cell_new1, hcn]
  have hcv := htb.string 1
  have h1 : (mkS (tabL 1 fun _ => c)).size = 1 := by rw [mkS_size, tabL_len]
  have HC1 := Lib.hid (str_mk (tabL 1 fun _ => c))
  have HD := Lib.hid (show tabL 1 (fun _ => c) = digT r by unfold digT; rw [hc]; rfl)
  generalize mkS (tabL 1 fun _ => c) = C at hcv h1 HC1
  clear htb hcn hc
  have hr9 : ¬ 9 < r := by omega
  go_enter Tryz.func15, Tryz.ntmps15
  go_wp2_with fail
  refine wp_loop_rounds 1 ?_
  iterate 2 (first | (rw [rounds_succ]; go_wp2_with fail) | skip)
  go_ret
  refine ⟨ret_str ?_, (Below.refl w.heap.size w).alloc (Nat.le_refl _) _⟩
  have := HC1.out.app str_nil
  rw [List.append_nil, HD.out] at this
  exact this.eq

end Go.Proofs.YtabjklhnghdfoaaGreatDoor

namespace Go.Proofs.YtabjklhnghdfoaaGreatDoor
open Go.RowKit Go.Shelf
set_option linter.unusedVariables false
set_option linter.unusedSimpArgs false

/-- strconv's table of powers lies where it lay. -/
def Pow (w : World) : Prop := Lib.TabIs Tryz.prog w "internal/strconv.uint64pow10" .u64 Lib.pow10Tab
theorem Pow.below {w w' : World} (h : Pow w) (hb : Below w.heap.size w w') : Pow w' := by
  obtain ⟨g, hg⟩ : ∃ g, Tryz.prog.globalNamed "internal/strconv.uint64pow10" = some g := Option.isSome_iff_exists.1 (by kernel_rfl)
  exact Joins.tab_stays hg h hb (Nat.le_refl _)
theorem Pow.alloc {w : World} (h : Pow w) (o : Obj) : Pow (w.alloc o) := h.below ((Below.refl _ _).alloc (Nat.le_refl _) o)

def itoL (n : Int) : Txt := Lib.itoa n
theorem itoL_pos (N : Nat) : itoL (N : Int) = Lib.decDigits N := by
  unfold itoL Lib.itoa; rw [if_neg (by omega)]; rfl
theorem itoL_neg (N : Nat) (h : 0 < N) : itoL (-(N : Int)) = 45 :: Lib.decDigits N := by
  unfold itoL Lib.itoa; rw [if_pos (by omega)]; simp
theorem decD_small {k : Nat} (h : k < 10) : Lib.decDigits k = [UInt8.ofNat (48 + k)] := by rw [Lib.decDigits, dif_pos h]
theorem decD_big {k : Nat} (h : ¬ k < 10) : Lib.decDigits k = Lib.decDigits (k / 10) ++ [UInt8.ofNat (48 + k % 10)] := by rw [Lib.decDigits, dif_neg h]
theorem decD_len : ∀ (p k : Nat), k < 10 ^ (p + 1) → (Lib.decDigits k).length ≤ p + 1
  | 0, k, h => by rw [decD_small (by simpa using h)]; simp
  | p + 1, k, h => by
    by_cases h9 : k < 10
    · rw [decD_small h9]; simp
    · rw [decD_big h9, List.length_append]
      have := decD_len p (k / 10) (by rw [Nat.pow_succ] at h; omega)
      simp; omega
theorem itoL_len (n : Int) (h : Fits n) : (itoL n).length ≤ 20 := by
  unfold Fits at h
  obtain ⟨N, rfl | rfl⟩ := Int.eq_nat_or_neg n
  · rw [itoL_pos]
    have := decD_len 18 N (by omega)
    omega
  · by_cases h0 : 0 < N
    · rw [itoL_neg N h0]
      have := decD_len 18 N (by omega)
      simp; omega
    · have : N = 0 := by omega
      subst this
      rw [show (-((0 : Nat) : Int)) = ((0 : Nat) : Int) from rfl, itoL_pos, decD_small (by omega)]
      simp

theorem conv1 (V : World) (c : UInt8) (v : Int) (hv : (c.toNat : Int) = v) :
    (convert 47 9 (.slice (some ⟨V.heap.size, 0, none⟩) 1 1)).run Tryz.prog (V.alloc (.cells #[.int .u8 v] 5)) = .ok (.string (mkS [c])) (V.alloc (.cells #[.int .u8 v] 5)) := by
  have htb : TabU (V.alloc (.cells #[.int .u8 v] 5)) V.heap.size 1 (fun _ => c) := by
    refine ⟨by simp, fun t ht => ?_⟩
    have ht0 : t = 0 := by omega
    subst ht0
    refine ⟨?_, frozen_of_row _ _ _ _ _ (heap_alloc_new V _)⟩
    rw [cell_new1, hv]
  exact htb.string 1
theorem conv1b (V V' : World) (c : UInt8) (v : Int) (hv : (c.toNat : Int) = v) (hb : Below (V.alloc (.cells #[.int .u8 v] 5)).heap.size (V.alloc (.cells #[.int .u8 v] 5)) V') :
    (convert 47 9 (.slice (some ⟨V.heap.size, 0, none⟩) 1 1)).run Tryz.prog V' = .ok (.string (mkS [c])) V' := by
  have htb : TabU (V.alloc (.cells #[.int .u8 v] 5)) V.heap.size 1 (fun _ => c) := by
    refine ⟨by simp, fun t ht => ?_⟩
    have ht0 : t = 0 := by omega
    subst ht0
    refine ⟨?_, frozen_of_row _ _ _ _ _ (heap_alloc_new V _)⟩
    rw [cell_new1, hv]
  exact (htb.below hb (by simp)).string 1
theorem Below.undrew_ {B : Nat} {a w : World} (h : Below B a.drew w) : Below B a w := ⟨h.os, h.tape, h.output, h.size, h.block⟩
theorem dig_nat (r : Nat) (h : r < 10) : ((UInt8.ofNat (48 + r)).toNat : Int) = 48 + (r : Int) := by rw [UInt8.toNat_ofNat']; omega

theorem impl_FormatInt_any (n : Int) (hn : Fits n) (w : World) (hP : Pow w) :
    Calls Tryz.prog 23 #[.int .i64 n] w fun e w' => e = .returned (.string (mkS (itoL n))) ∧ Below w.heap.size w w' := by
  have HI := Lib.hid (Any.strconv_Itoa Tryz.laysM171 n hn.1 hn.2 w hP)
  have he : (⟨(Lib.itoa n).toArray⟩ : ByteArray) = mkS (itoL n) := rfl
  rw [he] at HI
  clear he
  generalize mkS (itoL n) = X at HI ⊢
  go_enter Tryz.func23, Tryz.ntmps23
  go_wp2_with fail
  refine HI.out.mono ?_
  rintro e w' ⟨rfl, k, os, rfl⟩
  have HB := Lib.hid (Lib.below_grow w.heap.size w (Nat.le_refl _) k os)
  generalize Sort.grow (w.drewN k) os = w2 at HB ⊢
  go_wp2_with fail
  go_ret
  exact ⟨rfl, HB.out⟩

set_option maxRecDepth 100000 in
set_option maxHeartbeats 1000000 in
theorem spec_FormatInt_pos (N : Nat) (hN : N ≤ 9223372036854775807) (w : World) :
    Calls Tryz.prog 15 #[.int .i64 N] w fun e w' => e = .returned (.string (mkS (Lib.decDigits N))) ∧ Below w.heap.size w w' := by
  obtain ⟨D, hD⟩ : ∃ D, Lib.decDigits N = D := ⟨_, rfl⟩
  have HD := Lib.hid hD
  have HL := Lib.hid (show D.length ≤ 19 by rw [← hD]; exact decD_len 18 N (by omega))
  rw [hD]
  clear hD
  go_enter Tryz.func15, Tryz.ntmps15
  go_wp2_with fail
  go_loopw [0, 3] (fun n t wr => ∃ (k : Nat) (u : ByteArray) (suf : Txt), n = .int .i64 k ∧ k ≤ N ∧ t = .string u ∧ Str u suf ∧ Lib.decDigits k ++ suf = D ∧ Below w.heap.size w wr) (fun n _ _ => (intOf n).toNat)
  case atStart => exact ⟨N, _, [], rfl, Nat.le_refl _, rfl, str_nil, by simpa using HD.out, Below.refl _ _⟩
  case round =>
    obtain ⟨k, u, suf, rfl, hkN, rfl, hu, hsuf, hbel⟩ := hrel
    obtain ⟨wo, rfl⟩ : ∃ wo : World, wo = wr := ⟨_, rfl⟩
    have hsl : suf.length ≤ 19 := by have h1 := HL.out; rw [← hsuf, List.length_append] at h1; omega
    have hus : u.size ≤ 19 := by rw [hu.size]; exact hsl
    have HU := Lib.hid hu
    have HSUF := Lib.hid hsuf
    have HBEL := Lib.hid hbel
    clear hu hsuf hbel hsl
    by_cases h9 : k < 10
    · have h9' : ¬ 9 < k := by omega
      have hw2 : IntKind.i64.wrap (48 + (k : Int)) = 48 + (k : Int) := i64w (by omega)
      have hw3 : IntKind.u8.wrap (48 + (k : Int)) = 48 + (k : Int) := by rw [IntKind.wrap_u8]; omega
      have hcv := conv1 wo (UInt8.ofNat (48 + k)) (48 + (k : Int)) (dig_nat k h9)
      have HS := Lib.hid (str_mk [UInt8.ofNat (48 + k)])
      have h1 : (mkS [UInt8.ofNat (48 + k)]).size = 1 := by rw [mkS_size]; rfl
      have HE := Lib.hid (show [UInt8.ofNat (48 + k)] ++ suf = D by rw [← decD_small h9]; exact HSUF.out)
      generalize [UInt8.ofNat (48 + k)] = cl at hcv h1 HE HS
      generalize mkS cl = C at hcv h1 HS
      clear h9
      go_wp2_with fail
      go_ret
      refine ⟨ret_str ?_, HBEL.out.alloc HBEL.out.size _⟩
      have := HS.out.app HU.out
      rw [HE.out] at this
      exact this.eq
    · have h9' : 9 < k := by omega
      have HST := Lib.hid (show Lib.decDigits (k / 10) ++ ([UInt8.ofNat (48 + k % 10)] ++ suf) = D by rw [← List.append_assoc, ← decD_big h9]; exact HSUF.out)
      obtain ⟨q, hq⟩ : ∃ q, k / 10 = q := ⟨_, rfl⟩
      obtain ⟨r, hr⟩ : ∃ r, k % 10 = r := ⟨_, rfl⟩
      have hr10 : r < 10 := by omega
      have hq1 : (k : Int).tdiv 10 = (q : Int) := by rw [← hq]; rfl
      have hr1 : (k : Int).tmod 10 = (r : Int) := by rw [← hr]; rfl
      have hq2 : (k : Int) / 10 = (q : Int) := by omega
      have hr2 : (k : Int) % 10 = (r : Int) := by omega
      have hqk : q < k := by omega
      rw [hq, hr] at HST
      have hw2 : IntKind.i64.wrap (48 + (r : Int)) = 48 + (r : Int) := i64w (by omega)
      have hw3 : IntKind.u8.wrap (48 + (r : Int)) = 48 + (r : Int) := by rw [IntKind.wrap_u8]; omega
      have hwq : IntKind.i64.wrap (q : Int) = (q : Int) := i64w (by omega)
      have hwr : IntKind.i64.wrap (r : Int) = (r : Int) := i64w (by omega)
      have hcv := conv1 wo (UInt8.ofNat (48 + r)) (48 + (r : Int)) (dig_nat r hr10)
      have HS := Lib.hid (str_mk [UInt8.ofNat (48 + r)])
      have h1 : (mkS [UInt8.ofNat (48 + r)]).size = 1 := by rw [mkS_size]; rfl
      generalize [UInt8.ofNat (48 + r)] = cl at hcv h1 HST HS
      generalize mkS cl = C at hcv h1 HS
      clear h9 hq hr
      go_wp2_with fail
      go_roundw
      case rel => exact ⟨q, _, cl ++ suf, rfl, by omega, rfl, HS.out.app HU.out, HST.out, HBEL.out.alloc HBEL.out.size _⟩
      case measure => simp [intOf]; omega

set_option maxRecDepth 100000 in
set_option maxHeartbeats 1000000 in
theorem spec_FormatInt_neg : ∀ (m N : Nat), N ≤ m → 0 < N → N ≤ 9223372036854775808 → ∀ w : World,
    Calls Tryz.prog 15 #[.int .i64 (-(N : Int))] w fun e w' => e = .returned (.string (mkS (45 :: Lib.decDigits N))) ∧ Below w.heap.size w w'
  | 0, N, h, h0, _, _ => by omega
  | m + 1, N, h, h0, hN, w => by
    have IH := Lib.hid (spec_FormatInt_neg m)
    obtain ⟨q, hq⟩ : ∃ q, N / 10 = q := ⟨_, rfl⟩
    obtain ⟨r, hr⟩ : ∃ r, N % 10 = r := ⟨_, rfl⟩
    have hr10 : r < 10 := by omega
    have hq1 : (-(N : Int)).tdiv 10 = -(q : Int) := by rw [Int.neg_tdiv, ← hq]; rfl
    have hr1 : (-(N : Int)).tmod 10 = -(r : Int) := by rw [Int.neg_tmod, ← hr]; rfl
    have hlt : -(N : Int) < 0 := by omega
    have hwq : IntKind.i64.wrap (-(q : Int)) = -(q : Int) := i64w (by omega)
    have hwr : IntKind.i64.wrap (-(r : Int)) = -(r : Int) := i64w (by omega)
    by_cases hq0 : q = 0
    · have hNr : N = r := by omega
      have hsub : (48 : Int) - (-(N : Int)) = 48 + (r : Int) := by omega
      have hsub2 : (48 : Int) + (N : Int) = 48 + (r : Int) := by omega
      have hw2 : IntKind.i64.wrap (48 + (r : Int)) = 48 + (r : Int) := i64w (by omega)
      have hw3 : IntKind.u8.wrap (48 + (r : Int)) = 48 + (r : Int) := by rw [IntKind.wrap_u8]; omega
      have hcv := conv1 w (UInt8.ofNat (48 + r)) (48 + (r : Int)) (dig_nat r hr10)
      have HS := Lib.hid (str_mk [UInt8.ofNat (48 + r)])
      have h1 : (mkS [UInt8.ofNat (48 + r)]).size = 1 := by rw [mkS_size]; rfl
      have HE := Lib.hid (show (45 : UInt8) :: [UInt8.ofNat (48 + r)] = 45 :: Lib.decDigits N by rw [hNr, decD_small hr10])
      generalize [UInt8.ofNat (48 + r)] = cl at hcv h1 HE HS
      generalize mkS cl = C at hcv h1 HS
      have hqz : -(q : Int) = 0 := by omega
      have HNR := Lib.hid hNr
      clear hNr hq hr hq0
      go_enter Tryz.func15, Tryz.ntmps15
      go_wp2_with fail
      go_ret
      refine ⟨ret_str ?_, (by repeat (first | exact Below.refl _ _ | assumption | (refine Below.alloc ?_ (by first | exact Nat.le_refl _ | (simp; done) | (simp; omega) | omega) _) | (refine Below.drew ?_) | (refine Below.setCell ?_ (by first | exact Nat.le_refl _ | (simp; done) | (simp; omega) | omega) _)))⟩
      have := (str_one 45).app HS.out
      rw [show [(45 : UInt8)] ++ cl = 45 :: cl from rfl, HE.out] at this
      exact this.eq
    · have hqz : ¬ -(q : Int) = 0 := by omega
      have hqz2 : ¬ (q : Int) = 0 := by omega
      have hqz3 : (-(q : Int) == 0) = false := beq_eq_false_iff_ne.2 hqz
      have hsub : (48 : Int) - (-(r : Int)) = 48 + (r : Int) := by omega
      have hw2 : IntKind.i64.wrap (48 + (r : Int)) = 48 + (r : Int) := i64w (by omega)
      have hw3 : IntKind.u8.wrap (48 + (r : Int)) = 48 + (r : Int) := by rw [IntKind.wrap_u8]; omega
      have hcv := fun V => conv1 V (UInt8.ofNat (48 + r)) (48 + (r : Int)) (dig_nat r hr10)
      have hcw := fun V => conv1b V (V.alloc (.cells #[.int .u8 (48 + (r : Int))] 5)).drew (UInt8.ofNat (48 + r)) (48 + (r : Int)) (dig_nat r hr10) ((Below.refl _ _).drew)
      have HV5 := Lib.hid (fun V V' => conv1b V V' (UInt8.ofNat (48 + r)) (48 + (r : Int)) (dig_nat r hr10))
      have HS := Lib.hid (str_mk [UInt8.ofNat (48 + r)])
      have h1 : (mkS [UInt8.ofNat (48 + r)]).size = 1 := by rw [mkS_size]; rfl
      have h9 : ¬ N < 10 := by omega
      have HE := Lib.hid (show (45 :: Lib.decDigits q) ++ [UInt8.ofNat (48 + r)] = 45 :: Lib.decDigits N by rw [decD_big h9, hq, hr]; rfl)
      generalize [UInt8.ofNat (48 + r)] = cl at hcv h1 HE HS HV5 hcw
      generalize mkS cl = C at hcv h1 HS HV5 hcw
      have HC := Lib.hid (IH.out q (by omega) (by omega) (by omega))
      have hds : (mkS (45 :: Lib.decDigits q)).size ≤ 20 := by
        rw [mkS_size]
        have := decD_len 18 q (by omega)
        simp; omega
      have HQS := Lib.hid (str_mk (45 :: Lib.decDigits q))
      generalize mkS (45 :: Lib.decDigits q) = DQ at HC hds HQS
      have hds2 : ¬ 9223372036854775807 < DQ.size + 1 := by omega
      clear hq hr hq0 IH
      go_enter Tryz.func15, Tryz.ntmps15
      go_wp2_with fail
      go_region_law (go_simp; go_at_call 15; refine (HC.out _).mono ?_; rintro e w5 ⟨rfl, hb5⟩; (try (have hq5 := HV5.out _ _ (Below.undrew_ hb5); have hcv5 : (convert 47 9 (.slice (some ⟨w.heap.size, 0, none⟩) 1 1)).run Tryz.prog w5 = .ok (.string C) w5 := hq5; clear hq5)))
      all_goals
        go_wp2_with fail
        go_ret
        refine ⟨ret_str ?_, ?_⟩
        · have := HQS.out.app HS.out
          rw [HE.out] at this
          exact this.eq
        · first | exact Below.alloc (Below.undrew_ hb5) hb5.size _ | exact (Below.alloc (Below.refl _ _) (Nat.le_refl _) _).trans ((Below.undrew_ hb5).mono (by simp))

theorem spec_FormatInt_any (n : Int) (hn : Fits n) (w : World) :
    Calls Tryz.prog 15 #[.int .i64 n] w fun e w' => e = .returned (.string (mkS (itoL n))) ∧ Below w.heap.size w w' := by
  unfold Fits at hn
  obtain ⟨N, rfl | rfl⟩ := Int.eq_nat_or_neg n
  · rw [itoL_pos]; exact spec_FormatInt_pos N (by omega) w
  · by_cases h0 : 0 < N
    · rw [itoL_neg N h0]; exact spec_FormatInt_neg N N (Nat.le_refl _) h0 (by omega) w
    · have : N = 0 := by omega
      subst this
      exact spec_FormatInt_pos 0 (by omega) w

end Go.Proofs.YtabjklhnghdfoaaGreatDoor

namespace Go.Proofs.YtabjklhnghdfoaaGreatDoor
open Go.RowKit
set_option linter.unusedVariables false
set_option linter.unusedSimpArgs false

def evW (b : Bool) : Txt := if b then [101, 118, 101, 110] else [117, 110, 101, 118, 101, 110]
noncomputable def evlL (N : Nat) (bs : List Int) : Txt := joinT [evW (evnB (stepsL N bs)), [110, 101, 97, 114, 101, 115, 116], textF N (nearX N bs) (fun _ => 120), [109, 111, 118, 101, 115], itoL (farV N bs (fewX N bs))] [32]
noncomputable def evlV (n : Int) (bs : List Int) : Txt := if rhB n bs = true then evlL n.toNat bs else [110, 111, 110, 101]

theorem evlL_eq (N : Nat) (bs : List Int) : evlL N bs = evW (evnB (stepsL N bs)) ++ [32, 110, 101, 97, 114, 101, 115, 116, 32] ++ textF N (nearX N bs) (fun _ => 120) ++ [32, 109, 111, 118, 101, 115, 32] ++ itoL (farV N bs (fewX N bs)) := by
  unfold evlL joinT
  rw [Lib.join_cons]
  unfold Lib.joinTail
  simp

set_option maxHeartbeats 400000 in
theorem impl_EvenLine_no (n : Int) (A : Option Addr) (cap : Nat) (bs : List Int) (w : World) (hn : Fits n) (hA : Ints w w.heap.size A bs) (hno : rhB n bs = false) :
    Calls Tryz.prog 7 #[.agg #[.int .i64 n, .slice A bs.length cap]] w fun e w' => e = .returned (.string (mkS [110, 111, 110, 101])) ∧ Below w.heap.size w w' := by
  have HRO := Lib.hid (fun V h => impl_RhythmOk_any n A cap bs V hn h)
  rw [hno] at HRO
  have HA := Lib.hid hA
  clear hA hno
  go_enter Tryz.func7, Tryz.ntmps7
  go_wp2_with fail
  refine (HRO.out _ (HA.out.lift (by repeat (first | exact Below.refl _ _ | assumption | (refine Below.alloc ?_ (by first | exact Nat.le_refl _ | (simp; done) | (simp; omega) | omega) _) | (refine Below.drew ?_) | (refine Below.setCell ?_ (by first | exact Nat.le_refl _ | (simp; done) | (simp; omega) | omega) _))))).mono ?_
  rintro e w1 ⟨rfl, hb⟩
  go_wp2_with fail
  go_ret
  exact ⟨rfl, ((Below.refl w.heap.size w).alloc (Nat.le_refl _) _).trans (hb.mono (by first | exact Nat.le_refl _ | (simp; done) | (simp; omega) | omega))⟩

set_option maxHeartbeats 400000 in
theorem spec_EvenLine_no (n : Int) (A : Option Addr) (cap : Nat) (bs : List Int) (w : World) (hn : Fits n) (hA : Ints w w.heap.size A bs) (hno : rhB n bs = false) :
    Calls Tryz.prog 5 #[.agg #[.int .i64 n, .slice A bs.length cap]] w fun e w' => e = .returned (.string (mkS [110, 111, 110, 101])) ∧ Below w.heap.size w w' := by
  have HRO := Lib.hid (fun V h => spec_RhythmOk_any n A cap bs V h)
  rw [hno] at HRO
  have HA := Lib.hid hA
  clear hA hno
  go_enter Tryz.func5, Tryz.ntmps5
  go_wp2_with fail
  refine (HRO.out _ (HA.out.lift (by repeat (first | exact Below.refl _ _ | assumption | (refine Below.alloc ?_ (by first | exact Nat.le_refl _ | (simp; done) | (simp; omega) | omega) _) | (refine Below.drew ?_) | (refine Below.setCell ?_ (by first | exact Nat.le_refl _ | (simp; done) | (simp; omega) | omega) _))))).mono ?_
  rintro e w1 ⟨rfl, hb⟩
  go_wp2_with fail
  go_ret
  exact ⟨rfl, ((Below.refl w.heap.size w).alloc (Nat.le_refl _) _).trans (hb.mono (by first | exact Nat.le_refl _ | (simp; done) | (simp; omega) | omega))⟩

set_option maxRecDepth 100000 in
set_option maxHeartbeats 4000000 in
theorem impl_EvenLine_ok (N : Nat) (A : Option Addr) (cap : Nat) (bs : List Int) (w : World) (hA : Ints w w.heap.size A bs) (hok : RhOk N bs) (hP : Pow w) :
    Calls Tryz.prog 7 #[.agg #[.int .i64 N, .slice A bs.length cap]] w fun e w' => e = .returned (.string (mkS (evlL N bs))) ∧ Below w.heap.size w w' := by
  have hn1 : 1 ≤ N := by have := hok.1; omega
  have hn2 : N ≤ 24 := by have := hok.2.1; omega
  have hbl : bs.length ≤ N := rhok_len hok
  have hfN : Fits (N : Int) := by unfold Fits; omega
  have HRO := Lib.hid (fun V h => impl_RhythmOk_any N A cap bs V hfN h)
  rw [rhB_iff.2 hok] at HRO
  have HIE := Lib.hid (fun V h => impl_IsEven_any N A cap bs V h hok)
  have HNE := Lib.hid (fun V h => impl_NearestEven_any N A cap bs V h hok)
  have HFM := Lib.hid (fun V h => impl_FewestMoves_any N A cap bs V h hok)
  have hxo : RhOk N (nearX N bs) := (rotL_ok (evB_ok hn1 hn2 hbl) _).1
  have hyo : RhOk N (fewX N bs) := (rotL_ok (evB_ok hn1 hn2 hbl) _).1
  have hyl : bs.length = (fewX N bs).length := by
    unfold fewX
    rw [(rotL_ok (evB_ok hn1 hn2 hbl) _).2, evB_len]
  have hpf : Fits (farV N bs (fewX N bs)) := by
    have := farV_small hok hyo hyl
    have := farV_nonneg N bs (fewX N bs)
    unfold Fits; omega
  have HXF := Lib.hid (rh_fitsE hxo)
  have HYF := Lib.hid (rh_fitsE hyo)
  have HTX := Lib.hid (fun A c V h => impl_text_any N A c (nearX N bs) V h hxo)
  have HFI := Lib.hid (fun V (hb : Below w.heap.size w V) => impl_FormatInt_any (farV N bs (fewX N bs)) hpf V (hP.below hb))
  have hpl := itoL_len _ hpf
  have HLN := Lib.hid (show evlL N bs = joinT [evW (evnB (stepsL N bs)), [110, 101, 97, 114, 101, 115, 116], textF N (nearX N bs) (fun _ => 120), [109, 111, 118, 101, 115], itoL (farV N bs (fewX N bs))] [32] from rfl)
  have htl : (textF N (nearX N bs) (fun _ => 120)).length ≤ 504 := by rw [textF_len]; omega
  have HA := Lib.hid hA
  clear hyl hxo hyo
  generalize comN (nearX N bs) bs (nearX N bs).length = cm at *
  generalize farV N bs (fewX N bs) = D at *
  generalize textF N (nearX N bs) (fun _ => 120) = TX at *
  generalize nearX N bs = X at *
  generalize fewX N bs = Y at *
  generalize evnB (stepsL N bs) = ev at *
  generalize evlL N bs = LL at *
  obtain ⟨IP, hIP⟩ : ∃ t, itoL D = t := ⟨_, rfl⟩
  rw [hIP] at HFI HLN hpl
  have HJ := Lib.hid (fun V g (hg : V.heap.size = g) => impl_Join_any (some ⟨g, 0, none⟩) 5 [evW ev, [110, 101, 97, 114, 101, 115, 116], TX, [109, 111, 118, 101, 115], IP] [32] 504 _ (strs_cells V g _ (by simp) hg) (by simp) (by
    intro x hx
    simp at hx
    rcases hx with rfl | rfl | rfl | rfl | rfl <;> first | assumption | (cases ev <;> simp [evW]; done) | (simp; done) | omega) (by simp))
  rw [← HLN.out] at HJ
  obtain ⟨c0, c1⟩ := box2 (Below.refl (w.heap.size + 1) (w.alloc (.cells #[.int .i64 N, .slice A bs.length cap] 27)))
  have HB0 := Lib.hid ((Below.refl w.heap.size w).alloc (Nat.le_refl _) (.cells #[.int .i64 N, .slice A bs.length cap] 27))
  have HC0 := Lib.hid (Cells2.new w (.int .i64 N) (.slice A bs.length cap) 27)
  have HI0 := Lib.hid (HA.out.lift HB0.out)
  clear hA hok hP hIP
  go_enter Tryz.func7, Tryz.ntmps7
  go_wp2_with fail
  refine (HRO.out _ HI0.out).mono ?_
  rintro e w1 ⟨rfl, hb⟩
  have HB1 := Lib.hid (HB0.out.trans (hb.mono HB0.out.size))
  have HC1 := Lib.hid (HC0.out.below hb HC0.out.2.2.2.2)
  have HI1 := Lib.hid (HI0.out.lift hb)
  clear hb c0 c1
  obtain ⟨c0, c1, _, _, _⟩ := HC1.out
  go_wp2_with fail
  refine (HIE.out _ HI1.out).mono ?_
  rintro e w2 ⟨rfl, hb⟩
  have HB2 := Lib.hid (HB1.out.trans (hb.mono HB1.out.size))
  have HC2 := Lib.hid (HC1.out.below hb HC1.out.2.2.2.2)
  have HI2 := Lib.hid (HI1.out.lift hb)
  clear hb c0 c1
  obtain ⟨c0, c1, _, _, _⟩ := HC2.out
  cases ev
  · rw [show evW false = [117, 110, 101, 118, 101, 110] from rfl] at HJ HLN
    go_wp2_with fail
    refine (HNE.out _ HI2.out).mono ?_
    rintro e w3 ⟨A3, k3, rfl, hr3, hb⟩
    have hal := (Below.refl w3.heap.size w3).alloc (Nat.le_refl _) (.cells #[.int .i64 N, .slice A3 X.length k3] 27)
    have HR3 := Lib.hid (hr3.below hal)
    have HD3 := Lib.hid (Cells2.new w3 (.int .i64 N) (.slice A3 X.length k3) 27)
    have hb := hb.trans (hal.mono hb.size)
    clear hr3 hal
    have HB3 := Lib.hid (HB2.out.trans (hb.mono HB2.out.size))
    have HC3 := Lib.hid (HC2.out.below hb HC2.out.2.2.2.2)
    have HI3 := Lib.hid (HI2.out.lift hb)
    clear hb c0 c1
    obtain ⟨c0, c1, _, _, _⟩ := HC3.out
    go_wp2_with fail
    generalize w3.alloc (.cells #[.int .i64 N, .slice A3 X.length k3] 27) = v3 at *
    generalize w3.heap.size = g3 at *
    refine (HFM.out _ HI3.out).mono ?_
    rintro e w4 ⟨A4, k4, rfl, hr4, hb⟩
    have hal := (Below.refl w4.heap.size w4).alloc (Nat.le_refl _) (.cells #[.int .i64 N, .slice A4 Y.length k4] 27)
    have hb := hb.trans (hal.mono hb.size)
    have HX4 := Lib.hid ((HR3.out.ints HXF.out).lift hb)
    have HD4 := Lib.hid (HD3.out.below hb HD3.out.2.2.2.2)
    have HB4 := Lib.hid (HB3.out.trans (hb.mono HB3.out.size))
    obtain ⟨d0, d1, _, _, _⟩ := HD4.out
    clear hb hal hr4 c0 c1
    go_wp2_with fail
    generalize w4.alloc (.cells #[.int .i64 N, .slice A4 Y.length k4] 27) = v4 at *
    try skip
    refine (HTX.out _ _ _ HX4.out).mono ?_
    rintro e w5 ⟨rfl, hb⟩
    have HB5 := Lib.hid (HB4.out.trans (hb.mono HB4.out.size))
    clear hb d0 d1
    go_wp2_with fail
    refine (HFI.out _ HB5.out).mono ?_
    rintro e w6 ⟨rfl, hb⟩
    have HB6 := Lib.hid (HB5.out.trans (hb.mono HB5.out.size))
    clear hb
    go_wp2_with fail
    have HB7 := Lib.hid (HB6.out.alloc HB6.out.size (.cells ([[117, 110, 101, 118, 101, 110], [110, 101, 97, 114, 101, 115, 116], TX, [109, 111, 118, 101, 115], IP].map emS).toArray 9))
    refine (HJ.out w6 w6.heap.size rfl).mono ?_
    rintro e w9 ⟨rfl, hb⟩
    have HB9 := Lib.hid (HB7.out.trans (hb.mono HB7.out.size))
    clear hb
    go_wp2_with fail
    go_ret
    exact ⟨rfl, HB9.out⟩
  · rw [show evW true = [101, 118, 101, 110] from rfl] at HJ HLN
    go_wp2_with fail
    refine (HNE.out _ HI2.out).mono ?_
    rintro e w3 ⟨A3, k3, rfl, hr3, hb⟩
    have hal := (Below.refl w3.heap.size w3).alloc (Nat.le_refl _) (.cells #[.int .i64 N, .slice A3 X.length k3] 27)
    have HR3 := Lib.hid (hr3.below hal)
    have HD3 := Lib.hid (Cells2.new w3 (.int .i64 N) (.slice A3 X.length k3) 27)
    have hb := hb.trans (hal.mono hb.size)
    clear hr3 hal
    have HB3 := Lib.hid (HB2.out.trans (hb.mono HB2.out.size))
    have HC3 := Lib.hid (HC2.out.below hb HC2.out.2.2.2.2)
    have HI3 := Lib.hid (HI2.out.lift hb)
    clear hb c0 c1
    obtain ⟨c0, c1, _, _, _⟩ := HC3.out
    go_wp2_with fail
    generalize w3.alloc (.cells #[.int .i64 N, .slice A3 X.length k3] 27) = v3 at *
    generalize w3.heap.size = g3 at *
    refine (HFM.out _ HI3.out).mono ?_
    rintro e w4 ⟨A4, k4, rfl, hr4, hb⟩
    have hal := (Below.refl w4.heap.size w4).alloc (Nat.le_refl _) (.cells #[.int .i64 N, .slice A4 Y.length k4] 27)
    have hb := hb.trans (hal.mono hb.size)
    have HX4 := Lib.hid ((HR3.out.ints HXF.out).lift hb)
    have HD4 := Lib.hid (HD3.out.below hb HD3.out.2.2.2.2)
    have HB4 := Lib.hid (HB3.out.trans (hb.mono HB3.out.size))
    obtain ⟨d0, d1, _, _, _⟩ := HD4.out
    clear hb hal hr4 c0 c1
    go_wp2_with fail
    generalize w4.alloc (.cells #[.int .i64 N, .slice A4 Y.length k4] 27) = v4 at *
    try skip
    refine (HTX.out _ _ _ HX4.out).mono ?_
    rintro e w5 ⟨rfl, hb⟩
    have HB5 := Lib.hid (HB4.out.trans (hb.mono HB4.out.size))
    clear hb d0 d1
    go_wp2_with fail
    refine (HFI.out _ HB5.out).mono ?_
    rintro e w6 ⟨rfl, hb⟩
    have HB6 := Lib.hid (HB5.out.trans (hb.mono HB5.out.size))
    clear hb
    go_wp2_with fail
    have HB7 := Lib.hid (HB6.out.alloc HB6.out.size (.cells ([[101, 118, 101, 110], [110, 101, 97, 114, 101, 115, 116], TX, [109, 111, 118, 101, 115], IP].map emS).toArray 9))
    refine (HJ.out w6 w6.heap.size rfl).mono ?_
    rintro e w9 ⟨rfl, hb⟩
    have HB9 := Lib.hid (HB7.out.trans (hb.mono HB7.out.size))
    clear hb
    go_wp2_with fail
    go_ret
    exact ⟨rfl, HB9.out⟩

set_option maxRecDepth 100000 in
set_option maxHeartbeats 4000000 in
theorem spec_EvenLine_ok (N : Nat) (A : Option Addr) (cap : Nat) (bs : List Int) (w : World) (hA : Ints w w.heap.size A bs) (hok : RhOk N bs) :
    Calls Tryz.prog 5 #[.agg #[.int .i64 N, .slice A bs.length cap]] w fun e w' => e = .returned (.string (mkS (evlL N bs))) ∧ Below w.heap.size w w' := by
  have hn1 : 1 ≤ N := by have := hok.1; omega
  have hn2 : N ≤ 24 := by have := hok.2.1; omega
  have hbl : bs.length ≤ N := rhok_len hok
  have hfN : Fits (N : Int) := by unfold Fits; omega
  have HRO := Lib.hid (fun V h => spec_RhythmOk_any N A cap bs V h)
  rw [rhB_iff.2 hok] at HRO
  have HIE := Lib.hid (fun V h => spec_IsEven_any N A cap bs V h hok)
  have HNE := Lib.hid (fun V h => spec_NearestEven_any N A cap bs V h hok)
  have HFM := Lib.hid (fun V h => spec_FewestMoves_any N A cap bs V h hok)
  have hxo : RhOk N (nearX N bs) := (rotL_ok (evB_ok hn1 hn2 hbl) _).1
  have hyo : RhOk N (fewX N bs) := (rotL_ok (evB_ok hn1 hn2 hbl) _).1
  have hyl : bs.length = (fewX N bs).length := by
    unfold fewX
    rw [(rotL_ok (evB_ok hn1 hn2 hbl) _).2, evB_len]
  have hpf : Fits (farV N bs (fewX N bs)) := by
    have := farV_small hok hyo hyl
    have := farV_nonneg N bs (fewX N bs)
    unfold Fits; omega
  have HXF := Lib.hid (rh_fitsE hxo)
  have HYF := Lib.hid (rh_fitsE hyo)
  have HTX := Lib.hid (fun A c V h => spec_FormatRhythm_ok N A c (nearX N bs) V h hxo)
  have HFI := Lib.hid (fun V (_ : True) => spec_FormatInt_any (farV N bs (fewX N bs)) hpf V)
  have hpl := itoL_len _ hpf
  have HLN := Lib.hid (show evlL N bs = evW (evnB (stepsL N bs)) ++ [32, 110, 101, 97, 114, 101, 115, 116, 32] ++ textF N (nearX N bs) (fun _ => 120) ++ [32, 109, 111, 118, 101, 115, 32] ++ itoL (farV N bs (fewX N bs)) from evlL_eq N bs)
  have htl : (textF N (nearX N bs) (fun _ => 120)).length ≤ 504 := by rw [textF_len]; omega
  have HA := Lib.hid hA
  clear hyl hxo hyo
  generalize comN (nearX N bs) bs (nearX N bs).length = cm at *
  generalize farV N bs (fewX N bs) = D at *
  generalize textF N (nearX N bs) (fun _ => 120) = TX at *
  generalize nearX N bs = X at *
  generalize fewX N bs = Y at *
  generalize evnB (stepsL N bs) = ev at *
  generalize evlL N bs = LL at *
  obtain ⟨IP, hIP⟩ : ∃ t, itoL D = t := ⟨_, rfl⟩
  rw [hIP] at HFI HLN hpl
  have z1 : (mkS TX).size ≤ 504 := by rw [mkS_size]; exact htl
  have z2 : (mkS IP).size ≤ 20 := by rw [mkS_size]; exact hpl
  have HRES := Lib.hid (show mkS (evW ev) ++ ⟨#[32, 110, 101, 97, 114, 101, 115, 116, 32]⟩ ++ mkS TX ++ ⟨#[32, 109, 111, 118, 101, 115, 32]⟩ ++ mkS IP = mkS LL by
    rw [HLN.out]
    exact Str.eq (((((str_mk (evW ev)).app (str_mk [32, 110, 101, 97, 114, 101, 115, 116, 32])).app (str_mk TX)).app (str_mk [32, 109, 111, 118, 101, 115, 32])).app (str_mk IP)))
  obtain ⟨c0, c1⟩ := box2 (Below.refl (w.heap.size + 1) (w.alloc (.cells #[.int .i64 N, .slice A bs.length cap] 27)))
  have HB0 := Lib.hid ((Below.refl w.heap.size w).alloc (Nat.le_refl _) (.cells #[.int .i64 N, .slice A bs.length cap] 27))
  have HC0 := Lib.hid (Cells2.new w (.int .i64 N) (.slice A bs.length cap) 27)
  have HI0 := Lib.hid (HA.out.lift HB0.out)
  clear hA hok hIP
  go_enter Tryz.func5, Tryz.ntmps5
  go_wp2_with fail
  refine (HRO.out _ HI0.out).mono ?_
  rintro e w1 ⟨rfl, hb⟩
  have HB1 := Lib.hid (HB0.out.trans (hb.mono HB0.out.size))
  have HC1 := Lib.hid (HC0.out.below hb HC0.out.2.2.2.2)
  have HI1 := Lib.hid (HI0.out.lift hb)
  clear hb c0 c1
  obtain ⟨c0, c1, _, _, _⟩ := HC1.out
  go_wp2_with fail
  refine (HIE.out _ HI1.out).mono ?_
  rintro e w2 ⟨rfl, hb⟩
  have HB2 := Lib.hid (HB1.out.trans (hb.mono HB1.out.size))
  have HC2 := Lib.hid (HC1.out.below hb HC1.out.2.2.2.2)
  have HI2 := Lib.hid (HI1.out.lift hb)
  clear hb c0 c1
  obtain ⟨c0, c1, _, _, _⟩ := HC2.out
  cases ev
  · have he : mkS (evW false) = ⟨#[117, 110, 101, 118, 101, 110]⟩ := rfl
    rw [he] at HRES
    clear he
    have y1 : ((⟨#[32, 110, 101, 97, 114, 101, 115, 116, 32]⟩ : ByteArray)).size = 9 := rfl
    have y2 : ((⟨#[117, 110, 101, 118, 101, 110]⟩ : ByteArray) ++ ⟨#[32, 110, 101, 97, 114, 101, 115, 116, 32]⟩ ++ mkS TX).size ≤ 520 := by rw [ByteArray.size_append, ByteArray.size_append]; show 6 + 9 + _ ≤ 520; omega
    have y3 : ((⟨#[117, 110, 101, 118, 101, 110]⟩ : ByteArray) ++ ⟨#[32, 110, 101, 97, 114, 101, 115, 116, 32]⟩ ++ mkS TX ++ ⟨#[32, 109, 111, 118, 101, 115, 32]⟩).size ≤ 530 := by rw [ByteArray.size_append]; show _ + 7 ≤ 530; omega
    go_wp2_with fail
    refine (HNE.out _ HI2.out).mono ?_
    rintro e w3 ⟨A3, k3, rfl, hr3, hb⟩
    have hal := (Below.refl w3.heap.size w3).alloc (Nat.le_refl _) (.cells #[.int .i64 N, .slice A3 X.length k3] 27)
    have HR3 := Lib.hid (hr3.below hal)
    have HD3 := Lib.hid (Cells2.new w3 (.int .i64 N) (.slice A3 X.length k3) 27)
    have hb := hb.trans (hal.mono hb.size)
    clear hr3 hal
    have HB3 := Lib.hid (HB2.out.trans (hb.mono HB2.out.size))
    have HC3 := Lib.hid (HC2.out.below hb HC2.out.2.2.2.2)
    have HI3 := Lib.hid (HI2.out.lift hb)
    clear hb c0 c1
    obtain ⟨c0, c1, _, _, _⟩ := HC3.out
    go_wp2_with fail
    generalize w3.alloc (.cells #[.int .i64 N, .slice A3 X.length k3] 27) = v3 at *
    generalize w3.heap.size = g3 at *
    refine (HFM.out _ HI3.out).mono ?_
    rintro e w4 ⟨A4, k4, rfl, hr4, hb⟩
    have hal := (Below.refl w4.heap.size w4).alloc (Nat.le_refl _) (.cells #[.int .i64 N, .slice A4 Y.length k4] 27)
    have hb := hb.trans (hal.mono hb.size)
    have HX4 := Lib.hid ((HR3.out.ints HXF.out).lift hb)
    have HD4 := Lib.hid (HD3.out.below hb HD3.out.2.2.2.2)
    have HB4 := Lib.hid (HB3.out.trans (hb.mono HB3.out.size))
    obtain ⟨d0, d1, _, _, _⟩ := HD4.out
    clear hb hal hr4 c0 c1
    go_wp2_with fail
    generalize w4.alloc (.cells #[.int .i64 N, .slice A4 Y.length k4] 27) = v4 at *
    try skip
    refine (HTX.out _ _ _ HX4.out).mono ?_
    rintro e w5 ⟨rfl, hb⟩
    have HB5 := Lib.hid (HB4.out.trans (hb.mono HB4.out.size))
    clear hb d0 d1
    go_wp2_with fail
    refine (HFI.out _ trivial).mono ?_
    rintro e w6 ⟨rfl, hb⟩
    have HB6 := Lib.hid (HB5.out.trans (hb.mono HB5.out.size))
    clear hb
    go_wp2_with fail
    go_ret
    exact ⟨ret_str HRES.out, HB6.out⟩
  · have he : mkS (evW true) = ⟨#[101, 118, 101, 110]⟩ := rfl
    rw [he] at HRES
    clear he
    have y1 : ((⟨#[32, 110, 101, 97, 114, 101, 115, 116, 32]⟩ : ByteArray)).size = 9 := rfl
    have y2 : ((⟨#[101, 118, 101, 110]⟩ : ByteArray) ++ ⟨#[32, 110, 101, 97, 114, 101, 115, 116, 32]⟩ ++ mkS TX).size ≤ 520 := by rw [ByteArray.size_append, ByteArray.size_append]; show 4 + 9 + _ ≤ 520; omega
    have y3 : ((⟨#[101, 118, 101, 110]⟩ : ByteArray) ++ ⟨#[32, 110, 101, 97, 114, 101, 115, 116, 32]⟩ ++ mkS TX ++ ⟨#[32, 109, 111, 118, 101, 115, 32]⟩).size ≤ 530 := by rw [ByteArray.size_append]; show _ + 7 ≤ 530; omega
    go_wp2_with fail
    refine (HNE.out _ HI2.out).mono ?_
    rintro e w3 ⟨A3, k3, rfl, hr3, hb⟩
    have hal := (Below.refl w3.heap.size w3).alloc (Nat.le_refl _) (.cells #[.int .i64 N, .slice A3 X.length k3] 27)
    have HR3 := Lib.hid (hr3.below hal)
    have HD3 := Lib.hid (Cells2.new w3 (.int .i64 N) (.slice A3 X.length k3) 27)
    have hb := hb.trans (hal.mono hb.size)
    clear hr3 hal
    have HB3 := Lib.hid (HB2.out.trans (hb.mono HB2.out.size))
    have HC3 := Lib.hid (HC2.out.below hb HC2.out.2.2.2.2)
    have HI3 := Lib.hid (HI2.out.lift hb)
    clear hb c0 c1
    obtain ⟨c0, c1, _, _, _⟩ := HC3.out
    go_wp2_with fail
    generalize w3.alloc (.cells #[.int .i64 N, .slice A3 X.length k3] 27) = v3 at *
    generalize w3.heap.size = g3 at *
    refine (HFM.out _ HI3.out).mono ?_
    rintro e w4 ⟨A4, k4, rfl, hr4, hb⟩
    have hal := (Below.refl w4.heap.size w4).alloc (Nat.le_refl _) (.cells #[.int .i64 N, .slice A4 Y.length k4] 27)
    have hb := hb.trans (hal.mono hb.size)
    have HX4 := Lib.hid ((HR3.out.ints HXF.out).lift hb)
    have HD4 := Lib.hid (HD3.out.below hb HD3.out.2.2.2.2)
    have HB4 := Lib.hid (HB3.out.trans (hb.mono HB3.out.size))
    obtain ⟨d0, d1, _, _, _⟩ := HD4.out
    clear hb hal hr4 c0 c1
    go_wp2_with fail
    generalize w4.alloc (.cells #[.int .i64 N, .slice A4 Y.length k4] 27) = v4 at *
    try skip
    refine (HTX.out _ _ _ HX4.out).mono ?_
    rintro e w5 ⟨rfl, hb⟩
    have HB5 := Lib.hid (HB4.out.trans (hb.mono HB4.out.size))
    clear hb d0 d1
    go_wp2_with fail
    refine (HFI.out _ trivial).mono ?_
    rintro e w6 ⟨rfl, hb⟩
    have HB6 := Lib.hid (HB5.out.trans (hb.mono HB5.out.size))
    clear hb
    go_wp2_with fail
    go_ret
    exact ⟨ret_str HRES.out, HB6.out⟩

theorem impl_EvenLine_any (n : Int) (A : Option Addr) (cap : Nat) (bs : List Int) (w : World) (hn : Fits n) (hA : Ints w w.heap.size A bs) (hP : Pow w) :
    Calls Tryz.prog 7 #[.agg #[.int .i64 n, .slice A bs.length cap]] w fun e w' => e = .returned (.string (mkS (evlV n bs))) ∧ Below w.heap.size w w' := by
  unfold evlV
  cases h : rhB n bs
  · exact impl_EvenLine_no n A cap bs w hn hA h
  · have hok := rhB_iff.1 h
    obtain ⟨N, rfl⟩ := Int.eq_ofNat_of_zero_le (show 0 ≤ n by have := hok.1; omega)
    exact impl_EvenLine_ok N A cap bs w hA hok hP
theorem spec_EvenLine_any (n : Int) (A : Option Addr) (cap : Nat) (bs : List Int) (w : World) (hn : Fits n) (hA : Ints w w.heap.size A bs) :
    Calls Tryz.prog 5 #[.agg #[.int .i64 n, .slice A bs.length cap]] w fun e w' => e = .returned (.string (mkS (evlV n bs))) ∧ Below w.heap.size w w' := by
  unfold evlV
  cases h : rhB n bs
  · exact spec_EvenLine_no n A cap bs w hn hA h
  · have hok := rhB_iff.1 h
    obtain ⟨N, rfl⟩ := Int.eq_ofNat_of_zero_le (show 0 ≤ n by have := hok.1; omega)
    exact spec_EvenLine_ok N A cap bs w hA hok

end Go.Proofs.YtabjklhnghdfoaaGreatDoor

namespace Go.Proofs.YtabjklhnghdfoaaGreatDoor
open Go.RowKit
set_option linter.unusedVariables false
set_option linter.unusedSimpArgs false

theorem pow_of_laid {W : World} : ∀ (laid : List (String × DataW Unit)) (i : Nat), laidMet Tryz.prog laid W → laid[i]? = some ("internal/strconv.uint64pow10", Lib.tabData .u64 Lib.pow10Tab) → Pow W
  | [], i, _, h => by simp at h
  | x :: r, 0, h, hi => by
    obtain rfl : x = _ := by simpa using hi
    exact Lib.tabIs_of_head (g := 1) (t := 103) (e := 79) (n := 20) (by kernel_rfl) (by kernel_rfl) Tryz.underlying103 Tryz.underlying79 (by kernel_rfl) (by kernel_rfl) h
  | x :: r, i + 1, h, hi => pow_of_laid r i h.tail (by simpa using hi)

theorem pow_row {W : World} {laid : List (String × DataW Unit)} (i : Nat) (h : laidMetH Tryz.prog laid W) (hp : (laid.all fun x => x.2.handleName?.isNone) = true) (hi : laid[i]? = some ("internal/strconv.uint64pow10", Lib.tabData .u64 Lib.pow10Tab)) : Pow W := by
  rw [MakeChecks.laidMetH_plain _ _ _ hp] at h
  exact pow_of_laid laid i h hi

end Go.Proofs.YtabjklhnghdfoaaGreatDoor

