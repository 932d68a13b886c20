/-
  The program's reader of rows.
-/
import Derived.Test.YthfjfhgeiggljaaDoorScoT
import Derived.Test.YthfjfhgeiggljaaDoorRep
import Derived.Test.YthfjfhgeiggljaaDoorCells
import Derived.Test.YthfjfhgeiggljaaDoorStr
namespace Go.Proofs.YthfjfhgeiggljaaDoor
open Go.RowKit
set_option linter.unusedVariables false
set_option linter.unusedSimpArgs false

/-- The bytes of a text, by number. -/
def chr (s : ByteArray) (i : Nat) : Int := if h : i < s.size then ((s[i]'h).toNat : Int) else 0
theorem chr_at {s : ByteArray} {i : Nat} (h : i < s.size) : chr s i = ((s[i]'h).toNat : Int) := by unfold chr; rw [dif_pos h]
theorem chr_bound (s : ByteArray) (i : Nat) : 0 ≤ chr s i ∧ chr s i < 256 := by
  unfold chr
  split
  · rename_i h
    have := (s[i]'h).toNat_lt
    omega
  · omega

set_option maxHeartbeats 400000 in
theorem impl_isLetter_one (t : ByteArray) (w : World) (h1 : t.size = 1) (x : Int) (hx : ((t[0]'(by omega)).toNat : Int) = x) :
    Calls Tryd.prog 34 #[.string t] w fun e w' => e = .returned (.bool (isLet x)) ∧ w = w' := by
  have h0 : 0 < t.size := by omega
  by_cases ha : 97 ≤ x <;> by_cases hb : x ≤ 122
  all_goals
    go_enter Tryd.func34, Tryd.ntmps34
    go_wp2
    go_ret
    exact ⟨by unfold isLet; simp [ha, hb], rfl⟩

theorem ext_one (s : ByteArray) (i : Nat) (h : i < s.size) : (s.extract i (i + 1))[0]'(by have := (str_at s i h).size; simp at this ⊢; omega) = s[i] := by
  have := (str_at s i h).eq
  simp only [this]
  rfl

theorem ints_nil (w : World) (B : Nat) (A : Option Addr) : Ints w B A [] := ⟨Nat.zero_le _, (fun x hx => (List.not_mem_nil hx).elim), fun h => absurd h (Nat.lt_irrefl 0)⟩

def RowRet (w : World) (r : Row3) (e : Ending) (w' : World) : Prop :=
  ∃ (A : Option Addr) (cap : Nat) (p : List Int) (dd en : Int) (ok : Bool), e = .returned (.tuple #[.agg #[.slice A p.length cap, .int .i64 dd], .int .i64 en, .bool ok]) ∧
    Ints w' w'.heap.size A p ∧ Below w.heap.size w w' ∧ (ok = true → ∃ en' : Nat, r = some (p, dd, en') ∧ en = en') ∧ (ok = false → r = none ∧ p = [] ∧ A = none ∧ cap = 0 ∧ dd = 0) ∧ (∀ k, (Value.slice A p.length cap).ownBlock = some k → w.heap.size ≤ k)

set_option maxRecDepth 100000 in
set_option maxHeartbeats 2000000 in
theorem impl_readRow_of (s : ByteArray) (hs : s.size ≤ 60) (ins : Int) (M : Nat) (hM : M ≤ 729) (hM1 : 1 ≤ M) (inner : Option (Nat → Row3))
    (hin : (ins = 3 ∧ inner = none) ∨ (0 ≤ ins ∧ ins < 3 ∧ ∃ g, inner = some g ∧ (∃ M', M = 9 * M' ∧ PassR (chr s) s.size M' g) ∧
      ∀ (at_ : Nat) (V : World), at_ ≤ s.size → Calls Tryd.prog 56 #[.string s, .int .i64 at_, .int .i64 (ins + 1)] V (RowRet V (g at_))))
    (i0 : Nat) (hi0 : i0 ≤ s.size) (w : World) :
    Calls Tryd.prog 56 #[.string s, .int .i64 i0, .int .i64 ins] w (RowRet w (loopR (chr s) s.size inner (s.size - i0) i0 [] ins)) := by
  have hins : 0 ≤ ins ∧ ins ≤ 3 := by rcases hin with h | h <;> omega
  obtain ⟨hins0, hins3⟩ := hins
  have HIN := Lib.hid hin
  obtain ⟨R, hR⟩ : ∃ R, loopR (chr s) s.size inner (s.size - i0) i0 [] ins = R := ⟨_, rfl⟩
  rw [hR]
  have HR := Lib.hid hR
  clear hin hR
  go_enter Tryd.func56, Tryd.ntmps56
  go_wp2_with fail
  go_loopw [1, 10, 11, 12] (fun s1 _ _ _ wr => ∃ (f i : Nat) (acc : List Int) (dep : Int) (v : Value), s1 = .int .i64 i ∧ i ≤ s.size ∧ s.size - i ≤ f ∧ loopR (chr s) s.size inner f i acc dep = R ∧ acc.length ≤ i * M ∧ (∀ x ∈ acc, 0 ≤ x ∧ x < s.size) ∧
      Cells2 wr (w.heap.size + 1) v (.int .i64 dep) ∧ OwnI wr (w.heap.size + 2) v acc ∧ (∃ u1 u2, Cells2 wr w.heap.size u1 u2) ∧ Below w.heap.size w wr ∧ w.heap.size + 2 ≤ wr.heap.size) (fun s1 _ _ _ _ => s.size - (intOf s1).toNat)
  case atStart =>
    refine ⟨s.size - i0, i0, [], ins, .slice none 0 0, rfl, hi0, Nat.le_refl _, HR.out, by simp, (fun x hx => by cases hx), Cells2.new_at _ _ _ _ _ (by simp), OwnI.nil _ _, ⟨_, _, (Cells2.new w _ _ _).alloc _⟩, ?_, by simp⟩
    exact ((Below.refl _ _).alloc (Nat.le_refl _) _).alloc (by first | exact Nat.le_refl _ | (simp; done) | (simp; omega) | omega) _
  case round =>
    obtain ⟨f, i, acc, dep, v, rfl, hi, hf, hloop, hacc, hel, hc2, hown, ⟨u1, u2, hc1⟩, hbel, hsz⟩ := hrel
    have hal : acc.length ≤ 100000 := Nat.le_trans hacc (Nat.le_trans (Nat.mul_le_mul hi hM) (by omega))
    have HLO := Lib.hid hloop
    have HAC := Lib.hid hacc
    have HEL := Lib.hid hel
    have HC2 := Lib.hid hc2
    have HC1 := Lib.hid hc1
    clear hloop hacc hel hc2 hc1
    obtain ⟨A1, c1, rfl⟩ := hown.form
    obtain ⟨g0, g1, g2, g3, g4⟩ := HC2.out
    obtain ⟨f0, f1, f2, f3, f4⟩ := HC1.out
    by_cases hlt : i < s.size
    · obtain ⟨x, hx⟩ : ∃ x, chr s i = x := ⟨_, rfl⟩
      have hxb := chr_bound s i
      rw [hx] at hxb
      obtain ⟨hxb0, hxb1⟩ := hxb
      have hxc : ((s[i]'hlt).toNat : Int) = x := by rw [← hx, chr_at hlt]
      have HX := Lib.hid hx
      clear hx
      obtain ⟨f', rfl⟩ : ∃ f', f = f' + 1 := ⟨f - 1, by omega⟩
      by_cases h93 : x = 93
      · have HRES := Lib.hid (show R = some (acc, dep, i) by rw [← HLO.out]; unfold loopR; rw [if_pos (.inr (HX.out.trans h93))])
        have HOW := Lib.hid hown
        have HBE := Lib.hid hbel
        clear hown
        subst h93
        go_wp2_with fail
        refine bodyPost_ret (v := .tuple #[.agg #[.slice A1 acc.length c1, .int .i64 dep], .int .i64 i, .bool true]) (by simp [results, Tryd.results56, go_sem, f0, f1]) rfl ⟨A1, c1, acc, dep, i, true, rfl, ?_, ?_, (fun _ => ⟨i, HRES.out, rfl⟩), (fun h => by cases h), fun k hk => by have := (HOW.out.lt k hk).1; omega⟩
        · exact (((HOW.out.far (p := ⟨w.heap.size, 0, none⟩) (by simp) _).far (p := ⟨w.heap.size, 1, none⟩) (by simp) _).ints (fun y hy => by have := HEL.out y hy; unfold Fits; omega))
        · exact (HBE.out.setCell (Nat.le_refl _) _).setCell (Nat.le_refl _) _
      · by_cases h91 : x = 91
        · rcases HIN.out with ⟨h3, hn⟩ | ⟨hin0, hin3, g, hg, ⟨M', hMM, hpass⟩, hcall⟩
          · have HRES := Lib.hid (show R = none by rw [← HLO.out]; unfold loopR; rw [HX.out, if_neg (by omega), if_pos h91, hn])
            have HBE := Lib.hid hbel
            clear hown
            subst h91
            subst h3
            go_wp2_with fail
            refine bodyPost_ret (v := .tuple #[.agg #[.slice none 0 0, .int .i64 0], .int .i64 i, .bool false]) (by simp [results, Tryd.results56, go_sem, f0, f1]) rfl ⟨none, 0, [], 0, i, false, rfl, ints_nil _ _ _, ?_, (fun h => by cases h), (fun _ => ⟨HRES.out, rfl, rfl, rfl, rfl⟩), fun k hk => by cases hk⟩
            exact (HBE.out.setCell (Nat.le_refl _) _).setCell (Nat.le_refl _) _
          · have hcl : ∀ V : World, Calls Tryd.prog 56 #[.string s, .int .i64 ((i : Int) + 1), .int .i64 (ins + 1)] V (RowRet V (g (i + 1))) := fun V => by
              have := hcall (i + 1) V (by omega)
              rwa [Int.natCast_add] at this
            have HCL := Lib.hid hcl
            have HP := Lib.hid (hpass (i + 1))
            have HG := Lib.hid hg
            have HMM := Lib.hid hMM
            have HLT1 := Lib.hid (fun k h => (hown.lt k h).2)
            clear hcall hpass hcl hg hMM HIN
            subst h91
            have hi3 : ins ≠ 3 := by omega
            go_wp2_with fail
            refine (HCL.out _).mono ?_
            rintro e w1 ⟨A2, c2, gp, gd, en, ok, rfl, hI2, hb2, hok, hno, _⟩
            have hz1 := hb2.size
            have HD2 := Lib.hid ((HC2.out.below hb2 (by omega)).alloc (.cells #[.slice A2 gp.length c2, .int .i64 gd] 44))
            have HD1 := Lib.hid ((HC1.out.below hb2 (by omega)).alloc (.cells #[.slice A2 gp.length c2, .int .i64 gd] 44))
            have HGB := Lib.hid (Cells2.new w1 (.slice A2 gp.length c2) (.int .i64 gd) 44)
            have HOW := Lib.hid ((hown.grown hb2).alloc (.cells #[.slice A2 gp.length c2, .int .i64 gd] 44))
            have HBE := Lib.hid ((hbel.trans (hb2.mono (by omega))).alloc (by omega) (.cells #[.slice A2 gp.length c2, .int .i64 gd] 44))
            have HI2 := Lib.hid (hI2.alloc (Nat.le_refl _) (.cells #[.slice A2 gp.length c2, .int .i64 gd] 44))
            have hsz2 : w.heap.size + 2 ≤ (w1.alloc (.cells #[.slice A2 gp.length c2, .int .i64 gd] 44)).heap.size := by simp; omega
            obtain ⟨k0, k1, k2, k3, k4⟩ := HD1.out
            obtain ⟨l0, l1, l2, l3, l4⟩ := HD2.out
            obtain ⟨m0, m1, m2, m3, m4⟩ := HGB.out
            clear g0 g1 g2 g3 g4 f0 f1 f2 f3 f4 hown hbel hI2 hb2
            have HOK := Lib.hid hok
            have HNO := Lib.hid hno
            clear hok hno
            cases ok
            · have HRES := Lib.hid (show R = none by rw [← HLO.out]; unfold loopR; rw [HX.out, if_neg (by omega), if_pos rfl, HG.out]; simp only [(HNO.out rfl).1])
              go_wp2_with fail
              refine bodyPost_ret (v := .tuple #[.agg #[.slice none 0 0, .int .i64 0], .int .i64 i, .bool false]) (by simp [results, Tryd.results56, go_sem, k0, k1]) rfl ⟨none, 0, [], 0, i, false, rfl, ints_nil _ _ _, ?_, (fun h => by cases h), (fun _ => ⟨HRES.out, rfl, rfl, rfl, rfl⟩), fun k hk => by cases hk⟩
              exact (HBE.out.setCell (Nat.le_refl _) _).setCell (Nat.le_refl _) _
            · obtain ⟨e1, hr, rfl⟩ := HOK.out rfl
              have HRG := Lib.hid hr
              obtain ⟨p1, p2, p3, p4, p5, p6, p7⟩ := HP.out gp gd e1 (by omega) hr
              have HP5 := Lib.hid p5
              have HP6 := Lib.hid p6
              clear hr p3 p4 p5 p6 p7
              by_cases hgp : gp.length = 0
              · have hgpI : ((gp.length : Int) == 0) = true := by simp [hgp]
                have HRES := Lib.hid (show R = none by rw [← HLO.out]; unfold loopR; rw [HX.out, if_neg (by omega), if_pos rfl, HG.out]; simp only [HRG.out]; rw [if_pos (.inl (List.eq_nil_of_length_eq_zero hgp))])
                clear HP5 HP6 hgp
                go_wp2_with fail
                refine bodyPost_ret (v := .tuple #[.agg #[.slice none 0 0, .int .i64 0], .int .i64 i, .bool false]) (by simp [results, Tryd.results56, go_sem, k0, k1]) rfl ⟨none, 0, [], 0, i, false, rfl, ints_nil _ _ _, ?_, (fun h => by cases h), (fun _ => ⟨HRES.out, rfl, rfl, rfl, rfl⟩), fun k hk => by cases hk⟩
                exact (HBE.out.setCell (Nat.le_refl _) _).setCell (Nat.le_refl _) _
              have hgp' : gp ≠ [] := fun h => hgp (by rw [h]; rfl)
              have hgpF : ((gp.length : Int) == 0) = false := by rw [beq_eq_false_iff_ne]; omega
              by_cases hel1 : s.size ≤ e1 + 1
              · have HRES := Lib.hid (show R = none by rw [← HLO.out]; unfold loopR; rw [HX.out, if_neg (by omega), if_pos rfl, HG.out]; simp only [HRG.out]; rw [if_pos (.inr (.inl hel1))])
                clear HP5 HP6
                go_wp2_with fail
                refine bodyPost_ret (v := .tuple #[.agg #[.slice none 0 0, .int .i64 0], .int .i64 i, .bool false]) (by simp [results, Tryd.results56, go_sem, k0, k1]) rfl ⟨none, 0, [], 0, i, false, rfl, ints_nil _ _ _, ?_, (fun h => by cases h), (fun _ => ⟨HRES.out, rfl, rfl, rfl, rfl⟩), fun k hk => by cases hk⟩
                exact (HBE.out.setCell (Nat.le_refl _) _).setCell (Nat.le_refl _) _
              obtain ⟨y, hy⟩ : ∃ y, chr s (e1 + 1) = y := ⟨_, rfl⟩
              have hyb := chr_bound s (e1 + 1)
              rw [hy] at hyb
              obtain ⟨hyb0, hyb1⟩ := hyb
              have hylt : e1 + 1 < s.size := by omega
              have hyc : ((s[e1 + 1]'hylt).toNat : Int) = y := by rw [← hy, chr_at hylt]
              have HY := Lib.hid hy
              clear hy
              by_cases hy0 : y < 50
              · have hnd : isDig y = false := by unfold isDig; rw [decide_eq_false_iff_not]; omega
                have HRES := Lib.hid (show R = none by rw [← HLO.out]; unfold loopR; rw [HX.out, if_neg (by omega), if_pos rfl, HG.out]; simp only [HRG.out]; rw [if_pos (.inr (.inr (by rw [HY.out]; exact hnd)))])
                clear HP5 HP6
                go_wp2_with fail
                refine bodyPost_ret (v := .tuple #[.agg #[.slice none 0 0, .int .i64 0], .int .i64 i, .bool false]) (by simp [results, Tryd.results56, go_sem, k0, k1]) rfl ⟨none, 0, [], 0, i, false, rfl, ints_nil _ _ _, ?_, (fun h => by cases h), (fun _ => ⟨HRES.out, rfl, rfl, rfl, rfl⟩), fun k hk => by cases hk⟩
                exact (HBE.out.setCell (Nat.le_refl _) _).setCell (Nat.le_refl _) _
              by_cases hy1 : 57 < y
              · have hnd : isDig y = false := by unfold isDig; rw [decide_eq_false_iff_not]; omega
                have HRES := Lib.hid (show R = none by rw [← HLO.out]; unfold loopR; rw [HX.out, if_neg (by omega), if_pos rfl, HG.out]; simp only [HRG.out]; rw [if_pos (.inr (.inr (by rw [HY.out]; exact hnd)))])
                clear HP5 HP6
                go_wp2_with fail
                refine bodyPost_ret (v := .tuple #[.agg #[.slice none 0 0, .int .i64 0], .int .i64 i, .bool false]) (by simp [results, Tryd.results56, go_sem, k0, k1]) rfl ⟨none, 0, [], 0, i, false, rfl, ints_nil _ _ _, ?_, (fun h => by cases h), (fun _ => ⟨HRES.out, rfl, rfl, rfl, rfl⟩), fun k hk => by cases hk⟩
                exact (HBE.out.setCell (Nat.le_refl _) _).setCell (Nat.le_refl _) _
              have hdg : isDig y = true := isDig_iff.2 ⟨by omega, by omega⟩
              have hnext : loopR (chr s) s.size inner f' (e1 + 2) (acc ++ rep gp (y - 48).toNat) (max dep gd) = R := by
                rw [← HLO.out]; conv => rhs; unfold loopR
                rw [HX.out, if_neg (by omega), if_pos rfl, HG.out]
                simp only [HRG.out]
                rw [if_neg, HY.out]
                rintro (h | h | h)
                · exact hgp' h
                · omega
                · rw [HY.out, hdg] at h; cases h
              have HNX := Lib.hid hnext
              obtain ⟨kk, hkk⟩ : ∃ kk : Nat, (y - 48).toNat = kk := ⟨_, rfl⟩
              have hkk2 : (kk : Int) = y - 48 := by omega
              rw [hkk] at HNX
              have hgl : gp.length ≤ 100000 := by
                have h1 := HP5.out
                have h2 : (e1 - (i + 1)) * M' ≤ 60 * 729 := Nat.mul_le_mul (by omega) (by have := HMM.out; omega)
                omega
              have hrp : ∀ V : World, Ints V V.heap.size A2 gp → Calls Tryd.prog 78 #[.slice A2 gp.length c2, .int .i64 (y - 48)] V (RetI V (rep gp kk)) := fun V hV => by
                have := slices_Repeat_any A2 c2 gp kk V hV (by omega) hgl (by omega) (by omega)
                rwa [hkk2] at this
              have HRP := Lib.hid hrp
              have hrl : (rep gp kk).length = kk * gp.length := rep_len gp kk
              have hrl0 : 0 < (rep gp kk).length := by rw [hrl]; exact Nat.mul_pos (by omega) (by omega)
              have hrl1 : (rep gp kk).length ≤ 900000 := by rw [hrl]; exact Nat.le_trans (Nat.mul_le_mul (show kk ≤ 9 by omega) hgl) (by omega)
              clear hnext hrp hrl hdg
              go_wp2_with fail
              generalize w1.alloc (.cells #[.slice A2 gp.length c2, .int .i64 gd] 44) = W2 at *
              have HD2d := Lib.hid (show Cells2 W2.drew (w.heap.size + 1) (.slice A1 acc.length c1) (.int .i64 dep) from HD2.out)
              have HD1d := Lib.hid (show Cells2 W2.drew w.heap.size u1 u2 from HD1.out)
              have HGBd := Lib.hid (show Cells2 W2.drew w1.heap.size (.slice A2 gp.length c2) (.int .i64 gd) from HGB.out)
              have HOWd := Lib.hid (show OwnI W2.drew (w.heap.size + 2) (.slice A1 acc.length c1) acc from HOW.out)
              have HBEd := Lib.hid (show Below w.heap.size w W2.drew from Below.drew HBE.out)
              have HI2d := Lib.hid (show Ints W2.drew W2.drew.heap.size A2 gp from HI2.out.mono (by first | exact Nat.le_of_lt k4 | (simp; omega) | exact Nat.le_of_lt m4))
              have hszd : w.heap.size + 2 ≤ W2.drew.heap.size := hsz2
              have hw1d : w1.heap.size < W2.drew.heap.size := m4
              have hwe : IntKind.i64.wrap ((e1 : Int) + 1) = (e1 : Int) + 1 := i64w (by omega)
              have hze : ((e1 : Int) + 1).toNat = e1 + 1 := by omega
              have hw8 : IntKind.u8.wrap (y - 48) = y - 48 := by rw [IntKind.wrap_u8]; omega
              have hw64 : IntKind.i64.wrap (y - 48) = y - 48 := i64w (by omega)
              go_region_law (first
                | (refine step_append_ints (by rfl) _ _ (by rfl) (w.heap.size + 2) _ acc (by rfl) HOW3.out b3 off3 c3 (rep gp kk) (by rfl) HC3.out (by omega) (by omega) ?_; intro v' w4 hown4 hg4 hgr4; obtain ⟨A4, c4, rfl⟩ := hown4.form; obtain ⟨r0, r1, r2, r3, r4⟩ := HD23.out.below hg4 (by omega))
                | (go_simp; go_at_call 78; refine (HRP.out _ HI2d.out).mono ?_; rintro e w3 ⟨A3, c3, rfl, hI3, hb3⟩; obtain ⟨b3, off3, rfl, hB3, hc3⟩ := hI3.2.2 hrl0; have HC3 := Lib.hid hc3; have HOW3 := Lib.hid (HOWd.out.grown hb3); have HD23 := Lib.hid (HD2d.out.below hb3 (by omega)); obtain ⟨q0, q1, q2, q3, q4⟩ := HD23.out; obtain ⟨o0, o1, o2, o3, o4⟩ := HGBd.out.below hb3 hw1d; have hz3 := hb3.size; clear hI3 hc3))
              all_goals
                have hzz3 : w1.heap.size < w3.heap.size := by omega
                have hw4 := hg4.size
                have hlen : (acc ++ rep gp kk).length = acc.length + (rep gp kk).length := List.length_append
                rw [hlen] at hown4
                have HE2 := Lib.hid ((HD23.out.below hg4 (by omega)).set0 (.slice A4 (acc.length + (rep gp kk).length) c4))
                have HE1 := Lib.hid (((HD1d.out.below hb3 (by omega)).below hg4 (by omega)).far (p := ⟨w.heap.size + 1, 0, none⟩) (by simp) (.slice A4 (acc.length + (rep gp kk).length) c4))
                have HEG := Lib.hid (((HGBd.out.below hb3 hw1d).grown hgr4 (fun h => by have := HLT1.out _ h.symm; omega)).far (p := ⟨w.heap.size + 1, 0, none⟩) (by simp; omega) (.slice A4 (acc.length + (rep gp kk).length) c4))
                have HEO := Lib.hid (hown4.far (p := ⟨w.heap.size + 1, 0, none⟩) (by simp) (.slice A4 (acc.length + (rep gp kk).length) c4))
                have HEB := Lib.hid (((HBEd.out.trans (hb3.mono (by omega))).trans (hg4.mono (by omega))).setCell (p := ⟨w.heap.size + 1, 0, none⟩) (by simp) (.slice A4 (acc.length + (rep gp kk).length) c4))
                have hw5 : w.heap.size + 2 ≤ (w4.setCell ⟨w.heap.size + 1, 0, none⟩ (.slice A4 (acc.length + (rep gp kk).length) c4)).heap.size := by simp [World.setCell]; omega
                generalize w4.setCell ⟨w.heap.size + 1, 0, none⟩ (.slice A4 (acc.length + (rep gp kk).length) c4) = W5 at *
                obtain ⟨s0, s1, s2, s3, s4⟩ := HE2.out
                obtain ⟨t0, t1, t2, t3, t4⟩ := HEG.out
                clear hown4 hg4 hgr4 hb3 r0 r1 r2 r3 r4 q0 q1 q2 q3 q4 o0 o1 o2 o3 o4 k0 k1 k2 k3 k4 l0 l1 l2 l3 l4 m0 m1 m2 m3 m4
                go_wp2_with fail
                go_roundw
                case rel =>
                  have hmx : (if dep < gd then gd else dep) = max dep gd := by split <;> omega
                  rw [hmx]
                  refine ⟨f', e1 + 2, acc ++ rep gp kk, max dep gd, .slice A4 (acc.length + (rep gp kk).length) c4, by go_num, by omega, by omega, HNX.out, ?_, ?_, ?_, ?_, ⟨u1, u2, ?_⟩, ?_, ?_⟩
                  · rw [hlen, rep_len]
                    have b1 : kk * gp.length ≤ 9 * ((e1 - (i + 1)) * M') := Nat.mul_le_mul (by omega) HP5.out
                    have b2 : 9 * ((e1 - (i + 1)) * M') = (e1 - (i + 1)) * M := by rw [HMM.out, Nat.mul_left_comm]
                    have b3 : i * M + (e1 - (i + 1)) * M ≤ (e1 + 2) * M := by rw [← Nat.add_mul]; exact Nat.mul_le_mul_right _ (by omega)
                    have := HAC.out
                    omega
                  · intro z hz
                    rcases List.mem_append.1 hz with hz | hz
                    · exact HEL.out z hz
                    · exact (HP6.out z (rep_mem hz)).1
                  · exact HE2.out.set1 _
                  · exact HEO.out.far (p := ⟨w.heap.size + 1, 1, none⟩) (by simp) _
                  · exact HE1.out.far (p := ⟨w.heap.size + 1, 1, none⟩) (by simp) _
                  · exact HEB.out.setCell (p := ⟨w.heap.size + 1, 1, none⟩) (by simp) _
                  · simpa [World.setCell] using hw5
                case measure => simp [intOf]; omega
        · have hex : (s.extract i (i + 1)).size = 1 := by have := (str_at s i hlt).size; simpa using this
          have hlc : ∀ V : World, Calls Tryd.prog 34 #[.string (s.extract i (i + 1))] V fun e w' => e = .returned (.bool (isLet x)) ∧ V = w' := fun V =>
            impl_isLetter_one _ V hex x (by rw [← hxc]; congr 2; exact ext_one s i hlt)
          have HLT := Lib.hid hlc
          clear hlc hex
          cases hlet : isLet x
          · have HRES := Lib.hid (show R = none by rw [← HLO.out]; unfold loopR; rw [HX.out, if_neg (by omega), if_neg h91, hlet]; rfl)
            rw [hlet] at HLT
            have HBE := Lib.hid hbel
            clear hown
            go_wp2_with (go_at_call 34; refine (HLT.out _).mono ?_; rintro e w' ⟨rfl, rfl⟩)
            refine bodyPost_ret (v := .tuple #[.agg #[.slice none 0 0, .int .i64 0], .int .i64 i, .bool false]) (by simp [results, Tryd.results56, go_sem, f0, f1]) rfl ⟨none, 0, [], 0, i, false, rfl, ?_, ?_, (fun h => by cases h), (fun _ => ⟨HRES.out, rfl, rfl, rfl, rfl⟩), fun k hk => by cases hk⟩
            · exact ints_nil _ _ _
            · exact (HBE.out.setCell (Nat.le_refl _) _).setCell (Nat.le_refl _) _
          · have hnext : loopR (chr s) s.size inner f' (i + 1) (acc ++ [(i : Int)]) dep = R := by
              rw [← HLO.out]; conv => rhs; unfold loopR
              rw [HX.out, if_neg (by omega), if_neg h91, if_pos hlet]
            have HNX := Lib.hid hnext
            rw [hlet] at HLT
            clear hnext
            go_wp2_with (first
              | (go_at_call 34; refine (HLT.out _).mono ?_; rintro e w' ⟨rfl, rfl⟩)
              | (at_builtin; refine wpList_append_int rfl _ _ rfl (w.heap.size + 2) _ acc rfl (hown.alloc _) _ _ rfl (cell_new1 _ _ _) (by omega) (by first | exact Nat.le_refl _ | (simp; done) | (simp; omega) | omega) ?_; intro v' w1 hown1 hg1; obtain ⟨A2, c2, rfl⟩ := hown1.form; obtain ⟨j0, j1, j2, j3, j4⟩ := (HC2.out.alloc (Obj.cells #[Value.int .i64 i] 3)).below hg1 (by omega)))
            have hlen : (acc ++ [(i : Int)]).length = acc.length + 1 := by simp
            rw [hlen] at hown1
            have HLN := Lib.hid hlen
            clear hlen j0 j1 j2 j3 j4 g0 g1 g2 g3 f0 f1 f2 f3
            go_roundw
            case rel =>
              refine ⟨f', i + 1, acc ++ [(i : Int)], dep, .slice A2 (acc.length + 1) c2, by go_num, by omega, by omega, HNX.out, ?_, ?_, ?_, ?_, ⟨u1, u2, ?_⟩, ?_, ?_⟩
              · have := HAC.out; rw [HLN.out, Nat.add_mul]; omega
              · intro y hy
                rcases List.mem_append.1 hy with hy | hy
                · exact HEL.out y hy
                · simp at hy; omega
              · exact ((HC2.out.alloc _).below hg1 (by omega)).set0 _
              · exact hown1.far (p := ⟨w.heap.size + 1, 0, none⟩) (by simp) _
              · exact ((HC1.out.alloc _).below hg1 (by omega)).far (p := ⟨w.heap.size + 1, 0, none⟩) (by simp) _
              · exact ((hbel.alloc (by omega) _).trans (hg1.mono (by omega))).setCell (p := ⟨w.heap.size + 1, 0, none⟩) (by simp) _
              · have := hg1.size; simp only [World.size_alloc] at this; simp [World.setCell]; omega
            case measure => simp [intOf]; omega
    · have hie : i = s.size := by omega
      have HRES := Lib.hid (show R = some (acc, dep, i) by
        rw [← HLO.out]
        cases f with
        | zero => rfl
        | succ f => unfold loopR; rw [if_pos (.inl (by omega))])
      have HOW := Lib.hid hown
      have HBE := Lib.hid hbel
      clear hown
      go_wp2_with fail
      refine bodyPost_ret (v := .tuple #[.agg #[.slice A1 acc.length c1, .int .i64 dep], .int .i64 i, .bool true]) (by simp [results, Tryd.results56, go_sem, f0, f1]) rfl ⟨A1, c1, acc, dep, i, true, rfl, ?_, ?_, (fun _ => ⟨i, HRES.out, rfl⟩), (fun h => by cases h), fun k hk => by have := (HOW.out.lt k hk).1; omega⟩
      · exact (((HOW.out.far (p := ⟨w.heap.size, 0, none⟩) (by simp) _).far (p := ⟨w.heap.size, 1, none⟩) (by simp) _).ints (fun y hy => by have := HEL.out y hy; unfold Fits; omega))
      · exact (HBE.out.setCell (Nat.le_refl _) _).setCell (Nat.le_refl _) _

theorem impl_readRow_any (s : ByteArray) (hs : s.size ≤ 60) : ∀ (d : Nat), d ≤ 3 → ∀ (i0 : Nat) (w : World), i0 ≤ s.size →
    Calls Tryd.prog 56 #[.string s, .int .i64 i0, .int .i64 (3 - (d : Int))] w (RowRet w (rowR (chr s) s.size d i0))
  | 0, _, i0, w, hi => impl_readRow_of s hs 3 1 (by omega) (by omega) none (.inl ⟨rfl, rfl⟩) i0 hi w
  | d + 1, hd, i0, w, hi => by
    have ih := impl_readRow_any s hs d (by omega)
    have hM : 9 ^ (d + 1) ≤ 729 := by
      have : 9 ^ (d + 1) ≤ 9 ^ 3 := Nat.pow_le_pow_right (by omega) hd
      exact this
    have h := impl_readRow_of s hs (3 - ((d + 1 : Nat) : Int)) (9 ^ (d + 1)) hM (Nat.pos_of_ne_zero (by simp)) (some (rowR (chr s) s.size d))
      (.inr ⟨by omega, by omega, _, rfl, ⟨9 ^ d, by rw [Nat.pow_succ, Nat.mul_comm], rowR_pass (chr s) s.size d⟩, fun at_ V hat => by
        have := ih at_ V hat
        rwa [show (3 : Int) - d = 3 - ((d + 1 : Nat) : Int) + 1 by omega] at this⟩) i0 hi w
    unfold rowR
    exact h

end Go.Proofs.YthfjfhgeiggljaaDoor
