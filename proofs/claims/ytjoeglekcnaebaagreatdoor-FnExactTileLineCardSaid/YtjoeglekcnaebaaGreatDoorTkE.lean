/-
  Several texts of this proof in one: ParS, ParG.
-/
import Derived.Test.YtjoeglekcnaebaaGreatDoorTkA
import Derived.Test.YtjoeglekcnaebaaGreatDoorTkF
import Derived.Test.YtjoeglekcnaebaaGreatDoorSrok
import Derived.Test.YtjoeglekcnaebaaGreatDoorTwp
import Derived.Test.YtjoeglekcnaebaaGreatDoorTkB
import Derived.Test.YtjoeglekcnaebaaGreatDoorTkD
import Derived.Deep.AppendLies
import Derived.ArgAppend
import Derived.Deep.RegionLawGrows
import Derived.Laws.OwnMore
namespace Go.Proofs.YtjoeglekcnaebaaGreatDoor
open Go.RowKit
set_option linter.unusedVariables false
set_option linter.unusedSimpArgs false

set_option maxRecDepth 100000 in
set_option maxHeartbeats 2000000 in
theorem spec_l09Counts_any (N : Nat) (A1 A2 : Option Addr) (c1 c2 : Nat) (a x : List Int) (w : World) (hA : Ints w w.heap.size A1 a) (hX : Ints w w.heap.size A2 x) (hok : RhOk N a) (hox : RhOk N x) :
    Calls Tryz.prog 97 #[.agg #[.int .i64 N, .slice A1 a.length c1], .agg #[.int .i64 N, .slice A2 x.length c2]] w fun e w' => ∃ b, e = .returned (.slice (some ⟨b, 0, none⟩) N N) ∧ Ints w' w'.heap.size (some ⟨b, 0, none⟩) (lstF (fun t => ((cntC N a x t : Nat) : Int)) N) ∧ Below w.heap.size w w' := by
  have hn1 : 1 ≤ N := by have := hok.1; omega
  have hn2 : N ≤ 24 := by have := hok.2.1; omega
  have hla : a.length ≤ 24 := by have := rhok_len hok; omega
  have hlx : x.length ≤ 24 := by have := rhok_len hox; omega
  have HRA := Lib.hid (fun i (hi : i < a.length) => hok.2.2.1 i hi)
  have HRX := Lib.hid (fun i (hi : i < x.length) => hox.2.2.1 i hi)
  have HCA := Lib.hid hA.2.2
  have HCX := Lib.hid hX.2.2
  have hb1 := (Below.refl w.heap.size w).alloc (Nat.le_refl _) (.cells #[.int .i64 N, .slice A1 a.length c1] 27)
  have HVA := Lib.hid ((Hav.boxed hA N c1).alloc (.cells #[.int .i64 N, .slice A2 x.length c2] 27))
  have HVX := Lib.hid (Hav.boxed (hX.lift hb1) N c2)
  have HBW := Lib.hid (hb1.alloc hb1.size (.cells #[.int .i64 N, .slice A2 x.length c2] 27))
  have hzW : (w.alloc (.cells #[.int .i64 N, .slice A1 a.length c1] 27)).heap.size = w.heap.size + 1 := by simp
  rw [hzW] at HVX
  have hzW2 : ((w.alloc (.cells #[.int .i64 N, .slice A1 a.length c1] 27)).alloc (.cells #[.int .i64 N, .slice A2 x.length c2] 27)).heap.size = w.heap.size + 2 := by simp
  have hmk := fun V : World => run_make_int N (by omega) V
  have HZ := Lib.hid (innC_zero N a x)
  have HE := Lib.hid (fun i p h1 h2 t => innC_end N (a := a) x (i := i) (p := p) h1 h2 t)
  have HAT := Lib.hid (fun i p j q h1 h2 y h3 => innC_at N a (x := x) i p (j := j) (q := q) h1 h2 y h3)
  have HNE := Lib.hid (fun i p j q h1 h2 y t h3 h4 => innC_ne N a (x := x) i p (j := j) (q := q) h1 h2 y t h3 h4)
  have HNA := Lib.hid (fun i p j t => innC_nat N a x i p j t hla hlx)
  have HCE := Lib.hid (show a.take a.length = a from List.take_length)
  have HCF := Lib.hid (fun t => show Fits ((cntC N a x t : Nat) : Int) by
    have h1 := cntC_le N x t a
    have h3 : a.length * x.length ≤ 24 * 24 := Nat.mul_le_mul hla hlx
    unfold Fits; omega)
  clear hA hX hok hox hb1 hzW
  obtain ⟨⟨p0, p1, _, _, _⟩, _⟩ := HVA.out
  obtain ⟨⟨q0, q1, _, _, _⟩, _⟩ := HVX.out
  go_enter Tryz.func97, Tryz.ntmps97
  go_wp2_with fail
  generalize (w.alloc (.cells #[.int .i64 N, .slice A1 a.length c1] 27)).alloc (.cells #[.int .i64 N, .slice A2 x.length c2] 27) = W at *
  have HT0 := Lib.hid (hzW2 ▸ tab_made W N 3)
  have hb := (Below.refl W.heap.size W).alloc (Nat.le_refl _) (.cells (madeCells #[.int .i64 0] N) 3)
  have HBW := Lib.hid (HBW.out.trans (hb.mono HBW.out.size))
  have HVA := Lib.hid (HVA.out.lift hb)
  have HVX := Lib.hid (HVX.out.lift hb)
  clear hb p0 p1 q0 q1 hzW2
  generalize W.alloc (.cells (madeCells #[.int .i64 0] N) 3) = V at *
  obtain ⟨B, hB⟩ : ∃ B, w.heap.size = B := ⟨_, rfl⟩
  rw [hB] at HVA HVX HT0 HBW HCA HCX ⊢
  have HWB := Lib.hid hB
  clear hB
  obtain ⟨⟨p0, p1, _, _, _⟩, _⟩ := HVA.out
  have HBV := Lib.hid (Below.refl (B + 2) V)
  go_loopw [16] (fun i wr => ∃ j : Nat, j ≤ a.length ∧ i = .int .i64 j ∧ Tab wr (B + 2) N (fun t => ((cntC N (a.take j) x t : Nat) : Int)) ∧ Below (B + 2) V wr) (fun i _ => a.length - (intOf i).toNat)
  case atStart => exact ⟨0, Nat.zero_le _, rfl, HT0.out.congr (fun t _ => rfl), HBV.out⟩
  case round =>
    obtain ⟨j, hj, rfl, htab, hbel⟩ := hrel
    obtain ⟨wo, rfl⟩ : ∃ wo : World, wo = wr := ⟨_, rfl⟩
    have HT := Lib.hid htab
    have HB := Lib.hid hbel
    have hz := htab.1
    by_cases hlt : j < a.length
    · obtain ⟨b2, off, rfl, hbB, hbc⟩ := HCA.out (by omega)
      have hca := (hbel.cell (p := ⟨b2, off + j, none⟩) (show b2 < B + 2 by omega)).trans ((HBW.out.cell (p := ⟨b2, off + j, none⟩) hbB).trans (hbc j hlt))
      have hx0 := HRA.out j hlt
      obtain ⟨p, hp⟩ := Int.eq_ofNat_of_zero_le hx0.1
      have HEJ := Lib.hid (HE.out j p hlt hp)
      rw [hp] at hca hx0
      have hpN : p < N := by omega
      have hv0 := (hbel.cell (p := ⟨B + 1, 0, none⟩) (show B + 1 < B + 2 by omega)).trans HVX.out.1.1
      have hv1 := (hbel.cell (p := ⟨B + 1, 1, none⟩) (show B + 1 < B + 2 by omega)).trans HVX.out.1.2.1
      have hji : (j : Int) < (a.length : Int) := by omega
      have HAJ := Lib.hid (fun k q h1 h2 y h3 => HAT.out j (p : Int) k q h1 h2 y h3)
      have HNJ := Lib.hid (fun k q h1 h2 y t h3 h4 => HNE.out j (p : Int) k q h1 h2 y t h3 h4)
      have HZJ := Lib.hid (fun t => HZ.out j (p : Int) t)
      have HNN := Lib.hid (fun k t => HNA.out j (p : Int) k t)
      clear htab hbel hbc hp p0 p1
      go_wp2_with fail
      clear hca hv0 hv1
      go_loopw [23] (fun kk wr => ∃ k : Nat, k ≤ x.length ∧ kk = .int .i64 k ∧ Tab wr (B + 2) N (innC N a x j p k) ∧ Below (B + 2) V wr) (fun kk _ => x.length - (intOf kk).toNat)
      case atStart => exact ⟨0, Nat.zero_le _, rfl, HT.out.congr (fun t _ => HZJ.out t), HB.out⟩
      case round =>
        obtain ⟨k, hk, rfl, htab, hbel⟩ := hrel
        obtain ⟨wi, rfl⟩ : ∃ wi : World, wi = wr := ⟨_, rfl⟩
        have HTI := Lib.hid htab
        have HBI := Lib.hid hbel
        by_cases hltk : k < x.length
        · obtain ⟨b3, off3, rfl, hb3, hbc⟩ := HCX.out (by omega)
          have hcx := (hbel.cell (p := ⟨b3, off3 + k, none⟩) (show b3 < B + 2 by omega)).trans ((HBW.out.cell (p := ⟨b3, off3 + k, none⟩) hb3).trans (hbc k hltk))
          have hy0 := HRX.out k hltk
          obtain ⟨q, hq⟩ := Int.eq_ofNat_of_zero_le hy0.1
          rw [hq] at hcx hy0
          have hqN : q < N := by omega
          obtain ⟨y, hy⟩ : ∃ y, (p + q) % N = y := ⟨_, rfl⟩
          have hyN : y < N := by rw [← hy]; exact Nat.mod_lt _ (by omega)
          have hyI : ((p : Int) + (q : Int)) % (N : Int) = (y : Int) := by rw [← hy, Int.natCast_emod, Int.natCast_add]
          obtain ⟨v, hv, hv1⟩ := HNN.out k y
          have HA1 := Lib.hid (show innC N a x j p (k + 1) y = ((v + 1 : Nat) : Int) by rw [HAJ.out k q hltk hq y hyI, hv]; rfl)
          have HN1 := Lib.hid (fun t (ht : t ≠ y) => HNJ.out k q hltk hq y t hyI ht)
          have hcy := htab.get hyN hv
          have hfy := htab.frz hyN
          obtain ⟨s, hs⟩ : ∃ s, p + q = s := ⟨_, rfl⟩
          have hw1 : IntKind.i64.wrap ((p : Int) + (q : Int)) = (s : Int) := by rw [i64w (by omega)]; omega
          have hrm : (s : Int).tmod (N : Int) = (y : Int) := by rw [Int.tmod_eq_emod_of_nonneg (by omega), ← Int.natCast_emod, ← hs, hy]
          have hnz : ((N : Int) = 0) = False := eq_false (by omega)
          have hnz2 : (N = 0) = False := eq_false (by omega)
          have hw2 : IntKind.i64.wrap (y : Int) = (y : Int) := i64w (by omega)
          have hw3 : IntKind.i64.wrap ((v : Int) + 1) = ((v + 1 : Nat) : Int) := by rw [i64w (by omega)]; omega
          have hyi0 : (0 : Int) ≤ (y : Int) := Int.natCast_nonneg _
          have hyi : (y : Int) < (N : Int) := by omega
          have hki : (k : Int) < (x.length : Int) := by omega
          have hp0 := (hbel.cell (p := ⟨B, 0, none⟩) (show B < B + 2 by omega)).trans HVA.out.1.1
          clear htab hbel hbc hq hy hyI hv hs
          go_wp2_with fail
          have HT2 := Lib.hid (HTI.out.set_ (g := innC N a x j p (k + 1)) y ((v + 1 : Nat) : Int) hyN HA1.out (fun t _ ht => HN1.out t ht))
          have HB2 := Lib.hid (HBI.out.setCell (p := ⟨B + 2, y, none⟩) (Nat.le_refl _) (.int .i64 ((v + 1 : Nat) : Int)))
          go_roundw
          case rel => exact ⟨k + 1, by omega, by go_num, HT2.out, HB2.out⟩
          case measure => simp [intOf]; omega
        · have hke : k = x.length := by omega
          subst hke
          have hki : ¬ (x.length : Int) < (x.length : Int) := by omega
          clear htab hbel
          go_wp2_with fail
          go_roundw
          case rel => exact ⟨j + 1, by omega, by go_num, HTI.out.congr (fun t _ => HEJ.out t), HBI.out⟩
          case measure => simp [intOf]; omega
    · have hje : j = a.length := by omega
      subst hje
      have hji : ¬ (a.length : Int) < (a.length : Int) := by omega
      have HTE := Lib.hid (show Tab wo (B + 2) N (fun t => ((cntC N a x t : Nat) : Int)) from HT.out.congr (fun t _ => by rw [HCE.out]))
      have HBE := Lib.hid (HBW.out.trans (HB.out.mono (show B ≤ B + 2 by omega)))
      clear htab hbel p0 p1
      go_wp2_with fail
      go_ret
      exact ⟨B + 2, rfl, HTE.out.intsT (by unfold maxLen; omega) (fun t _ => HCF.out t) N, by first | exact HBE.out | (rw [HWB.out]; exact HBE.out)⟩

set_option maxRecDepth 100000 in
set_option maxHeartbeats 1000000 in
theorem spec_l09Between_any (N : Nat) (A1 A2 : Option Addr) (c1 c2 : Nat) (a x : List Int) (w : World) (hA : Ints w w.heap.size A1 a) (hX : Ints w w.heap.size A2 x) (hok : RhOk N a) (hox : RhOk N x) :
    Calls Tryz.prog 82 #[.agg #[.int .i64 N, .slice A1 a.length c1], .agg #[.int .i64 N, .slice A2 x.length c2], .int .i64 0, .int .i64 1] w fun e w' => e = .returned (.bool (btwB N a x N)) ∧ Below w.heap.size w w' := by
  have hn1 : 1 ≤ N := by have := hok.1; omega
  have hn2 : N ≤ 24 := by have := hok.2.1; omega
  have hfit : Fits (N : Int) := by unfold Fits; omega
  have HL5 := Lib.hid (fun V h1 h2 => spec_l05TwoP_any N N A1 A2 c1 c2 a x V hfit hfit h1 h2)
  have hyes : (rhB N a && rhB N x && decide ((N : Int) = N)) = true := by rw [rhB_iff.2 hok, rhB_iff.2 hox]; simp
  rw [hyes] at HL5
  have HCN := Lib.hid (fun V h1 h2 => spec_l09Counts_any N A1 A2 c1 c2 a x V h1 h2 hok hox)
  have hb1 := (Below.refl w.heap.size w).alloc (Nat.le_refl _) (.cells #[.int .i64 N, .slice A1 a.length c1] 27)
  have HVA := Lib.hid ((Hav.boxed hA N c1).alloc (.cells #[.int .i64 N, .slice A2 x.length c2] 27))
  have HVX := Lib.hid (Hav.boxed (hX.lift hb1) N c2)
  have HBW := Lib.hid (hb1.alloc hb1.size (.cells #[.int .i64 N, .slice A2 x.length c2] 27))
  have hzW : (w.alloc (.cells #[.int .i64 N, .slice A1 a.length c1] 27)).heap.size = w.heap.size + 1 := by simp
  rw [hzW] at HVX
  have HLE := Lib.hid (fun t => show cntC N a x t ≤ 1000 by
    have h1 := cntC_le N x t a
    have hla : a.length ≤ 24 := by have := rhok_len hok; omega
    have hlx : x.length ≤ 24 := by have := rhok_len hox; omega
    have h3 : a.length * x.length ≤ 24 * 24 := Nat.mul_le_mul hla hlx
    omega)
  have HBS := Lib.hid (fun m => show btwB N a x (m + 1) = (btwB N a x m && decide (cntC N a x m ≤ 1)) from rfl)
  have HBL := Lib.hid (fun j h => btwB_low (N := N) (a := a) (x := x) (j := j) (m := N) h)
  clear hA hX hok hox hb1 hzW hyes
  obtain ⟨⟨p0, p1, _, _, _⟩, _⟩ := HVA.out
  obtain ⟨⟨q0, q1, _, _, _⟩, _⟩ := HVX.out
  go_enter Tryz.func82, Tryz.ntmps82
  go_wp2_with fail
  generalize (w.alloc (.cells #[.int .i64 N, .slice A1 a.length c1] 27)).alloc (.cells #[.int .i64 N, .slice A2 x.length c2] 27) = W at *
  refine (HL5.out W HVA.out.2 HVX.out.2).mono ?_
  rintro e w1 ⟨rfl, hb⟩
  have HBW := Lib.hid (HBW.out.trans (hb.mono HBW.out.size))
  try have HVA := Lib.hid (HVA.out.lift hb)
  try have HVB := Lib.hid (HVB.out.lift hb)
  try have HVC := Lib.hid (HVC.out.lift hb)
  try have HVT := Lib.hid (HVT.out.lift hb)
  try have HVX := Lib.hid (HVX.out.lift hb)
  try have HVM := Lib.hid (HVM.out.lift hb)
  try have HVF := Lib.hid (HVF.out.lift hb)
  try have HVP := Lib.hid (HVP.out.lift hb)
  try have HVQ := Lib.hid (HVQ.out.lift hb)
  try have HLA := Lib.hid (HLA.out.lift hb)
  try have HLW := Lib.hid (HLW.out.lift hb)
  try have HI := Lib.hid (HI.out.lift hb)
  try have HRB := Lib.hid (HRB.out.trans (hb.mono HRB.out.size))
  try have HWW := Lib.hid (HWW.out.trans (hb.mono HWW.out.size))
  clear hb
  clear p0 p1 q0 q1
  try clear hb
  obtain ⟨⟨p0, p1, _, _, _⟩, _⟩ := HVA.out
  obtain ⟨⟨q0, q1, _, _, _⟩, _⟩ := HVX.out
  go_wp2_with fail
  refine (HCN.out w1 HVA.out.2 HVX.out.2).mono ?_
  rintro e w2 ⟨b, rfl, hI, hb⟩
  have HBW := Lib.hid (HBW.out.trans (hb.mono HBW.out.size))
  try have HVA := Lib.hid (HVA.out.lift hb)
  try have HVB := Lib.hid (HVB.out.lift hb)
  try have HVC := Lib.hid (HVC.out.lift hb)
  try have HVT := Lib.hid (HVT.out.lift hb)
  try have HVX := Lib.hid (HVX.out.lift hb)
  try have HVM := Lib.hid (HVM.out.lift hb)
  try have HVF := Lib.hid (HVF.out.lift hb)
  try have HVP := Lib.hid (HVP.out.lift hb)
  try have HVQ := Lib.hid (HVQ.out.lift hb)
  try have HLA := Lib.hid (HLA.out.lift hb)
  try have HLW := Lib.hid (HLW.out.lift hb)
  try have HI := Lib.hid (HI.out.lift hb)
  try have HRB := Lib.hid (HRB.out.trans (hb.mono HRB.out.size))
  try have HWW := Lib.hid (HWW.out.trans (hb.mono HWW.out.size))
  clear hb
  have HI := Lib.hid hI
  clear p0 p1 q0 q1 hI
  try clear hb
  go_wp2_with fail
  go_loop [19] (fun i => ∃ j : Nat, j ≤ N ∧ i = .int .i64 j ∧ btwB N a x j = true) (fun i => N - (intOf i).toNat)
  case atStart => exact ⟨0, Nat.zero_le _, rfl, rfl⟩
  case round =>
    obtain ⟨j, hj, rfl, ht⟩ := hrel
    have HT := Lib.hid ht
    clear ht
    by_cases hlt : j < N
    · obtain ⟨b2, off2, e2, _, hc⟩ := HI.out.2.2 (by rw [lstF_len]; omega)
      injection e2 with e2
      injection e2 with e2 e3
      subst e2 e3
      have hcj := hc j (by rw [lstF_len]; exact hlt)
      rw [lstF_at _ hlt, Nat.zero_add] at hcj
      have hle := HLE.out j
      have hbs := HBS.out j
      obtain ⟨v, hv⟩ : ∃ v, cntC N a x j = v := ⟨_, rfl⟩
      rw [hv] at hcj hle hbs
      rw [HT.out, Bool.true_and] at hbs
      have hji : (j : Int) < (N : Int) := by omega
      have HBSJ := Lib.hid hbs
      by_cases h1 : v ≤ 1
      · have hin : inB (v : Int) 0 1 = true := inB_true ⟨by omega, by omega⟩
        have HIN := Lib.hid hin
        clear hc hbs hv hin
        go_wp2_with fail
        refine (l01In_any _ _ _ _).mono ?_
        rintro e w' ⟨rfl, rfl⟩
        have hin := HIN.out
        go_wp2_with fail
        go_round
        case rel => exact ⟨j + 1, by omega, by go_num, by rw [HBSJ.out, decide_eq_true h1]⟩
        case measure => simp [intOf]; omega
      · have hin : inB (v : Int) 0 1 = false := by unfold inB; simp; omega
        have HIN := Lib.hid hin
        have HV := Lib.hid (show btwB N a x N = false from HBL.out (j + 1) (by omega) (by rw [hbs, decide_eq_false h1]))
        clear hc hbs hv hin
        go_wp2_with fail
        refine (l01In_any _ _ _ _).mono ?_
        rintro e w' ⟨rfl, rfl⟩
        have hin := HIN.out
        go_wp2_with fail
        go_ret
        exact ⟨ret_bool HV.out.symm, HBW.out⟩
    · have hje : j = N := by omega
      subst hje
      have hji : ¬ (j : Int) < (j : Int) := by omega
      go_wp2_with fail
      go_ret
      exact ⟨ret_bool HT.out.symm, HBW.out⟩

end Go.Proofs.YtjoeglekcnaebaaGreatDoor

namespace Go.Proofs.YtjoeglekcnaebaaGreatDoor
open Go.RowKit
set_option linter.unusedVariables false
set_option linter.unusedSimpArgs false

def Cell1 (w : World) (g : Nat) (u : Value) : Prop := g < w.heap.size ∧ w.cell? ⟨g, 0, none⟩ = some u
theorem Cell1.lift {w w' : World} {g : Nat} {u : Value} (h : Cell1 w g u) (hb : Below w.heap.size w w') : Cell1 w' g u :=
  ⟨Nat.lt_of_lt_of_le h.1 hb.size, (hb.cell (p := ⟨g, 0, none⟩) h.1).trans h.2⟩
theorem Cell1.new (w : World) (u : Value) (t : TypeId) : Cell1 (w.alloc (.cells #[u] t)) w.heap.size u := ⟨by simp, cell_new1 w u t⟩
theorem Cell1.ints {w : World} {g : Nat} {x : Int} (h : Cell1 w g (.int .i64 x)) (hf : Fits x) : Ints w w.heap.size (some ⟨g, 0, none⟩) [x] := by
  refine ⟨by unfold maxLen; simp, fun y hy => ?_, fun _ => ⟨g, 0, rfl, h.1, fun i hi => ?_⟩⟩
  · rw [List.mem_singleton] at hy; subst hy; exact hf
  · have : i = 0 := by simp at hi; omega
    subst this
    exact h.2
theorem Ints.setFarP {w : World} {B : Nat} {A : Option Addr} {xs : List Int} (h : Ints w B A xs) {p : Addr} (hne : ∀ k o, A = some ⟨k, o, none⟩ → k ≠ p.block) (u : Value) : Ints (w.setCell p u) B A xs := by
  refine ⟨h.1, h.2.1, fun hn => ?_⟩
  obtain ⟨b, off, e, hb, hc⟩ := h.2.2 hn
  refine ⟨b, off, e, hb, fun i hi => ?_⟩
  rw [World.cell?_of_block (w := w) (a := ⟨b, off + i, none⟩) (Below.heap_setCell w p u b (hne b off e))]
  exact hc i hi
theorem OwnI.newAt {w : World} {base c : Nat} {A : Option Addr} {L : List Int} (h : OwnI w base (.slice A L.length c) L) (hp : 0 < L.length) : ∃ k, A = some ⟨k, 0, none⟩ ∧ base ≤ k := by
  rcases h.2 with ⟨hv, h0⟩ | ⟨g, cap', cur, hv, hge, _⟩
  · omega
  · injection hv with h1
    exact ⟨g, h1, hge⟩
theorem OwnI.setFar {w : World} {base : Nat} {v : Value} {xs : List Int} (h : OwnI w base v xs) {p : Addr} (hne : ∀ k, v.ownBlock = some k → k ≠ p.block) (u : Value) : OwnI (w.setCell p u) base v xs := by
  refine ⟨h.1, ?_⟩
  rcases h.2 with h0 | ⟨g, cap, cur, e, hg, hh, rest⟩
  · exact .inl h0
  · refine .inr ⟨g, cap, cur, e, hg, ?_, rest⟩
    rw [Below.heap_setCell w p u g (hne g (by rw [e]; rfl))]
    exact hh
theorem step_append_srcI {w : World} {ops : Array Oper} {o : Oper} {a : Act} {K : Act → World → Prop} {Q : Exit → Act → World → Prop} {E : Prop} (hgd : o.guard = none) (s x : Operand)
    (ho : o.op = .call { callee := .builtin .append, args := #[s, x], argTypes := #[22, 22] })
    (base : Nat) (v : Value) (L : List Int) (hs : a.eval s = v) (hown : OwnI w base v L) (A : Option Addr) (c : Nat) (ys : List Int) (hx : a.eval x = .slice A ys.length c) (hI : Ints w w.heap.size A ys) (hnil : ys.length = 0 → A = none ∧ c = 0)
    (hlen : L.length + ys.length ≤ 1000000) (hbase : base ≤ w.heap.size)
    (h : ∀ v' w', OwnI w' base v' (L ++ ys) → Below base w w' → w.grownBy w' v.ownBlock → (∀ k, v'.ownBlock = some k → v.ownBlock = some k ∨ k = w.heap.size) → K (a.put o.dst v') w') :
    if Region.wanted o (yielded ops a.tmps) = true then Oper.wp Tryz.prog o a w K Q else E := by
  obtain ⟨i, hi, hz, hsz, hby⟩ := info_parts Tryz.infoInt
  by_cases hy : ys.length = 0
  · obtain ⟨rfl, rfl⟩ := hnil hy
    have hye : ys = [] := List.eq_nil_of_length_eq_zero hy
    subst hye
    have hw : Region.wanted o (yielded ops a.tmps) = true := by simp [Region.wanted, hgd]
    rw [if_pos hw]
    have hrun := run_append_owned_none (P := Tryz.prog) (w := w) base 22 o.type 3 i 1 Tryz.underlying22 hi v L.length _ hown
    have hx' : a.eval x = .slice none 0 0 := hx
    unfold Oper.wp
    simp [execOp, ho, resolve, invoke, builtin, hs, hx', hrun, Result.andThen]
    exact h v w (by rw [List.append_nil]; exact hown) (Below.refl _ _) ⟨rfl, rfl, rfl, Nat.le_refl _, fun _ _ _ => rfl⟩ (fun k hk => .inl hk)
  · obtain ⟨b, off, rfl, hb, hc⟩ := hI.2.2 (by omega)
    refine step_append_lies (w := w) hgd s x 22 ho base 3 i _ 1 8 Tryz.underlying22 hi hz hsz hby rfl (by omega) v L.length _ hs hown ⟨b, off, none⟩ ys.length c (ys.map (Value.int .i64)) hx (by simp) (news_ints hc).1 (news_ints hc).2 (by omega) (by unfold maxLen; omega) (by omega) hbase _ rfl ?_
    intro g cap w' hown' hgrow hat hlt
    refine h _ w' ?_ ((Below.refl base w).grown hgrow hbase (fun k hk => (hown.lt k hk).1)) hgrow (fun k hk => ?_)
    · unfold OwnI
      rw [List.length_append, List.map_append]
      exact hown'
    · have : g = k := by simpa [Value.ownBlock] using hk
      subst this
      exact hat
theorem step_append_src0I {w : World} {ops : Array Oper} {o : Oper} {a : Act} {K : Act → World → Prop} {Q : Exit → Act → World → Prop} {E : Prop} (hgd : o.guard = none) (s x : Operand)
    (ho : o.op = .call { callee := .builtin .append, args := #[s, x], argTypes := #[22, 22] })
    (base : Nat) (ao : Option Addr) (hs : a.eval s = .slice ao 0 0) (hown : OwnI w base (.slice ao 0 0) []) (A : Option Addr) (c : Nat) (ys : List Int) (hx : a.eval x = .slice A ys.length c) (hI : Ints w w.heap.size A ys) (hnil : ys.length = 0 → A = none ∧ c = 0)
    (hlen : ys.length ≤ 1000000) (hbase : base ≤ w.heap.size)
    (h : ∀ v' w', OwnI w' base v' ys → Below w.heap.size w w' → (∀ k, v'.ownBlock = some k → Value.ownBlock (.slice ao 0 0) = some k ∨ w.heap.size ≤ k) → K (a.put o.dst v') w') :
    if Region.wanted o (yielded ops a.tmps) = true then Oper.wp Tryz.prog o a w K Q else E := by
  obtain ⟨i, hi, hz, hsz, hby⟩ := info_parts Tryz.infoInt
  by_cases hy : ys.length = 0
  · obtain ⟨rfl, rfl⟩ := hnil hy
    have hye : ys = [] := List.eq_nil_of_length_eq_zero hy
    subst hye
    have hw : Region.wanted o (yielded ops a.tmps) = true := by simp [Region.wanted, hgd]
    rw [if_pos hw]
    have hrun := run_append_owned_none (P := Tryz.prog) (w := w) base 22 o.type 3 i 1 Tryz.underlying22 hi (.slice ao 0 0) 0 _ hown
    have hx' : a.eval x = .slice none 0 0 := hx
    unfold Oper.wp
    simp [execOp, ho, resolve, invoke, builtin, hs, hx', hrun, Result.andThen]
    exact h _ w hown (Below.refl _ _) (fun k hk => .inl hk)
  · obtain ⟨b, off, rfl, hb, hc⟩ := hI.2.2 (by omega)
    refine step_append_grows (w := w) hgd s x 22 ho 3 i _ 1 8 Tryz.underlying22 hi hz hsz hby rfl (by omega) ao 0 0 [] hs (fun _ => ⟨rfl, rfl⟩) (by simp) (by intro b _ j u hj; simp at hj) ⟨b, off, none⟩ ys.length c (ys.map (Value.int .i64)) hx (by simp) (news_ints hc).1 (news_ints hc).2 (by omega) (by unfold maxLen; omega) (by omega) ?_
    intro v' w' hown' hgrow
    have ho' : OwnI w' w.heap.size v' ys := by
      unfold OwnI
      rw [Nat.zero_add, List.nil_append] at hown'
      exact hown'
    refine h v' w' (ho'.monoD hbase) ((Below.refl _ _).grown hgrow (Nat.le_refl _) (fun k hk => by cases hk)) (fun k hk => .inr (ho'.lt k hk).1)

theorem Tryz.infoRhythmG : (Tryz.prog.info? 27).map (fun i => (i.zero, i.size, i.bytes)) = some (some (.agg #[.int .i64 0, .slice none 0 0]), 2, 32) := by kernel_rfl
/-- 'append(s, r)' onto an empty slice of rhythms without room. -/
theorem wpList_append_rh0 {w : World} {ops : Array Oper} {rest : List Oper} {o : Oper} {a : Act} {Q : Exit → Act → World → Prop} (hgd : o.guard = none) (s x : Operand)
    (ho : o.op = .call { callee := .builtin .append, args := #[s, x], argTypes := #[53, 53] })
    (ao : Option Addr) (hs : a.eval s = .slice ao 0 0) (g : Nat) (u v : Value) (hx : a.eval x = .slice (some ⟨g, 0, none⟩) 1 1) (hc : w.cell? ⟨g, 0, none⟩ = some u ∧ w.cell? ⟨g, 1, none⟩ = some v) (hu : u.oneCell' = true ∧ v.oneCell' = true)
    (h : ∀ b c w', b < w'.heap.size → w'.cell? ⟨b, 0, none⟩ = some u → w'.cell? ⟨b, 1, none⟩ = some v → Below w.heap.size w w' → wpList Tryz.prog ops Q rest (a.put o.dst (.slice (some ⟨b, 0, none⟩) 1 c)) w') : wpList Tryz.prog ops Q (o :: rest) a w := by
  obtain ⟨i, hi, hz, hsz, hby⟩ := info_parts Tryz.infoRhythmG
  refine wpList_append_grows w hgd s x _ ho 27 i _ 2 32 Tryz.underlying53 hi hz hsz hby rfl (by omega) ao 0 0 [] hs (fun _ => ⟨rfl, rfl⟩) (by simp) (by intro b _ j u hj; simp at hj) ⟨g, 0, none⟩ 1 1 [u, v] hx (by simp) ?_ ?_ (by omega) (by unfold maxLen; omega) (by omega) ?_
  · intro j t hj
    match j, hj with
    | 0, hj => simp at hj; subst hj; exact hc.1
    | 1, hj => simp at hj; subst hj; exact hc.2
  · intro t ht
    simp at ht
    rcases ht with rfl | rfl
    · exact hu.1
    · exact hu.2
  · intro v' w' hown hgrow
    obtain ⟨b, c, rfl, hbb, hlt⟩ := hown.form (by omega)
    have h0 := World.ownsRow.cells hown (g := b) rfl 0 u rfl
    have h1 := World.ownsRow.cells hown (g := b) rfl 1 v rfl
    rw [Go.WideShapes.add_plain] at h0 h1
    exact h b c w' hlt h0 h1 ((Below.refl _ _).grown hgrow (Nat.le_refl _) (fun k hk => by cases hk))

theorem rhok_snoc {N : Nat} {xs : List Int} (h : RhOk N xs) (p : Nat) (hp : p < N) (hl : ∀ x ∈ xs, x < (p : Int)) : RhOk N (xs ++ [(p : Int)]) := by
  refine ⟨h.1, h.2.1, fun i hi => ?_, fun i hi => ?_⟩
  · rw [List.length_append, List.length_singleton] at hi
    by_cases e : i < xs.length
    · rw [List.getD_eq_getElem?_getD, List.getElem?_append_left e, ← List.getD_eq_getElem?_getD]
      exact h.2.2.1 i e
    · have : i = xs.length := by omega
      subst this
      rw [List.getD_eq_getElem?_getD, List.getElem?_append_right (Nat.le_refl _)]
      simp
      omega
  · rw [List.length_append, List.length_singleton] at hi
    rw [List.getD_eq_getElem?_getD, List.getElem?_append_left (by omega), ← List.getD_eq_getElem?_getD]
    by_cases e : i + 1 < xs.length
    · rw [List.getD_eq_getElem?_getD (l := xs ++ [(p : Int)]), List.getElem?_append_left e, ← List.getD_eq_getElem?_getD]
      exact h.2.2.2 i e
    · have : i + 1 = xs.length := by omega
      rw [List.getD_eq_getElem?_getD (l := xs ++ [(p : Int)]), this, List.getElem?_append_right (Nat.le_refl _)]
      simp
      refine hl _ ?_
      rw [List.getElem?_eq_getElem (by omega)]
      simp

end Go.Proofs.YtjoeglekcnaebaaGreatDoor

