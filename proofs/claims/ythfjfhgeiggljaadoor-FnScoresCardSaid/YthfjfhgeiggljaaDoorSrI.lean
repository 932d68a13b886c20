/-
  Sorting bytes: breakPatternsOrdered: some exchange of the places.
-/
import Derived.Test.YthfjfhgeiggljaaDoorSrH
import Derived.Test.YthfjfhgeiggljaaDoorShB
namespace Go.Proofs.YthfjfhgeiggljaaDoor
open Go.RowKit
set_option linter.unusedVariables false
set_option linter.unusedSimpArgs false

def TwoB (g z : Nat) : Nat → Prop := fun c => c = g ∨ z ≤ c
theorem Frm.oneB {w w' : World} {g : Nat} (h : Frm (TwoB g w.heap.size) w w') : Frm (OneB g) w w' :=
  ⟨h.os, h.tape, h.output, h.size, fun c hc hS => h.block c hc (fun hh => hh.elim hS (fun h2 => absurd hc (by omega)))⟩
theorem AD.far {w : World} {g off : Nat} {d : Array Int} (h : AD w g off d) {p : Addr} (hp : g ≠ p.block) (u : Value) : AD (w.setCell p u) g off d :=
  h.frm ((Frm.refl (fun c => c = p.block) w).setCell rfl u) hp
theorem Cell64.far2 {w : World} {z g i j : Nat} {R : Nat} {u v : Value} (h : w.cell? ⟨z, 0, none⟩ = some (.int .u64 R) ∧ w.frozen? ⟨z, 0, none⟩ = false) (hne : g ≠ z) :
    ((w.drew.setCell ⟨g, i, none⟩ u).setCell ⟨g, j, none⟩ v).cell? ⟨z, 0, none⟩ = some (.int .u64 R) ∧ ((w.drew.setCell ⟨g, i, none⟩ u).setCell ⟨g, j, none⟩ v).frozen? ⟨z, 0, none⟩ = false := by
  refine ⟨?_, ?_⟩
  · rw [World.cell?_setCell_other _ _ _ _ (fun q => hne (by injection q with q; first | done | exact q.symm | exact q)), World.cell?_setCell_other _ _ _ _ (fun q => hne (by injection q with q; first | done | exact q.symm | exact q))]
    exact h.1
  · rw [World.frozen?_setCell, World.frozen?_setCell]; exact h.2
theorem next_byte (rb X : Nat) (hX : X < 18446744073709551616) (w : World) (hc : w.cell? ⟨rb, 0, none⟩ = some (.int .u64 X)) (hf : w.frozen? ⟨rb, 0, none⟩ = false) :
    Calls Tryd.prog 112 #[.pointer (some ⟨rb, 0, none⟩)] w fun e w' => ∃ R : Nat, R < 18446744073709551616 ∧ e = .returned (.int .u64 R) ∧ w' = (w.setCell ⟨rb, 0, none⟩ (.int .u64 R)).drewN 3 :=
  (calls_of_every_depth fun D => AnyS.xorshift_NextIn Tryd.lays330 D rb 0 X hX w hc hf).mono fun _ _ ⟨he, hw⟩ => ⟨_, Go.Sort.xorNextN_lt X hX, he, hw⟩
theorem pow_byte (n : Nat) (h0 : 0 < n) (hn : n < 4611686018427387904) (w : World) :
    ∃ M : Nat, 1 ≤ M ∧ M ≤ 2 * n ∧ ∀ w, Calls Tryd.prog 111 #[.int .i64 n] w fun e w' => e = .returned (.int .u64 M) ∧ w' = w :=
  ⟨1 <<< Go.Sort.bitsLen n, by rw [Nat.one_shiftLeft]; exact Nat.two_pow_pos _, by rw [Nat.one_shiftLeft]; exact Go.Sort.two_pow_bitsLen_le h0, fun w => calls_of_every_depth fun D => AnyS.nextPowerOfTwoIn Tryd.lays329 D n hn w⟩

set_option maxRecDepth 100000 in
set_option maxHeartbeats 8000000 in
theorem breakPatterns_byte (g off cap a b n : Nat) (d : Array Int) (w : World) (hH : AD w g off d) (hab : a ≤ b) (hb : b ≤ n) (hn : d.size = n) (hsz : n < 1000000) :
    Calls Tryd.prog 82 #[.slice (some ⟨g, off, none⟩) n cap, .int .i64 a, .int .i64 b] w fun e w' =>
      e = .returned (.tuple #[]) ∧ ∃ d' : Array Int, AD w' g off d' ∧ d'.size = n ∧ Go.Sort.PermIn a b d d' ∧ Frm (OneB g) w w' := by
  obtain ⟨l, hl⟩ : ∃ l, b - a = l := ⟨_, rfl⟩
  have hw1 : IntKind.i64.wrap ((b : Int) - (a : Int)) = (l : Int) := by rw [i64w (by omega)]; omega
  have HP0 := Lib.hid (Go.Sort.permIn_refl d a b)
  by_cases h8 : 8 ≤ l
  rotate_left
  · have h8i : ¬ (8 : Int) ≤ (l : Int) := by omega
    have HH := Lib.hid hH
    clear hH
    go_enter Tryd.func82, Tryd.ntmps82
    go_wp2_with fail
    go_end0
    exact ⟨rfl, d, HH.out, hn, HP0.out, Frm.refl _ _⟩
  have h8i : (8 : Int) ≤ (l : Int) := by omega
  have hgl := hH.1
  obtain ⟨M, hM1, hM2, hMC⟩ := pow_byte l (by omega) (by omega) w
  have HMC := Lib.hid hMC
  have HSP := Lib.hid (fun (dk : Array Int) i j (h : dk.size = n) h1 h2 h3 h4 => Go.Sort.swp_permIn dk a b i j h1 h2 h3 h4 (by omega))
  have HTR := Lib.hid (fun (d1 d2 : Array Int) h1 h2 => Go.Sort.permIn_trans d d1 d2 a b h1 h2)
  obtain ⟨q, hq⟩ : ∃ q, l / 4 = q := ⟨_, rfl⟩
  obtain ⟨q2, hq2⟩ : ∃ q2, 2 * q = q2 := ⟨_, rfl⟩
  have hdv : (l : Int).tdiv 4 = (q : Int) := by rw [Int.tdiv_eq_ediv_of_nonneg (by omega)]; omega
  have hwq : IntKind.i64.wrap (q : Int) = (q : Int) := i64w (by omega)
  have hm2 : IntKind.i64.wrap ((q : Int) * 2) = (q2 : Int) := by rw [i64w (by omega)]; omega
  obtain ⟨s2, hs2⟩ : ∃ s2, a + q2 = s2 := ⟨_, rfl⟩
  have hws : IntKind.i64.wrap ((a : Int) + (q2 : Int)) = (s2 : Int) := by rw [i64w (by omega)]; omega
  have hwi : IntKind.i64.wrap ((s2 : Int) - 1) = ((s2 - 1 : Nat) : Int) := by rw [i64w (by omega)]; omega
  have hwj : IntKind.i64.wrap ((s2 : Int) + 1) = ((s2 + 1 : Nat) : Int) := by rw [i64w (by omega)]; omega
  have hcl : IntKind.u64.wrap (l : Int) = (l : Int) := by rw [IntKind.wrap_u64]; omega
  have hHL := Lib.hid (show l = b - a ∧ s2 = a + 2 * q ∧ 4 * q ≤ l ∧ l ≤ 4 * q + 3 by omega)
  have HH := Lib.hid (show AD (w.alloc (.cells #[.int .u64 l] 115)) g off d from hH.frm ((Frm.refl (OneB w.heap.size) w).alloc _) (show ¬ g = w.heap.size by omega))
  have HF := Lib.hid (show Frm (TwoB g w.heap.size) w (w.alloc (.cells #[.int .u64 l] 115)) from (Frm.refl _ w).alloc _)
  have HR := Lib.hid (show (w.alloc (.cells #[.int .u64 l] 115)).cell? ⟨w.heap.size, 0, none⟩ = some (.int .u64 (l : Nat)) ∧ (w.alloc (.cells #[.int .u64 l] 115)).frozen? ⟨w.heap.size, 0, none⟩ = false from ⟨by rw [cell_of_row _ _ _ _ _ _ (heap_alloc_new w _)]; rfl, frozen_of_row _ _ _ _ _ (heap_alloc_new w _)⟩)
  have HNG := Lib.hid (show g ≠ w.heap.size by omega)
  clear hH hl hq hq2 hs2 hMC hgl
  go_enter Tryd.func82, Tryd.ntmps82
  go_wp2_with (go_at_call 111; refine (HMC.out _).mono ?_; rintro e w' ⟨rfl, rfl⟩)
  generalize w.alloc (.cells #[.int .u64 l] 115) = W at *
  obtain ⟨z, hz⟩ : ∃ z, w.heap.size = z := ⟨_, rfl⟩
  have HFO := Lib.hid (fun V (h : Frm (TwoB g z) w V) => show Frm (OneB g) w V from Frm.oneB (by rw [hz]; exact h))
  rw [hz] at HF HR HNG ⊢
  clear hz
  go_loopw [9] (fun vi wr => ∃ (t R : Nat) (dk : Array Int), vi = .int .i64 ((s2 - 1 + t : Nat) : Int) ∧ t ≤ 3 ∧ R < 18446744073709551616 ∧ dk.size = n ∧ AD wr g off dk ∧ wr.cell? ⟨z, 0, none⟩ = some (.int .u64 R) ∧ wr.frozen? ⟨z, 0, none⟩ = false ∧ Go.Sort.PermIn a b d dk ∧ Frm (TwoB g z) w wr) (fun vi _ => s2 + 3 - (intOf vi).toNat)
  case atStart => exact ⟨0, l, d, by simp, by omega, by have := hHL.out; omega, hn, HH.out, HR.out.1, HR.out.2, HP0.out, HF.out⟩
  case round =>
    obtain ⟨t, R, dk, rfl, ht, hR, hsk, hA, hc0, hc1, hP, hF⟩ := hrel
    obtain ⟨G, hG, hcw, hfw⟩ := hA.fam hsk
    have HG := Lib.hid hG
    have HA := Lib.hid hA
    have HP := Lib.hid hP
    have HF := Lib.hid hF
    have HSK := Lib.hid hsk
    have HNX := Lib.hid (next_byte z R hR wr hc0 hc1)
    have HC := Lib.hid (And.intro hc0 hc1)
    obtain ⟨I, hI⟩ : ∃ I, s2 - 1 + t = I := ⟨_, rfl⟩
    rw [hI]
    have HI := Lib.hid hI
    clear hG hA hP hF hsk hI
    by_cases ht2 : t ≤ 2
    rotate_left
    · have hIi : ¬ (I : Int) ≤ ((s2 + 1 : Nat) : Int) := by have := HI.out; have := hHL.out; omega
      clear hcw hfw hc0 hc1
      go_wp2_with fail
      go_end0
      exact ⟨rfl, dk, HA.out, HSK.out, HP.out, HFO.out _ HF.out⟩
    have hIi : (I : Int) ≤ ((s2 + 1 : Nat) : Int) := by have := HI.out; have := hHL.out; omega
    have hlI : I < n := by have := HI.out; have := hHL.out; omega
    have haI : a ≤ I ∧ I < b := by have := HI.out; have := hHL.out; omega
    have HSI := Lib.hid (fun o h1 => HSP.out dk I (a + o) HSK.out haI.1 haI.2 (Nat.le_add_right _ _) h1)
    go_wp2_with fail
    refine HNX.out.mono ?_
    rintro e w' ⟨R2, hR2, rfl, rfl⟩
    have HA2 := Lib.hid (show AD ((wr.setCell ⟨z, 0, none⟩ (.int .u64 R2)).drewN 3) g off dk from (HA.out.far (p := ⟨z, 0, none⟩) HNG.out (.int .u64 R2)))
    have HF2 := Lib.hid (((HF.out.setCell (p := ⟨z, 0, none⟩) (Or.inr (Nat.le_refl _)) (.int .u64 R2))).drewN 3)
    have HC2 := Lib.hid (show ((wr.setCell ⟨z, 0, none⟩ (.int .u64 R2)).drewN 3).cell? ⟨z, 0, none⟩ = some (.int .u64 R2) ∧ ((wr.setCell ⟨z, 0, none⟩ (.int .u64 R2)).drewN 3).frozen? ⟨z, 0, none⟩ = false from
      ⟨World.cell?_setCell_same wr _ _ HC.out.1, by show (wr.setCell _ _).frozen? _ = _; rw [World.frozen?_setCell]; exact HC.out.2⟩)
    clear hcw hfw hc0 hc1
    generalize (wr.setCell ⟨z, 0, none⟩ (.int .u64 R2)).drewN 3 = wd at *
    have hcw : ∀ t, t < n → wd.cell? ⟨g, off + t, none⟩ = some (.int .u8 (G t)) := fun t ht => by rw [HG.out]; exact HA2.out.get (by rw [HSK.out]; exact ht)
    have hfw : ∀ t, t < n → wd.frozen? ⟨g, off + t, none⟩ = false := fun t ht => HA2.out.frz (by rw [HSK.out]; exact ht)
    obtain ⟨O, hO⟩ : ∃ O, R2 &&& (M - 1) = O := ⟨_, rfl⟩
    have lO : O ≤ M - 1 := by rw [← hO]; exact Nat.and_le_right
    have hwM : IntKind.u64.wrap ((M : Int) - 1) = ((M - 1 : Nat) : Int) := by rw [IntKind.wrap_u64]; have := hHL.out; omega
    have eAnd : bits .and .u64 (R2 : Int) ((M - 1 : Nat) : Int) = (O : Int) := by rw [bits_and_u64_nat _ _ hR2 (by have := hHL.out; omega), hO]
    have hwO : IntKind.i64.wrap (O : Int) = (O : Int) := i64w (by have := hHL.out; omega)
    clear hO
    have hI0 : (0 : Int) ≤ (I : Int) := Int.natCast_nonneg _
    have hwI1 : IntKind.i64.wrap ((I : Int) + 1) = ((I + 1 : Nat) : Int) := by rw [i64w (by have := hHL.out; omega)]; omega
    by_cases hlo : l ≤ O
    · have hloi : (l : Int) ≤ (O : Int) := by omega
      obtain ⟨o, ho⟩ : ∃ o, O - l = o := ⟨_, rfl⟩
      have hwo : IntKind.i64.wrap ((O : Int) - (l : Int)) = (o : Int) := by rw [i64w (by have := hHL.out; omega)]; omega
      have hol : a + o < b := by have := hHL.out; omega
      clear ho
      obtain ⟨K, hK⟩ : ∃ K, a + o = K := ⟨_, rfl⟩
      have hwk : IntKind.i64.wrap ((a : Int) + (o : Int)) = (K : Int) := by rw [i64w (by have := hHL.out; omega)]; omega
      have hKn : K < n := by omega
      have HPK := Lib.hid (show Go.Sort.PermIn a b dk (Go.Sort.swp dk I K) from by rw [← hK]; exact HSI.out o hol)
      clear hK hol
      by_cases hEq : I = K
      · subst hEq
        go_wp2_with fail
        go_region
        all_goals go_wp2
        go_roundw
        case rel => exact ⟨t + 1, R2, Go.Sort.swp dk I I, by congr 1; have := HI.out; omega, by omega, hR2, by rw [swp_size]; exact HSK.out, HA2.out.drew.swapG (by rw [HSK.out]; omega) (by rw [HSK.out]; omega) (HG.out _) (HG.out _), (Cell64.far2 HC2.out HNG.out).1, (Cell64.far2 HC2.out HNG.out).2, HTR.out _ _ HP.out HPK.out, (HF2.out.drew.setCell (p := ⟨g, off + I, none⟩) (Or.inl rfl) _).setCell (p := ⟨g, off + I, none⟩) (Or.inl rfl) _⟩
        case measure => simp [intOf]; have := HI.out; omega
      · go_wp2_with fail
        go_region
        all_goals go_wp2
        go_roundw
        case rel => exact ⟨t + 1, R2, Go.Sort.swp dk I K, by congr 1; have := HI.out; omega, by omega, hR2, by rw [swp_size]; exact HSK.out, HA2.out.drew.swapG (by rw [HSK.out]; omega) (by rw [HSK.out]; omega) (HG.out _) (HG.out _), (Cell64.far2 HC2.out HNG.out).1, (Cell64.far2 HC2.out HNG.out).2, HTR.out _ _ HP.out HPK.out, (HF2.out.drew.setCell (p := ⟨g, off + I, none⟩) (Or.inl rfl) _).setCell (p := ⟨g, off + K, none⟩) (Or.inl rfl) _⟩
        case measure => simp [intOf]; have := HI.out; omega
    · have hloi : ¬ (l : Int) ≤ (O : Int) := by omega
      have hol : a + O < b := by have := hHL.out; omega
      obtain ⟨K, hK⟩ : ∃ K, a + O = K := ⟨_, rfl⟩
      have hwk : IntKind.i64.wrap ((a : Int) + (O : Int)) = (K : Int) := by rw [i64w (by have := hHL.out; omega)]; omega
      have hKn : K < n := by omega
      have HPK := Lib.hid (show Go.Sort.PermIn a b dk (Go.Sort.swp dk I K) from by rw [← hK]; exact HSI.out O hol)
      clear hK hol
      by_cases hEq : I = K
      · subst hEq
        go_wp2_with fail
        go_region
        all_goals go_wp2
        go_roundw
        case rel => exact ⟨t + 1, R2, Go.Sort.swp dk I I, by congr 1; have := HI.out; omega, by omega, hR2, by rw [swp_size]; exact HSK.out, HA2.out.drew.swapG (by rw [HSK.out]; omega) (by rw [HSK.out]; omega) (HG.out _) (HG.out _), (Cell64.far2 HC2.out HNG.out).1, (Cell64.far2 HC2.out HNG.out).2, HTR.out _ _ HP.out HPK.out, (HF2.out.drew.setCell (p := ⟨g, off + I, none⟩) (Or.inl rfl) _).setCell (p := ⟨g, off + I, none⟩) (Or.inl rfl) _⟩
        case measure => simp [intOf]; have := HI.out; omega
      · go_wp2_with fail
        go_region
        all_goals go_wp2
        go_roundw
        case rel => exact ⟨t + 1, R2, Go.Sort.swp dk I K, by congr 1; have := HI.out; omega, by omega, hR2, by rw [swp_size]; exact HSK.out, HA2.out.drew.swapG (by rw [HSK.out]; omega) (by rw [HSK.out]; omega) (HG.out _) (HG.out _), (Cell64.far2 HC2.out HNG.out).1, (Cell64.far2 HC2.out HNG.out).2, HTR.out _ _ HP.out HPK.out, (HF2.out.drew.setCell (p := ⟨g, off + I, none⟩) (Or.inl rfl) _).setCell (p := ⟨g, off + K, none⟩) (Or.inl rfl) _⟩
        case measure => simp [intOf]; have := HI.out; omega

end Go.Proofs.YthfjfhgeiggljaaDoor
