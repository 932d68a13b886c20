/-
  Sorting bytes: cmp.Less, insertionSortOrdered.
-/
import Derived.Test.YthfjfhgeiggljaaDoorSrA
import Derived.Shelf.Sort.Plain
import Derived.CellFam
import Derived.Deep.QuietTactic
import Derived.BigQuiet
import Derived.BigGuard
import Derived.WalkKit
import Derived.BigCall
import Derived.Deep.Draws
namespace Go.Proofs.YthfjfhgeiggljaaDoor
open Go.RowKit
set_option linter.unusedVariables false
set_option linter.unusedSimpArgs false

set_option maxHeartbeats 1000000 in
theorem nan_byte (x : Int) (w : World) : Calls Tryd.prog 115 #[.int .u8 x] w fun e w' => e = .returned (.bool false) ∧ w' = w := by
  go_enter Tryd.func115, Tryd.ntmps115
  go_wp2
  go_ret
  exact ⟨by simp, rfl⟩
set_option maxHeartbeats 1000000 in
theorem less_byte (x y : Int) (w : World) : Calls Tryd.prog 86 #[.int .u8 x, .int .u8 y] w fun e w' => e = .returned (.bool (ltZ x y)) ∧ w' = w := by
  go_enter Tryd.func86, Tryd.ntmps86
  go_wp2_with (go_at_call 115; refine (nan_byte _ _).mono ?_; rintro e w' ⟨rfl, rfl⟩)
  go_ret
  exact ⟨rfl, rfl⟩

/-- What a round of a sorting loop knows of its block. -/
theorem AD.fam {w : World} {g off : Nat} {d : Array Int} (h : AD w g off d) {n : Nat} (hn : d.size = n) : ∃ G : Nat → Int, (∀ t, G t = d[t]!) ∧ (∀ t, t < n → w.cell? ⟨g, off + t, none⟩ = some (.int .u8 (G t))) ∧ ∀ t, t < n → w.frozen? ⟨g, off + t, none⟩ = false :=
  ⟨fun t => d[t]!, fun _ => rfl, fun t ht => h.get (by omega), fun t ht => h.frz (by omega)⟩
theorem AD.swapG {w : World} {g off : Nat} {d : Array Int} (h : AD w g off d) {i j : Nat} (hi : i < d.size) (hj : j < d.size) {x y : Int} (hx : x = d[j]!) (hy : y = d[i]!) : AD ((w.setCell ⟨g, off + i, none⟩ (.int .u8 x)).setCell ⟨g, off + j, none⟩ (.int .u8 y)) g off (Go.Sort.swp d i j) := by
  rw [hx, hy]; exact h.swap hi hj
theorem AD.drewN {w : World} {g off : Nat} {d : Array Int} (h : AD w g off d) (q : Nat) : AD (w.drewN q) g off d := h
theorem AD.drew {w : World} {g off : Nat} {d : Array Int} (h : AD w g off d) : AD w.drew g off d := h
theorem Frm.swap {w w' : World} {g : Nat} (h : Frm (OneB g) w w') (i j : Nat) (u v : Value) : Frm (OneB g) w ((w'.setCell ⟨g, i, none⟩ u).setCell ⟨g, j, none⟩ v) :=
  (h.setCell (p := ⟨g, i, none⟩) rfl u).setCell (p := ⟨g, j, none⟩) rfl v

set_option maxRecDepth 100000 in
set_option maxHeartbeats 4000000 in
theorem insertionSort_byte (g off cap a b n : Nat) (d : Array Int) (w : World) (hH : AD w g off d) (hab : a ≤ b) (hb : b ≤ n) (hn : d.size = n) (hsz : n < 4611686018427387904) :
    Calls Tryd.prog 80 #[.slice (some ⟨g, off, none⟩) n cap, .int .i64 a, .int .i64 b] w fun e w' =>
      e = .returned (.tuple #[]) ∧ AD w' g off (Go.Sort.insertionSort ltZ d a b) ∧ (Go.Sort.insertionSort ltZ d a b).size = n ∧ Frm (OneB g) w w' := by
  have HS := Lib.hid (show Go.Sort.insertionSort ltZ d a b = Go.Sort.insOuter ltZ a b (a + 1) d from rfl)
  have HH := Lib.hid hH
  have HN := Lib.hid hn
  have HW := Lib.hid (Frm.refl (OneB g) w)
  clear hH hn
  go_enter Tryd.func80, Tryd.ntmps80
  go_wp2
  go_loopw [6] (fun vi wr => ∃ (i : Nat) (dk : Array Int), vi = .int .i64 i ∧ a < i ∧ i ≤ b + 1 ∧ dk.size = n ∧ AD wr g off dk ∧ Frm (OneB g) w wr ∧ Go.Sort.insOuter ltZ a b i dk = Go.Sort.insOuter ltZ a b (a + 1) d) (fun vi _ => b + 1 - (intOf vi).toNat)
  case atStart => exact ⟨a + 1, d, by go_num, by omega, by omega, HN.out, HH.out, HW.out, rfl⟩
  case round =>
    obtain ⟨i, dk, rfl, hai, hib, hsk, hA, hF, hO⟩ := hrel
    have HO := Lib.hid hO
    have HA := Lib.hid hA
    have HF := Lib.hid hF
    have HSK := Lib.hid hsk
    clear hO hA hF hsk
    by_cases hlt : i < b
    · have hlti : (i : Int) < (b : Int) := by omega
      have HOS := Lib.hid (Go.Proofs.insOuter_go ltZ a b i dk hlt)
      go_wp2
      go_loopw [7] (fun vj wr2 => ∃ (j : Nat) (dj : Array Int), vj = .int .i64 j ∧ a ≤ j ∧ j ≤ i ∧ dj.size = n ∧ AD wr2 g off dj ∧ Frm (OneB g) w wr2 ∧ Go.Sort.insInner ltZ a j dj = Go.Sort.insInner ltZ a i dk) (fun vj _ => (intOf vj).toNat)
      case atStart => exact ⟨i, dk, rfl, by omega, Nat.le_refl _, HSK.out, HA.out, HF.out, rfl⟩
      case round =>
        obtain ⟨j, dj, rfl, haj, hji, hsj, hA2, hF2, hI⟩ := hrel
        obtain ⟨G, hG, hcw, hfw⟩ := hA2.fam hsj
        have HG := Lib.hid hG
        have HI := Lib.hid hI
        have HA2 := Lib.hid hA2
        have HF2 := Lib.hid hF2
        have HSJ := Lib.hid hsj
        have HX := Lib.hid (fun h => Go.Proofs.insInner_stop ltZ a j dj h)
        have HGO := Lib.hid (fun h1 h2 => Go.Proofs.insInner_go ltZ a j dj h1 h2)
        clear hG hI hA2 hF2 hsj
        by_cases hja : a < j
        · have hjai : (a : Int) < (j : Int) := by omega
          have hj0 : (0 : Int) ≤ (j : Int) := Int.natCast_nonneg _
          have hjn : (j : Int) < (n : Int) := by omega
          have hjn2 : j < n := by omega
          have hj1n2 : j - 1 < n := by omega
          have hw1 : IntKind.i64.wrap ((j : Int) - 1) = ((j - 1 : Nat) : Int) := by rw [i64w (by omega)]; omega
          have hj1 : (0 : Int) ≤ ((j - 1 : Nat) : Int) := Int.natCast_nonneg _
          have hj1n : ((j - 1 : Nat) : Int) < (n : Int) := by omega
          go_wp2
          go_quiet (first | (go_at_call 86; refine Calls.quiet_of_same (less_byte _ _ _)))
          go_wp2
          · have hl : ltZ (G j) (G (j - 1)) = true := by assumption
            go_region
            all_goals go_wp2
            go_roundw
            case rel =>
              refine ⟨j - 1, Go.Sort.swp dj j (j - 1), rfl, by omega, by omega, by rw [swp_size]; exact HSJ.out, ?_, ?_, ?_⟩
              · exact (HA2.out).swapG (by rw [HSJ.out]; omega) (by rw [HSJ.out]; omega) (HG.out _) (HG.out _)
              · exact (HF2.out.drewN _).swap _ _ _ _
              · rw [← HI.out, HGO.out hja (by rw [← HG.out, ← HG.out]; exact hl)]
            case measure => simp [intOf]; omega
          · have hl : ltZ (G j) (G (j - 1)) = false := by assumption
            go_roundw
            case rel => exact ⟨i + 1, dj, by go_num, by omega, by omega, HSJ.out, HA2.out, HF2.out.drewN _, by rw [← HO.out, HOS.out, ← HI.out, HX.out (.inr (by rw [← HG.out, ← HG.out]; exact hl))]⟩
            case measure => simp [intOf]; omega
        · have hjai : ¬ (a : Int) < (j : Int) := by omega
          go_wp2
          go_quiet (first | (go_at_call 86; refine Calls.quiet_of_same (less_byte _ _ _)))
          go_wp2
          go_roundw
          case rel => exact ⟨i + 1, dj, by go_num, by omega, by omega, HSJ.out, HA2.out, HF2.out.drewN _, by rw [← HO.out, HOS.out, ← HI.out, HX.out (.inl (by omega))]⟩
          case measure => simp [intOf]; omega
    · have hlti : ¬ (i : Int) < (b : Int) := by omega
      have HOS := Lib.hid (Go.Proofs.insOuter_stop ltZ a b i dk hlt)
      go_wp2
      go_end0
      rw [HS.out, ← HO.out, HOS.out]
      exact ⟨rfl, HA.out, HSK.out, HF.out⟩

end Go.Proofs.YthfjfhgeiggljaaDoor
