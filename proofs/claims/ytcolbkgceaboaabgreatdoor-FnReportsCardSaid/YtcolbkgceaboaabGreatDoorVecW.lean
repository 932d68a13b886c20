/-
  The vector of a rhythm: the program's table, the reference's differences.
-/
import Derived.Test.YtcolbkgceaboaabGreatDoorVecT
import Derived.Test.YtcolbkgceaboaabGreatDoorRlaw
import Derived.Test.YtcolbkgceaboaabGreatDoorSpcR
import Derived.Test.YtcolbkgceaboaabGreatDoorStepsOf
namespace Go.Proofs.YtcolbkgceaboaabGreatDoor
open Go.RowKit
set_option linter.unusedVariables false
set_option linter.unusedSimpArgs false

theorem vecV_fit {N : Nat} {bs : List Int} (hok : RhOk N bs) : ∀ x ∈ vecV N bs, Fits x := by
  intro x hx
  obtain ⟨t, _, rfl⟩ := List.mem_map.1 hx
  have h1 := triH_bound (nearB N t) bs bs.length
  have h2 := hok.len
  have h3 := hok.2.1
  have h4 : (bs.length : Int) * bs.length ≤ 24 * 24 := Int.mul_le_mul (by omega) (by omega) (by omega) (by decide)
  unfold Fits; omega

set_option maxRecDepth 100000 in
set_option maxHeartbeats 2000000 in
theorem impl_vector_any (N : Nat) (A : Option Addr) (cap : Nat) (bs : List Int) (w : World) (hA : Ints w w.heap.size A bs) (hok : RhOk N bs) (hcap : bs.length ≤ cap) :
    Calls Tryz.prog 32 #[.agg #[.int .i64 N, .slice A bs.length cap]] w (RetInts w (vecV N bs)) := by
  have hn1 : 1 ≤ N := by have := hok.1; omega
  have hn2 : N ≤ 24 := by have := hok.2.1; omega
  have hbl : bs.length ≤ 24 := by have := hok.len; omega
  have HOK := Lib.hid hok
  have HC := Lib.hid hA.2.2
  obtain ⟨H, hH⟩ : ∃ H, N / 2 = H := ⟨_, rfl⟩
  have hH12 : H ≤ 12 := by omega
  have HH := Lib.hid hH
  have hq1 : (N : Int).tdiv 2 = (H : Int) := by rw [← hH]; rfl
  have hq2 : (N : Int) / 2 = (H : Int) := by omega
  have hmk := fun W : World => run_make_int H (by omega) W
  have HB0 := Lib.hid (Below.refl (w.heap.size + 1) (w.alloc (.cells #[.int .i64 N, .slice A bs.length cap] 25)))
  have HW := Lib.hid ((Below.refl w.heap.size w).alloc (Nat.le_refl _) (.cells #[.int .i64 N, .slice A bs.length cap] 25))
  obtain ⟨c0, c1⟩ := box2 HB0.out
  have hnew := tab_made (w.alloc (.cells #[.int .i64 N, .slice A bs.length cap] 25)) H 3
  simp only [World.size_alloc] at hnew
  have HN := Lib.hid hnew
  obtain ⟨d0, d1⟩ := box2 (HB0.out.alloc (Nat.le_of_eq (by simp)) (.cells (madeCells #[.int .i64 0] H) 3))
  clear hA hok hH hnew
  go_enter Tryz.func32, Tryz.ntmps32
  go_wp2_with fail
  clear c0 c1 d0 d1
  go_loopw [15] (fun i wr => ∃ k : Nat, k ≤ bs.length ∧ i = .int .i64 k ∧ Tab wr (w.heap.size + 1) H (fun t => triH (nearB N t) bs k) ∧ Below (w.heap.size + 1) (w.alloc (.cells #[.int .i64 N, .slice A bs.length cap] 25)) wr) (fun i _ => bs.length - (intOf i).toNat)
  case atStart => exact ⟨0, Nat.zero_le _, rfl, HN.out, HB0.out.alloc (Nat.le_of_eq (by simp)) _⟩
  case round =>
    obtain ⟨i, hi, rfl, htab, hbel⟩ := hrel
    obtain ⟨wo, rfl⟩ : ∃ wo : World, wo = wr := ⟨_, rfl⟩
    by_cases hlt : i < bs.length
    · obtain ⟨b, off, rfl, hB, hc⟩ := HC.out (by omega)
      have hWo := HW.out.trans (hbel.mono (by omega))
      have hcell := hc i hlt
      rw [← hWo.cell (p := ⟨b, off + i, none⟩) hB] at hcell
      have hpb := HOK.out.beat hlt
      obtain ⟨p, hp⟩ : ∃ p, bs.getD i 0 = p := ⟨_, rfl⟩
      rw [hp] at hcell hpb
      have HP := Lib.hid hp
      have HCC := Lib.hid hc
      obtain ⟨c0, c1⟩ := box2 hbel
      have HT := Lib.hid htab
      have HBE := Lib.hid hbel
      have hic : (i : Int) ≤ (cap : Int) := by omega
      have hic2 : i ≤ cap := by omega
      clear hp hc htab hbel hWo
      go_wp2_with fail
      go_loopw [25] (fun jv wr => ∃ j : Nat, j ≤ i ∧ jv = .int .i64 j ∧ Tab wr (w.heap.size + 1) H (fun t => triH (nearB N t) bs i + rowH (nearB N t) bs p j) ∧ Below (w.heap.size + 1) (w.alloc (.cells #[.int .i64 N, .slice (some ⟨b, off, none⟩) bs.length cap] 25)) wr) (fun jv _ => i - (intOf jv).toNat)
      case atStart => exact ⟨0, Nat.zero_le _, rfl, HT.out.congr (fun t _ => by simp [rowH]), HBE.out⟩
      case round =>
        obtain ⟨j, hj, rfl, htab, hbel⟩ := hrel
        obtain ⟨wq, rfl⟩ : ∃ wq : World, wq = wr := ⟨_, rfl⟩
        clear c0 c1
        obtain ⟨c0, c1⟩ := box2 hbel
        by_cases hlj : j < i
        · have hcj := HCC.out j (by omega)
          have hWq := HW.out.trans (hbel.mono (by omega))
          rw [← hWq.cell (p := ⟨b, off + j, none⟩) hB] at hcj
          have hqb := HOK.out.beat (i := j) (by omega)
          have hmo := HOK.out.mono i j hlj hlt
          rw [HP.out] at hmo
          obtain ⟨q, hq⟩ : ∃ q, bs.getD j 0 = q := ⟨_, rfl⟩
          rw [hq] at hcj hqb hmo
          obtain ⟨u, hu⟩ := Int.eq_ofNat_of_zero_le (show 0 ≤ min (p - q) ((N : Int) + q - p) - 1 by omega)
          have hmin : min (p - q) ((N : Int) + q - p) = (u : Int) + 1 := by omega
          have huH : u < H := by have := HH.out; omega
          have HST := Lib.hid (fun t => tri_step (N : Int) bs i j p q t u hq hmin)
          have b1 := triH_bound (nearB N u) bs i
          have b2 := rowH_bound (nearB N u) bs p j
          have b3 : (i : Int) * i ≤ 24 * 24 := Int.mul_le_mul (by omega) (by omega) (by omega) (by decide)
          obtain ⟨x, hx⟩ : ∃ x, triH (nearB N u) bs i + rowH (nearB N u) bs p j = x := ⟨_, rfl⟩
          have hto := htab.get huH hx
          have hfr := htab.frz huH
          have hwx : IntKind.i64.wrap (x + 1) = x + 1 := i64w (by omega)
          have hw1 : IntKind.i64.wrap (p - q) = p - q := i64w (by omega)
          have hw2 : IntKind.i64.wrap ((N : Int) + q) = (N : Int) + q := i64w (by omega)
          have hw3 : IntKind.i64.wrap ((N : Int) + q - p) = (N : Int) + q - p := i64w (by omega)
          have hu1 : IntKind.i64.wrap (p - q - 1) = p - q - 1 := i64w (by omega)
          have hu2 : IntKind.i64.wrap ((N : Int) + q - p - 1) = (N : Int) + q - p - 1 := i64w (by omega)
          have huH2 : (u : Int) < (H : Int) := by omega
          have HX := Lib.hid hx
          have HT2 := Lib.hid htab
          have HB2 := Lib.hid hbel
          clear hq hx htab hbel hWq b1 b2 b3
          by_cases hle : p - q ≤ (N : Int) + q - p
          · have hue : p - q - 1 = (u : Int) := by omega
            have hmn : min (p - q) ((N : Int) + q - p) = p - q := by omega
            have hle2 : ¬ (N : Int) + q - p < p - q := by omega
            clear hmin hu
            go_wp2_with fail
            go_roundw
            case rel =>
              refine ⟨j + 1, by omega, by go_num, HT2.out.set_ u _ huH ?_ ?_, HB2.out.setCell (Nat.le_refl _) _⟩
              · show triH (nearB N u) bs i + rowH (nearB N u) bs p (j + 1) = x + 1
                rw [HST.out u, HX.out, if_pos rfl]
              · intro t _ ht
                show triH (nearB N t) bs i + rowH (nearB N t) bs p (j + 1) = _
                rw [HST.out t, if_neg ht, Int.add_zero]
            case measure => simp [intOf]; omega
          · have hue : (N : Int) + q - p - 1 = (u : Int) := by omega
            have hmn : min (p - q) ((N : Int) + q - p) = (N : Int) + q - p := by omega
            have hle2 : (N : Int) + q - p < p - q := by omega
            clear hmin hu
            go_wp2_with fail
            go_roundw
            case rel =>
              refine ⟨j + 1, by omega, by go_num, HT2.out.set_ u _ huH ?_ ?_, HB2.out.setCell (Nat.le_refl _) _⟩
              · show triH (nearB N u) bs i + rowH (nearB N u) bs p (j + 1) = x + 1
                rw [HST.out u, HX.out, if_pos rfl]
              · intro t _ ht
                show triH (nearB N t) bs i + rowH (nearB N t) bs p (j + 1) = _
                rw [HST.out t, if_neg ht, Int.add_zero]
            case measure => simp [intOf]; omega
        · have hje : j = i := by omega
          subst hje
          have HT3 := Lib.hid (htab.congr (g := fun t => triH (nearB N t) bs (j + 1)) (fun t _ => by show _ = triH (nearB N t) bs j + rowH (nearB N t) bs (bs.getD j 0) j; rw [HP.out]))
          have HB3 := Lib.hid hbel
          clear htab hbel
          go_wp2_with fail
          go_roundw
          case rel => exact ⟨j + 1, by omega, by go_num, HT3.out, HB3.out⟩
          case measure => simp [intOf]; omega
    · have hie : i = bs.length := by omega
      subst hie
      have hT := htab.congr (g := fun t => (vecV N bs).getD t 0) (fun t ht => (vecV_get N bs (by have := HH.out; omega)).symm)
      have hHv : H = (vecV N bs).length := by rw [vecV_len]; have := HH.out; omega
      have HF := Lib.hid (vecV_fit HOK.out)
      have HWW := Lib.hid (HW.out.trans (hbel.mono (by omega)))
      obtain ⟨V, hV⟩ : ∃ V, vecV N bs = V := ⟨_, rfl⟩
      rw [hV] at hT hHv HF
      have HV := Lib.hid hV
      have HI := Lib.hid (Tab.ints (xs := V) (by rw [← hHv]; exact hT) hT.1 (by unfold maxLen; omega) HF.out)
      have HHV := Lib.hid hHv
      clear htab hT hHv hV hbel
      go_wp2_with fail
      go_ret
      exact ⟨some ⟨w.heap.size + 1, 0, none⟩, H, by rw [HV.out, ← HHV.out]; rfl, by rw [HV.out]; exact HI.out, HWW.out⟩

def difV (N : Nat) (bs : List Int) : List Int := (List.range N).map fun t => sqH (diffB N t) bs bs.length bs.length
theorem difV_len (N : Nat) (bs : List Int) : (difV N bs).length = N := by simp [difV]
theorem difV_get (N : Nat) (bs : List Int) {t : Nat} (h : t < N) : (difV N bs).getD t 0 = sqH (diffB N t) bs bs.length bs.length := by
  unfold difV
  rw [List.getD_eq_getElem?_getD, List.getElem?_map, List.getElem?_range h]; rfl
theorem sq_small {N : Nat} {bs : List Int} (hok : RhOk N bs) (g : Int → Int → Bool) : 0 ≤ sqH g bs bs.length bs.length ∧ sqH g bs bs.length bs.length ≤ 576 := by
  have h1 := sqH_bound g bs bs.length bs.length
  have h2 := hok.len
  have h3 := hok.2.1
  have h4 : (bs.length : Int) * bs.length ≤ 24 * 24 := Int.mul_le_mul (by omega) (by omega) (by omega) (by decide)
  omega
theorem difV_fit {N : Nat} {bs : List Int} (hok : RhOk N bs) : ∀ x ∈ difV N bs, Fits x := by
  intro x hx
  obtain ⟨t, _, rfl⟩ := List.mem_map.1 hx
  have := sq_small hok (diffB N t)
  unfold Fits; omega

end Go.Proofs.YtcolbkgceaboaabGreatDoor
