/-
  The vector of a rhythm: the program's table, the reference's differences.
-/
import Derived.Test.YtbmnebmlnmccpaaGreatDoorVecT
import Derived.Test.YtbmnebmlnmccpaaGreatDoorRlaw
import Derived.Test.YtbmnebmlnmccpaaGreatDoorSpcR
import Derived.Test.YtbmnebmlnmccpaaGreatDoorStepsOf
namespace Go.Proofs.YtbmnebmlnmccpaaGreatDoor
open Go.RowKit
set_option linter.unusedVariables false
set_option linter.unusedSimpArgs false

theorem vecV_fit {N : Nat} {bs : List Int} (hok : RhOk N bs) : ∀ x ∈ vecV N bs, Fits x := by
  intro x hx
  obtain ⟨t, _, rfl⟩ := List.mem_map.1 hx
  have h1 := triH_bound (nearB N t) bs bs.length
  have h2 := hok.len
  have h3 := hok.2.1
  have h4 : (bs.length : Int) * bs.length ≤ 24 * 24 := Int.mul_le_mul (by omega) (by omega) (by omega) (by decide)
  unfold Fits; omega

set_option maxRecDepth 100000 in
set_option maxHeartbeats 2000000 in
theorem impl_vector_any (N : Nat) (A : Option Addr) (cap : Nat) (bs : List Int) (w : World) (hA : Ints w w.heap.size A bs) (hok : RhOk N bs) (hcap : bs.length ≤ cap) :
    Calls Tryz.prog 25 #[.agg #[.int .i64 N, .slice A bs.length cap]] w (RetInts w (vecV N bs)) := by
  have hn1 : 1 ≤ N := by have := hok.1; omega
  have hn2 : N ≤ 24 := by have := hok.2.1; omega
  have hbl : bs.length ≤ 24 := by have := hok.len; omega
  have HOK := Lib.hid hok
  have HC := Lib.hid hA.2.2
  obtain ⟨H, hH⟩ : ∃ H, N / 2 = H := ⟨_, rfl⟩
  have hH12 : H ≤ 12 := by omega
  have HH := Lib.hid hH
  have hq1 : (N : Int).tdiv 2 = (H : Int) := by rw [← hH]; rfl
  have hq2 : (N : Int) / 2 = (H : Int) := by omega
  have hmk := fun W : World => run_make_int H (by omega) W
  have HB0 := Lib.hid (Below.refl (w.heap.size + 1) (w.alloc (.cells #[.int .i64 N, .slice A bs.length cap] 27)))
  have HW := Lib.hid ((Below.refl w.heap.size w).alloc (Nat.le_refl _) (.cells #[.int .i64 N, .slice A bs.length cap] 27))
  obtain ⟨c0, c1⟩ := box2 HB0.out
  have hnew := tab_made (w.alloc (.cells #[.int .i64 N, .slice A bs.length cap] 27)) H 3
  simp only [World.size_alloc] at hnew
  have HN := Lib.hid hnew
  obtain ⟨d0, d1⟩ := box2 (HB0.out.alloc (Nat.le_of_eq (by simp)) (.cells (madeCells #[.int .i64 0] H) 3))
  clear hA hok hH hnew
  go_enter Tryz.func25, Tryz.ntmps25
  go_wp2_with fail
  clear c0 c1 d0 d1
  go_loopw [15] (fun i wr => ∃ k : Nat, k ≤ bs.length ∧ i = .int .i64 k ∧ Tab wr (w.heap.size + 1) H (fun t => triH (nearB N t) bs k) ∧ Below (w.heap.size + 1) (w.alloc (.cells #[.int .i64 N, .slice A bs.length cap] 27)) wr) (fun i _ => bs.length - (intOf i).toNat)
  case atStart => exact ⟨0, Nat.zero_le _, rfl, HN.out, HB0.out.alloc (Nat.le_of_eq (by simp)) _⟩
  case round =>
    obtain ⟨i, hi, rfl, htab, hbel⟩ := hrel
    obtain ⟨wo, rfl⟩ : ∃ wo : World, wo = wr := ⟨_, rfl⟩
    by_cases hlt : i < bs.length
    · obtain ⟨b, off, rfl, hB, hc⟩ := HC.out (by omega)
      have hWo := HW.out.trans (hbel.mono (by omega))
      have hcell := hc i hlt
      rw [← hWo.cell (p := ⟨b, off + i, none⟩) hB] at hcell
      have hpb := HOK.out.beat hlt
      obtain ⟨p, hp⟩ : ∃ p, bs.getD i 0 = p := ⟨_, rfl⟩
      rw [hp] at hcell hpb
      have HP := Lib.hid hp
      have HCC := Lib.hid hc
      obtain ⟨c0, c1⟩ := box2 hbel
      have HT := Lib.hid htab
      have HBE := Lib.hid hbel
      have hic : (i : Int) ≤ (cap : Int) := by omega
      have hic2 : i ≤ cap := by omega
      clear hp hc htab hbel hWo
      go_wp2_with fail
      go_loopw [25] (fun jv wr => ∃ j : Nat, j ≤ i ∧ jv = .int .i64 j ∧ Tab wr (w.heap.size + 1) H (fun t => triH (nearB N t) bs i + rowH (nearB N t) bs p j) ∧ Below (w.heap.size + 1) (w.alloc (.cells #[.int .i64 N, .slice (some ⟨b, off, none⟩) bs.length cap] 27)) wr) (fun jv _ => i - (intOf jv).toNat)
      case atStart => exact ⟨0, Nat.zero_le _, rfl, HT.out.congr (fun t _ => by simp [rowH]), HBE.out⟩
      case round =>
        obtain ⟨j, hj, rfl, htab, hbel⟩ := hrel
        obtain ⟨wq, rfl⟩ : ∃ wq : World, wq = wr := ⟨_, rfl⟩
        clear c0 c1
        obtain ⟨c0, c1⟩ := box2 hbel
        by_cases hlj : j < i
        · have hcj := HCC.out j (by omega)
          have hWq := HW.out.trans (hbel.mono (by omega))
          rw [← hWq.cell (p := ⟨b, off + j, none⟩) hB] at hcj
          have hqb := HOK.out.beat (i := j) (by omega)
          have hmo := HOK.out.mono i j hlj hlt
          rw [HP.out] at hmo
          obtain ⟨q, hq⟩ : ∃ q, bs.getD j 0 = q := ⟨_, rfl⟩
          rw [hq] at hcj hqb hmo
          obtain ⟨u, hu⟩ := Int.eq_ofNat_of_zero_le (show 0 ≤ min (p - q) ((N : Int) + q - p) - 1 by omega)
          have hmin : min (p - q) ((N : Int) + q - p) = (u : Int) + 1 := by omega
          have huH : u < H := by have := HH.out; omega
          have HST := Lib.hid (fun t => tri_step (N : Int) bs i j p q t u hq hmin)
          have b1 := triH_bound (nearB N u) bs i
          have b2 := rowH_bound (nearB N u) bs p j
          have b3 : (i : Int) * i ≤ 24 * 24 := Int.mul_le_mul (by omega) (by omega) (by omega) (by decide)
          obtain ⟨x, hx⟩ : ∃ x, triH (nearB N u) bs i + rowH (nearB N u) bs p j = x := ⟨_, rfl⟩
          have hto := htab.get huH hx
          have hfr := htab.frz huH
          have hwx : IntKind.i64.wrap (x + 1) = x + 1 := i64w (by omega)
          have hw1 : IntKind.i64.wrap (p - q) = p - q := i64w (by omega)
          have hw2 : IntKind.i64.wrap ((N : Int) + q) = (N : Int) + q := i64w (by omega)
          have hw3 : IntKind.i64.wrap ((N : Int) + q - p) = (N : Int) + q - p := i64w (by omega)
          have hu1 : IntKind.i64.wrap (p - q - 1) = p - q - 1 := i64w (by omega)
          have hu2 : IntKind.i64.wrap ((N : Int) + q - p - 1) = (N : Int) + q - p - 1 := i64w (by omega)
          have huH2 : (u : Int) < (H : Int) := by omega
          have HX := Lib.hid hx
          have HT2 := Lib.hid htab
          have HB2 := Lib.hid hbel
          clear hq hx htab hbel hWq b1 b2 b3
          by_cases hle : p - q ≤ (N : Int) + q - p
          · have hue : p - q - 1 = (u : Int) := by omega
            have hmn : min (p - q) ((N : Int) + q - p) = p - q := by omega
            have hle2 : ¬ (N : Int) + q - p < p - q := by omega
            clear hmin hu
            go_wp2_with fail
            go_roundw
            case rel =>
              refine ⟨j + 1, by omega, by go_num, HT2.out.set_ u _ huH ?_ ?_, HB2.out.setCell (Nat.le_refl _) _⟩
              · show triH (nearB N u) bs i + rowH (nearB N u) bs p (j + 1) = x + 1
                rw [HST.out u, HX.out, if_pos rfl]
              · intro t _ ht
                show triH (nearB N t) bs i + rowH (nearB N t) bs p (j + 1) = _
                rw [HST.out t, if_neg ht, Int.add_zero]
            case measure => simp [intOf]; omega
          · have hue : (N : Int) + q - p - 1 = (u : Int) := by omega
            have hmn : min (p - q) ((N : Int) + q - p) = (N : Int) + q - p := by omega
            have hle2 : (N : Int) + q - p < p - q := by omega
            clear hmin hu
            go_wp2_with fail
            go_roundw
            case rel =>
              refine ⟨j + 1, by omega, by go_num, HT2.out.set_ u _ huH ?_ ?_, HB2.out.setCell (Nat.le_refl _) _⟩
              · show triH (nearB N u) bs i + rowH (nearB N u) bs p (j + 1) = x + 1
                rw [HST.out u, HX.out, if_pos rfl]
              · intro t _ ht
                show triH (nearB N t) bs i + rowH (nearB N t) bs p (j + 1) = _
                rw [HST.out t, if_neg ht, Int.add_zero]
            case measure => simp [intOf]; omega
        · have hje : j = i := by omega
          subst hje
          have HT3 := Lib.hid (htab.congr (g := fun t => triH (nearB N t) bs (j + 1)) (fun t _ => by show _ = triH (nearB N t) bs j + rowH (nearB N t) bs (bs.getD j 0) j; rw [HP.out]))
          have HB3 := Lib.hid hbel
          clear htab hbel
          go_wp2_with fail
          go_roundw
          case rel => exact ⟨j + 1, by omega, by go_num, HT3.out, HB3.out⟩
          case measure => simp [intOf]; omega
    · have hie : i = bs.length := by omega
      subst hie
      have hT := htab.congr (g := fun t => (vecV N bs).getD t 0) (fun t ht => (vecV_get N bs (by have := HH.out; omega)).symm)
      have hHv : H = (vecV N bs).length := by rw [vecV_len]; have := HH.out; omega
      have HF := Lib.hid (vecV_fit HOK.out)
      have HWW := Lib.hid (HW.out.trans (hbel.mono (by omega)))
      obtain ⟨V, hV⟩ : ∃ V, vecV N bs = V := ⟨_, rfl⟩
      rw [hV] at hT hHv HF
      have HV := Lib.hid hV
      have HI := Lib.hid (Tab.ints (xs := V) (by rw [← hHv]; exact hT) hT.1 (by unfold maxLen; omega) HF.out)
      have HHV := Lib.hid hHv
      clear htab hT hHv hV hbel
      go_wp2_with fail
      go_ret
      exact ⟨some ⟨w.heap.size + 1, 0, none⟩, H, by rw [HV.out, ← HHV.out]; rfl, by rw [HV.out]; exact HI.out, HWW.out⟩

def difV (N : Nat) (bs : List Int) : List Int := (List.range N).map fun t => sqH (diffB N t) bs bs.length bs.length
theorem difV_len (N : Nat) (bs : List Int) : (difV N bs).length = N := by simp [difV]
theorem difV_get (N : Nat) (bs : List Int) {t : Nat} (h : t < N) : (difV N bs).getD t 0 = sqH (diffB N t) bs bs.length bs.length := by
  unfold difV
  rw [List.getD_eq_getElem?_getD, List.getElem?_map, List.getElem?_range h]; rfl
theorem sq_small {N : Nat} {bs : List Int} (hok : RhOk N bs) (g : Int → Int → Bool) : 0 ≤ sqH g bs bs.length bs.length ∧ sqH g bs bs.length bs.length ≤ 576 := by
  have h1 := sqH_bound g bs bs.length bs.length
  have h2 := hok.len
  have h3 := hok.2.1
  have h4 : (bs.length : Int) * bs.length ≤ 24 * 24 := Int.mul_le_mul (by omega) (by omega) (by omega) (by decide)
  omega
theorem difV_fit {N : Nat} {bs : List Int} (hok : RhOk N bs) : ∀ x ∈ difV N bs, Fits x := by
  intro x hx
  obtain ⟨t, _, rfl⟩ := List.mem_map.1 hx
  have := sq_small hok (diffB N t)
  unfold Fits; omega

set_option maxRecDepth 100000 in
set_option maxHeartbeats 2000000 in
theorem spec_l05Differences_any (N : Nat) (A : Option Addr) (cap : Nat) (bs : List Int) (w : World) (hA : Ints w w.heap.size A bs) (hok : RhOk N bs) :
    Calls Tryz.prog 45 #[.agg #[.int .i64 N, .slice A bs.length cap]] w (RetInts w (difV N bs)) := by
  have hn1 : 1 ≤ N := by have := hok.1; omega
  have hn2 : N ≤ 24 := by have := hok.2.1; omega
  have hbl : bs.length ≤ 24 := by have := hok.len; omega
  have HOK := Lib.hid hok
  have HC := Lib.hid hA.2.2
  have hmk := fun W : World => run_make_int N (by omega) W
  have HB0 := Lib.hid (Below.refl (w.heap.size + 1) (w.alloc (.cells #[.int .i64 N, .slice A bs.length cap] 27)))
  have HW := Lib.hid ((Below.refl w.heap.size w).alloc (Nat.le_refl _) (.cells #[.int .i64 N, .slice A bs.length cap] 27))
  obtain ⟨c0, c1⟩ := box2 HB0.out
  have hnew := tab_made (w.alloc (.cells #[.int .i64 N, .slice A bs.length cap] 27)) N 3
  simp only [World.size_alloc] at hnew
  have HN := Lib.hid hnew
  obtain ⟨d0, d1⟩ := box2 (HB0.out.alloc (Nat.le_of_eq (by simp)) (.cells (madeCells #[.int .i64 0] N) 3))
  clear hA hok hnew
  go_enter Tryz.func45, Tryz.ntmps45
  go_wp2_with fail
  clear c0 c1 d0 d1
  go_loopw [14] (fun i wr => ∃ k : Nat, k ≤ bs.length ∧ i = .int .i64 k ∧ Tab wr (w.heap.size + 1) N (fun t => sqH (diffB N t) bs bs.length k) ∧ Below (w.heap.size + 1) (w.alloc (.cells #[.int .i64 N, .slice A bs.length cap] 27)) wr) (fun i _ => bs.length - (intOf i).toNat)
  case atStart => exact ⟨0, Nat.zero_le _, rfl, HN.out, HB0.out.alloc (Nat.le_of_eq (by simp)) _⟩
  case round =>
    obtain ⟨i, hi, rfl, htab, hbel⟩ := hrel
    obtain ⟨wo, rfl⟩ : ∃ wo : World, wo = wr := ⟨_, rfl⟩
    by_cases hlt : i < bs.length
    · obtain ⟨b, off, rfl, hB, hc⟩ := HC.out (by omega)
      have hWo := HW.out.trans (hbel.mono (by omega))
      have hcell := hc i hlt
      rw [← hWo.cell (p := ⟨b, off + i, none⟩) hB] at hcell
      have hpb := HOK.out.beat hlt
      obtain ⟨p, hp⟩ : ∃ p, bs.getD i 0 = p := ⟨_, rfl⟩
      rw [hp] at hcell hpb
      have HP := Lib.hid hp
      have HCC := Lib.hid hc
      obtain ⟨c0, c1⟩ := box2 hbel
      have HT := Lib.hid htab
      have HBE := Lib.hid hbel
      clear hp hc htab hbel hWo
      go_wp2_with fail
      go_loopw [21] (fun jv wr => ∃ j : Nat, j ≤ bs.length ∧ jv = .int .i64 j ∧ Tab wr (w.heap.size + 1) N (fun t => sqH (diffB N t) bs bs.length i + rowH (diffB N t) bs p j) ∧ Below (w.heap.size + 1) (w.alloc (.cells #[.int .i64 N, .slice (some ⟨b, off, none⟩) bs.length cap] 27)) wr) (fun jv _ => bs.length - (intOf jv).toNat)
      case atStart => exact ⟨0, Nat.zero_le _, rfl, HT.out.congr (fun t _ => by simp [rowH]), HBE.out⟩
      case round =>
        obtain ⟨j, hj, rfl, htab, hbel⟩ := hrel
        obtain ⟨wq, rfl⟩ : ∃ wq : World, wq = wr := ⟨_, rfl⟩
        clear c0 c1
        obtain ⟨c0, c1⟩ := box2 hbel
        by_cases hlj : j < bs.length
        · have hcj := HCC.out j (by omega)
          have hWq := HW.out.trans (hbel.mono (by omega))
          rw [← hWq.cell (p := ⟨b, off + j, none⟩) hB] at hcj
          have hqb := HOK.out.beat (i := j) (by omega)
          obtain ⟨q, hq⟩ : ∃ q, bs.getD j 0 = q := ⟨_, rfl⟩
          rw [hq] at hcj hqb
          obtain ⟨u, hu⟩ := Int.eq_ofNat_of_zero_le (show 0 ≤ (p - q) % (N : Int) from Int.emod_nonneg _ (by omega))
          have huN : u < N := by have := Int.emod_lt_of_pos (p - q) (show (0 : Int) < N by omega); omega
          have HST := Lib.hid (fun t => sq_step (N : Int) bs bs.length i j p q t u hq hu)
          have b1 := sqH_bound (diffB N u) bs bs.length i
          have b2 := rowH_bound (diffB N u) bs p j
          have b3 : (i : Int) * (bs.length : Int) ≤ 24 * 24 := Int.mul_le_mul (by omega) (by omega) (by omega) (by decide)
          obtain ⟨x, hx⟩ : ∃ x, sqH (diffB N u) bs bs.length i + rowH (diffB N u) bs p j = x := ⟨_, rfl⟩
          have hto := htab.get huN hx
          have hfr := htab.frz huN
          have hwx : IntKind.i64.wrap (x + 1) = x + 1 := i64w (by omega)
          have hw1 : IntKind.i64.wrap (p - q) = p - q := i64w (by omega)
          have huH2 : (u : Int) < (N : Int) := by omega
          have HMD := Lib.hid (spec_l02Mod_any (p - q) (N : Int) wq (by omega) (by omega))
          rw [hu] at HMD
          have HX := Lib.hid hx
          have HT2 := Lib.hid htab
          have HB2 := Lib.hid hbel
          clear hq hx htab hbel hWq b1 b2 b3 hu
          go_wp2_with fail
          refine HMD.out.mono ?_
          rintro e w' ⟨rfl, rfl⟩
          go_wp2_with fail
          go_roundw
          case rel =>
            refine ⟨j + 1, by omega, by go_num, HT2.out.set_ u _ huN ?_ ?_, HB2.out.setCell (Nat.le_refl _) _⟩
            · show sqH (diffB N u) bs bs.length i + rowH (diffB N u) bs p (j + 1) = x + 1
              rw [HST.out u, HX.out, if_pos rfl]
            · intro t _ ht
              show sqH (diffB N t) bs bs.length i + rowH (diffB N t) bs p (j + 1) = _
              rw [HST.out t, if_neg ht, Int.add_zero]
          case measure => simp [intOf]; omega
        · have hje : j = bs.length := by omega
          have HT3 := Lib.hid (htab.congr (g := fun t => sqH (diffB N t) bs bs.length (i + 1)) (fun t _ => by show _ = sqH (diffB N t) bs bs.length i + rowH (diffB N t) bs (bs.getD i 0) bs.length; rw [HP.out, hje]))
          have HB3 := Lib.hid hbel
          clear htab hbel hje
          go_wp2_with fail
          go_roundw
          case rel => exact ⟨i + 1, by omega, by go_num, HT3.out, HB3.out⟩
          case measure => simp [intOf]; omega
    · have hie : i = bs.length := by omega
      subst hie
      have hT := htab.congr (g := fun t => (difV N bs).getD t 0) (fun t ht => (difV_get N bs ht).symm)
      have hHv : N = (difV N bs).length := by rw [difV_len]
      have HF := Lib.hid (difV_fit HOK.out)
      have HWW := Lib.hid (HW.out.trans (hbel.mono (by omega)))
      obtain ⟨V, hV⟩ : ∃ V, difV N bs = V := ⟨_, rfl⟩
      rw [hV] at hT hHv HF
      have HV := Lib.hid hV
      have HI := Lib.hid (Tab.ints (xs := V) (by rw [← hHv]; exact hT) hT.1 (by unfold maxLen; omega) HF.out)
      have HHV := Lib.hid hHv
      clear htab hT hHv hV hbel
      go_wp2_with fail
      go_ret
      exact ⟨some ⟨w.heap.size + 1, 0, none⟩, N, by rw [HV.out, ← HHV.out]; rfl, by rw [HV.out]; exact HI.out, HWW.out⟩

set_option maxRecDepth 100000 in
set_option maxHeartbeats 2000000 in
theorem spec_l05Vector_any (N : Nat) (A : Option Addr) (cap : Nat) (bs : List Int) (w : World) (hA : Ints w w.heap.size A bs) (hok : RhOk N bs) :
    Calls Tryz.prog 32 #[.agg #[.int .i64 N, .slice A bs.length cap]] w (RetInts w (vecV N bs)) := by
  have hn1 : 1 ≤ N := by have := hok.1; omega
  have hn2 : N ≤ 24 := by have := hok.2.1; omega
  have HOK := Lib.hid hok
  have HD := Lib.hid (fun V h => spec_l05Differences_any N A cap bs V h hok)
  have HA := Lib.hid hA
  have HDL := Lib.hid (difV_len N bs)
  have HDG := Lib.hid (fun t (h : t < N) => difV_get N bs h)
  obtain ⟨D, hD⟩ : ∃ D, difV N bs = D := ⟨_, rfl⟩
  rw [hD] at HD HDL HDG
  obtain ⟨H, hH⟩ : ∃ H, N / 2 = H := ⟨_, rfl⟩
  have HH := Lib.hid hH
  have hq1 : (N : Int).tdiv 2 = (H : Int) := by rw [← hH]; rfl
  have hq2 : (N : Int) / 2 = (H : Int) := by omega
  have HB0 := Lib.hid (Below.refl (w.heap.size + 1) (w.alloc (.cells #[.int .i64 N, .slice A bs.length cap] 27)))
  have HW := Lib.hid ((Below.refl w.heap.size w).alloc (Nat.le_refl _) (.cells #[.int .i64 N, .slice A bs.length cap] 27))
  obtain ⟨c0, c1⟩ := box2 HB0.out
  clear hA hok hH hD
  go_enter Tryz.func32, Tryz.ntmps32
  go_wp2_with fail
  refine (HD.out _ (HA.out.lift HW.out)).mono ?_
  rintro e w1 ⟨A1, c1', rfl, hI1, hb1⟩
  have hz1 := hb1.size
  simp only [World.size_alloc] at hz1
  have HB1 := Lib.hid (HB0.out.trans (hb1.mono (by simp)))
  have HC1 := Lib.hid hI1.2.2
  have HL := Lib.hid HDL.out
  clear c0 c1 hI1 hb1
  obtain ⟨c0, c1⟩ := box2 HB1.out
  go_wp2_with fail
  go_loopw [4, 5] (fun o kv wr => ∃ k : Nat, k ≤ H ∧ kv = .int .i64 ((k + 1 : Nat) : Int) ∧ OwnI wr w1.heap.size o ((vecV N bs).take k) ∧ Below w1.heap.size w1 wr) (fun _ kv _ => H + 1 - (intOf kv).toNat)
  case atStart => exact ⟨0, Nat.zero_le _, rfl, OwnI.empty_at _ _ _ rfl (Nat.le_refl _), (Below.refl _ _).alloc (Nat.le_refl _) _⟩
  case round =>
    obtain ⟨k, hk, rfl, hown, hbel⟩ := hrel
    obtain ⟨wo, rfl⟩ : ∃ wo : World, wo = wr := ⟨_, rfl⟩
    obtain ⟨ys, hys⟩ : ∃ ys, (vecV N bs).take k = ys := ⟨_, rfl⟩
    rw [hys] at hown
    have HYS := Lib.hid hys
    have HOW := Lib.hid hown
    have HBE := Lib.hid hbel
    have hyl : ys.length ≤ 24 := by rw [← hys, List.length_take]; omega
    obtain ⟨A5, c5, rfl⟩ := hown.form
    clear c0 c1
    obtain ⟨c0, c1⟩ := box2 (HB1.out.trans (hbel.mono (by omega)))
    clear hys hown hbel
    by_cases hlt : k < H
    · have hkN : k + 1 < N := by have := HH.out; omega
      obtain ⟨b, off, rfl, hB, hc⟩ := HC1.out (by rw [HL.out]; omega)
      have hcell := hc (k + 1) (by rw [HL.out]; exact hkN)
      rw [← HBE.out.cell (p := ⟨b, off + (k + 1), none⟩) hB] at hcell
      have hdg := HDG.out (k + 1) hkN
      have hsm := sq_small HOK.out (diffB N (k + 1))
      have h2k : 2 * ((k : Int) + 1) ≤ (N : Int) := by have := HH.out; omega
      have hvs := vec_spec HOK.out h2k
      rw [hdg] at hcell
      obtain ⟨x, hx⟩ : ∃ x, sqH (diffB N (k + 1)) bs bs.length bs.length = x := ⟨_, rfl⟩
      rw [hx] at hcell hsm
      have hx' : sqH (diffB (N : Int) (k + 1)) bs bs.length bs.length = x := hx
      rw [hx'] at hvs
      have HTK := Lib.hid (show (vecV N bs).take (k + 1) = ys ++ [triH (nearB N k) bs bs.length] by
        rw [List.take_succ_eq_append_getElem (by rw [vecV_len]; have := HH.out; omega), HYS.out]
        congr 2
        have := vecV_get N bs (t := k) (by have := HH.out; omega)
        rwa [List.getD_eq_getElem?_getD, List.getElem?_eq_getElem (by rw [vecV_len]; have := HH.out; omega)] at this)
      obtain ⟨y, hy⟩ : ∃ y, triH (nearB N k) bs bs.length = y := ⟨_, rfl⟩
      rw [hy] at HTK hvs
      have HLD : ((k : Int) + 1) < (D.length : Int) := by rw [HL.out]; omega
      have hk1 : ((k + 1 : Nat) : Int) = (k : Int) + 1 := by omega
      have hkH : ((k : Int) + 1) ≤ (H : Int) := by omega
      have hw2 : IntKind.i64.wrap (2 * ((k : Int) + 1)) = 2 * ((k : Int) + 1) := i64w (by omega)
      have hk0 : (0 : Int) ≤ (k : Int) + 1 := by omega
      have hkn : ((k : Int) + 1).toNat = k + 1 := by omega
      clear hc hdg hx hx' hy
      simp only [hk1]
      by_cases he : 2 * ((k : Int) + 1) = (N : Int)
      · rw [if_pos he] at hvs
        have heb : (2 * ((k : Int) + 1) == (N : Int)) = true := beq_iff_eq.2 he
        have hxt : x.tdiv 2 = y := by rw [Int.tdiv_eq_ediv_of_nonneg (by omega)]; exact hvs
        have hwy : IntKind.i64.wrap y = y := i64w (by omega)
        clear he hvs
        go_wp2_with (at_builtin; refine wpList_append_int rfl (.tmp 28) (.tmp 30) rfl w1.heap.size _ ys rfl (HOW.out.alloc _) wo.heap.size y (by rfl) (cell_new1 _ _ _) (by omega) (by have := HBE.out.size; simp only [World.size_alloc]; omega) ?_; intro v2 w2 hown2 hb2)
        have HO2 := Lib.hid hown2
        have HB2 := Lib.hid ((HBE.out.alloc HBE.out.size _).trans hb2)
        clear hown2 hb2
        go_wp2_with fail
        go_roundw
        case rel => exact ⟨k + 1, by omega, by go_num, by rw [HTK.out]; exact HO2.out, HB2.out⟩
        case measure => simp [intOf]; omega
      · rw [if_neg he] at hvs
        have hvs' := hvs.symm
        subst hvs'
        have heb : (2 * ((k : Int) + 1) == (N : Int)) = false := beq_eq_false_iff_ne.2 he
        clear he
        go_wp2_with (at_builtin; refine wpList_append_int rfl (.tmp 28) (.tmp 30) rfl w1.heap.size _ ys rfl (HOW.out.alloc _) wo.heap.size y (by rfl) (cell_new1 _ _ _) (by omega) (by have := HBE.out.size; simp only [World.size_alloc]; omega) ?_; intro v2 w2 hown2 hb2)
        have HO2 := Lib.hid hown2
        have HB2 := Lib.hid ((HBE.out.alloc HBE.out.size _).trans hb2)
        clear hown2 hb2
        go_wp2_with fail
        go_roundw
        case rel => exact ⟨k + 1, by omega, by go_num, by rw [HTK.out]; exact HO2.out, HB2.out⟩
        case measure => simp [intOf]; omega
    · have hke : k = H := by omega
      have hall : ys = vecV N bs := by rw [← HYS.out, List.take_of_length_le (by rw [vecV_len]; have := HH.out; omega)]
      have hkH : ¬ ((k : Int) + 1) ≤ (H : Int) := by omega
      have hk1 : ((k + 1 : Nat) : Int) = (k : Int) + 1 := by omega
      have HAL := Lib.hid hall
      have HI := Lib.hid (HOW.out.ints (by rw [hall]; exact vecV_fit HOK.out))
      have HBB := Lib.hid (HW.out.trans ((HB1.out.trans (HBE.out.mono (by omega))).mono (by omega)))
      clear hall hke
      simp only [hk1]
      go_wp2_with fail
      go_ret
      exact ⟨A5, c5, by rw [HAL.out]; rfl, by rw [← HAL.out]; exact HI.out, HBB.out⟩

end Go.Proofs.YtbmnebmlnmccpaaGreatDoor
