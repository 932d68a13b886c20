/-
  IsCover, CoverText and CoverLine of the reference.
-/
import Derived.Test.YtoofkchhjkhdeaaDoorCovW
import Derived.Test.YtoofkchhjkhdeaaDoorCovK
namespace Go.Proofs.YtoofkchhjkhdeaaDoor
open Go.RowKit Go.Shelf
set_option linter.unusedVariables false
set_option linter.unusedSimpArgs false

set_option maxRecDepth 100000 in
set_option maxHeartbeats 1000000 in
theorem spec_IsCover_ok (A A2 : Option Addr) (cap c2 : Nat) (xs : List Int) (n : Nat) (cs : List Nat) (w : World) (hA : Ints w w.heap.size A xs) (hL : Ints w w.heap.size A2 (castN cs)) (hp : patB xs = true) (hn1 : 1 ≤ n) (hn : n ≤ 24) (hmem : cs ∈ covN xs n) :
    Calls Tryd.prog 21 #[.slice A xs.length cap, .int .i64 n, .slice A2 cs.length c2] w fun e w' => e = .returned (.bool true) ∧ Below w.heap.size w w' := by
  have HPO := spec_PatternOk_any A cap xs w hA
  rw [hp] at HPO
  have HPO := Lib.hid HPO
  have HTK := Lib.hid (spec_l14Taken_ok A A2 cap c2 xs n cs w hA hL hp hn1 hn hmem)
  have hin : inB (n : Int) 0 24 = true := inB_iff.2 (by omega)
  clear hA hL hmem
  go_enter Tryd.func21, Tryd.ntmps21
  go_wp2_with fail
  refine HPO.out.mono ?_
  rintro e w' ⟨rfl, hw'⟩
  obtain rfl := hw'
  go_wp2_with (go_at_call 11; refine (l01In_any _ _ _ _).mono ?_; rintro e w' ⟨rfl, rfl⟩)
  refine HTK.out.mono ?_
  rintro e w1 ⟨g, ct, rfl, _, _, _, hb⟩
  have HB := Lib.hid hb
  clear hb
  go_wp2_with fail
  go_ret
  exact ⟨rfl, HB.out⟩

def covP (F : Nat → Int) (j : Nat) : List UInt8 := (List.range j).map fun t => UInt8.ofNat (97 + (F t).toNat)
theorem covP_succ (F : Nat → Int) (j : Nat) : covP F (j + 1) = covP F j ++ [UInt8.ofNat (97 + (F j).toNat)] := by
  unfold covP
  rw [List.range_succ, List.map_append]
  rfl
theorem covP_len (F : Nat → Int) (j : Nat) : (covP F j).length = j := by unfold covP; simp

set_option maxRecDepth 100000 in
set_option maxHeartbeats 2000000 in
theorem spec_CoverText_ok (A A2 : Option Addr) (cap c2 : Nat) (xs : List Int) (n : Nat) (cs : List Nat) (w : World) (hA : Ints w w.heap.size A xs) (hL : Ints w w.heap.size A2 (castN cs)) (hp : patB xs = true) (hn1 : 1 ≤ n) (hn : n ≤ 24) (hmem : cs ∈ covN xs n) :
    Calls Tryd.prog 12 #[.slice A xs.length cap, .int .i64 n, .slice A2 (castN cs).length c2] w fun e w' => e = .returned (.string (mkS (covS xs n cs))) ∧ Below w.heap.size w w' := by
  have hcl := covN_len hmem
  have HIC := Lib.hid (spec_IsCover_ok A A2 cap c2 xs n cs w hA hL hp hn1 hn hmem)
  have HTK := Lib.hid (fun V (h : Below w.heap.size w V) => spec_l14Taken_ok A A2 cap c2 xs n cs V ((hA.below h).mono h.size) ((hL.below h).mono h.size) hp hn1 hn hmem)
  have HFU := Lib.hid (cov_full hp hmem)
  have HV := Lib.hid (show covS xs n cs = covP (takI xs cs cs.length) n from rfl)
  rw [castN_len]
  generalize covS xs n cs = S at *
  generalize takI xs cs cs.length = F at *
  clear hA hL hmem
  go_enter Tryd.func12, Tryd.ntmps12
  go_wp2_with fail
  refine HIC.out.mono ?_
  rintro e w1 ⟨rfl, hb⟩
  have HB1 := Lib.hid hb
  clear hb
  go_wp2_with fail
  refine (HTK.out w1 HB1.out).mono ?_
  rintro e w2 ⟨g, ct, rfl, ht, hct, _, hb⟩
  have HT := Lib.hid ht
  have HB2 := Lib.hid (HB1.out.trans (hb.mono HB1.out.size))
  clear ht hb
  go_wp2_with fail
  go_loopw [9, 26] (fun s i wr => ∃ j : Nat, j ≤ n ∧ i = .int .i64 j ∧ s = .string (mkS (covP F j)) ∧ Below w2.heap.size w2 wr) (fun _ i _ => n - (intOf i).toNat)
  case atStart => exact ⟨0, Nat.zero_le _, rfl, rfl, Below.refl _ _⟩
  case round =>
    obtain ⟨j, hj, rfl, rfl, hb⟩ := hrel
    have HB3 := Lib.hid hb
    have HTj := Lib.hid (HT.out.below hb HT.out.1)
    clear hb
    by_cases hjl : j < n
    · have hcj := (HTj.out.2 j hjl).1
      obtain ⟨hf0, hf1⟩ := HFU.out j hjl
      have HS := Lib.hid (covP_succ F j)
      obtain ⟨x, hx⟩ : ∃ x, F j = x := ⟨_, rfl⟩
      rw [hx] at hcj hf0 hf1 HS
      obtain ⟨x, rfl⟩ := Int.eq_ofNat_of_zero_le hf0
      rw [Int.toNat_natCast] at HS
      have hw97 : IntKind.i64.wrap (97 + (x : Int)) = 97 + (x : Int) := i64w (by omega)
      have hu97 : IntKind.u8.wrap (97 + (x : Int)) = 97 + (x : Int) := by rw [IntKind.wrap_u8]; omega
      have hji : (j : Int) < (n : Int) := by omega
      have hj0 : (0 : Int) ≤ (j : Int) := Int.natCast_nonneg _
      have hwj : IntKind.i64.wrap ((j : Int) + 1) = (j : Int) + 1 := i64w (by omega)
      obtain ⟨u, hu⟩ : ∃ u : UInt8, UInt8.ofNat (97 + x) = u := ⟨_, rfl⟩
      have hun : (u.toNat : Int) = 97 + (x : Int) := by rw [← hu, UInt8.toNat_ofNat']; omega
      rw [hu] at HS
      have htb : TabU (wr.alloc (.cells #[.int .u8 (97 + (x : Int))] 5)) wr.heap.size 1 (fun _ => u) := by
        refine ⟨by simp, fun t ht => ?_⟩
        have ht0 : t = 0 := by omega
        subst ht0
        refine ⟨?_, frozen_of_row _ _ _ _ _ (heap_alloc_new wr _)⟩
        rw [cell_new1, hun]
      have hcv := htb.string 1
      have h1 : (mkS (tabL 1 fun _ => u)).size = 1 := by rw [mkS_size, tabL_len]
      have h2 : (mkS (covP F j)).size ≤ 24 := by rw [mkS_size, covP_len]; omega
      have HC1 := Lib.hid (str_mk (tabL 1 fun _ => u))
      have HC2 := Lib.hid (str_mk (covP F j))
      generalize mkS (tabL 1 fun _ => u) = C at *
      generalize mkS (covP F j) = D at *
      have HCD := Lib.hid (show D ++ C = mkS (covP F (j + 1)) from by
        rw [HS.out]
        exact Str.eq (Str.app HC2.out (show Str C [u] from HC1.out)))
      have HB4 := Lib.hid (HB3.out.alloc HB3.out.size (.cells #[.int .u8 (97 + (x : Int))] 5))
      clear hx hu hun htb
      go_wp2_with fail
      go_roundw
      case rel => exact ⟨j + 1, hjl, by go_num, by rw [HCD.out], HB4.out⟩
      case measure => simp [intOf]; omega
    · have hje : j = n := by omega
      have hji : ¬ (j : Int) < (n : Int) := by omega
      have HSV := Lib.hid (show covP F j = S from by rw [hje]; exact HV.out.symm)
      clear hje
      go_wp2_with fail
      go_ret
      exact ⟨ret_str (by rw [HSV.out]), HB2.out.trans (HB3.out.mono HB2.out.size)⟩

set_option maxRecDepth 100000 in
set_option maxHeartbeats 2000000 in
theorem spec_CoverLine_any (A : Option Addr) (cap : Nat) (xs : List Int) (w : World) (hA : Ints w w.heap.size A xs) :
    Calls Tryd.prog 4 #[.slice A xs.length cap] w fun e w' => e = .returned (.string (mkS (cvlV xs))) ∧ Below w.heap.size w w' := by
  have HA := Lib.hid hA
  have HPO := spec_PatternOk_any A cap xs w hA
  cases hp : patB xs
  · have HV := Lib.hid (show cvlV xs = [110, 111, 110, 101] by unfold cvlV; rw [hp]; rfl)
    rw [hp] at HPO
    have HPO := Lib.hid HPO
    generalize cvlV xs = v at HV ⊢
    clear hA hp
    go_enter Tryd.func4, Tryd.ntmps4
    go_wp2_with fail
    refine HPO.out.mono ?_
    rintro e w' ⟨rfl, hw'⟩
    obtain rfl := hw'
    go_wp2_with fail
    go_ret
    exact ⟨ret_str (by rw [HV.out]; rfl), Below.refl _ _⟩
  rw [hp] at HPO
  have HPO := Lib.hid HPO
  have HLC := Lib.hid (spec_LeastCover_ok A cap xs w hA hp)
  have hle := least_le xs
  have HFI := Lib.hid (fun V => spec_FormatInt_any (leastC xs : Int) (by unfold Fits; omega) V)
  cases hin : inB (leastC xs : Int) 1 16
  · have HV := Lib.hid (show cvlV xs = itoL (leastC xs : Int) by unfold cvlV; rw [hp, hin]; rfl)
    generalize cvlV xs = v at HV ⊢
    generalize leastC xs = lc at *
    clear hA
    go_enter Tryd.func4, Tryd.ntmps4
    go_wp2_with fail
    refine HPO.out.mono ?_
    rintro e w' ⟨rfl, hw'⟩
    obtain rfl := hw'
    go_wp2_with fail
    refine HLC.out.mono ?_
    rintro e w1 ⟨rfl, hb⟩
    have HB1 := Lib.hid hb
    clear hb
    go_wp2_with fail
    refine (HFI.out _).mono ?_
    rintro e w2 ⟨rfl, hb⟩
    have HB2 := Lib.hid (HB1.out.trans (hb.mono HB1.out.size))
    clear hb
    go_wp2_with (go_at_call 11; refine (l01In_any _ _ _ _).mono ?_; rintro e w' ⟨rfl, rfl⟩)
    go_ret
    exact ⟨ret_str (by rw [HV.out]), HB2.out⟩
  · obtain ⟨cs, rest, hc⟩ := least_ne hin
    have hi2 := inB_iff.1 hin
    have hmem : cs ∈ covN xs (leastC xs) := by rw [hc]; exact List.mem_cons_self
    have HV := Lib.hid (show cvlV xs = itoL (leastC xs : Int) ++ [32] ++ covS xs (leastC xs) cs by unfold cvlV; rw [hp, hin, hc]; rfl)
    have HCV := Lib.hid (fun V (h : Below w.heap.size w V) => spec_CoversOf_ok A cap xs (leastC xs) V ((hA.below h).mono h.size) hp (by omega))
    have HTX := Lib.hid (fun A2 c2 V (h : Below w.heap.size w V) h2 => spec_CoverText_ok A A2 cap c2 xs (leastC xs) cs V ((hA.below h).mono h.size) h2 hp (by omega) hle hmem)
    rw [hc] at HCV
    have hcl := covS_len xs (leastC xs) cs
    have hsz : (mkS (itoL (leastC xs : Int))).size ≤ 20 := by rw [mkS_size]; exact itoL_len _ (by unfold Fits; omega)
    have hsz2 : (mkS (covS xs (leastC xs) cs)).size ≤ 24 := by rw [mkS_size, hcl]; exact hle
    have HS1 := Lib.hid (str_mk (itoL (leastC xs : Int)))
    have HS2 := Lib.hid (str_mk (covS xs (leastC xs) cs))
    generalize mkS (itoL (leastC xs : Int)) = S1 at *
    generalize mkS (covS xs (leastC xs) cs) = S2 at *
    have HRES := Lib.hid (show (S1 ++ (⟨#[32]⟩ : ByteArray)) ++ S2 = mkS (cvlV xs) by
      rw [HV.out]
      exact Str.eq (Str.app (Str.app HS1.out (show Str ⟨#[32]⟩ [32] from rfl)) HS2.out))
    generalize mkS (cvlV xs) = R at HRES ⊢
    generalize leastC xs = lc at *
    clear hA hc hcl HV hmem
    go_enter Tryd.func4, Tryd.ntmps4
    go_wp2_with fail
    refine HPO.out.mono ?_
    rintro e w' ⟨rfl, hw'⟩
    obtain rfl := hw'
    go_wp2_with fail
    refine HLC.out.mono ?_
    rintro e w1 ⟨rfl, hb⟩
    have HB1 := Lib.hid hb
    clear hb
    go_wp2_with fail
    refine (HFI.out _).mono ?_
    rintro e w2 ⟨rfl, hb⟩
    have HB2 := Lib.hid (HB1.out.trans (hb.mono HB1.out.size))
    clear hb
    go_wp2_with (go_at_call 11; refine (l01In_any _ _ _ _).mono ?_; rintro e w' ⟨rfl, rfl⟩)
    refine (HCV.out _ HB2.out).mono ?_
    rintro e w3 ⟨v3, rs, rfl, hown3, hkey, hb3⟩
    obtain ⟨A3, c3, rfl⟩ := hown3.form
    have hlen : 0 < rs.length := by
      have := congrArg List.length hkey
      rw [List.length_map, List.length_map] at this
      simp at this
      omega
    obtain ⟨g3, rfl, _, _, hcell⟩ := hown3.cells hlen
    have hc0 := hcell 0 hlen
    have hr0 := (hown3.2 _ (List.getElem_mem hlen)).2.1
    have hx0 : rs[0].xs = castN cs := by
      have := congrArg (fun L => L[0]?) hkey
      simp only [List.getElem?_map, List.getElem?_eq_getElem hlen, Option.map_some, List.map_cons, List.getElem?_cons_zero, Option.some.injEq] at this
      exact this
    unfold SV.slc at hc0
    rw [hx0] at hc0 hr0
    generalize rs[0].A = Ar at *
    generalize rs[0].c = cr at *
    have HR0 := Lib.hid hr0
    have hli : (0 : Int) < (rs.length : Int) := by omega
    have HB3 := Lib.hid (HB2.out.trans (hb3.mono HB2.out.size))
    clear hown3 hkey hb3 hcell hr0 hx0
    go_wp2_with fail
    refine (HTX.out Ar cr _ HB3.out HR0.out).mono ?_
    rintro e w4 ⟨rfl, hb⟩
    have HB4 := Lib.hid (HB3.out.trans (hb.mono HB3.out.size))
    clear hb
    go_wp2_with fail
    go_ret
    exact ⟨ret_str HRES.out, HB4.out⟩

end Go.Proofs.YtoofkchhjkhdeaaDoor
