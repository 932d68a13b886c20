/-
  CoverText and CoverLine of the program.
-/
import Derived.Test.YtoofkchhjkhdeaaDoorCovJ
import Derived.Test.YtoofkchhjkhdeaaDoorFmtI
namespace Go.Proofs.YtoofkchhjkhdeaaDoor
open Go.RowKit Go.Shelf
set_option linter.unusedVariables false
set_option linter.unusedSimpArgs false

def byF (f : Nat → Int) (t : Nat) : UInt8 := if f t < 0 then 0 else UInt8.ofNat (97 + (f t).toNat)
theorem byF_put (f : Nat → Int) (L : List Int) (k j : Nat) (x : Nat) (hx : L.getD j 0 = (x : Int)) (t : Nat) : byF (putJ f L k (j + 1)) t = if t = x then UInt8.ofNat (97 + k) else byF (putJ f L k j) t := by
  have e : putJ f L (k : Int) (j + 1) t = if (t : Int) = L.getD j 0 then (k : Int) else putJ f L (k : Int) j t := rfl
  unfold byF
  rw [e, hx]
  by_cases h : t = x
  · subst h
    rw [if_pos rfl, if_pos rfl, if_neg (by omega)]
    rfl
  · have : ¬ ((t : Int) = (x : Int)) := by omega
    simp only [this, h, if_false]
theorem byF_all {xs : List Int} {n : Nat} (hp : patB xs = true) {cs : List Nat} (h : cs ∈ covN xs n) : tabL n (byF (takI xs cs cs.length)) = covS xs n cs := by
  unfold tabL covS
  refine List.map_congr_left fun t ht => ?_
  have := cov_full hp h t (List.mem_range.1 ht)
  unfold byF
  rw [if_neg (by omega)]

set_option maxRecDepth 100000 in
set_option maxHeartbeats 2000000 in
theorem impl_CoverText_first (A A2 : Option Addr) (cap c2 : Nat) (xs : List Int) (n : Nat) (cs : List Nat) (rest : List (List Nat)) (w : World) (hA : Ints w w.heap.size A xs) (hL : Ints w w.heap.size A2 (castN cs)) (hp : patB xs = true) (hn : n ≤ 24) (hD : DeB w) (hc : covN xs n = cs :: rest) :
    Calls Tryd.prog 18 #[.slice A xs.length cap, .int .i64 n, .slice A2 (castN cs).length c2] w fun e w' => e = .returned (.string (mkS (covS xs n cs))) ∧ Below w.heap.size w w' := by
  have HA := Lib.hid hA
  have HL := Lib.hid hL
  have HIC := Lib.hid (impl_IsCover_first A A2 cap c2 xs n cs rest w hA hL hp hn hD hc)
  have hmem : cs ∈ covN xs n := by rw [hc]; exact List.mem_cons_self
  have hcl := covN_len hmem
  have HAT := Lib.hid (fun i hi => cov_at hp hmem (i := i) hi)
  have HBY := Lib.hid (byF_all hp hmem)
  have hpl := pat_len hp
  have HCC := Lib.hid (castN_len cs)
  have hmk := fun W : World => run_make_byte n (by omega) W
  obtain ⟨S, hS⟩ : ∃ S, covS xs n cs = S := ⟨_, rfl⟩
  rw [hS] at HBY ⊢
  rw [castN_len] at HIC ⊢
  clear hA hL hD hc hmem hS
  go_enter Tryd.func18, Tryd.ntmps18
  go_wp2_with fail
  refine HIC.out.mono ?_
  rintro e w1 ⟨rfl, hb⟩
  have HB1 := Lib.hid hb
  clear hb
  go_wp2_with fail
  have hnew := tabU_made w1 n 5
  have hb2 := (Below.refl w1.heap.size w1).alloc (Nat.le_refl _) (.cells (madeCells #[.int .u8 0] n) 5)
  have HN2 := Lib.hid hnew
  have HB2 := Lib.hid (HB1.out.trans (hb2.mono HB1.out.size))
  obtain ⟨gb, hgb⟩ : ∃ g, w1.heap.size = g := ⟨_, rfl⟩
  have HGB := Lib.hid (show w.heap.size ≤ gb from hgb ▸ HB1.out.size)
  rw [hgb] at HN2 ⊢
  generalize w1.alloc (.cells (madeCells #[.int .u8 0] n) 5) = w2 at *
  clear hnew hb2 hgb
  go_loopw [21] (fun i wr => ∃ k : Nat, k ≤ cs.length ∧ i = .int .i64 k ∧ TabU wr gb n (byF (takI xs cs k)) ∧ Below w.heap.size w wr) (fun i _ => cs.length - (intOf i).toNat)
  case atStart => exact ⟨0, Nat.zero_le _, rfl, HN2.out.congr (fun t _ => rfl), HB2.out⟩
  case round =>
    obtain ⟨k, hk, rfl, htab, hbel⟩ := hrel
    obtain ⟨wo, rfl⟩ : ∃ wo : World, wo = wr := ⟨_, rfl⟩
    have HT := Lib.hid htab
    have HB := Lib.hid hbel
    clear htab hbel
    by_cases hlt : k < cs.length
    · obtain ⟨b2, off2, rfl, hB2, hce⟩ := HL.out.2.2 (by rw [HCC.out]; omega)
      have hcx := hce k (by rw [HCC.out]; omega)
      rw [← HB.out.cell (p := ⟨b2, off2 + k, none⟩) hB2] at hcx
      have hcd : (castN cs).getD k 0 = ((cs.getD k 0 : Nat) : Int) := by
        unfold castN
        rw [List.getD_eq_getElem?_getD, List.getElem?_map, List.getElem?_eq_getElem hlt, List.getD_eq_getElem?_getD, List.getElem?_eq_getElem hlt]
        rfl
      rw [hcd] at hcx
      obtain ⟨h1, h2, h3, h4⟩ := HAT.out k hlt
      have HTS := Lib.hid (show takI xs cs (k + 1) = putJ (takI xs cs k) (laidL xs (cs.getD k 0)) k xs.length from rfl)
      obtain ⟨c, hc⟩ : ∃ c, cs.getD k 0 = c := ⟨_, rfl⟩
      rw [hc] at hcx h2 h4 HTS
      have HLD := Lib.hid (impl_laidBy_ok A cap xs c wo ((HA.out.below HB.out).mono HB.out.size) hp (by omega))
      have HLL := Lib.hid (laidL_len xs c)
      have HFT := Lib.hid (laid_fits hp (show c < 100 by omega))
      have H4 := Lib.hid h4
      have hki : (k : Int) < (cs.length : Int) := by omega
      have hk0 : (0 : Int) ≤ (k : Int) := Int.natCast_nonneg _
      have hwk : IntKind.i64.wrap ((k : Int) + 1) = (k : Int) + 1 := i64w (by omega)
      have hw97 : IntKind.i64.wrap (97 + (k : Int)) = 97 + (k : Int) := i64w (by omega)
      have hu97 : IntKind.u8.wrap (97 + (k : Int)) = 97 + (k : Int) := by
        show (97 + (k : Int)) % 256 = _
        omega
      clear hce hcd h1 h2 h3 h4 hc
      generalize laidL xs c = L at *
      generalize takI xs cs k = f at *
      go_wp2_with fail
      refine HLD.out.mono ?_
      rintro e w3 ⟨v3, rfl, hown3, hb3⟩
      obtain ⟨A3, c3, rfl⟩ := hown3.form
      have HI3 := Lib.hid (hown3.ints HFT.out)
      rw [HLL.out]
      have HT3 := Lib.hid (HT.out.below hb3 HT.out.1)
      have HNB := Lib.hid (show ∀ b off t, A3 = some ⟨b, off, t⟩ → b ≠ gb from fun b off t e h => by
        have h1 := hown3.lt b (by rw [e]; rfl)
        have h2 := HT.out.1
        omega)
      have HB3 := Lib.hid (HB.out.trans (hb3.mono HB.out.size))
      clear hown3 hb3
      go_wp2_with fail
      go_loopw [30] (fun i wr => ∃ j : Nat, j ≤ xs.length ∧ i = .int .i64 j ∧ TabU wr gb n (byF (putJ f L k j)) ∧ Frm (fun c => c = gb) w3 wr) (fun i _ => xs.length - (intOf i).toNat)
      case atStart => exact ⟨0, Nat.zero_le _, rfl, HT3.out, Frm.refl _ _⟩
      case round =>
        obtain ⟨j, hj, rfl, htab, hfr⟩ := hrel
        obtain ⟨wq, rfl⟩ : ∃ wq : World, wq = wr := ⟨_, rfl⟩
        have HT4 := Lib.hid htab
        have HF4 := Lib.hid hfr
        clear htab hfr
        by_cases hjl : j < xs.length
        · obtain ⟨b3, off3, rfl, hB3, hce3⟩ := HI3.out.2.2 (by rw [HLL.out]; omega)
          have hcx3 := hce3 j (by rw [HLL.out]; omega)
          rw [← HF4.out.cell (c := b3) hB3 (HNB.out _ _ _ rfl)] at hcx3
          obtain ⟨hx0, hx1, _⟩ := H4.out j hjl
          have HPT := Lib.hid (fun x hx t => byF_put f L k j x hx t)
          obtain ⟨x, hx⟩ : ∃ x, L.getD j 0 = x := ⟨_, rfl⟩
          rw [hx] at hcx3 hx0 hx1 HPT
          obtain ⟨x, rfl⟩ := Int.eq_ofNat_of_zero_le hx0
          have hxn : x < n := by omega
          have htc := (HT4.out.2 x hxn).1
          have htf := HT4.out.frz hxn
          have hji : (j : Int) < (xs.length : Int) := by omega
          have hj0 : (0 : Int) ≤ (j : Int) := Int.natCast_nonneg _
          have hwj : IntKind.i64.wrap ((j : Int) + 1) = (j : Int) + 1 := i64w (by omega)
          have HST := Lib.hid (HT4.out.set_ x (UInt8.ofNat (97 + k)) hxn (.int .u8 (97 + (k : Int))) (by rw [UInt8.toNat_ofNat']; congr 1; omega))
          have HSF := Lib.hid (HF4.out.setCell (p := ⟨gb, x, none⟩) rfl (.int .u8 (97 + (k : Int))))
          clear hce3 hx
          go_wp2_with fail
          go_roundw
          case rel => exact ⟨j + 1, hjl, by go_num, HST.out.congr (fun t _ => (HPT.out x rfl t).symm), HSF.out⟩
          case measure => simp [intOf]; omega
        · have hje : j = xs.length := by omega
          have hji : ¬ (j : Int) < (xs.length : Int) := by omega
          have HT5 := Lib.hid (show TabU wq gb n (byF (takI xs cs (k + 1))) from by rw [HTS.out, ← hje]; exact HT4.out)
          have HB5 := Lib.hid (show Below w.heap.size w wq from HB3.out.trans (HF4.out.below (fun c h => by rw [h]; exact HGB.out) (by have := HB3.out.size; omega)))
          clear hje
          go_wp2_with fail
          go_roundw
          case rel => exact ⟨k + 1, hlt, by go_num, HT5.out, HB5.out⟩
          case measure => simp [intOf]; omega
    · have hke : k = cs.length := by omega
      have hki : ¬ (k : Int) < (cs.length : Int) := by omega
      have hst := HT.out.string n
      rw [hke, HBY.out] at hst
      go_wp2_with fail
      go_ret
      exact ⟨rfl, HB.out⟩

def cvlV (xs : List Int) : Txt :=
  if patB xs then (if inB (leastC xs : Int) 1 16 then itoL (leastC xs : Int) ++ [32] ++ covS xs (leastC xs) ((covN xs (leastC xs)).headD []) else itoL (leastC xs : Int)) else [110, 111, 110, 101]
theorem least_le (xs : List Int) : leastC xs ≤ 24 := by
  rcases least_lens xs with ⟨_, h⟩ | ⟨_, _, _, h, _⟩ <;> omega
theorem least_ne {xs : List Int} (h : inB (leastC xs : Int) 1 16 = true) : ∃ cs rest, covN xs (leastC xs) = cs :: rest := by
  have h1 := inB_iff.1 h
  rcases least_lens xs with ⟨_, h2⟩ | ⟨_, _, _, _, h2⟩
  · omega
  · cases hc : covN xs (leastC xs) with
    | nil => exact absurd hc h2
    | cons cs rest => exact ⟨cs, rest, rfl⟩

set_option maxRecDepth 100000 in
set_option maxHeartbeats 2000000 in
theorem impl_CoverLine_any (A : Option Addr) (cap : Nat) (xs : List Int) (w : World) (hA : Ints w w.heap.size A xs) (hD : DeB w) (hP : Pow w) :
    Calls Tryd.prog 6 #[.slice A xs.length cap] w fun e w' => e = .returned (.string (mkS (cvlV xs))) ∧ Below w.heap.size w w' := by
  have HA := Lib.hid hA
  have HD := Lib.hid hD
  have HPO := impl_PatternOk_any A cap xs w hA
  cases hp : patB xs
  · have HV := Lib.hid (show cvlV xs = [110, 111, 110, 101] by unfold cvlV; rw [hp]; rfl)
    rw [hp] at HPO
    have HPO := Lib.hid HPO
    generalize cvlV xs = v at HV ⊢
    clear hA hp hD
    go_enter Tryd.func6, Tryd.ntmps6
    go_wp2_with fail
    refine HPO.out.mono ?_
    rintro e w' ⟨rfl, hw'⟩
    obtain rfl := hw'
    go_wp2_with fail
    go_ret
    exact ⟨ret_str (by rw [HV.out]; rfl), Below.refl _ _⟩
  rw [hp] at HPO
  have HPO := Lib.hid HPO
  have HLC := Lib.hid (impl_LeastCover_ok A cap xs w hA hp hD)
  have hle := least_le xs
  have HFI := Lib.hid (fun V (hb : Below w.heap.size w V) => impl_FormatInt_any (leastC xs : Int) (by unfold Fits; omega) V (hP.below hb))
  cases hin : inB (leastC xs : Int) 1 16
  · have HV := Lib.hid (show cvlV xs = itoL (leastC xs : Int) by unfold cvlV; rw [hp, hin]; rfl)
    generalize cvlV xs = v at HV ⊢
    generalize leastC xs = lc at *
    clear hA hD
    go_enter Tryd.func6, Tryd.ntmps6
    go_wp2_with fail
    refine HPO.out.mono ?_
    rintro e w' ⟨rfl, hw'⟩
    obtain rfl := hw'
    go_wp2_with fail
    refine HLC.out.mono ?_
    rintro e w1 ⟨rfl, hb⟩
    have HB1 := Lib.hid hb
    clear hb
    go_wp2_with (go_at_call 16; refine (within_any _ _ _ _).mono ?_; rintro e w' ⟨rfl, rfl⟩)
    refine (HFI.out _ HB1.out).mono ?_
    rintro e w2 ⟨rfl, hb⟩
    have HB2 := Lib.hid (HB1.out.trans (hb.mono HB1.out.size))
    clear hb
    go_wp2_with fail
    go_ret
    exact ⟨ret_str (by rw [HV.out]), HB2.out⟩
  · obtain ⟨cs, rest, hc⟩ := least_ne hin
    have hi2 := inB_iff.1 hin
    have HV := Lib.hid (show cvlV xs = itoL (leastC xs : Int) ++ [32] ++ covS xs (leastC xs) cs by unfold cvlV; rw [hp, hin, hc]; rfl)
    have HCV := Lib.hid (fun V (h : Below w.heap.size w V) => impl_covers_any A cap xs (leastC xs) V ((hA.below h).mono h.size) hp hle (hD.below h))
    have HTX := Lib.hid (fun A2 c2 V (h : Below w.heap.size w V) h2 => impl_CoverText_first A A2 cap c2 xs (leastC xs) cs rest V ((hA.below h).mono h.size) h2 hp hle (hD.below h) hc)
    rw [hc] at HCV
    have hcl := covS_len xs (leastC xs) cs
    have hsz : (mkS (itoL (leastC xs : Int))).size ≤ 20 := by rw [mkS_size]; exact itoL_len _ (by unfold Fits; omega)
    have hsz2 : (mkS (covS xs (leastC xs) cs)).size ≤ 24 := by rw [mkS_size, hcl]; exact hle
    have HS1 := Lib.hid (str_mk (itoL (leastC xs : Int)))
    have HS2 := Lib.hid (str_mk (covS xs (leastC xs) cs))
    generalize mkS (itoL (leastC xs : Int)) = S1 at *
    generalize mkS (covS xs (leastC xs) cs) = S2 at *
    have HRES := Lib.hid (show (S1 ++ (⟨#[32]⟩ : ByteArray)) ++ S2 = mkS (cvlV xs) by
      rw [HV.out]
      exact Str.eq (Str.app (Str.app HS1.out (show Str ⟨#[32]⟩ [32] from rfl)) HS2.out))
    generalize mkS (cvlV xs) = R at HRES ⊢
    generalize leastC xs = lc at *
    have HCC := Lib.hid (castN_len cs)
    clear hA hD hc hcl HV
    go_enter Tryd.func6, Tryd.ntmps6
    go_wp2_with fail
    refine HPO.out.mono ?_
    rintro e w' ⟨rfl, hw'⟩
    obtain rfl := hw'
    go_wp2_with fail
    refine HLC.out.mono ?_
    rintro e w1 ⟨rfl, hb⟩
    have HB1 := Lib.hid hb
    clear hb
    go_wp2_with (go_at_call 16; refine (within_any _ _ _ _).mono ?_; rintro e w' ⟨rfl, rfl⟩)
    refine (HFI.out _ HB1.out).mono ?_
    rintro e w2 ⟨rfl, hb⟩
    have HB2 := Lib.hid (HB1.out.trans (hb.mono HB1.out.size))
    clear hb
    go_wp2_with fail
    refine (HCV.out _ HB2.out).mono ?_
    rintro e w3 ⟨v3, rs, rfl, hown3, hkey, hb3⟩
    obtain ⟨A3, c3, rfl⟩ := hown3.form
    have hlen : 0 < rs.length := by
      have := congrArg List.length hkey
      rw [List.length_map, List.length_map] at this
      simp at this
      omega
    obtain ⟨g3, rfl, _, _, hcell⟩ := hown3.cells hlen
    have hc0 := hcell 0 hlen
    have hr0 := (hown3.2 _ (List.getElem_mem hlen)).2.1
    have hx0 : rs[0].xs = castN cs := by
      have := congrArg (fun L => L[0]?) hkey
      simp only [List.getElem?_map, List.getElem?_eq_getElem hlen, Option.map_some, List.map_cons, List.getElem?_cons_zero, Option.some.injEq] at this
      exact this
    unfold SV.slc at hc0
    rw [hx0] at hc0 hr0
    generalize rs[0].A = Ar at *
    generalize rs[0].c = cr at *
    have HR0 := Lib.hid hr0
    have hli : (0 : Int) < (rs.length : Int) := by omega
    have HB3 := Lib.hid (HB2.out.trans (hb3.mono HB2.out.size))
    clear hown3 hkey hb3 hcell hr0 hx0
    go_wp2_with fail
    refine (HTX.out Ar cr _ HB3.out HR0.out).mono ?_
    rintro e w4 ⟨rfl, hb⟩
    have HB4 := Lib.hid (HB3.out.trans (hb.mono HB3.out.size))
    clear hb
    go_wp2_with fail
    go_ret
    exact ⟨ret_str HRES.out, HB4.out⟩

end Go.Proofs.YtoofkchhjkhdeaaDoor
