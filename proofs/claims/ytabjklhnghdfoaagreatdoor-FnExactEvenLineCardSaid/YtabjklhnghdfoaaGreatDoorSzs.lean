/-
  The different numbers of a list in order: l03Sizes of the reference.
-/
import Derived.Test.YtabjklhnghdfoaaGreatDoorSzsT
import Derived.Test.YtabjklhnghdfoaaGreatDoorCells
import Derived.Test.YtabjklhnghdfoaaGreatDoorFrm
namespace Go.Proofs.YtabjklhnghdfoaaGreatDoor
open Go.RowKit
set_option linter.unusedVariables false
set_option linter.unusedSimpArgs false

theorem OwnI.cellz {w : World} {base g c : Nat} {xs : List Int} (h : OwnI w base (.slice (some ⟨g, 0, none⟩) xs.length c) xs) : g < w.heap.size ∧ xs.length ≤ c ∧ ∀ i, i < xs.length → w.cell? ⟨g, i, none⟩ = some (.int .i64 (xs.getD i 0)) := by
  refine ⟨(h.lt g rfl).2, ?_, fun i hi => ?_⟩
  · rcases h.2 with ⟨hv, _⟩ | ⟨g', cap', cur, hv, hg, hh, hnc, _⟩
    · cases hv
    · injection hv with _ _ h3; omega
  · have := World.ownsRow.cells h (g := g) rfl i (.int .i64 (xs.getD i 0)) (by
      rw [List.getElem?_map, List.getD_eq_getElem?_getD, List.getElem?_eq_getElem hi]; rfl)
    rwa [Go.WideShapes.add_plain, Nat.zero_add] at this
theorem OwnI.monoB {w : World} {base base' : Nat} {v : Value} {xs : List Int} (h : OwnI w base v xs) (hb : base' ≤ base) : OwnI w base' v xs :=
  ⟨h.1, by
    rcases h.2 with h0 | ⟨g, cap, cur, e, hg, rest⟩
    · exact .inl h0
    · exact .inr ⟨g, cap, cur, e, by omega, rest⟩⟩
theorem OwnI.posz {w : World} {base : Nat} {v : Value} {xs : List Int} (h : OwnI w base v xs) (hp : 0 < xs.length) : ∃ g c, v = .slice (some ⟨g, 0, none⟩) xs.length c := by
  rcases h.2 with ⟨rfl, h0⟩ | ⟨g, cap, cur, rfl, _⟩
  · omega
  · exact ⟨g, cap, rfl⟩

set_option maxRecDepth 100000 in
set_option maxHeartbeats 4000000 in
theorem spec_l03Sizes_any (A : Option Addr) (cap : Nat) (xs : List Int) (w : World) (hA : Ints w w.heap.size A xs) (hl : xs.length ≤ 24) :
    Calls Tryz.prog 43 #[.slice A xs.length cap] w fun e w' => ∃ v, e = .returned v ∧ OwnI w' w.heap.size v (collL xs) ∧ Below w.heap.size w w' := by
  have HSE := Lib.hid (szs_eq xs)
  have HA := Lib.hid hA.2.2
  have HB0 := Lib.hid ((Below.refl w.heap.size w).alloc (Nat.le_refl _) (.cells #[] 3))
  have HO0 := Lib.hid (OwnI.empty_at w w.heap.size w.heap.size rfl (Nat.le_refl _))
  clear hA
  go_enter Tryz.func43, Tryz.ntmps43
  go_wp2_with fail
  go_loopw [3, 11] (fun v i wr => ∃ (j g c : Nat), j ≤ xs.length ∧ i = .int .i64 j ∧ v = .slice (some ⟨g, 0, none⟩) (szsN xs j).length c ∧ OwnI wr w.heap.size v (szsN xs j) ∧ Below w.heap.size w wr) (fun _ i _ => xs.length - (intOf i).toNat)
  case atStart => exact ⟨0, w.heap.size, 0, Nat.zero_le _, rfl, rfl, HO0.out, HB0.out⟩
  case round =>
    obtain ⟨j, g, c, hj, rfl, rfl, hown, hbel⟩ := hrel
    obtain ⟨wo, rfl⟩ : ∃ wo : World, wo = wr := ⟨_, rfl⟩
    have HO := Lib.hid hown
    have HBE := Lib.hid hbel
    have hol := szsN_len xs j
    clear hown hbel
    by_cases hlt : j < xs.length
    · have HSU := Lib.hid (show szsN xs (j + 1) = insI (szsN xs j) (xs.getD j 0) from rfl)
      obtain ⟨bA, oA, rfl, hAB, hac⟩ := HA.out (by omega)
      have hcell := (HBE.out.cell (p := ⟨bA, oA + j, none⟩) hAB).trans (hac j hlt)
      obtain ⟨x, hx⟩ : ∃ x, xs.getD j 0 = x := ⟨_, rfl⟩
      rw [hx] at hcell HSU
      obtain ⟨L', hL'⟩ : ∃ L', szsN xs (j + 1) = L' := ⟨_, rfl⟩
      rw [hL'] at HSU
      have HL' := Lib.hid hL'
      generalize szsN xs j = out at *
      obtain ⟨hgl, hoc, hcz⟩ := HO.out.cellz
      have HCZ := Lib.hid hcz
      have hpl := posI_le out x
      have hjl : (j : Int) < (xs.length : Int) := by omega
      clear hac hx hL' hcz
      go_wp2_with fail
      go_loopw [6] (fun kk wr => ∃ kq : Nat, kq ≤ posI out x ∧ kk = .int .i64 kq ∧ wr = wo) (fun kk _ => posI out x - (intOf kk).toNat)
      case atStart => exact ⟨0, Nat.zero_le _, rfl, rfl⟩
      case round =>
        obtain ⟨kq, hkq, rfl, rfl⟩ := hrel
        by_cases hlk : kq < out.length
        · have hcy := HCZ.out kq hlk
          have hki : (kq : Int) < (out.length : Int) := by omega
          have hk0 : (0 : Int) ≤ (kq : Int) := Int.natCast_nonneg _
          have hge : out.getD kq 0 = out[kq] := by rw [List.getD_eq_getElem?_getD, List.getElem?_eq_getElem hlk]; rfl
          by_cases hbk : kq < posI out x
          · have hyx : out.getD kq 0 < x := by rw [hge]; exact posI_before hlk hbk
            obtain ⟨y, hy⟩ : ∃ y, out.getD kq 0 = y := ⟨_, rfl⟩
            rw [hy] at hcy hyx
            clear hge hy
            go_wp2_with fail
            go_roundw
            case rel => exact ⟨kq + 1, by omega, by go_num, trivial⟩
            case measure => simp [intOf]; omega
          · have hkp : kq = posI out x := by omega
            have HKP := Lib.hid hkp
            have hyx : ¬ out.getD kq 0 < x := by rw [hge]; subst hkp; exact posI_at hlk
            have HGO := Lib.hid (show out[kq]? = some (out.getD kq 0) by rw [hge]; exact List.getElem?_eq_getElem hlk)
            obtain ⟨y, hy⟩ : ∃ y, out.getD kq 0 = y := ⟨_, rfl⟩
            rw [hy] at hcy hyx HGO
            clear hge hy hkp
            have hkn : ((kq : Int) == (out.length : Int)) = false := beq_eq_false_iff_ne.2 (by omega)
            by_cases hyq : y = x
            · subst hyq
              have HIN := Lib.hid (show L' = out by rw [HSU.out]; unfold insI; rw [← HKP.out, HGO.out, if_pos rfl])
              go_wp2_with fail
              go_roundw
              case rel => exact ⟨j + 1, g, c, by omega, by go_num, by rw [HL'.out, HIN.out], by rw [HL'.out, HIN.out]; exact HO.out, HBE.out⟩
              case measure => simp [intOf]; omega
            · have HIN := Lib.hid (show L' = out.take kq ++ [x] ++ out.drop kq by
                rw [HSU.out]; unfold insI
                rw [← HKP.out, HGO.out, if_neg (fun e => hyq (Option.some.inj e))]; simp)
              have hynq : ((y : Int) != x) = true := by rw [bne_iff_ne]; exact hyq
              have hck1 : ¬ c - kq = 0 := by omega
              have hck2 : ¬ c = kq := by omega
              have HT3 := Lib.hid hpl
              have hkl : kq ≤ out.length := by omega
              have hkl2 : (kq : Int) ≤ (out.length : Int) := by omega
              have hkc2 : (kq : Int) ≤ (c : Int) := by omega
              have hkc3 : kq ≤ c := by omega
              have hol2 : (out.length : Int) ≤ (c : Int) := by omega
              have HBD := Lib.hid (show out.length ≤ 24 by omega)
              have HC1 := Lib.hid (show ∀ i, i < (out.take kq).length → wr.cell? ⟨g, i, none⟩ = some (.int .i64 ((out.take kq).getD i 0)) from fun i hi => by
                rw [List.length_take] at hi
                rw [HCZ.out i (by omega), List.getD_eq_getElem?_getD, List.getD_eq_getElem?_getD, List.getElem?_take, if_pos (by omega)])
              have HC3 := Lib.hid (show ∀ i, i < (out.drop kq).length → wr.cell? ⟨g, kq + i, none⟩ = some (.int .i64 ((out.drop kq).getD i 0)) from fun i hi => by
                rw [List.length_drop] at hi
                rw [HCZ.out (kq + i) (by omega), List.getD_eq_getElem?_getD, List.getD_eq_getElem?_getD, List.getElem?_drop])
              have HL1 := Lib.hid (show (out.take kq).length = kq by rw [List.length_take]; omega)
              have HL3 := Lib.hid (show (out.drop kq).length = (out.length - kq) by first | exact List.length_drop | (rw [List.length_drop]; omega) | (rw [List.length_drop]; have := HKE.out; omega))
              obtain ⟨t1, ht1⟩ : ∃ t, out.take kq = t := ⟨_, rfl⟩
              obtain ⟨t3, ht3⟩ : ∃ t, out.drop kq = t := ⟨_, rfl⟩
              rw [ht1] at HC1 HL1 HIN
              rw [ht3] at HC3 HL3 HIN
              clear ht1 ht3
              have HGL := Lib.hid hgl
              have HA1 := Lib.hid ((Below.refl wr.heap.size wr).alloc (Nat.le_refl _) (.cells #[] 3))
              clear hpl
              go_wp2_with (first
                | (at_builtin; refine wpList_append_ints rfl _ _ rfl wr.heap.size _ [] rfl (OwnI.empty_at wr wr.heap.size wr.heap.size rfl (Nat.le_refl _)) g 0 c t1 (by rw [HL1.out]; rfl) (fun i hi => by rw [Nat.zero_add]; exact (HA1.out.cell (p := ⟨g, i, none⟩) HGL.out).trans (HC1.out i hi)) (by have := HL1.out; have := HBD.out; simp only [List.length_nil]; omega) (by simp) ?_; intro v1 w1 hown1 hb1 _; rw [List.nil_append] at hown1; obtain ⟨A1, c1, rfl⟩ := hown1.form; have HB1 := Lib.hid (HA1.out.trans hb1); have HO1 := Lib.hid hown1; have HAL := Lib.hid ((Below.refl w1.heap.size w1).alloc (Nat.le_refl _) (.cells #[.int .i64 x] 3)); clear hown1 hb1)
                | (at_builtin; refine wpList_append_int rfl _ _ rfl wr.heap.size _ t1 rfl (HO1.out.alloc _) _ _ rfl (cell_new1 _ _ _) (by have := HL1.out; have := HBD.out; omega) (by have := HB1.out.size; simp only [World.size_alloc]; omega) ?_; intro v2 w2 hown2 hb2; have HL2 := Lib.hid (show 0 < (t1 ++ [x]).length ∧ (t1 ++ [x]).length ≤ 25 by rw [List.length_append]; have := HL1.out; have := HBD.out; simp only [List.length_cons, List.length_nil]; omega); obtain ⟨t2, ht2⟩ : ∃ l, t1 ++ [x] = l := ⟨_, rfl⟩; rw [ht2] at hown2 HL2; have HT2 := Lib.hid ht2; obtain ⟨A2, c2, rfl⟩ := hown2.form; have HB2 := Lib.hid (HB1.out.trans ((HAL.out.mono HB1.out.size).trans hb2)); have HO2 := Lib.hid hown2; clear hown2 hb2 ht2)
                | (at_builtin; refine wpList_append_ints rfl _ _ rfl wr.heap.size _ t2 rfl HO2.out g kq (c - kq) t3 (by rw [HL3.out]; rfl) (fun i hi => by have := HL3.out; first | exact (HB2.out.cell (p := ⟨g, kq + i, none⟩) HGL.out).trans (HC3.out i hi) | omega) (by have := HL3.out; have := HL2.out; have := HBD.out; omega) HB2.out.size ?_; intro v3 w3 hown3 hb3 _; obtain ⟨t4, ht4⟩ : ∃ l, t2 ++ t3 = l := ⟨_, rfl⟩; have HL4 := Lib.hid (show 0 < t4.length by rw [← ht4, List.length_append]; have := HL2.out; omega); rw [ht4] at hown3; have HT4 := Lib.hid (show L' = t4 by rw [HIN.out, HT2.out, ht4]); obtain ⟨g3, c3, rfl⟩ := hown3.posz HL4.out; have HB3 := Lib.hid (HB2.out.trans hb3); have HO3 := Lib.hid hown3; clear hown3 hb3 ht4))
              go_roundw
              case rel => exact ⟨j + 1, g3, c3, by omega, by go_num, by rw [HL'.out, HT4.out], by rw [HL'.out, HT4.out]; exact HO3.out.monoB HBE.out.size, HBE.out.trans (HB3.out.mono HBE.out.size)⟩
              case measure => simp [intOf]; omega
        · have hke : kq = out.length := by omega
          have hkp : kq = posI out x := by omega
          have HIN := Lib.hid (show L' = out.take kq ++ [x] ++ out.drop kq by
            rw [HSU.out]; unfold insI
            rw [← hkp, hke, List.getElem?_eq_none (Nat.le_refl _), if_neg (by simp)]; simp)
          have hkn : ((kq : Int) == (out.length : Int)) = true := by rw [hke]; exact beq_self_eq_true _
          have hkn2 : ¬ (kq : Int) < (out.length : Int) := by omega
          have HKE := Lib.hid hke
          clear hke hkp
          by_cases hck : c = kq
          · have hck1 : c - kq = 0 := by omega
            have HT3 := Lib.hid hpl
            have hkl : kq ≤ out.length := by omega
            have hkl2 : (kq : Int) ≤ (out.length : Int) := by omega
            have hkc2 : (kq : Int) ≤ (c : Int) := by omega
            have hkc3 : kq ≤ c := by omega
            have hol2 : (out.length : Int) ≤ (c : Int) := by omega
            have HBD := Lib.hid (show out.length ≤ 24 by omega)
            have HC1 := Lib.hid (show ∀ i, i < (out.take kq).length → wr.cell? ⟨g, i, none⟩ = some (.int .i64 ((out.take kq).getD i 0)) from fun i hi => by
              rw [List.length_take] at hi
              rw [HCZ.out i (by omega), List.getD_eq_getElem?_getD, List.getD_eq_getElem?_getD, List.getElem?_take, if_pos (by omega)])
            have HC3 := Lib.hid (show ∀ i, i < (out.drop kq).length → wr.cell? ⟨g, kq + i, none⟩ = some (.int .i64 ((out.drop kq).getD i 0)) from fun i hi => by
              rw [List.length_drop] at hi
              rw [HCZ.out (kq + i) (by omega), List.getD_eq_getElem?_getD, List.getD_eq_getElem?_getD, List.getElem?_drop])
            have HL1 := Lib.hid (show (out.take kq).length = kq by rw [List.length_take]; omega)
            have HL3 := Lib.hid (show (out.drop kq).length = (out.length - kq) by first | exact List.length_drop | (rw [List.length_drop]; omega) | (rw [List.length_drop]; have := HKE.out; omega))
            obtain ⟨t1, ht1⟩ : ∃ t, out.take kq = t := ⟨_, rfl⟩
            obtain ⟨t3, ht3⟩ : ∃ t, out.drop kq = t := ⟨_, rfl⟩
            rw [ht1] at HC1 HL1 HIN
            rw [ht3] at HC3 HL3 HIN
            clear ht1 ht3
            have HGL := Lib.hid hgl
            have HA1 := Lib.hid ((Below.refl wr.heap.size wr).alloc (Nat.le_refl _) (.cells #[] 3))
            clear hpl
            go_wp2_with (first
              | (at_builtin; refine wpList_append_ints rfl _ _ rfl wr.heap.size _ [] rfl (OwnI.empty_at wr wr.heap.size wr.heap.size rfl (Nat.le_refl _)) g 0 kq t1 (by rw [HL1.out]; rfl) (fun i hi => by rw [Nat.zero_add]; exact (HA1.out.cell (p := ⟨g, i, none⟩) HGL.out).trans (HC1.out i hi)) (by have := HL1.out; have := HBD.out; simp only [List.length_nil]; omega) (by simp) ?_; intro v1 w1 hown1 hb1 _; rw [List.nil_append] at hown1; obtain ⟨A1, c1, rfl⟩ := hown1.form; have HB1 := Lib.hid (HA1.out.trans hb1); have HO1 := Lib.hid hown1; have HAL := Lib.hid ((Below.refl w1.heap.size w1).alloc (Nat.le_refl _) (.cells #[.int .i64 x] 3)); clear hown1 hb1)
              | (at_builtin; refine wpList_append_int rfl _ _ rfl wr.heap.size _ t1 rfl (HO1.out.alloc _) _ _ rfl (cell_new1 _ _ _) (by have := HL1.out; have := HBD.out; omega) (by have := HB1.out.size; simp only [World.size_alloc]; omega) ?_; intro v2 w2 hown2 hb2; have HL2 := Lib.hid (show 0 < (t1 ++ [x]).length ∧ (t1 ++ [x]).length ≤ 25 by rw [List.length_append]; have := HL1.out; have := HBD.out; simp only [List.length_cons, List.length_nil]; omega); obtain ⟨t2, ht2⟩ : ∃ l, t1 ++ [x] = l := ⟨_, rfl⟩; rw [ht2] at hown2 HL2; have HT2 := Lib.hid ht2; obtain ⟨A2, c2, rfl⟩ := hown2.form; have HB2 := Lib.hid (HB1.out.trans ((HAL.out.mono HB1.out.size).trans hb2)); have HO2 := Lib.hid hown2; clear hown2 hb2 ht2)
              | (at_builtin; refine wpList_append_ints rfl _ _ rfl wr.heap.size _ t2 rfl HO2.out g 0 0 t3 (by rw [HL3.out]; rfl) (fun i hi => by have := HL3.out; first | exact (HB2.out.cell (p := ⟨g, kq + i, none⟩) HGL.out).trans (HC3.out i hi) | omega) (by have := HL3.out; have := HL2.out; have := HBD.out; omega) HB2.out.size ?_; intro v3 w3 hown3 hb3 _; obtain ⟨t4, ht4⟩ : ∃ l, t2 ++ t3 = l := ⟨_, rfl⟩; have HL4 := Lib.hid (show 0 < t4.length by rw [← ht4, List.length_append]; have := HL2.out; omega); rw [ht4] at hown3; have HT4 := Lib.hid (show L' = t4 by rw [HIN.out, HT2.out, ht4]); obtain ⟨g3, c3, rfl⟩ := hown3.posz HL4.out; have HB3 := Lib.hid (HB2.out.trans hb3); have HO3 := Lib.hid hown3; clear hown3 hb3 ht4))
            go_roundw
            case rel => exact ⟨j + 1, g3, c3, by omega, by go_num, by rw [HL'.out, HT4.out], by rw [HL'.out, HT4.out]; exact HO3.out.monoB HBE.out.size, HBE.out.trans (HB3.out.mono HBE.out.size)⟩
            case measure => simp [intOf]; omega
          · have hck1 : ¬ c - kq = 0 := by omega
            have HT3 := Lib.hid hpl
            have hkl : kq ≤ out.length := by omega
            have hkl2 : (kq : Int) ≤ (out.length : Int) := by omega
            have hkc2 : (kq : Int) ≤ (c : Int) := by omega
            have hkc3 : kq ≤ c := by omega
            have hol2 : (out.length : Int) ≤ (c : Int) := by omega
            have HBD := Lib.hid (show out.length ≤ 24 by omega)
            have HC1 := Lib.hid (show ∀ i, i < (out.take kq).length → wr.cell? ⟨g, i, none⟩ = some (.int .i64 ((out.take kq).getD i 0)) from fun i hi => by
              rw [List.length_take] at hi
              rw [HCZ.out i (by omega), List.getD_eq_getElem?_getD, List.getD_eq_getElem?_getD, List.getElem?_take, if_pos (by omega)])
            have HC3 := Lib.hid (show ∀ i, i < (out.drop kq).length → wr.cell? ⟨g, kq + i, none⟩ = some (.int .i64 ((out.drop kq).getD i 0)) from fun i hi => by
              rw [List.length_drop] at hi
              rw [HCZ.out (kq + i) (by omega), List.getD_eq_getElem?_getD, List.getD_eq_getElem?_getD, List.getElem?_drop])
            have HL1 := Lib.hid (show (out.take kq).length = kq by rw [List.length_take]; omega)
            have HL3 := Lib.hid (show (out.drop kq).length = (out.length - kq) by first | exact List.length_drop | (rw [List.length_drop]; omega) | (rw [List.length_drop]; have := HKE.out; omega))
            obtain ⟨t1, ht1⟩ : ∃ t, out.take kq = t := ⟨_, rfl⟩
            obtain ⟨t3, ht3⟩ : ∃ t, out.drop kq = t := ⟨_, rfl⟩
            rw [ht1] at HC1 HL1 HIN
            rw [ht3] at HC3 HL3 HIN
            clear ht1 ht3
            have HGL := Lib.hid hgl
            have HA1 := Lib.hid ((Below.refl wr.heap.size wr).alloc (Nat.le_refl _) (.cells #[] 3))
            clear hpl
            go_wp2_with (first
              | (at_builtin; refine wpList_append_ints rfl _ _ rfl wr.heap.size _ [] rfl (OwnI.empty_at wr wr.heap.size wr.heap.size rfl (Nat.le_refl _)) g 0 c t1 (by rw [HL1.out]; rfl) (fun i hi => by rw [Nat.zero_add]; exact (HA1.out.cell (p := ⟨g, i, none⟩) HGL.out).trans (HC1.out i hi)) (by have := HL1.out; have := HBD.out; simp only [List.length_nil]; omega) (by simp) ?_; intro v1 w1 hown1 hb1 _; rw [List.nil_append] at hown1; obtain ⟨A1, c1, rfl⟩ := hown1.form; have HB1 := Lib.hid (HA1.out.trans hb1); have HO1 := Lib.hid hown1; have HAL := Lib.hid ((Below.refl w1.heap.size w1).alloc (Nat.le_refl _) (.cells #[.int .i64 x] 3)); clear hown1 hb1)
              | (at_builtin; refine wpList_append_int rfl _ _ rfl wr.heap.size _ t1 rfl (HO1.out.alloc _) _ _ rfl (cell_new1 _ _ _) (by have := HL1.out; have := HBD.out; omega) (by have := HB1.out.size; simp only [World.size_alloc]; omega) ?_; intro v2 w2 hown2 hb2; have HL2 := Lib.hid (show 0 < (t1 ++ [x]).length ∧ (t1 ++ [x]).length ≤ 25 by rw [List.length_append]; have := HL1.out; have := HBD.out; simp only [List.length_cons, List.length_nil]; omega); obtain ⟨t2, ht2⟩ : ∃ l, t1 ++ [x] = l := ⟨_, rfl⟩; rw [ht2] at hown2 HL2; have HT2 := Lib.hid ht2; obtain ⟨A2, c2, rfl⟩ := hown2.form; have HB2 := Lib.hid (HB1.out.trans ((HAL.out.mono HB1.out.size).trans hb2)); have HO2 := Lib.hid hown2; clear hown2 hb2 ht2)
              | (at_builtin; refine wpList_append_ints rfl _ _ rfl wr.heap.size _ t2 rfl HO2.out g kq (c - kq) t3 (by rw [HL3.out]; rfl) (fun i hi => by have := HL3.out; first | exact (HB2.out.cell (p := ⟨g, kq + i, none⟩) HGL.out).trans (HC3.out i hi) | omega) (by have := HL3.out; have := HL2.out; have := HBD.out; omega) HB2.out.size ?_; intro v3 w3 hown3 hb3 _; obtain ⟨t4, ht4⟩ : ∃ l, t2 ++ t3 = l := ⟨_, rfl⟩; have HL4 := Lib.hid (show 0 < t4.length by rw [← ht4, List.length_append]; have := HL2.out; omega); rw [ht4] at hown3; have HT4 := Lib.hid (show L' = t4 by rw [HIN.out, HT2.out, ht4]); obtain ⟨g3, c3, rfl⟩ := hown3.posz HL4.out; have HB3 := Lib.hid (HB2.out.trans hb3); have HO3 := Lib.hid hown3; clear hown3 hb3 ht4))
            go_roundw
            case rel => exact ⟨j + 1, g3, c3, by omega, by go_num, by rw [HL'.out, HT4.out], by rw [HL'.out, HT4.out]; exact HO3.out.monoB HBE.out.size, HBE.out.trans (HB3.out.mono HBE.out.size)⟩
            case measure => simp [intOf]; omega
    · have hje : j = xs.length := by omega
      subst hje
      have hcl := HSE.out
      go_wp2_with fail
      go_ret
      exact ⟨_, rfl, by rw [← HSE.out]; exact HO.out, HBE.out⟩

end Go.Proofs.YtabjklhnghdfoaaGreatDoor
