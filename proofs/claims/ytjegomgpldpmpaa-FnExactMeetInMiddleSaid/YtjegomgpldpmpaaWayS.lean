/-
  WayTo of the reference: the walk.
-/
import Derived.Test.YtjegomgpldpmpaaWayJ
import Derived.Test.YtjegomgpldpmpaaMovX
namespace Go.Proofs.Ytjegomgpldpmpaa
open Go.RowKit Go.Shelf Go.Sort
set_option linter.unusedVariables false
set_option linter.unusedSimpArgs false

theorem ofL_map_self {N : Nat} {a : List Int} (h : RhOk N a) : ofL (mapL 1 0 N a a.length) N = a := by
  have e : mapL 1 0 N a a.length = a := by
    unfold mapL
    rw [List.take_length]
    refine (List.map_congr_left fun x hx => ?_).trans (List.map_id' a)
    have := rhok_range h x hx
    rw [Int.one_mul, Int.add_zero, Int.emod_eq_of_lt this.1 this.2]
  rw [e]
  refine asc_unique (ofL_sorted _ _) (rhok_asc h) fun x => ?_
  rw [ofL_mem]
  constructor
  · rintro ⟨t, ht, hb, rfl⟩
    unfold hasB at hb
    rwa [decide_eq_true_eq] at hb
  · intro hx
    have := rhok_range h x hx
    obtain ⟨t, ht⟩ := Int.eq_ofNat_of_zero_le this.1
    exact ⟨t, by omega, by unfold hasB; rw [decide_eq_true_eq, ← ht]; exact hx, ht⟩

set_option maxRecDepth 100000 in
set_option maxHeartbeats 8000000 in
theorem spec_WayTo_yes (N : Nat) (A B : Option Addr) (ca cb : Nat) (a b : List Int) (w : World) (hA : Ints w w.heap.size A a) (hB : Ints w w.heap.size B b) (hmv : movedB N N a b = true) :
    Calls Try.prog 6 #[.agg #[.int .i64 N, .slice A a.length ca], .agg #[.int .i64 N, .slice B b.length cb]] w (RetRs w (wayP N a b ((farV N a b).toNat + 1))) := by
  obtain ⟨ha, hb, _, hl⟩ := movedB_yes hmv
  have hn1 : 1 ≤ N := by have := ha.1; omega
  have hn2 : N ≤ 24 := by have := ha.2.1; omega
  obtain ⟨D, hD⟩ := Int.eq_ofNat_of_zero_le (farV_nonneg N a b)
  have hD2 : D ≤ 576 := by have := farV_small ha hb hl; omega
  have hfn : Fits (N : Int) := by unfold Fits; omega
  have hmd : mdV N N a b = D := by unfold mdV; rw [hmv, if_pos rfl, hD]
  have HAM := Lib.hid (fun V h1 h2 => hmd ▸ spec_MoveDistance_any N N A B ca cb a b V hfn hfn h1 h2)
  have HRT := Lib.hid (fun V h => (ofL_map_self ha) ▸ spec_l02Map_any N A ca a 1 0 V h ha (fun x h1 h2 => by omega) (by omega))
  have HDI := Lib.hid (fun V h1 h2 => hD ▸ spec_l24Far_any N A B ca cb a b V h1 h2 ha hb hl)
  have HOA := Lib.hid ha
  have HOB := Lib.hid hb
  have HL := Lib.hid hl
  have HD := Lib.hid hD
  rw [hD, show ((D : Int)).toNat = D from Int.toNat_natCast D]
  have hfa := rh_fits' ha
  have HFA := Lib.hid hfa
  clear hmv ha hb hl hD hfn hfa hmd
  have hal0 := (Below.refl w.heap.size w).alloc (Nat.le_refl _) (.cells #[.int .i64 N, .slice A a.length ca] 28)
  have hal1 := hal0.alloc hal0.size (.cells #[.int .i64 N, .slice B b.length cb] 28)
  have HC0 := Lib.hid ((Cells2.new w (.int .i64 N) (.slice A a.length ca) 28).alloc (.cells #[.int .i64 N, .slice B b.length cb] 28))
  have HD0 := Lib.hid (Cells2.new_at (w.alloc (.cells #[.int .i64 N, .slice A a.length ca] 28)) (.int .i64 N) (.slice B b.length cb) 28 (w.heap.size + 1) (by simp))
  have HB0 := Lib.hid hal1
  have HIA := Lib.hid (hA.lift hal1)
  have HIB := Lib.hid (hB.lift hal1)
  have HBO := Lib.hid hB
  clear hA hB hal0 hal1
  obtain ⟨c0, c1, _, _, _⟩ := HC0.out
  obtain ⟨d0, d1, _, _, _⟩ := HD0.out
  go_enter Try.func6, Try.ntmps6
  go_wp2_with fail
  refine (HAM.out _ HIA.out HIB.out).mono ?_
  rintro e w1 ⟨rfl, hb⟩
  have HB1 := Lib.hid (HB0.out.trans (hb.mono HB0.out.size))
  have HIA1 := Lib.hid (HIA.out.lift hb)
  have HIB1 := Lib.hid (HIB.out.lift hb)
  have HC1 := Lib.hid (HC0.out.below hb HC0.out.2.2.2.2)
  have HD1 := Lib.hid (HD0.out.below hb HD0.out.2.2.2.2)
  clear hb c0 c1 d0 d1
  obtain ⟨c0, c1, _, _, _⟩ := HC1.out
  obtain ⟨d0, d1, _, _, _⟩ := HD1.out
  go_wp2_with fail
  refine (HRT.out _ HIA1.out).mono ?_
  rintro e w2 ⟨A1, k1, rfl, hrw, hb⟩
  have HB2 := Lib.hid (HB1.out.trans (hb.mono HB1.out.size))
  have HIB2 := Lib.hid (HIB1.out.lift hb)
  have HC2 := Lib.hid (HC1.out.below hb HC1.out.2.2.2.2)
  have HD2 := Lib.hid (HD1.out.below hb HD1.out.2.2.2.2)
  have hz1 : w.heap.size + 2 ≤ w1.heap.size := by have := HD1.out.2.2.2.2; omega
  have hz2 := hb.size
  obtain ⟨b0, hL0, hbq⟩ := hrw.rvAt w.heap.size (by omega) hz1 N k1
  have HIN := Lib.hid (hrw.ints HFA.out)
  have hal2 := (Below.refl w2.heap.size w2).alloc (Nat.le_refl _) (.cells #[.int .i64 N, .slice A1 a.length k1] 28)
  have HL0 := Lib.hid (hL0.frm (Frm.pure hal2 (fun _ => False)) (fun h => h))
  have hb0 : b0 < w2.heap.size := hL0.2.2.1
  clear c0 c1 d0 d1 hrw hL0
  have HN2 := Lib.hid (Cells2.new w2 (.int .i64 N) (.slice A1 a.length k1) 28)
  have hal3 := hal2.alloc hal2.size (.cells #[.int .i64 N, .slice A1 a.length k1] 28)
  have HN3 := Lib.hid (HN2.out.alloc (.cells #[.int .i64 N, .slice A1 a.length k1] 28))
  have HD3 := Lib.hid (HD2.out.below hal3 HD2.out.2.2.2.2)
  have HIB3 := Lib.hid (HIB2.out.lift hal3)
  have HIA3 := Lib.hid ((HIA1.out.lift hb).lift hal3)
  have HC3 := Lib.hid (HC2.out.below hal3 HC2.out.2.2.2.2)
  have HIN3 := Lib.hid (HIN.out.lift hal3)
  have HB3 := Lib.hid (HB2.out.trans (hal3.mono HB2.out.size))
  have ho3 := OwnR.single (w2.alloc (.cells #[.int .i64 N, .slice A1 a.length k1] 28)) w.heap.size ⟨N, a, A1, k1, b0⟩ HL0.out (by simp; omega)
  rw [show (w2.alloc (.cells #[.int .i64 N, .slice A1 a.length k1] 28)).heap.size = w2.heap.size + 1 by simp] at ho3
  have HO3 := Lib.hid ho3
  clear hal2 hal3 ho3 hb
  obtain ⟨c0, c1, _, _, _⟩ := HC3.out
  obtain ⟨d0, d1, _, _, _⟩ := HD3.out
  obtain ⟨n0', n1', _, _, _⟩ := HN2.out
  obtain ⟨n0, n1, _, _, _⟩ := HN3.out
  go_wp2_with fail
  refine (HDI.out _ HIA3.out HIB3.out).mono ?_
  rintro e w4 ⟨rfl, hb⟩
  have hz4 := hb.size
  simp only [World.size_alloc] at hz4
  have HO4 := Lib.hid (HO3.out.grown hb)
  have HN4 := Lib.hid (HN3.out.below hb HN3.out.2.2.2.2)
  have HD4 := Lib.hid (HD3.out.below hb HD3.out.2.2.2.2)
  have HIB4 := Lib.hid (HIB3.out.lift hb)
  have HB4 := Lib.hid (HB3.out.trans (hb.mono HB3.out.size))
  clear hb n0 n1 n0' n1' c0 c1 d0 d1 HC3 HIA3 HO3 HN3 HD3 HIB3 HIN3 HB3 HN2 HL0 HIN HC2 HD2 HIB2 HB2
  obtain ⟨gn, hgn⟩ : ∃ gn, w2.heap.size = gn := ⟨_, rfl⟩
  obtain ⟨q, hq⟩ : ∃ q, w.heap.size = q := ⟨_, rfl⟩
  rw [hgn] at HO4 HN4 hz4 hb0 hz2 ⊢
  have HQ := Lib.hid hq
  rw [hq] at HO4 HD4 HB4 hz1 hbq HBO ⊢
  clear hgn hq
  go_wp2_with fail
  go_loopg [6, 7] D (fun f so le wr => ∃ (j : Nat) (rs' : List RV) (r : RV), j + f = D ∧ le = .int .i64 f ∧ keyR (rs' ++ [r]) = wayP N a b (j + 1) ∧ OwnR wr q so (rs' ++ [r]) ∧ Cells2 wr gn (.int .i64 N) r.slc ∧ Cells2 wr (q + 1) (.int .i64 N) (.slice B b.length cb) ∧ (FarR so (rs' ++ [r]) gn ∧ FarR so (rs' ++ [r]) (q + 1)) ∧ q + 1 ≠ gn ∧ Below q w wr)
  case atStart =>
    exact ⟨0, [], ⟨N, a, A1, k1, b0⟩, by omega, rfl, rfl, HO4.out, HN4.out, HD4.out, ⟨⟨fun k hk => by
      have : gn + 1 = k := by simpa [Value.ownBlock] using hk
      omega, fun r hr => by rw [List.nil_append, List.mem_singleton] at hr; subst hr; show b0 ≠ gn; omega⟩, ⟨fun k hk => by
      have : gn + 1 = k := by simpa [Value.ownBlock] using hk
      omega, fun r hr => by rw [List.nil_append, List.mem_singleton] at hr; subst hr; exact hbq⟩⟩, by omega, HB4.out⟩
  case round =>
    obtain ⟨j, rs', r, hjf, rfl, hkey, hown, hnow, hbb, hfar, hne, hbel⟩ := hrel
    obtain ⟨wo, rfl⟩ : ∃ wo : World, wo = wr := ⟨_, rfl⟩
    obtain ⟨kn, kx, _⟩ := key_last hkey
    have hlr : (rs' ++ [r]).length = j + 1 := by rw [← keyR_len, hkey, wayP_len]
    obtain ⟨X, hX⟩ : ∃ X, wayAt N a b j = X := ⟨_, rfl⟩
    have hmem : r ∈ rs' ++ [r] := by simp
    obtain ⟨ox, ol, of⟩ := wayAt_ok HOA.out HOB.out HL.out j (by have := HD.out; omega)
    rw [hX] at kx ox ol of
    have HNX := Lib.hid (wayAt_next HD.out hjf hX)
    have HIX := Lib.hid (show Ints wo wo.heap.size r.A X from kx ▸ (hown.2.1 r hmem).ints (by rw [kx]; exact rh_fits' ox))
    have HKE := Lib.hid hkey
    have HOW := Lib.hid hown
    have HNO := Lib.hid hnow
    have HBB := Lib.hid hbb
    have HFR := Lib.hid hfar
    have HBE := Lib.hid hbel
    have HIB := Lib.hid (show Ints wo wo.heap.size B b from (HBO.out.below hbel).mono (by have := hbb.2.2.2.2; omega))
    obtain ⟨A0, k0, rfl⟩ := hown.form
    rw [hlr] at HOW HFR ⊢
    unfold RV.slc at hnow
    rw [kx] at hnow
    obtain ⟨n0, n1, _, _, _⟩ := hnow
    obtain ⟨d0, d1, _, _, _⟩ := hbb
    by_cases hz : 0 < gk
    · have hzi : (0 : Int) < (gk : Int) := by omega
      have hwl : IntKind.i64.wrap ((gk : Int) - 1) = (gk : Int) - 1 := i64w (by omega)
      have HMV := Lib.hid (fun V h => show Calls Try.prog 21 _ V (RetRl V ((insL N X (2 * X.length)).map fun x => ((N : Int), x))) from spec_l24Moves_lies N r.A r.c X V h ox)
      have hXl : X.length ≤ 24 := by have := rhok_len ox; omega
      have hLl := insN_len N X (2 * X.length)
      have hex0 := moves_some ox HOB.out (ol.trans HL.out) (by rw [of]; have := HD.out; omega)
      rw [of, show farV N a b - (j : Int) = (gk : Int) by have := HD.out; omega] at hex0
      have HEX := Lib.hid hex0
      have HEA := Lib.hid (fun y (hy : y ∈ insL N X (2 * X.length)) => (fun h => And.intro h.1 (h.2.1.trans (ol.trans HL.out))) (moves_each ox HOB.out (ol.trans HL.out) hy))
      generalize insL N X (2 * X.length) = L at HMV hLl HEX HEA HNX
      generalize r.A = AX at *
      generalize r.c = cX at *
      clear hkey hown hfar hbel kx ox ol of hex0 kn
      go_wp2_with fail
      refine (HMV.out _ HIX.out).mono ?_
      rintro e w1 ⟨A2, c2, ms, rfl, hk1, hrd, hlies, hb⟩
      obtain ⟨hmx, hmn⟩ := key_split hk1
      have hml : ms.length ≤ 48 := by rw [← keyR_len, hk1, List.length_map]; omega
      have hmr : ∀ s ∈ ms, s.n = N ∧ RhOk N s.xs ∧ s.xs.length = b.length := fun s hs => ⟨hmn s hs, HEA.out _ (by rw [← hmx]; exact List.mem_map.2 ⟨s, hs, rfl⟩)⟩
      have HMR := Lib.hid hmr
      have HRD := Lib.hid hrd
      have HLS := Lib.hid hlies
      have HF1 := Lib.hid (Frm.pure hb (fun _ => False))
      have hz1' := hb.size
      have HB1' := Lib.hid hb
      obtain ⟨hlen, hget⟩ := map_get hmx
      have hP := nxtP_spec (N := N) (b := b) (left := (gk : Int)) (L := L) HEX.out
      have hnx := HNX.out
      obtain ⟨P, hPP⟩ : ∃ P, nxtP N b (gk : Int) L = P := ⟨_, rfl⟩
      rw [hPP] at hP hnx
      obtain ⟨p1, p2, p3⟩ := hP
      have hPl : P < ms.length := by omega
      have HGT := Lib.hid hget
      have HP2 := Lib.hid p2
      have HP3 := Lib.hid p3
      have HNXP := Lib.hid hnx
      clear hk1 hrd hlies hmx hmn hmr n0 n1 d0 d1 hb hlen hget p1 p2 p3 hnx hPP
      go_wp2_with fail
      go_loopw [28] (fun ii wr => ∃ k : Nat, k ≤ P ∧ ii = .int .i64 k ∧ Below w1.heap.size w1 wr) (fun ii _ => ms.length - (intOf ii).toNat)
      case atStart => exact ⟨0, Nat.zero_le _, rfl, Below.refl _ _⟩
      case round =>
        obtain ⟨k, hk, rfl, hbi⟩ := hrel
        obtain ⟨wi, rfl⟩ : ∃ wo : World, wo = wr := ⟨_, rfl⟩
        have HBI := Lib.hid hbi
        have hlt : k < ms.length := by omega
        have hA1 := HRD.out.lift hbi
        obtain ⟨g, rfl, hg, hc⟩ := hA1.2.2 (by omega)
        obtain ⟨r0, r1⟩ := hc k hlt
        have hI := hA1.2.1 _ (List.getElem_mem hlt)
        obtain ⟨e1, e2, e3⟩ := HMR.out _ (List.getElem_mem hlt)
        have e4 := HGT.out k hlt
        have e5 := (HLS.out _ (List.getElem_mem hlt)).frm (Frm.pure hbi (fun _ => False)) (fun h => h)
        obtain ⟨s, hs⟩ : ∃ s, ms[k] = s := ⟨_, rfl⟩
        rw [hs] at r0 r1 hI e1 e2 e3 e4 e5
        obtain ⟨n', Y, AS, cS, bS⟩ := s
        change n' = (N : Int) at e1
        subst e1
        unfold RV.slc at r1
        dsimp only at r0 r1 hI e2 e3 e4
        have hst : k < P → ¬ farV N Y b < (gk : Int) := fun h => by rw [e4]; exact Int.not_lt.2 (HP3.out k h)
        have hen : k = P → farV N Y b < (gk : Int) ∧ Y = wayAt N a b (j + 1) := fun h => by rw [e4, h]; exact ⟨HP2.out, HNXP.out.symm⟩
        have HFL := Lib.hid (fun V h1 h2 => spec_l24Far_any N AS B cS cb Y b V h1 h2 e2 HOB.out e3)
        have hkl : (k : Int) < (ms.length : Int) := by omega
        have hk0 : (0 : Int) ≤ (k : Int) := Int.natCast_nonneg _
        have hal := (Below.refl wi.heap.size wi).alloc (Nat.le_refl _) (.cells #[.int .i64 N, .slice AS Y.length cS] 28)
        have HFi := Lib.hid (HF1.out.trans ((Frm.pure hbi (fun _ => False)).trans (Frm.pure hal (fun _ => False))))
        have HIY := Lib.hid (hI.lift hal)
        have HIBi := Lib.hid (((HIB.out.lift HB1'.out).lift hbi).lift hal)
        have HXi := Lib.hid (Cells2.new wi (.int .i64 N) (.slice AS Y.length cS) 28)
        have HBBi := Lib.hid (HBB.out.frmX HFi.out (fun h => h))
        have HSLi := Lib.hid (e5.frm (Frm.pure hal (fun _ => False)) (fun h => h))
        have HBIi := Lib.hid (hbi.alloc hbi.size (.cells #[.int .i64 N, .slice AS Y.length cS] 28))
        have hzi := hbi.size
        obtain ⟨x0, x1, _, _, _⟩ := HXi.out
        obtain ⟨d0, d1, _, _, _⟩ := HBBi.out
        obtain ⟨F, hF⟩ : ∃ F, farV N Y b = F := ⟨_, rfl⟩
        rw [hF] at hst hen HFL
        clear hal hbi hc hA1 hI e2 e3 e4 e5 hs hF
        by_cases hkP : k = P
        · obtain ⟨hlt2, hYY⟩ := hen hkP
          have HYY := Lib.hid hYY
          clear hkP hst hen hYY
          go_wp2_with fail
          refine (HFL.out _ HIY.out HIBi.out).mono ?_
          rintro e w2 ⟨rfl, hb⟩
          have hz2' := hb.size
          simp only [World.size_alloc] at hz2'
          have HSL := Lib.hid (HSLi.out.frm (Frm.pure hb (fun _ => False)) (fun h => h))
          have HF2 := Lib.hid (HFi.out.trans (Frm.pure hb (fun _ => False)))
          have HNO2 := Lib.hid (HNO.out.frmX HF2.out (fun h => h))
          have HBB2 := Lib.hid (HBB.out.frmX HF2.out (fun h => h))
          have HOW2 := Lib.hid (HOW.out.frmX HF2.out (fun _ _ h => h) (fun _ _ h => h))
          have HX2 := Lib.hid (HXi.out.frmX (Frm.pure hb (fun _ => False)) (fun h => h))
          have hsb : wo.heap.size ≤ bS := HSL.out.2.1
          have HN4 := Lib.hid ((HNO2.out.set0 (.int .i64 N)).set1 (.slice AS Y.length cS))
          have HF4 := Lib.hid ((Frm.setCell (S := fun c => c = gn) (p := ⟨gn, 0, none⟩) (Frm.refl _ w2) rfl (.int .i64 N)).setCell (p := ⟨gn, 1, none⟩) rfl (.slice AS Y.length cS))
          clear hb x0 x1 d0 d1 r0 r1
          obtain ⟨x0, x1, _, _, _⟩ := HX2.out
          obtain ⟨n0, n1, nf0, nf1, ns⟩ := HNO2.out
          go_upto_region 14 with fail
          generalize (w2.setCell ⟨gn, 0, none⟩ (.int .i64 N)).setCell ⟨gn, 1, none⟩ (.slice AS Y.length cS) = w3 at *
          have hz3 := HF4.out.size
          have hgns := HNO.out.2.2.2.2
          have HBB3 := Lib.hid (HBB2.out.frmX HF4.out (show ¬ q + 1 = gn from hne))
          have HOW3 := Lib.hid (HOW2.out.frmX HF4.out HFR.out.1.1 HFR.out.1.2)
          have HSL3 := Lib.hid (HSL.out.frm HF4.out (show ¬ bS = gn by omega))
          have hal := (Below.refl w3.heap.size w3).alloc (Nat.le_refl _) (.cells #[.int .i64 N, .slice AS Y.length cS] 28)
          have HP5 := Lib.hid (Frm.pure hal (fun _ => False))
          have HN5 := Lib.hid (HN4.out.frmX HP5.out (fun h => h))
          have HBB5 := Lib.hid (HBB3.out.frmX HP5.out (fun h => h))
          have HOW5 := Lib.hid (HOW3.out.frmX HP5.out (fun _ _ h => h) (fun _ _ h => h))
          have HSL5 := Lib.hid ((HSL3.out.frm HP5.out (fun h => h)).mono (show q ≤ wo.heap.size by have := HBB.out.2.2.2.2; omega))
          have HC5 := Lib.hid (Cells2.new w3 (.int .i64 N) (.slice AS Y.length cS) 28)
          have HLT := Lib.hid (show ∀ r' ∈ rs' ++ [r], r'.b < bS from fun r' hr' => by have := (HOW.out.2.1 r' hr').2.2.1; omega)
          have HNB := Lib.hid (show ∀ g, (Value.slice A0 (j + 1) k0).ownBlock = some g → g ≠ bS from fun g hg => by have := (HOW.out.lt g hg).2; omega)
          have HLN := Lib.hid (show (rs' ++ [r]).length ≤ 1048576 by omega)
          have HQS := Lib.hid (show q ≤ (w3.alloc (.cells #[.int .i64 N, .slice AS Y.length cS] 28)).heap.size by have := HBB.out.2.2.2.2; simp; omega)
          have HLR2 := Lib.hid (show (rs' ++ [r] ++ [(⟨N, Y, AS, cS, bS⟩ : RV)]).length = j + 2 by rw [List.length_append, hlr]; rfl)
          clear hal n0 n1 nf0 nf1 x0 x1
          obtain ⟨x0, x1, _, _, _⟩ := HN4.out
          go_wp2_with (at_builtin; refine wpList_append_rh2 rfl (.tmp 39) (.tmp 41) rfl q (.slice A0 (j + 1) k0) (rs' ++ [r]) rfl HOW5.out w3.heap.size ⟨N, Y, AS, cS, bS⟩ (by rfl) ⟨HC5.out.1, HC5.out.2.1⟩ HSL5.out HLT.out HNB.out HLN.out HQS.out ?_; intro g' c' w6 hown6 hf6 hat6; rw [HLR2.out] at hown6 ⊢; have HOW6 := Lib.hid hown6; have HF6 := Lib.hid hf6; have HAT6 := Lib.hid hat6; have HN6 := Lib.hid (HN5.out.frmX hf6 (fun h => HFR.out.1.1 gn h rfl)); have HBB6 := Lib.hid (HBB5.out.frmX hf6 (fun h => HFR.out.2.1 (q + 1) h rfl)); clear hown6 hf6 hat6 x0 x1)
          have hw6 := HF6.out.size
          simp only [World.size_alloc] at hw6
          have hgo : ∀ g, g < wo.heap.size → FarR (.slice A0 (j + 1) k0) (rs' ++ [r]) g → FarR (.slice (some ⟨g', 0, none⟩) (j + 2) c') (rs' ++ [r] ++ [(⟨N, Y, AS, cS, bS⟩ : RV)]) g := fun g hg h => ⟨fun k hk => by
              have e : g' = k := by simpa [Value.ownBlock] using hk
              subst e
              rcases HAT6.out with h1 | h1
              · exact h.1 g' h1
              · simp only [World.size_alloc] at h1; omega, fun r' hr' => by
              rcases List.mem_append.1 hr' with h1 | h1
              · exact h.2 r' h1
              · rw [List.mem_singleton] at h1; subst h1; show bS ≠ g; omega⟩
          have hqo : q ≤ wo.heap.size := by have := HBB.out.2.2.2.2; omega
          have HBZ := Lib.hid (HBE.out.trans (Frm.below (B := q) ((HF2.out.mono (T := fun c => q ≤ c) (fun c h => h.elim)).trans ((HF4.out.mono (fun c h => by have h : c = gn := h; omega)).trans ((HP5.out.mono (fun c h => h.elim)).trans (HF6.out.mono (fun c h => (HOW5.out.lt c h).1))))) (fun c h => h) hqo))
          go_roundg (gk - 1)
          case measure => omega
          case rel => exact ⟨j + 1, rs' ++ [r], ⟨N, Y, AS, cS, bS⟩, by omega, by rw [show ((gk - 1 : Nat) : Int) = (gk : Int) - 1 by omega], by
              rw [wayP_succ, ← HKE.out, ← HYY.out]; simp [keyR], HOW6.out, HN6.out, HBB6.out, ⟨hgo gn (by omega) HFR.out.1, hgo (q + 1) HBB.out.2.2.2.2 HFR.out.2⟩, hne, HBZ.out⟩
        · have hnl := hst (by omega)
          clear hst hen
          go_wp2_with fail
          refine (HFL.out _ HIY.out HIBi.out).mono ?_
          rintro e w2 ⟨rfl, hb⟩
          have HB2' := Lib.hid (HBIi.out.trans (hb.mono HBIi.out.size))
          clear hb
          go_wp2_with fail
          go_roundw
          case rel => exact ⟨k + 1, by omega, by go_num, HB2'.out⟩
          case measure => simp [intOf]; omega
    · have hg0 : gk = 0 := by omega
      have hjD : j = D := by omega
      have hgi : ¬ (0 : Int) < (gk : Int) := by omega
      subst hjD
      clear hkey hown hfar hbel kx ox ol of kn n0 n1
      go_wp2_with fail
      go_ret
      exact ⟨_, rs' ++ [r], rfl, HKE.out, by rw [HQ.out]; exact HOW.out, by rw [HQ.out]; exact HBE.out⟩

set_option maxRecDepth 100000 in
set_option maxHeartbeats 1000000 in
theorem spec_WayTo_any (n m : Int) (A B : Option Addr) (ca cb : Nat) (a b : List Int) (w : World) (hn : Fits n) (hm : Fits m) (hA : Ints w w.heap.size A a) (hB : Ints w w.heap.size B b) :
    Calls Try.prog 6 #[.agg #[.int .i64 n, .slice A a.length ca], .agg #[.int .i64 m, .slice B b.length cb]] w (RetRs w (wayV n m a b)) := by
  cases hv : movedB n m a b
  · have HV := Lib.hid (show wayV n m a b = [] by unfold wayV; rw [hv]; rfl)
    rw [HV.out]
    have hmd : mdV n m a b = -1 := by unfold mdV; rw [hv]; rfl
    have HS := Lib.hid (fun V h1 h2 => hmd ▸ spec_MoveDistance_any n m A B ca cb a b V hn hm h1 h2)
    clear hv hmd
    have hal0 := (Below.refl w.heap.size w).alloc (Nat.le_refl _) (.cells #[.int .i64 n, .slice A a.length ca] 28)
    have hal1 := hal0.alloc hal0.size (.cells #[.int .i64 m, .slice B b.length cb] 28)
    have HC0 := Lib.hid ((Cells2.new w (.int .i64 n) (.slice A a.length ca) 28).alloc (.cells #[.int .i64 m, .slice B b.length cb] 28))
    have HD0 := Lib.hid (Cells2.new_at (w.alloc (.cells #[.int .i64 n, .slice A a.length ca] 28)) (.int .i64 m) (.slice B b.length cb) 28 (w.heap.size + 1) (by simp))
    have HB0 := Lib.hid hal1
    have HIA := Lib.hid (hA.lift hal1)
    have HIB := Lib.hid (hB.lift hal1)
    clear hA hB hal0 hal1
    obtain ⟨c0, c1, _, _, _⟩ := HC0.out
    obtain ⟨d0, d1, _, _, _⟩ := HD0.out
    go_enter Try.func6, Try.ntmps6
    go_wp2_with fail
    refine (HS.out _ HIA.out HIB.out).mono ?_
    rintro e w1 ⟨rfl, hb⟩
    have HB1 := Lib.hid (HB0.out.trans (hb.mono HB0.out.size))
    clear hb
    go_wp2_with fail
    go_ret
    exact ⟨_, [], rfl, rfl, OwnR.nil _ _, HB1.out⟩
  · obtain ⟨ha, _, hnm, _⟩ := movedB_yes hv
    subst hnm
    obtain ⟨N, rfl⟩ := Int.eq_ofNat_of_zero_le (show 0 ≤ n by have := ha.1; omega)
    have := spec_WayTo_yes N A B ca cb a b w hA hB hv
    unfold wayV
    rw [hv, if_pos rfl, Int.toNat_natCast]
    exact this

end Go.Proofs.Ytjegomgpldpmpaa
