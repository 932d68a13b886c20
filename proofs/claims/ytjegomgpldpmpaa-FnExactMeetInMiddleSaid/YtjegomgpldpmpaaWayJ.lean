/-
  WayTo of the program: the walk.
-/
import Derived.Test.YtjegomgpldpmpaaWayI
namespace Go.Proofs.Ytjegomgpldpmpaa
open Go.RowKit Go.Shelf Go.Sort
set_option linter.unusedVariables false
set_option linter.unusedSimpArgs false

theorem insN_len (N : Nat) (bs : List Int) : ∀ m, (insL N bs m).length ≤ m
  | 0 => Nat.le_refl _
  | m + 1 => by
    have := insN_len N bs m
    unfold insL
    split
    · omega
    · unfold insF
      split
      · omega
      · rw [List.length_append, List.length_cons, List.length_take, List.length_drop]; omega
theorem movP_ins (N : Nat) (bs : List Int) (h1 : 1 ≤ N) (h2 : N ≤ 24) : movP N (movC N bs) = (insL N bs (2 * bs.length)).map fun x => ((N : Int), x) := by
  unfold movP movC cdL
  rw [mov_eq bs h1 h2, List.map_map]
  rfl
theorem key_split {N : Nat} {rs : List RV} {L : List (List Int)} (h : keyR rs = L.map fun x => ((N : Int), x)) : rs.map (fun r => r.xs) = L ∧ ∀ r ∈ rs, r.n = N := by
  refine ⟨?_, fun r hr => ?_⟩
  · have := congrArg (List.map Prod.snd) h
    unfold keyR at this
    rw [List.map_map, List.map_map] at this
    rw [show (Prod.snd ∘ fun r : RV => (r.n, r.xs)) = fun r => r.xs from rfl, show (Prod.snd ∘ fun x : List Int => ((N : Int), x)) = fun x => x from rfl, List.map_id'] at this
    exact this
  · have hm : (r.n, r.xs) ∈ keyR rs := List.mem_map.2 ⟨r, hr, rfl⟩
    rw [h, List.mem_map] at hm
    obtain ⟨x, _, e⟩ := hm
    exact (congrArg Prod.fst e).symm
theorem key_last {N : Nat} {a b : List Int} {rs : List RV} {r : RV} {j : Nat} (h : keyR (rs ++ [r]) = wayP N a b (j + 1)) : r.n = N ∧ r.xs = wayAt N a b j ∧ keyR rs = wayP N a b j := by
  rw [wayP_succ] at h
  unfold keyR at h ⊢
  rw [List.map_append, List.map_singleton] at h
  obtain ⟨h1, h2⟩ := List.append_inj' h rfl
  have := List.singleton_inj.1 h2
  exact ⟨congrArg Prod.fst this, congrArg Prod.snd this, h1⟩
theorem rotL_zero {N : Nat} {a : List Int} (h : RhOk N a) : rotL N a ((0 : Nat) : Int) = a :=
  (rotL_same h 0).2 (fun t ht => by rw [show (t : Int) - 0 = t by omega, Int.emod_eq_of_lt (by omega) (by omega)])
theorem FarR.mk2 {base g g' c : Nat} {rs : List RV} {w : World} (h : OwnR w base (.slice (some ⟨g', 0, none⟩) rs.length c) rs) (hg : g < base) : FarR (.slice (some ⟨g', 0, none⟩) rs.length c) rs g :=
  ⟨fun k hk => by have := (h.lt k hk).1; omega, fun r hr => by have := (h.2.1 r hr).2.1; omega⟩

theorem RW.rvAt {w : World} {base : Nat} {A : Option Addr} {xs : List Int} (h : RW w base A xs) (q : Nat) (hq : q < w.heap.size) (hb : q + 2 ≤ base) (n : Int) (c : Nat) : ∃ b, (RV.mk n xs A c b).Lies w q ∧ b ≠ q + 1 := by
  by_cases hn : 0 < xs.length
  · obtain ⟨b, e, hge, ht⟩ := h.2 hn
    exact ⟨b, ⟨h.1, by show q ≤ b; omega, ht.1, fun _ => ⟨e, ht.tabV⟩⟩, by omega⟩
  · exact ⟨q, ⟨h.1, Nat.le_refl _, hq, fun h' => absurd h' hn⟩, by omega⟩
theorem FarR.frm {v : Value} {rs : List RV} {g : Nat} (h : FarR v rs g) : ∀ k, v.ownBlock = some k → k ≠ g := h.1
theorem wayAt_next {N : Nat} {a b X : List Int} {D j f : Nat} (hD : farV N a b = D) (hj : j + f = D) (hX : wayAt N a b j = X) : wayAt N a b (j + 1) = (insL N X (2 * X.length)).getD (nxtP N b (f : Int) (insL N X (2 * X.length))) [] := by
  subst hX
  show List.getD _ (nxtP N b (farV N a b - j) _) [] = _
  rw [hD, show (D : Int) - j = f by omega]

set_option maxRecDepth 100000 in
set_option maxHeartbeats 8000000 in
theorem impl_WayTo_yes (N : Nat) (A B : Option Addr) (ca cb : Nat) (a b : List Int) (w : World) (hA : Ints w w.heap.size A a) (hB : Ints w w.heap.size B b) (hmv : movedB N N a b = true) :
    Calls Try.prog 8 #[.agg #[.int .i64 N, .slice A a.length ca], .agg #[.int .i64 N, .slice B b.length cb]] w (RetRs w (wayP N a b ((farV N a b).toNat + 1))) := by
  obtain ⟨ha, hb, _, hl⟩ := movedB_yes hmv
  have hn1 : 1 ≤ N := by have := ha.1; omega
  have hn2 : N ≤ 24 := by have := ha.2.1; omega
  obtain ⟨D, hD⟩ := Int.eq_ofNat_of_zero_le (farV_nonneg N a b)
  have hD2 : D ≤ 576 := by have := farV_small ha hb hl; omega
  have hfn : Fits (N : Int) := by unfold Fits; omega
  have HAM := Lib.hid (fun V h1 h2 => hmv ▸ impl_areMoved_any N N A B ca cb a b V hfn hfn h1 h2)
  have HRT := Lib.hid (fun V h => (rotL_zero ha) ▸ impl_rotated_any N A ca a 0 V h ha (by omega))
  have HDI := Lib.hid (fun (A1 : Option Addr) (c1 : Nat) V h1 h2 => hD ▸ impl_distance_any N A1 B c1 cb a b V h1 h2 ha hb hl)
  have HOA := Lib.hid ha
  have HOB := Lib.hid hb
  have HL := Lib.hid hl
  have HD := Lib.hid hD
  rw [hD, show ((D : Int)).toNat = D from Int.toNat_natCast D]
  have hfa := rh_fits' ha
  have HFA := Lib.hid hfa
  clear hmv ha hb hl hD hfn hfa
  have hal0 := (Below.refl w.heap.size w).alloc (Nat.le_refl _) (.cells #[.int .i64 N, .slice A a.length ca] 28)
  have hal1 := hal0.alloc hal0.size (.cells #[.int .i64 N, .slice B b.length cb] 28)
  have HC0 := Lib.hid ((Cells2.new w (.int .i64 N) (.slice A a.length ca) 28).alloc (.cells #[.int .i64 N, .slice B b.length cb] 28))
  have HD0 := Lib.hid (Cells2.new_at (w.alloc (.cells #[.int .i64 N, .slice A a.length ca] 28)) (.int .i64 N) (.slice B b.length cb) 28 (w.heap.size + 1) (by simp))
  have HB0 := Lib.hid hal1
  have HIA := Lib.hid (hA.lift hal1)
  have HIB := Lib.hid (hB.lift hal1)
  have HBO := Lib.hid hB
  clear hA hB hal0 hal1
  obtain ⟨c0, c1, _, _, _⟩ := HC0.out
  obtain ⟨d0, d1, _, _, _⟩ := HD0.out
  go_enter Try.func8, Try.ntmps8
  go_wp2_with fail
  refine (HAM.out _ HIA.out HIB.out).mono ?_
  rintro e w1 ⟨rfl, hb⟩
  have HB1 := Lib.hid (HB0.out.trans (hb.mono HB0.out.size))
  have HIA1 := Lib.hid (HIA.out.lift hb)
  have HIB1 := Lib.hid (HIB.out.lift hb)
  have HC1 := Lib.hid (HC0.out.below hb HC0.out.2.2.2.2)
  have HD1 := Lib.hid (HD0.out.below hb HD0.out.2.2.2.2)
  clear hb c0 c1 d0 d1
  obtain ⟨c0, c1, _, _, _⟩ := HC1.out
  obtain ⟨d0, d1, _, _, _⟩ := HD1.out
  go_wp2_with fail
  refine (HRT.out _ HIA1.out).mono ?_
  rintro e w2 ⟨A1, k1, rfl, hrw, hb⟩
  have HB2 := Lib.hid (HB1.out.trans (hb.mono HB1.out.size))
  have HIB2 := Lib.hid (HIB1.out.lift hb)
  have HC2 := Lib.hid (HC1.out.below hb HC1.out.2.2.2.2)
  have HD2 := Lib.hid (HD1.out.below hb HD1.out.2.2.2.2)
  have hz1 : w.heap.size + 2 ≤ w1.heap.size := by have := HD1.out.2.2.2.2; omega
  have hz2 := hb.size
  obtain ⟨b0, hL0, hbq⟩ := hrw.rvAt w.heap.size (by omega) hz1 N k1
  have HIN := Lib.hid (hrw.ints HFA.out)
  have hal2 := (Below.refl w2.heap.size w2).alloc (Nat.le_refl _) (.cells #[.int .i64 N, .slice A1 a.length k1] 28)
  have HL0 := Lib.hid (hL0.frm (Frm.pure hal2 (fun _ => False)) (fun h => h))
  have hb0 : b0 < w2.heap.size := hL0.2.2.1
  clear hb c0 c1 d0 d1 hrw hL0
  have HN2 := Lib.hid (Cells2.new w2 (.int .i64 N) (.slice A1 a.length k1) 28)
  have hal3 := hal2.alloc hal2.size (.cells #[.int .i64 N, .slice A1 a.length k1] 28)
  have HN3 := Lib.hid (HN2.out.alloc (.cells #[.int .i64 N, .slice A1 a.length k1] 28))
  have HD3 := Lib.hid (HD2.out.below hal3 HD2.out.2.2.2.2)
  have HIB3 := Lib.hid (HIB2.out.lift hal3)
  have HIN3 := Lib.hid (HIN.out.lift hal3)
  have HB3 := Lib.hid (HB2.out.trans (hal3.mono HB2.out.size))
  have ho3 := OwnR.single (w2.alloc (.cells #[.int .i64 N, .slice A1 a.length k1] 28)) w.heap.size ⟨N, a, A1, k1, b0⟩ HL0.out (by simp; omega)
  rw [show (w2.alloc (.cells #[.int .i64 N, .slice A1 a.length k1] 28)).heap.size = w2.heap.size + 1 by simp] at ho3
  have HO3 := Lib.hid ho3
  clear hal2 hal3 ho3
  obtain ⟨d0, d1, _, _, _⟩ := HD3.out
  obtain ⟨n0', n1', _, _, _⟩ := HN2.out
  obtain ⟨n0, n1, _, _, _⟩ := HN3.out
  go_wp2_with fail
  refine (HDI.out A1 k1 _ HIN3.out HIB3.out).mono ?_
  rintro e w4 ⟨rfl, hb⟩
  have hz4 := hb.size
  simp only [World.size_alloc] at hz4
  have HO4 := Lib.hid (HO3.out.grown hb)
  have HN4 := Lib.hid (HN3.out.below hb HN3.out.2.2.2.2)
  have HD4 := Lib.hid (HD3.out.below hb HD3.out.2.2.2.2)
  have HIB4 := Lib.hid (HIB3.out.lift hb)
  have HB4 := Lib.hid (HB3.out.trans (hb.mono HB3.out.size))
  clear hb n0 n1 n0' n1' d0 d1 HO3 HN3 HD3 HIB3 HIN3 HB3 HN2 HL0 HIN HC2 HD2 HIB2 HB2
  obtain ⟨gn, hgn⟩ : ∃ gn, w2.heap.size = gn := ⟨_, rfl⟩
  obtain ⟨q, hq⟩ : ∃ q, w.heap.size = q := ⟨_, rfl⟩
  rw [hgn] at HO4 HN4 hz4 hb0 hz2 ⊢
  have HQ := Lib.hid hq
  rw [hq] at HO4 HD4 HB4 hz1 hbq HBO ⊢
  clear hgn hq
  have hal5 := (Below.refl w4.heap.size w4).alloc (Nat.le_refl _) (.cells #[.int .i64 D] 3)
  have HO5 := Lib.hid (HO4.out.grown hal5)
  have HN5 := Lib.hid (HN4.out.below hal5 HN4.out.2.2.2.2)
  have HD5 := Lib.hid (HD4.out.below hal5 HD4.out.2.2.2.2)
  have HIB5 := Lib.hid (HIB4.out.lift hal5)
  have HB5 := Lib.hid (HB4.out.trans (hal5.mono (by omega)))
  have HL5 := Lib.hid (Cell1.new w4 (.int .i64 D) 3)
  clear hal5
  go_wp2_with fail
  generalize w4.alloc (.cells #[.int .i64 D] 3) = w5 at *
  obtain ⟨g0, hg0⟩ : ∃ g, w4.heap.size = g := ⟨_, rfl⟩
  rw [hg0] at HL5 hz4 ⊢
  clear hg0 HO4 HN4 HD4 HIB4 HB4
  go_loopg [6, 7, 8] D (fun f so lp mv wr => ∃ (j gl : Nat) (rs' : List RV) (r : RV), j + f = D ∧ lp = .pointer (some ⟨gl, 0, none⟩) ∧ keyR (rs' ++ [r]) = wayP N a b (j + 1) ∧ OwnR wr q so (rs' ++ [r]) ∧ Cells2 wr gn (.int .i64 N) r.slc ∧ Cells2 wr (q + 1) (.int .i64 N) (.slice B b.length cb) ∧ Cell1 wr gl (.int .i64 f) ∧ (FarR so (rs' ++ [r]) gn ∧ FarR so (rs' ++ [r]) (q + 1) ∧ FarR so (rs' ++ [r]) gl) ∧ (gn ≠ gl ∧ q + 1 ≠ gl ∧ q + 1 ≠ gn) ∧ Below q w wr)
  case atStart =>
    exact ⟨0, g0, [], ⟨N, a, A1, k1, b0⟩, by omega, rfl, rfl, HO5.out, HN5.out, HD5.out, HL5.out, ⟨⟨fun k hk => by
      have : gn + 1 = k := by simpa [Value.ownBlock] using hk
      omega, fun r hr => by rw [List.nil_append, List.mem_singleton] at hr; subst hr; show b0 ≠ gn; omega⟩, ⟨fun k hk => by
      have : gn + 1 = k := by simpa [Value.ownBlock] using hk
      omega, fun r hr => by rw [List.nil_append, List.mem_singleton] at hr; subst hr; exact hbq⟩, ⟨fun k hk => by
      have : gn + 1 = k := by simpa [Value.ownBlock] using hk
      omega, fun r hr => by rw [List.nil_append, List.mem_singleton] at hr; subst hr; show b0 ≠ g0; omega⟩⟩, by omega, HB5.out⟩
  case round =>
    obtain ⟨j, gl, rs', r, hjf, rfl, hkey, hown, hnow, hbb, hleft, hfar, hne, hbel⟩ := hrel
    obtain ⟨wo, rfl⟩ : ∃ wo : World, wo = wr := ⟨_, rfl⟩
    obtain ⟨kn, kx, _⟩ := key_last hkey
    have hlr : (rs' ++ [r]).length = j + 1 := by rw [← keyR_len, hkey, wayP_len]
    obtain ⟨X, hX⟩ : ∃ X, wayAt N a b j = X := ⟨_, rfl⟩
    have hmem : r ∈ rs' ++ [r] := by simp
    obtain ⟨ox, ol, of⟩ := wayAt_ok HOA.out HOB.out HL.out j (by have := HD.out; omega)
    rw [hX] at kx ox ol of
    have HNX := Lib.hid (wayAt_next HD.out hjf hX)
    have HIX := Lib.hid (show Ints wo wo.heap.size r.A X from kx ▸ (hown.2.1 r hmem).ints (by rw [kx]; exact rh_fits' ox))
    have HKE := Lib.hid hkey
    have HOW := Lib.hid hown
    have HNO := Lib.hid hnow
    have HBB := Lib.hid hbb
    have HLE := Lib.hid hleft
    have HFR := Lib.hid hfar
    have HBE := Lib.hid hbel
    have HIB := Lib.hid (show Ints wo wo.heap.size B b from (HBO.out.below hbel).mono (by have := hbb.2.2.2.2; omega))
    obtain ⟨A0, k0, rfl⟩ := hown.form
    rw [hlr] at HOW HFR ⊢
    unfold RV.slc at hnow
    rw [kx] at hnow
    obtain ⟨n0, n1, _, _, _⟩ := hnow
    obtain ⟨l0, l0f, _⟩ := hleft
    obtain ⟨d0, d1, _, _, _⟩ := hbb
    by_cases hz : 0 < gk
    · have hzi : (0 : Int) < (gk : Int) := by omega
      have hwl : IntKind.i64.wrap ((gk : Int) - 1) = (gk : Int) - 1 := i64w (by omega)
      have HMV := Lib.hid (fun V h => movP_ins N X hn1 hn2 ▸ impl_moves_any N r.A r.c X V h ox)
      have hXl : X.length ≤ 24 := by have := rhok_len ox; omega
      have hLl := insN_len N X (2 * X.length)
      have hex0 := moves_some ox HOB.out (ol.trans HL.out) (by rw [of]; have := HD.out; omega)
      rw [of, show farV N a b - (j : Int) = (gk : Int) by have := HD.out; omega] at hex0
      have HEX := Lib.hid hex0
      have HEA := Lib.hid (fun y (hy : y ∈ insL N X (2 * X.length)) => (fun h => And.intro h.1 (h.2.1.trans (ol.trans HL.out))) (moves_each ox HOB.out (ol.trans HL.out) hy))
      generalize insL N X (2 * X.length) = L at HMV hLl HEX HEA HNX
      generalize r.A = AX at *
      generalize r.c = cX at *
      clear hkey hown hfar hbel kx ox ol of hex0 kn
      go_wp2_with fail
      refine (HMV.out _ HIX.out).mono ?_
      rintro e w1 ⟨v1, ms, rfl, hk1, ho1, hb⟩
      obtain ⟨A2, c2, rfl⟩ := ho1.form
      obtain ⟨hmx, hmn⟩ := key_split hk1
      have hml : ms.length ≤ 48 := by rw [← keyR_len, hk1, List.length_map]; omega
      have HMX := Lib.hid hmx
      have hmr : ∀ s ∈ ms, s.n = N ∧ RhOk N s.xs ∧ s.xs.length = b.length := fun s hs => ⟨hmn s hs, HEA.out _ (by rw [← hmx]; exact List.mem_map.2 ⟨s, hs, rfl⟩)⟩
      have HMR := Lib.hid hmr
      have HRD := Lib.hid (ho1.rd (by omega) (fun s hs => rh_fits' (hmr s hs).2.1))
      have HLS := Lib.hid ho1.2.1
      have HF1 := Lib.hid (Frm.pure hb (fun _ => False))
      have hz1' := hb.size
      clear hk1 ho1 hmx hmn hmr n0 n1 l0 d0 d1 l0f
      have HB1' := Lib.hid hb
      clear hb
      go_wp2_with fail
      refine (slices_IndexFuncW_any N A2 B c2 cb ms b gk (q + 1) gl w1 HRD.out (HIB.out.lift HB1'.out) HMR.out HOB.out (HBB.out.frmX HF1.out (fun h => h)) (HLE.out.frm HF1.out (fun h => h)) (by rw [HMX.out]; exact HEX.out)).mono ?_
      rintro e w2 ⟨rfl, hb⟩
      have hP := nxtP_spec (N := N) (b := b) (left := (gk : Int)) (L := ms.map (fun s => s.xs)) (by rw [HMX.out]; exact HEX.out)
      have hPl : nxtP N b (gk : Int) L < ms.length := by have := hP.1; rwa [List.length_map, HMX.out] at this
      rw [HMX.out]
      have hnx := HNX.out
      obtain ⟨P, hPP⟩ : ∃ P, nxtP N b (gk : Int) L = P := ⟨_, rfl⟩
      rw [hPP] at hPl hnx ⊢
      have hPx : ms[P].xs = wayAt N a b (j + 1) := ((map_get HMX.out).2 P hPl).trans hnx.symm
      clear hnx
      obtain ⟨s, hs⟩ : ∃ s, ms[P] = s := ⟨_, rfl⟩
      rw [hs] at hPx
      have hsm : s ∈ ms := by rw [← hs]; exact List.getElem_mem hPl
      obtain ⟨sn, so', sl⟩ := HMR.out s hsm
      have hRD2 := HRD.out.lift hb
      obtain ⟨g2, rfl, hg2, hc2⟩ := hRD2.2.2 (by omega)
      obtain ⟨m0, m1⟩ := hc2 P hPl
      rw [hs] at m0 m1
      rw [sn] at m0
      have HSL := Lib.hid ((HLS.out s hsm).frm (Frm.pure hb (fun _ => False)) (fun h => h))
      have HF2 := Lib.hid (HF1.out.trans (Frm.pure hb (fun _ => False)))
      have hz2' := hb.size
      have HNO2 := Lib.hid (HNO.out.frmX HF2.out (fun h => h))
      have HBB2 := Lib.hid (HBB.out.frmX HF2.out (fun h => h))
      have HLE2 := Lib.hid (HLE.out.frm HF2.out (fun h => h))
      have HOW2 := Lib.hid (HOW.out.frmX HF2.out (fun _ _ h => h) (fun _ _ h => h))
      have hPi : (0 : Int) ≤ (P : Int) ∧ (P : Int) < (ms.length : Int) := by omega
      obtain ⟨hP0, hP1⟩ := hPi
      have HYY := Lib.hid hPx
      have hsb : wo.heap.size ≤ s.b := HSL.out.2.1
      obtain ⟨n', Y, AS, cS, bS⟩ := s
      change n' = (N : Int) at sn
      subst sn
      change Y = wayAt N a b (j + 1) at hPx
      unfold RV.slc at m1
      dsimp only at m0 m1 hsb so' sl
      obtain ⟨n0, n1, nf0, nf1, ns⟩ := HNO2.out
      have HN4 := Lib.hid ((HNO2.out.set0 (.int .i64 N)).set1 (.slice AS Y.length cS))
      have HF4 := Lib.hid ((Frm.setCell (S := fun c => c = gn) (p := ⟨gn, 0, none⟩) (Frm.refl _ w2) rfl (.int .i64 N)).setCell (p := ⟨gn, 1, none⟩) rfl (.slice AS Y.length cS))
      clear hb hP hPx hPP hs hRD2 hc2 so' sl
      go_upto_region 10 with fail
      generalize (w2.setCell ⟨gn, 0, none⟩ (.int .i64 N)).setCell ⟨gn, 1, none⟩ (.slice AS Y.length cS) = w3 at *
      have hz3 := HF4.out.size
      have hgns := HNO.out.2.2.2.2
      have hgls := HLE.out.2.2
      have HBB3 := Lib.hid (HBB2.out.frmX HF4.out (show ¬ q + 1 = gn from hne.2.2))
      have HLE3 := Lib.hid (HLE2.out.frm HF4.out (show ¬ gl = gn from fun h => hne.1 h.symm))
      have HOW3 := Lib.hid (HOW2.out.frmX HF4.out HFR.out.1.1 HFR.out.1.2)
      have HSL3 := Lib.hid (HSL.out.frm HF4.out (show ¬ bS = gn by omega))
      have hal := (Below.refl w3.heap.size w3).alloc (Nat.le_refl _) (.cells #[.int .i64 N, .slice AS Y.length cS] 28)
      have HP5 := Lib.hid (Frm.pure hal (fun _ => False))
      have HN5 := Lib.hid (HN4.out.frmX HP5.out (fun h => h))
      have HBB5 := Lib.hid (HBB3.out.frmX HP5.out (fun h => h))
      have HLE5 := Lib.hid (HLE3.out.frm HP5.out (fun h => h))
      have HOW5 := Lib.hid (HOW3.out.frmX HP5.out (fun _ _ h => h) (fun _ _ h => h))
      have HSL5 := Lib.hid ((HSL3.out.frm HP5.out (fun h => h)).mono (show q ≤ wo.heap.size by have := HBB.out.2.2.2.2; omega))
      have HC5 := Lib.hid (Cells2.new w3 (.int .i64 N) (.slice AS Y.length cS) 28)
      have HLT := Lib.hid (show ∀ r' ∈ rs' ++ [r], r'.b < bS from fun r' hr' => by have := (HOW.out.2.1 r' hr').2.2.1; omega)
      have HNB := Lib.hid (show ∀ g, (Value.slice A0 (j + 1) k0).ownBlock = some g → g ≠ bS from fun g hg => by have := (HOW.out.lt g hg).2; omega)
      have HLN := Lib.hid (show (rs' ++ [r]).length ≤ 1048576 by omega)
      have HQS := Lib.hid (show q ≤ (w3.alloc (.cells #[.int .i64 N, .slice AS Y.length cS] 28)).heap.size by have := HBB.out.2.2.2.2; simp; omega)
      have HLR2 := Lib.hid (show (rs' ++ [r] ++ [(⟨N, Y, AS, cS, bS⟩ : RV)]).length = j + 2 by rw [List.length_append, hlr]; rfl)
      clear hal n0 n1 nf0 nf1 m0 m1
      obtain ⟨x0, x1, _, _, _⟩ := HN4.out
      go_wp2_with (at_builtin; refine wpList_append_rh2 rfl (.tmp 32) (.tmp 34) rfl q (.slice A0 (j + 1) k0) (rs' ++ [r]) rfl HOW5.out w3.heap.size ⟨N, Y, AS, cS, bS⟩ (by rfl) ⟨HC5.out.1, HC5.out.2.1⟩ HSL5.out HLT.out HNB.out HLN.out HQS.out ?_; intro g' c' w6 hown6 hf6 hat6; rw [HLR2.out] at hown6 ⊢; have HOW6 := Lib.hid hown6; have HF6 := Lib.hid hf6; have HAT6 := Lib.hid hat6; have HN6 := Lib.hid (HN5.out.frmX hf6 (fun h => HFR.out.1.1 gn h rfl)); have HBB6 := Lib.hid (HBB5.out.frmX hf6 (fun h => HFR.out.2.1.1 (q + 1) h rfl)); have HLE6 := Lib.hid (HLE5.out.frm hf6 (fun h => HFR.out.2.2.1 gl h rfl)); have HL7 := Lib.hid (Cell1.new w6 (.int .i64 gk) 3); obtain ⟨l6, _, _⟩ := HLE6.out; obtain ⟨l7, l7f, l7s⟩ := HL7.out; clear hown6 hf6 hat6 x0 x1)
      have hw6 := HF6.out.size
      simp only [World.size_alloc] at hw6
      have HF8 := Lib.hid ((Frm.refl (fun c => c = w6.heap.size) w6).alloc (.cells #[.int .i64 ((gk : Int) - 1)] 3))
      have HOW8 := Lib.hid (HOW6.out.frmX HF8.out (fun k hk => by have := (HOW6.out.lt k hk).2; show ¬ k = w6.heap.size; omega) (fun r' hr' => by have := (HOW6.out.2.1 r' hr').2.2.1; show ¬ r'.b = w6.heap.size; omega))
      have hgo : ∀ g, g < wo.heap.size → FarR (.slice A0 (j + 1) k0) (rs' ++ [r]) g → FarR (.slice (some ⟨g', 0, none⟩) (j + 2) c') (rs' ++ [r] ++ [(⟨N, Y, AS, cS, bS⟩ : RV)]) g := fun g hg h => ⟨fun k hk => by
          have e : g' = k := by simpa [Value.ownBlock] using hk
          subst e
          rcases HAT6.out with h1 | h1
          · exact h.1 g' h1
          · simp only [World.size_alloc] at h1; omega, fun r' hr' => by
          rcases List.mem_append.1 hr' with h1 | h1
          · exact h.2 r' h1
          · rw [List.mem_singleton] at h1; subst h1; show bS ≠ g; omega⟩
      have hqo : q ≤ wo.heap.size := by have := HBB.out.2.2.2.2; omega
      have HBZ := Lib.hid (HBE.out.trans (Frm.below (B := q) ((HF2.out.mono (T := fun c => q ≤ c) (fun c h => h.elim)).trans ((HF4.out.mono (fun c h => by have h : c = gn := h; omega)).trans ((HP5.out.mono (fun c h => h.elim)).trans ((HF6.out.mono (fun c h => (HOW5.out.lt c h).1)).trans (HF8.out.mono (fun c h => by have h : c = w6.heap.size := h; omega)))))) (fun c h => h) hqo))
      go_roundg (gk - 1)
      case measure => omega
      case rel => exact ⟨j + 1, w6.heap.size, rs' ++ [r], ⟨N, Y, AS, cS, bS⟩, by omega, rfl, by
          rw [wayP_succ, ← HKE.out, ← HYY.out]; simp [keyR], HOW8.out, HN6.out.frmX HF8.out (show ¬ gn = w6.heap.size by omega), HBB6.out.frmX HF8.out (show ¬ q + 1 = w6.heap.size by have := HBB6.out.2.2.2.2; omega), by
          rw [show ((gk - 1 : Nat) : Int) = (gk : Int) - 1 by omega]; exact Cell1.new w6 _ _, ⟨hgo gn (by omega) HFR.out.1, hgo (q + 1) HBB.out.2.2.2.2 HFR.out.2.1, ⟨fun k hk => by have := (HOW6.out.lt k hk).2; omega, fun r' hr' => by have := (HOW6.out.2.1 r' hr').2.2.1; omega⟩⟩, by have := HBB.out.2.2.2.2; omega, HBZ.out⟩
    · have hg0 : gk = 0 := by omega
      have hjD : j = D := by omega
      have hgi : ¬ (0 : Int) < (gk : Int) := by omega
      subst hjD
      clear hkey hown hfar hbel kx ox ol of kn n0 n1
      go_wp2_with fail
      go_ret
      exact ⟨_, rs' ++ [r], rfl, HKE.out, by rw [HQ.out]; exact HOW.out, by rw [HQ.out]; exact HBE.out⟩

set_option maxRecDepth 100000 in
set_option maxHeartbeats 1000000 in
theorem impl_WayTo_any (n m : Int) (A B : Option Addr) (ca cb : Nat) (a b : List Int) (w : World) (hn : Fits n) (hm : Fits m) (hA : Ints w w.heap.size A a) (hB : Ints w w.heap.size B b) :
    Calls Try.prog 8 #[.agg #[.int .i64 n, .slice A a.length ca], .agg #[.int .i64 m, .slice B b.length cb]] w (RetRs w (wayV n m a b)) := by
  cases hv : movedB n m a b
  · have HV := Lib.hid (show wayV n m a b = [] by unfold wayV; rw [hv]; rfl)
    rw [HV.out]
    have HS := Lib.hid (fun V h1 h2 => hv ▸ impl_areMoved_any n m A B ca cb a b V hn hm h1 h2)
    clear hv
    have hal0 := (Below.refl w.heap.size w).alloc (Nat.le_refl _) (.cells #[.int .i64 n, .slice A a.length ca] 28)
    have hal1 := hal0.alloc hal0.size (.cells #[.int .i64 m, .slice B b.length cb] 28)
    have HC0 := Lib.hid ((Cells2.new w (.int .i64 n) (.slice A a.length ca) 28).alloc (.cells #[.int .i64 m, .slice B b.length cb] 28))
    have HD0 := Lib.hid (Cells2.new_at (w.alloc (.cells #[.int .i64 n, .slice A a.length ca] 28)) (.int .i64 m) (.slice B b.length cb) 28 (w.heap.size + 1) (by simp))
    have HB0 := Lib.hid hal1
    have HIA := Lib.hid (hA.lift hal1)
    have HIB := Lib.hid (hB.lift hal1)
    clear hA hB hal0 hal1
    obtain ⟨c0, c1, _, _, _⟩ := HC0.out
    obtain ⟨d0, d1, _, _, _⟩ := HD0.out
    go_enter Try.func8, Try.ntmps8
    go_wp2_with fail
    refine (HS.out _ HIA.out HIB.out).mono ?_
    rintro e w1 ⟨rfl, hb⟩
    have HB1 := Lib.hid (HB0.out.trans (hb.mono HB0.out.size))
    clear hb
    go_wp2_with fail
    go_ret
    exact ⟨_, [], rfl, rfl, OwnR.nil _ _, HB1.out⟩
  · obtain ⟨ha, _, hnm, _⟩ := movedB_yes hv
    subst hnm
    obtain ⟨N, rfl⟩ := Int.eq_ofNat_of_zero_le (show 0 ≤ n by have := ha.1; omega)
    have := impl_WayTo_yes N A B ca cb a b w hA hB hv
    unfold wayV
    rw [hv, if_pos rfl, Int.toNat_natCast]
    exact this

end Go.Proofs.Ytjegomgpldpmpaa
