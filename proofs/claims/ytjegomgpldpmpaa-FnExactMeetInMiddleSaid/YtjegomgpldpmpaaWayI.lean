/-
  The way from a rhythm to another one, by the program.
-/
import Derived.Test.YtjegomgpldpmpaaWayA
import Derived.Test.YtjegomgpldpmpaaMovW
import Derived.Test.YtjegomgpldpmpaaTurn
namespace Go.Proofs.Ytjegomgpldpmpaa
open Go.RowKit Go.Shelf Go.Sort
set_option linter.unusedVariables false
set_option linter.unusedSimpArgs false

set_option maxRecDepth 100000 in
set_option maxHeartbeats 1000000 in
theorem impl_WayTo1_any (N : Nat) (A B : Option Addr) (ca cb : Nat) (x b : List Int) (left : Int) (gb gl : Nat) (w : World) (hA : Ints w w.heap.size A x) (hB : Ints w w.heap.size B b) (hx : RhOk N x) (hb : RhOk N b) (hl : x.length = b.length)
    (hgb : Cells2 w gb (.int .i64 N) (.slice B b.length cb)) (hgl : Cell1 w gl (.int .i64 left)) :
    Calls Try.prog 28 #[.agg #[.int .i64 N, .slice A x.length ca], .pointer (some ⟨gb, 0, none⟩), .pointer (some ⟨gl, 0, none⟩)] w fun e w' => e = .returned (.bool (decide (farV N x b < left))) ∧ Below w.heap.size w w' := by
  have hal := (Below.refl w.heap.size w).alloc (Nat.le_refl _) (.cells #[.int .i64 N, .slice A x.length ca] 28)
  have HC := Lib.hid (Cells2.new w (.int .i64 N) (.slice A x.length ca) 28)
  have HG := Lib.hid (hgb.below hal hgb.2.2.2.2)
  have HL := Lib.hid (hgl.frm (Frm.pure hal (fun _ => False)) (fun h => h))
  have HB0 := Lib.hid hal
  have HIA := Lib.hid (hA.lift hal)
  have HIB := Lib.hid (hB.lift hal)
  have HD := Lib.hid (fun V h1 h2 => impl_distance_any N A B ca cb x b V h1 h2 hx hb hl)
  obtain ⟨c0, c1, _, _, _⟩ := HC.out
  obtain ⟨g0, g1, _, _, _⟩ := HG.out
  obtain ⟨l0, _, _⟩ := HL.out
  obtain ⟨F, hF⟩ : ∃ F, farV N x b = F := ⟨_, rfl⟩
  rw [hF] at HD ⊢
  clear hal hgb hgl hA hB hx hb hl hF
  go_enter Try.func28, Try.ntmps28
  go_wp2_with fail
  generalize w.alloc (.cells #[.int .i64 N, .slice A x.length ca] 28) = w0 at *
  (refine wp_region_held_drew (S := (fun w' => w'.cell? ⟨w.heap.size, 0, none⟩ = some (.int .i64 N) ∧ w'.cell? ⟨w.heap.size, 1, none⟩ = some (.slice A x.length ca) ∧ w'.cell? ⟨gb, 0, none⟩ = some (.int .i64 N) ∧ w'.cell? ⟨gb, 1, none⟩ = some (.slice B b.length cb) ∧ w'.cell? ⟨gl, 0, none⟩ = some (.int .i64 left))) (by kernel_rfl) ?_ (fun hHeld => ?_); (focus ((try dsimp only); exact ⟨c0, c1, g0, g1, l0⟩)))
  (refine wpAnyH_take (i := 0) (v := ?_) rfl (by kernel_rfl) (by kernel_rfl) (by kernel_rfl) (fun _ _ _ h => h) (Or.inl ⟨by rfl, ?_⟩) (by assumption) ?_; rotate_left; (focus (intro wS hSw; (try dsimp only at hSw); go_simp; (try with_reducible rfl))); (try simp only [Act.put, List.getElem_toArray, List.getElem_cons_zero, List.getElem_cons_succ, List.setIfInBounds_toArray, List.set_cons_zero, List.set_cons_succ]))
  (refine wpAnyH_take (i := 1) (v := ?_) rfl (by kernel_rfl) (by kernel_rfl) (by kernel_rfl) (fun _ _ _ h => h) (Or.inl ⟨by rfl, ?_⟩) (by assumption) ?_; rotate_left; (focus (intro wS hSw; (try dsimp only at hSw); go_simp; (try with_reducible rfl))); (try simp only [Act.put, List.getElem_toArray, List.getElem_cons_zero, List.getElem_cons_succ, List.setIfInBounds_toArray, List.set_cons_zero, List.set_cons_succ]))
  (refine wpAnyH_take (i := 3) (v := ?_) rfl (by kernel_rfl) (by kernel_rfl) (by kernel_rfl) (fun _ _ _ h => h) (Or.inl ⟨by rfl, ?_⟩) (by assumption) ?_; rotate_left; (focus (intro wS hSw; (try dsimp only at hSw); go_simp; (try with_reducible rfl))); (try simp only [Act.put, List.getElem_toArray, List.getElem_cons_zero, List.getElem_cons_succ, List.setIfInBounds_toArray, List.set_cons_zero, List.set_cons_succ]))
  (refine wpAnyH_ready (rs := [2]) (by kernel_rfl) (by simp) ?_; refine AllReadyH.cons rfl (fun K hK => ?_) AllReadyH.nil; go_simp)
  go_at_call 25
  refine (HD.out _ HIA.out.drew6_ HIB.out.drew6_).mono ?_
  rintro e w1 ⟨rfl, hb⟩
  have HBd := Lib.hid (Below.drew5_ HB0.out)
  have HCd := Lib.hid (show Cells2 w0.drew w.heap.size (.int .i64 N) (.slice A x.length ca) from HC.out)
  have HGd := Lib.hid (show Cells2 w0.drew gb (.int .i64 N) (.slice B b.length cb) from HG.out)
  have HLd := Lib.hid (show Cell1 w0.drew gl (.int .i64 left) from HL.out)
  have HB1 := Lib.hid (HBd.out.trans (hb.mono HBd.out.size))
  obtain ⟨c0', c1', _, _, _⟩ := HCd.out.below hb HCd.out.2.2.2.2
  obtain ⟨g0', g1', _, _, _⟩ := HGd.out.below hb HGd.out.2.2.2.2
  obtain ⟨l0', _, _⟩ := HLd.out.frm (Frm.pure hb (fun _ => False)) (fun h => h)
  clear hb c0 c1 g0 g1 l0
  go_wp2_with fail
  (refine hK.out _ _ ?_ (fun hHeld2 => ?_); (focus ((try dsimp only); exact ⟨c0', c1', g0', g1', l0'⟩)); (clear hK K); (try simp only [Act.put, List.getElem_toArray, List.getElem_cons_zero, List.getElem_cons_succ, List.setIfInBounds_toArray, List.set_cons_zero, List.set_cons_succ]))
  (refine wpAnyH_take (i := 4) (v := ?_) rfl (by kernel_rfl) (by kernel_rfl) (by kernel_rfl) (fun _ _ _ h => h) (Or.inl ⟨by rfl, ?_⟩) (by assumption) ?_; rotate_left; (focus (intro wS hSw; (try dsimp only at hSw); go_simp; (try with_reducible rfl))); (try simp only [Act.put, List.getElem_toArray, List.getElem_cons_zero, List.getElem_cons_succ, List.setIfInBounds_toArray, List.set_cons_zero, List.set_cons_succ]))
  (refine wpAnyH_take (i := 5) (v := ?_) rfl (by kernel_rfl) (by kernel_rfl) (by kernel_rfl) (fun _ _ _ h => h) (Or.inl ⟨by rfl, ?_⟩) (by assumption) ?_; rotate_left; (focus (intro wS hSw; (try dsimp only at hSw); go_simp; (try with_reducible rfl))); (try simp only [Act.put, List.getElem_toArray, List.getElem_cons_zero, List.getElem_cons_succ, List.setIfInBounds_toArray, List.set_cons_zero, List.set_cons_succ]))
  refine wpAnyH_done (by kernel_rfl) ?_ _
  go_wp2_with fail
  go_ret
  exact ⟨rfl, HB1.out⟩

theorem map_get {rs : List RV} {L : List (List Int)} (h : rs.map (fun r => r.xs) = L) : rs.length = L.length ∧ ∀ i (h : i < rs.length), rs[i].xs = L.getD i [] := by
  subst h
  refine ⟨by simp, fun i h => ?_⟩
  rw [List.getD_eq_getElem?_getD, List.getElem?_map, List.getElem?_eq_getElem h]
  rfl

set_option maxRecDepth 100000 in
set_option maxHeartbeats 1000000 in
theorem slices_IndexFuncW_any (N : Nat) (A B : Option Addr) (ca cb : Nat) (rs : List RV) (b : List Int) (left : Int) (gb gl : Nat) (w : World) (hA : RdR w w.heap.size A rs) (hB : Ints w w.heap.size B b)
    (hx : ∀ r ∈ rs, r.n = N ∧ RhOk N r.xs ∧ r.xs.length = b.length) (hb : RhOk N b) (hgb : Cells2 w gb (.int .i64 N) (.slice B b.length cb)) (hgl : Cell1 w gl (.int .i64 left)) (hex : ∃ y ∈ rs.map (fun r => r.xs), farV N y b < left) :
    Calls Try.prog 27 #[.slice A rs.length ca, .func (.func 28) #[] #[.pointer (some ⟨gb, 0, none⟩), .pointer (some ⟨gl, 0, none⟩)]] w fun e w' => e = .returned (.int .i64 (nxtP N b left (rs.map (fun r => r.xs)) : Nat)) ∧ Below w.heap.size w w' := by
  obtain ⟨L, hL⟩ : ∃ L, rs.map (fun r => r.xs) = L := ⟨_, rfl⟩
  obtain ⟨hlen, hget⟩ := map_get hL
  rw [hL] at hex ⊢
  obtain ⟨p1, p2, p3⟩ := nxtP_spec hex
  obtain ⟨P, hP⟩ : ∃ P, nxtP N b left L = P := ⟨_, rfl⟩
  rw [hP] at p1 p2 p3 ⊢
  have hl := hA.1
  have HA := Lib.hid hA
  have HIB := Lib.hid hB
  have HX := Lib.hid hx
  have HOB := Lib.hid hb
  have HGB := Lib.hid hgb
  have HGL := Lib.hid hgl
  have HGT := Lib.hid hget
  have HP2 := Lib.hid p2
  have HP3 := Lib.hid p3
  have hPl : P < rs.length := by omega
  clear hA hB hx hb hgb hgl hex hL hlen hget p2 p3 hP p1
  go_enter Try.func27, Try.ntmps27
  go_wp2
  go_loopw [5, 8] (fun _ i wr => ∃ k : Nat, k ≤ P ∧ i = .int .i64 k ∧ Below w.heap.size w wr) (fun _ i _ => rs.length - (intOf i).toNat)
  case atStart => exact ⟨0, Nat.zero_le _, rfl, Below.refl _ _⟩
  case round =>
    obtain ⟨k, hk, rfl, hbel⟩ := hrel
    obtain ⟨wo, rfl⟩ : ∃ wo : World, wo = wr := ⟨_, rfl⟩
    have HB := Lib.hid hbel
    clear hbel
    have hlt : k < rs.length := by omega
    have hA1 := HA.out.lift HB.out
    obtain ⟨g, rfl, hg, hc⟩ := hA1.2.2 (by omega)
    obtain ⟨r0, r1⟩ := hc k hlt
    have hI := hA1.2.1 _ (List.getElem_mem hlt)
    obtain ⟨e1, e2, e3⟩ := HX.out _ (List.getElem_mem hlt)
    have e4 := HGT.out k hlt
    obtain ⟨r, hr⟩ : ∃ r, rs[k] = r := ⟨_, rfl⟩
    rw [hr] at r0 r1 hI e1 e2 e3 e4
    unfold RV.slc at r1
    rw [e1] at r0
    have hst : k < P → ¬ farV N r.xs b < left := fun h => by rw [e4]; exact Int.not_lt.2 (HP3.out k h)
    have hen : k = P → farV N r.xs b < left := fun h => by rw [e4, h]; exact HP2.out
    have HCL := Lib.hid (fun V h1 h2 h3 h4 => impl_WayTo1_any N r.A B r.c cb r.xs b left gb gl V h1 h2 e2 HOB.out e3 h3 h4)
    have HI := Lib.hid hI
    have HI2 := Lib.hid (HIB.out.lift HB.out)
    have HG2 := Lib.hid (HGB.out.below HB.out HGB.out.2.2.2.2)
    have HL2 := Lib.hid (HGL.out.frm (Frm.pure HB.out (fun _ => False)) (fun h => h))
    generalize r.xs = X at *
    generalize r.A = AX at *
    generalize r.c = cX at *
    clear hr
    have hki : (k : Int) < (rs.length : Int) := by omega
    have hk0 : (0 : Int) ≤ (k : Int) := Int.natCast_nonneg _
    clear hc hA1 hI e1 e2 e3 e4
    by_cases hkP : k = P
    · have hd : decide (farV N X b < left) = true := decide_eq_true (hen hkP)
      rw [hd] at HCL
      have HKP := Lib.hid hkP
      clear hkP hst hen hd
      go_wp2_with (go_at_call 28; refine (HCL.out _ HI.out HI2.out HG2.out HL2.out).mono ?_; rintro e w1 ⟨rfl, hb1⟩)
      go_ret
      exact ⟨ret_int (by rw [HKP.out]), HB.out.trans (hb1.mono HB.out.size)⟩
    · have hd : decide (farV N X b < left) = false := decide_eq_false (hst (by omega))
      rw [hd] at HCL
      clear hst hen hd
      go_wp2_with (go_at_call 28; refine (HCL.out _ HI.out HI2.out HG2.out HL2.out).mono ?_; rintro e w1 ⟨rfl, hb1⟩)
      go_roundw
      case rel => exact ⟨k + 1, by omega, by go_num, HB.out.trans (hb1.mono HB.out.size)⟩
      case measure => simp [intOf]; omega

end Go.Proofs.Ytjegomgpldpmpaa
