/-
  The search of a partner, by the program.
-/
import Derived.Test.YtjoeglekcnaebaaGreatDoorTkA
import Derived.Test.YtjoeglekcnaebaaGreatDoorTkD
import Derived.Test.YtjoeglekcnaebaaGreatDoorCode
import Derived.Test.YtjoeglekcnaebaaGreatDoorTurn
import Derived.WalkSpells
namespace Go.Proofs.YtjoeglekcnaebaaGreatDoor
open Go.RowKit
set_option linter.unusedVariables false
set_option linter.unusedSimpArgs false

theorem OwnI.newAtI {w : World} {base c : Nat} {A : Option Addr} {L : List Int} (h : OwnI w base (.slice A L.length c) L) (hp : 0 < L.length) : ∃ k, A = some ⟨k, 0, none⟩ ∧ base ≤ k := by
  rcases h.2 with ⟨hv, h0⟩ | ⟨g, cap', cur, hv, hge, _⟩
  · omega
  · injection hv with h1
    exact ⟨g, h1, hge⟩
def RetB (w : World) (AB : Option Addr) (o : Option (List Nat)) (e : Ending) (w' : World) : Prop :=
  (match o with
    | none => e = .returned (.slice none 0 0)
    | some x => ∃ g off c, e = .returned (.slice (some ⟨g, off, none⟩) x.length c) ∧ Ints w' w'.heap.size (some ⟨g, off, none⟩) (x.map Int.ofNat) ∧ (some ⟨g, off, none⟩ = AB ∨ w.heap.size ≤ g)) ∧ Below w.heap.size w w'
def codL (N : Nat) (bs : List Int) : List Int := (List.range N).map fun k => (cdN N bs k : Int)
theorem codL_len (N : Nat) (bs : List Int) : (codL N bs).length = N := by simp [codL]
theorem codL_at (N : Nat) (bs : List Int) {k : Nat} (h : k < N) : (codL N bs).getD k 0 = (cdN N bs k : Int) := by
  unfold codL
  rw [List.getD_eq_getElem?_getD, List.getElem?_eq_getElem (by simpa using h)]
  simp
theorem shl24 (v : Nat) (hv : v ≤ 24) : wrap64 (2 ^ v) = ((2 ^ v : Nat) : Int) := by
  have h2 : (2 : Nat) ^ v ≤ 2 ^ 24 := Nat.pow_le_pow_right (by omega) hv
  rw [show ((2 : Int) ^ v) = ((2 ^ v : Nat) : Int) by simp]
  generalize 2 ^ v = x at h2
  unfold wrap64
  omega
theorem wrap_pred (P : Nat) (h1 : 1 ≤ P) (h2 : P ≤ 16777216) : IntKind.i64.wrap ((P : Int) - 1) = ((P - 1 : Nat) : Int) := by rw [i64w (by omega)]; omega
theorem two24 (v : Nat) (hv : v ≤ 24) : 1 ≤ 2 ^ v ∧ 2 ^ v ≤ 16777216 := ⟨Nat.two_pow_pos v, Nat.le_trans (Nat.pow_le_pow_right (by omega) hv) (by decide)⟩

set_option maxRecDepth 100000 in
set_option maxHeartbeats 16000000 in
theorem impl_partner_any (N : Nat) (bs : List Int) (hok : RhOk N bs) (AC : Option Addr) (cC : Nat) : ∀ (f last : Nat) (pre : List Nat) (AB : Option Addr) (cB : Nat) (w : World), last + 1 + f = N → pre.length ≤ last → (∀ q ∈ pre, q < 24) → Ints w w.heap.size AC (codL N bs) → Ints w w.heap.size AB ((pre ++ [last]).map Int.ofNat) →
    Calls Tryz.prog 58 #[.slice AC N cC, .slice AB (pre ++ [last]).length cB, .int .i64 (mskF N bs (pre ++ [last]))] w (RetB w AB (gS N bs f (pre ++ [last]) (last + 1))) := by
  have hn1 : 1 ≤ N := by have := hok.1; omega
  have hn2 : N ≤ 24 := by have := hok.2.1; omega
  intro f
  induction f using Nat.strongRecOn with
  | ind f ih =>
  intro last pre AB cB w hf hpl hpq hC hB
  obtain ⟨hp1, hp2⟩ := two24 N hn2
  have hsh := shl24 N hn2
  have HIH := Lib.hid (fun f' (hf' : f' < f) last' AB' cB' V h1 (h2 : (pre ++ [last]).length ≤ last') h3 h4 => ih f' hf' last' (pre ++ [last]) AB' cB' V h1 h2 (fun q hq => by
    rcases List.mem_append.1 hq with h | h
    · exact hpq q h
    · rw [List.mem_singleton] at h; omega) h3 h4)
  have HMS := Lib.hid (fun k => mskF_snoc (N := N) (bs := bs) (pre ++ [last]) k)
  have HBL := Lib.hid (show (pre ++ [last]).length = pre.length + 1 by simp)
  have HBT := Lib.hid (show ((pre ++ [last]).map Int.ofNat).getD pre.length 0 = (last : Int) by
    rw [List.map_append, List.getD_eq_getElem?_getD, List.getElem?_append_right (by simp)]
    simp)
  have hml := mskF_lt hok (pre ++ [last])
  have HMC := Lib.hid (show cplB N bs (pre ++ [last]) = decide (mskF N bs (pre ++ [last]) = 2 ^ N - 1) from rfl)
  have HCL := Lib.hid (fun k => cdN_lt hok k)
  have HDJ := Lib.hid (fun k => show djB N bs (pre ++ [last]) k = decide (cdN N bs k &&& mskF N bs (pre ++ [last]) = 0) from rfl)
  have HP0 := Lib.hid (show posN N bs (pre ++ [last]) (last + 1) 0 = mskF N bs (pre ++ [last]) from rfl)
  have HPS := Lib.hid (fun m => show posN N bs (pre ++ [last]) (last + 1) (m + 1) = if djB N bs (pre ++ [last]) (last + 1 + m) then posN N bs (pre ++ [last]) (last + 1) m ||| cdN N bs (last + 1 + m) else posN N bs (pre ++ [last]) (last + 1) m from rfl)
  have HPL := Lib.hid (fun m => posN_lt hok (pre ++ [last]) (last + 1) m)
  have HPR := Lib.hid (fun m (h : posN N bs (pre ++ [last]) (last + 1) m ≠ 2 ^ N - 1) => gS_prune hok h)
  have HGD := Lib.hid (fun m p (h : cplB N bs (pre ++ [last]) = true) => gS_done (m := m) (p := p) h)
  have HGE := Lib.hid (fun p (h : cplB N bs (pre ++ [last]) = false) => gS_end (p := p) h)
  have HGN := Lib.hid (fun m p (h : cplB N bs (pre ++ [last]) = false) (h2 : djB N bs (pre ++ [last]) p = false) => gS_no (m := m) h h2)
  have HGY := Lib.hid (fun m p (h : cplB N bs (pre ++ [last]) = false) (h2 : djB N bs (pre ++ [last]) p = true) => gS_yes (m := m) h h2)
  have HQ0 := Lib.hid (fun q (hq : q ∈ pre ++ [last]) => show q < 24 by
    rcases List.mem_append.1 hq with h | h
    · exact hpq q h
    · rw [List.mem_singleton] at h; omega)
  clear ih hpq
  generalize pre ++ [last] = b at *
  obtain ⟨bC, oC, hAC, hbC, hcC⟩ := hC.2.2 (by rw [codL_len]; omega)
  obtain ⟨bB, oB, hAB, hbB, hcB⟩ := hB.2.2 (by rw [List.length_map, HBL.out]; omega)
  subst hAC hAB
  have HCC := Lib.hid (fun k (hk : k < N) => show w.cell? ⟨bC, oC + k, none⟩ = some (.int .i64 (cdN N bs k : Nat)) by rw [hcC k (by rw [codL_len]; exact hk), codL_at N bs hk])
  have HBC := Lib.hid (show w.cell? ⟨bB, oB + pre.length, none⟩ = some (.int .i64 (last : Nat)) by rw [hcB _ (by rw [List.length_map, HBL.out]; omega), HBT.out])
  have HC := Lib.hid hC
  have HB := Lib.hid hB
  have HCN := Lib.hid (fun V h => show Calls Tryz.prog 77 #[.slice (some ⟨bB, oB, none⟩) b.length cB] V fun e w' => ∃ v, e = .returned v ∧ OwnI w' V.heap.size v (b.map Int.ofNat) ∧ Below V.heap.size V w' by
    have := clone_ints (some ⟨bB, oB, none⟩) cB (b.map Int.ofNat) V h (by rw [List.length_map, HBL.out]; omega)
    rwa [List.length_map] at this)
  clear hC hB hcC hcB
  obtain ⟨T, hT⟩ : ∃ T, mskF N bs b = T := ⟨_, rfl⟩
  rw [hT] at hml HMC HMS HDJ HP0 ⊢
  obtain ⟨P, hP⟩ : ∃ P, 2 ^ N = P := ⟨_, rfl⟩
  rw [hP] at hp1 hp2 hsh hml HMC HPR
  have HPP := Lib.hid hP
  have HLT := Lib.hid (fun (x : Nat) (h : x < 2 ^ N) => show x < 16777216 from Nat.lt_of_lt_of_le (hP ▸ h) hp2)
  have HWF := Lib.hid (wrap_pred P hp1 hp2)
  have hTP : T < 16777216 := Nat.lt_of_lt_of_le hml hp2
  have HSH := Lib.hid hsh
  clear hT hP hsh hp2
  have hNn : (0 : Int) ≤ (N : Int) := Int.natCast_nonneg _
  cases hcp : cplB N bs b
  rotate_left
  · have hq : ((T : Int) == ((P - 1 : Nat) : Int)) = true := by
      have h1 := HMC.out
      rw [hcp] at h1
      have h2 := of_decide_eq_true h1.symm
      rw [beq_iff_eq]; omega
    have HGV := Lib.hid (HGD.out f (last + 1) hcp)
    have hsh := HSH.out
    have hwF := HWF.out
    go_enter Tryz.func58, Tryz.ntmps58
    go_wp2_with fail
    go_ret
    rw [HGV.out]
    exact ⟨⟨bB, oB, cB, rfl, HB.out, .inl rfl⟩, Below.refl _ _⟩
  have hq : ((T : Int) == ((P - 1 : Nat) : Int)) = false := by
    have h1 := HMC.out
    rw [hcp] at h1
    have h2 := of_decide_eq_false h1.symm
    rw [beq_eq_false_iff_ne]; omega
  have HCP := Lib.hid hcp
  have hbc := HBC.out
  have hbl := HBL.out
  have hw1 : IntKind.i64.wrap ((b.length : Int) - 1) = (pre.length : Int) := by rw [i64w (by omega)]; omega
  have hi0 : (0 : Int) ≤ (pre.length : Int) := Int.natCast_nonneg _
  have hi1 : (pre.length : Int) < (b.length : Int) := by omega
  have hw2 : IntKind.i64.wrap ((last : Int) + 1) = ((last + 1 : Nat) : Int) := by rw [i64w (by omega)]; omega
  have HBL2 := Lib.hid hbl
  clear hcp hbl
  have hsh := HSH.out
  have hwF := HWF.out
  go_enter Tryz.func58, Tryz.ntmps58
  go_wp2_with fail
  clear hsh hwF hw1 hw2 hi0 hi1 hbc
  have HQ := Lib.hid hq
  clear hq
  go_loop [9, 10] (fun q i => ∃ m : Nat, m ≤ f ∧ i = .int .i64 ((last + 1 + m : Nat) : Int) ∧ q = .int .i64 (posN N bs b (last + 1) m)) (fun _ i => N - (intOf i).toNat)
  case atStart => exact ⟨0, Nat.zero_le _, by simp, by rw [HP0.out]⟩
  case round =>
    obtain ⟨m, hm, rfl, rfl⟩ := hrel
    have hps := HPS.out m
    have hpl := HLT.out _ (HPL.out m)
    by_cases hlt : m < f
    · obtain ⟨k, hk⟩ : ∃ k, last + 1 + m = k := ⟨_, rfl⟩
      have hcc := HCC.out k (by omega)
      have hcl := HLT.out _ (HCL.out k)
      have hdj := HDJ.out k
      rw [hk] at hps ⊢
      have hki : (k : Int) < (N : Int) := by omega
      have hk0 : (0 : Int) ≤ (k : Int) := Int.natCast_nonneg _
      have hw3 : IntKind.i64.wrap ((k : Int) + 1) = ((k + 1 : Nat) : Int) := by rw [i64w (by omega)]; omega
      have HK := Lib.hid hk
      clear hk
      obtain ⟨c, hc⟩ : ∃ c, cdN N bs k = c := ⟨_, rfl⟩
      rw [hc] at hcc hcl hdj hps
      clear hc
      have hand := i64_and_nat c T (by omega) (by omega)
      obtain ⟨u, hu⟩ : ∃ u, c &&& T = u := ⟨_, rfl⟩
      rw [hu] at hand hdj
      clear hu
      cases hd : djB N bs b k
      · rw [hd] at hdj hps
        have hu0 : ((u : Int) == 0) = false := by
          have := of_decide_eq_false hdj.symm
          rw [beq_eq_false_iff_ne]; omega
        have HS := Lib.hid hps
        clear hdj hps hd
        go_wp2_with fail
        go_round
        case rel => exact ⟨m + 1, by omega, by rw [← HK.out]; go_num, by rw [HS.out]; rfl⟩
        case measure => simp [intOf]; omega
      · rw [hd] at hdj hps
        have hu0 : u = 0 := of_decide_eq_true hdj.symm
        subst hu0
        have hor := i64_or_nat (posN N bs b (last + 1) m) c (by omega) (by omega)
        have HS := Lib.hid hps
        clear hdj hps hd
        generalize posN N bs b (last + 1) m = Q at *
        obtain ⟨R, hR⟩ : ∃ R, Q ||| c = R := ⟨_, rfl⟩
        rw [hR] at hor
        have HR := Lib.hid hR
        clear hR
        go_wp2_with fail
        go_round
        case rel => exact ⟨m + 1, by omega, by rw [← HK.out]; go_num, by rw [HS.out, if_pos rfl, HR.out]⟩
        case measure => simp [intOf]; omega
    · have hme : m = f := by omega
      subst hme
      have hki : ¬ ((last + 1 + m : Nat) : Int) < (N : Int) := by omega
      by_cases hpe : posN N bs b (last + 1) m = P - 1
      rotate_left
      · have hpi : ((posN N bs b (last + 1) m : Nat) : Int) ≠ ((P - 1 : Nat) : Int) := by omega
        have HGV := Lib.hid (HPR.out m hpe)
        have hpb : (((posN N bs b (last + 1) m : Nat) : Int) != ((P - 1 : Nat) : Int)) = true := bne_iff_ne.2 hpi
        have hpb2 : (((posN N bs b (last + 1) m : Nat) : Int) == ((P - 1 : Nat) : Int)) = false := beq_eq_false_iff_ne.2 hpi
        clear hps hpi hpe
        generalize posN N bs b (last + 1) m = Q at *
        go_wp2_with fail
        go_ret
        rw [HGV.out]
        exact ⟨rfl, Below.refl _ _⟩
      rw [hpe]
      have hbc := HBC.out
      have hw1 : IntKind.i64.wrap ((b.length : Int) - 1) = (pre.length : Int) := by rw [HBL2.out, i64w (by omega)]; omega
      have hi0 : (0 : Int) ≤ (pre.length : Int) := Int.natCast_nonneg _
      have hi1 : (pre.length : Int) < (b.length : Int) := by rw [HBL2.out]; omega
      have hw2 : IntKind.i64.wrap ((last : Int) + 1) = ((last + 1 : Nat) : Int) := by rw [i64w (by omega)]; omega
      clear hps hpl hpe
      go_wp2_with fail
      clear hw1 hi0 hi1 hw2 hbc
      go_loopw [11] (fun i wr => ∃ k : Nat, last + 1 ≤ k ∧ k ≤ N ∧ i = .int .i64 (k : Nat) ∧ gS N bs m b (last + 1) = gS N bs (N - k) b k ∧ Below w.heap.size w wr) (fun i _ => N - (intOf i).toNat)
      case atStart => exact ⟨last + 1, Nat.le_refl _, by omega, by simp, by rw [show N - (last + 1) = m by omega], Below.refl _ _⟩
      case round =>
        obtain ⟨k, hk1, hk2, rfl, hgs, hbel⟩ := hrel
        obtain ⟨wo, rfl⟩ : ∃ wo : World, wo = wr := ⟨_, rfl⟩
        have HGS := Lib.hid hgs
        have HBO := Lib.hid hbel
        have hws := hbel.size
        clear hgs
        by_cases hlt2 : k < N
        · have hcc := (hbel.cell (p := ⟨bC, oC + k, none⟩) hbC).trans (HCC.out k hlt2)
          have hcl := HLT.out _ (HCL.out k)
          have hdj := HDJ.out k
          have hki : (k : Int) < (N : Int) := by omega
          have hk0 : (0 : Int) ≤ (k : Int) := Int.natCast_nonneg _
          have hw3 : IntKind.i64.wrap ((k : Int) + 1) = ((k + 1 : Nat) : Int) := by rw [i64w (by omega)]; omega
          have HMK := Lib.hid (HMS.out k)
          obtain ⟨c, hc⟩ : ∃ c, cdN N bs k = c := ⟨_, rfl⟩
          rw [hc] at hcc hcl hdj HMK
          clear hc
          have hand := i64_and_nat c T (by omega) (by omega)
          have hor := i64_or_nat T c (by omega) (by omega)
          obtain ⟨u, hu⟩ : ∃ u, c &&& T = u := ⟨_, rfl⟩
          rw [hu] at hand hdj
          clear hu
          obtain ⟨R, hR⟩ : ∃ R, T ||| c = R := ⟨_, rfl⟩
          rw [hR] at hor HMK
          clear hR hbel
          cases hd : djB N bs b k
          · rw [hd] at hdj
            have hu0 : ((u : Int) == 0) = false := by
              have := of_decide_eq_false hdj.symm
              rw [beq_eq_false_iff_ne]; omega
            have HG2 := Lib.hid (HGN.out (N - (k + 1)) k HCP.out hd)
            clear hdj hd
            go_wp2_with fail
            go_roundw
            case rel => exact ⟨k + 1, by omega, by omega, by go_num, by rw [HGS.out, show N - k = N - (k + 1) + 1 by omega, HG2.out], HBO.out⟩
            case measure => simp [intOf]; omega
          · rw [hd] at hdj
            have hu0 : u = 0 := of_decide_eq_true hdj.symm
            subst hu0
            have HG2 := Lib.hid (HGY.out (N - (k + 1)) k HCP.out hd)
            have HQB := Lib.hid (fun q (hq : q ∈ b ++ [k]) => show q < 24 by
              rcases List.mem_append.1 hq with h | h
              · exact HQ0.out q h
              · rw [List.mem_singleton] at h; omega)
            have HIJ := Lib.hid (fun AB' cB' V h3 h4 => HIH.out (N - (k + 1)) (by omega) k AB' cB' V (by omega) (by rw [HBL2.out]; omega) h3 h4)
            rw [HMK.out, show (b ++ [k]).length = b.length + 1 by simp] at HIJ
            clear hdj hd
            go_wp2_with fail
            have HBW := Lib.hid (Below.refl wo.heap.size wo.drew)
            have HCK := Lib.hid hcc
            (refine wp_region_held_drew (S := (fun w' => w'.cell? ⟨bC, oC + k, none⟩ = some (.int .i64 c))) (by kernel_rfl) ?_ (fun hHeld => ?_); (focus ((try dsimp only); exact hcc)))
            ((refine wpAnyH_take (i := 0) (v := ?_) rfl (by kernel_rfl) (by kernel_rfl) (by kernel_rfl) (fun _ _ _ h => h) (Or.inl ⟨by rfl, ?_⟩) (by assumption) ?_; rotate_left; (focus (intro wS hSw; (try dsimp only at hSw); go_simp; (try with_reducible rfl))); (try simp only [Act.put, List.getElem_toArray, List.getElem_cons_zero, List.getElem_cons_succ, List.setIfInBounds_toArray, List.set_cons_zero, List.set_cons_succ])); (refine wpAnyH_take (i := 1) (v := ?_) rfl (by kernel_rfl) (by kernel_rfl) (by kernel_rfl) (fun _ _ _ h => h) (Or.inl ⟨by rfl, ?_⟩) (by assumption) ?_; rotate_left; (focus (intro wS hSw; (try dsimp only at hSw); go_simp; (try with_reducible rfl))); (try simp only [Act.put, List.getElem_toArray, List.getElem_cons_zero, List.getElem_cons_succ, List.setIfInBounds_toArray, List.set_cons_zero, List.set_cons_succ])); (refine wpAnyH_take (i := 3) (v := ?_) rfl (by kernel_rfl) (by kernel_rfl) (by kernel_rfl) (fun _ _ _ h => h) (Or.inl ⟨by rfl, ?_⟩) (by assumption) ?_; rotate_left; (focus (intro wS hSw; (try dsimp only at hSw); go_simp; (try with_reducible rfl))); (try simp only [Act.put, List.getElem_toArray, List.getElem_cons_zero, List.getElem_cons_succ, List.setIfInBounds_toArray, List.set_cons_zero, List.set_cons_succ])); (refine wpAnyH_take (i := 6) (v := ?_) rfl (by kernel_rfl) (by kernel_rfl) (by kernel_rfl) (fun _ _ _ h => h) (Or.inl ⟨by rfl, ?_⟩) (by assumption) ?_; rotate_left; (focus (intro wS hSw; (try dsimp only at hSw); go_simp; (try with_reducible rfl))); (try simp only [Act.put, List.getElem_toArray, List.getElem_cons_zero, List.getElem_cons_succ, List.setIfInBounds_toArray, List.set_cons_zero, List.set_cons_succ])); (refine wpAnyH_take (i := 7) (v := ?_) rfl (by kernel_rfl) (by kernel_rfl) (by kernel_rfl) (fun _ _ _ h => h) (Or.inl ⟨by rfl, ?_⟩) (by assumption) ?_; rotate_left; (focus (intro wS hSw; (try dsimp only at hSw); go_simp; (try with_reducible rfl))); (try simp only [Act.put, List.getElem_toArray, List.getElem_cons_zero, List.getElem_cons_succ, List.setIfInBounds_toArray, List.set_cons_zero, List.set_cons_succ])); (refine wpAnyH_take (i := 8) (v := ?_) rfl (by kernel_rfl) (by kernel_rfl) (by kernel_rfl) (fun _ _ _ h => h) (Or.inl ⟨by rfl, ?_⟩) (by assumption) ?_; rotate_left; (focus (intro wS hSw; (try dsimp only at hSw); go_simp; (try with_reducible rfl))); (try simp only [Act.put, List.getElem_toArray, List.getElem_cons_zero, List.getElem_cons_succ, List.setIfInBounds_toArray, List.set_cons_zero, List.set_cons_succ])); (refine wpAnyH_take (i := 9) (v := ?_) rfl (by kernel_rfl) (by kernel_rfl) (by kernel_rfl) (fun _ _ _ h => h) (Or.inl ⟨by rfl, ?_⟩) (by assumption) ?_; rotate_left; (focus (intro wS hSw; (try dsimp only at hSw); go_simp; (try with_reducible rfl))); (try simp only [Act.put, List.getElem_toArray, List.getElem_cons_zero, List.getElem_cons_succ, List.setIfInBounds_toArray, List.set_cons_zero, List.set_cons_succ])); (refine wpAnyH_take (i := 10) (v := ?_) rfl (by kernel_rfl) (by kernel_rfl) (by kernel_rfl) (fun _ _ _ h => h) (Or.inl ⟨by rfl, ?_⟩) (by assumption) ?_; rotate_left; (focus (intro wS hSw; (try dsimp only at hSw); go_simp; (try with_reducible rfl))); (try simp only [Act.put, List.getElem_toArray, List.getElem_cons_zero, List.getElem_cons_succ, List.setIfInBounds_toArray, List.set_cons_zero, List.set_cons_succ])); (refine wpAnyH_take (i := 11) (v := ?_) rfl (by kernel_rfl) (by kernel_rfl) (by kernel_rfl) (fun _ _ _ h => h) (Or.inl ⟨by rfl, ?_⟩) (by assumption) ?_; rotate_left; (focus (intro wS hSw; (try dsimp only at hSw); go_simp; (try with_reducible rfl))); (try simp only [Act.put, List.getElem_toArray, List.getElem_cons_zero, List.getElem_cons_succ, List.setIfInBounds_toArray, List.set_cons_zero, List.set_cons_succ])))
            refine wpAnyH_ready (rs := [2, 4]) (by kernel_rfl) (by simp) ?_
            refine AllReadyH.cons rfl (fun K hK => ?_) (AllReadyH.cons rfl (fun K hK => ?_) AllReadyH.nil)
            · as_aux_lemma =>
              go_simp
              go_at_call 77
              refine (HCN.out wo.drew (show Ints wo.drew wo.drew.heap.size _ _ from (HB.out.below HBO.out).mono hws)).mono ?_
              rintro e w2 ⟨v2, rfl, hown2, hb2⟩
              obtain ⟨A2, c2, rfl⟩ := hown2.form
              have HO2 := Lib.hid hown2
              have HBW := Lib.hid (HBW.out.trans hb2)
              rw [List.length_map]
              clear hown2 hb2
              go_wp2_with fail
              (refine hK.out _ _ ?_ (fun hHeld2 => ?_); (focus ((try dsimp only); exact (HBW.out.cell (p := ⟨bC, oC + k, none⟩) (Nat.lt_of_lt_of_le hbC hws)).trans HCK.out)); (clear hK K); (try simp only [Act.put, List.getElem_toArray, List.getElem_cons_zero, List.getElem_cons_succ, List.setIfInBounds_toArray, List.set_cons_zero, List.set_cons_succ]))
              (refine wpAnyH_ready (rs := [4]) (by kernel_rfl) (by simp) ?_; refine AllReadyH.cons rfl (fun K hK => ?_) AllReadyH.nil; go_simp)
              have HOI := Lib.hid (show OwnI (w2.alloc (.cells #[.int .i64 k] 3)) wo.heap.size (.slice A2 (b.map Int.ofNat).length c2) (b.map Int.ofNat) from HO2.out.alloc _)
              have HKC := Lib.hid (cell_new1 w2 (.int .i64 k) 3)
              have HBW := Lib.hid (HBW.out.alloc HBW.out.size (.cells #[.int .i64 k] 3))
              (refine hK.out _ _ ?_ (fun hHeld2 => ?_); (focus ((try dsimp only); exact (HBW.out.cell (p := ⟨bC, oC + k, none⟩) (Nat.lt_of_lt_of_le hbC hws)).trans HCK.out)); (clear hK K); (try simp only [Act.put, List.getElem_toArray, List.getElem_cons_zero, List.getElem_cons_succ, List.setIfInBounds_toArray, List.set_cons_zero, List.set_cons_succ]))
              generalize w2.alloc (.cells #[.int .i64 k] 3) = w3 at *
              refine wpAnyH_ready (rs := [5]) (by kernel_rfl) (by simp) ?_
              refine AllReadyH.cons rfl (fun K hK => ?_) AllReadyH.nil
              refine step_append_int (by rfl) _ _ (by rfl) wo.heap.size _ (b.map Int.ofNat) (by rw [List.length_map]; rfl) HOI.out _ (k : Int) (by rfl) HKC.out (by rw [List.length_map, HBL2.out]; omega) HBW.out.size ?_
              intro v4 w4 hown4 hb4
              have hown5 : OwnI w4 wo.heap.size v4 ((b ++ [k]).map Int.ofNat) := by rw [List.map_append]; exact hown4
              obtain ⟨A4, c4, rfl⟩ := hown5.form
              obtain ⟨k4, hk4, hk4l⟩ := hown5.newAtI (by simp)
              have HK4 := Lib.hid (show A4 = some ⟨k4, 0, none⟩ ∧ w.heap.size ≤ k4 from ⟨hk4, Nat.le_trans hws hk4l⟩)
              clear hk4 hk4l
              have HB4 := Lib.hid (HBW.out.trans hb4)
              have HI4 := Lib.hid (hown5.ints (fun x hx => by
                rw [List.mem_map] at hx
                obtain ⟨q, hq, rfl⟩ := hx
                have h24 := HQB.out q hq
                show Fits (q : Int)
                unfold Fits; omega))
              have HC4 := Lib.hid ((HC.out.below ((Below.drewH_ HBO.out).trans (HB4.out.mono hws))).mono (show w.heap.size ≤ w4.heap.size from Nat.le_trans hws HB4.out.size))
              rw [List.length_map]
              clear hown4 hown5 hb4
              (try simp only [Act.put, List.getElem_toArray, List.getElem_cons_zero, List.getElem_cons_succ, List.setIfInBounds_toArray, List.set_cons_zero, List.set_cons_succ])
              (refine hK.out _ _ ?_ (fun hHeld2 => ?_); (focus ((try dsimp only); exact (HB4.out.cell (p := ⟨bC, oC + k, none⟩) (Nat.lt_of_lt_of_le hbC hws)).trans HCK.out)); (clear hK K); (try simp only [Act.put, List.getElem_toArray, List.getElem_cons_zero, List.getElem_cons_succ, List.setIfInBounds_toArray, List.set_cons_zero, List.set_cons_succ]))
              (refine wpAnyH_ready (rs := [12]) (by kernel_rfl) (by simp) ?_; refine AllReadyH.cons rfl (fun K hK => ?_) AllReadyH.nil; go_simp)
              go_at_call 58
              refine (HIJ.out A4 c4 _ HC4.out HI4.out).mono ?_
              intro e w5 hR
              obtain ⟨h1, hb5⟩ := hR
              have HB5 := Lib.hid (HB4.out.trans (hb5.mono HB4.out.size))
              cases he : gS N bs (N - (k + 1)) (b ++ [k]) (k + 1) with
              | none =>
                rw [he] at h1
                obtain rfl : e = .returned (.slice none 0 0) := h1
                have hg2 := HG2.out
                rw [he] at hg2
                have HG3 := Lib.hid (show gS N bs (N - (k + 1) + 1) b k = gS N bs (N - (k + 1)) b (k + 1) from hg2)
                clear hg2 he hb5
                go_wp2_with fail
                (refine hK.out _ _ ?_ (fun hHeld2 => ?_); (focus ((try dsimp only); exact (HB5.out.cell (p := ⟨bC, oC + k, none⟩) (Nat.lt_of_lt_of_le hbC hws)).trans HCK.out)); (clear hK K); (try simp only [Act.put, List.getElem_toArray, List.getElem_cons_zero, List.getElem_cons_succ, List.setIfInBounds_toArray, List.set_cons_zero, List.set_cons_succ]))
                (refine wpAnyH_take (i := 13) (v := ?_) rfl (by kernel_rfl) (by kernel_rfl) (by kernel_rfl) (fun _ _ _ h => h) (Or.inl ⟨by rfl, ?_⟩) (by assumption) ?_; rotate_left; (focus (intro wS hSw; (try dsimp only at hSw); go_simp; (try with_reducible rfl))); (try simp only [Act.put, List.getElem_toArray, List.getElem_cons_zero, List.getElem_cons_succ, List.setIfInBounds_toArray, List.set_cons_zero, List.set_cons_succ]))
                refine wpAnyH_done (by kernel_rfl) ?_ _
                have hnn : ∀ V : World, (binOp .neq 22 (.slice none 0 0) (.slice none 0 0)).run Tryz.prog V = .ok (.bool false) V := fun V => run_neq_slice_nil_any V _ _ none 0 0 0 0 Tryz.underlying22
                go_wp2_with fail
                go_roundw
                case rel => exact ⟨k + 1, by omega, by omega, by go_num, by rw [HGS.out, show N - k = N - (k + 1) + 1 by omega, HG3.out], (Below.drewH_ HBO.out).trans (HB5.out.mono hws)⟩
                case measure => simp [intOf]; omega
              | some x =>
                rw [he] at h1
                have h1' : ∃ g off c, e = .returned (.slice (some ⟨g, off, none⟩) x.length c) ∧ Ints w5 w5.heap.size (some ⟨g, off, none⟩) (x.map Int.ofNat) ∧ (some ⟨g, off, none⟩ = A4 ∨ w4.heap.size ≤ g) := h1
                obtain ⟨g5, o5, c5, rfl, hi5, hat⟩ := h1'
                have HAT := Lib.hid (show w.heap.size ≤ g5 from hat.elim (fun h => by rw [HK4.out.1] at h; injection h with h; injection h with h h2; have := HK4.out.2; omega) (fun h => Nat.le_trans hws (Nat.le_trans (show wo.heap.size ≤ w4.heap.size from HB4.out.size) h)))
                clear hat
                have hg2 := HG2.out
                rw [he] at hg2
                have HG3 := Lib.hid (show gS N bs (N - (k + 1) + 1) b k = some x from hg2)
                have HI5 := Lib.hid hi5
                clear hg2 he h1 hb5 hi5
                go_wp2_with fail
                (refine hK.out _ _ ?_ (fun hHeld2 => ?_); (focus ((try dsimp only); exact (HB5.out.cell (p := ⟨bC, oC + k, none⟩) (Nat.lt_of_lt_of_le hbC hws)).trans HCK.out)); (clear hK K); (try simp only [Act.put, List.getElem_toArray, List.getElem_cons_zero, List.getElem_cons_succ, List.setIfInBounds_toArray, List.set_cons_zero, List.set_cons_succ]))
                (refine wpAnyH_take (i := 13) (v := ?_) rfl (by kernel_rfl) (by kernel_rfl) (by kernel_rfl) (fun _ _ _ h => h) (Or.inl ⟨by rfl, ?_⟩) (by assumption) ?_; rotate_left; (focus (intro wS hSw; (try dsimp only at hSw); go_simp; (try with_reducible rfl))); (try simp only [Act.put, List.getElem_toArray, List.getElem_cons_zero, List.getElem_cons_succ, List.setIfInBounds_toArray, List.set_cons_zero, List.set_cons_succ]))
                refine wpAnyH_done (by kernel_rfl) ?_ _
                have hnn : ∀ (V : World) a l c, (binOp .neq 22 (.slice (some a) l c) (.slice none 0 0)).run Tryz.prog V = .ok (.bool true) V := fun V a l c => run_neq_slice_nil_any V _ _ (some a) l c 0 0 Tryz.underlying22
                go_wp2_with fail
                go_ret
                rw [HGS.out, show N - k = N - (k + 1) + 1 by omega, HG3.out]
                exact ⟨⟨g5, o5, c5, rfl, HI5.out, .inr HAT.out⟩, (Below.drewH_ HBO.out).trans (HB5.out.mono hws)⟩
            · as_aux_lemma =>
              go_simp
              have HKC0 := Lib.hid (show (wo.alloc (.cells #[.int .i64 k] 3)).drew.cell? ⟨wo.heap.size, 0, none⟩ = some (.int .i64 k) from cell_new1 wo (.int .i64 k) 3)
              have HBW := Lib.hid (show Below wo.heap.size wo.drew (wo.alloc (.cells #[.int .i64 k] 3)).drew from HBW.out.alloc HBW.out.size (.cells #[.int .i64 k] 3))
              have hgl : wo.heap.size < (wo.alloc (.cells #[.int .i64 k] 3)).drew.heap.size := by show wo.heap.size < (wo.alloc _).heap.size; simp
              (refine hK.out _ _ ?_ (fun hHeld2 => ?_); (focus ((try dsimp only); exact (HBW.out.cell (p := ⟨bC, oC + k, none⟩) (Nat.lt_of_lt_of_le hbC hws)).trans HCK.out)); (clear hK K); (try simp only [Act.put, List.getElem_toArray, List.getElem_cons_zero, List.getElem_cons_succ, List.setIfInBounds_toArray, List.set_cons_zero, List.set_cons_succ]))
              generalize (wo.alloc (.cells #[.int .i64 k] 3)).drew = w2 at *
              (refine wpAnyH_ready (rs := [2]) (by kernel_rfl) (by simp) ?_; refine AllReadyH.cons rfl (fun K hK => ?_) AllReadyH.nil; go_simp)
              go_at_call 77
              refine (HCN.out _ ((HB.out.below ((Below.drewH_ HBO.out).trans (HBW.out.mono hws))).mono (by have := HBW.out.size; have h9 : wo.drew.heap.size = wo.heap.size := rfl; omega))).mono ?_
              rintro e w3 ⟨v2, rfl, hown2, hb2⟩
              obtain ⟨A2, c2, rfl⟩ := hown2.form
              have HOI := Lib.hid (show OwnI w3 wo.heap.size (.slice A2 (b.map Int.ofNat).length c2) (b.map Int.ofNat) from hown2.monoD (by have := HBW.out.size; have h9 : wo.drew.heap.size = wo.heap.size := rfl; omega))
              have HKC := Lib.hid ((hb2.cell (p := ⟨wo.heap.size, 0, none⟩) hgl).trans HKC0.out)
              have HBW := Lib.hid (HBW.out.trans (hb2.mono HBW.out.size))
              rw [List.length_map]
              clear hown2 hb2
              go_wp2_with fail
              (refine hK.out _ _ ?_ (fun hHeld2 => ?_); (focus ((try dsimp only); exact (HBW.out.cell (p := ⟨bC, oC + k, none⟩) (Nat.lt_of_lt_of_le hbC hws)).trans HCK.out)); (clear hK K); (try simp only [Act.put, List.getElem_toArray, List.getElem_cons_zero, List.getElem_cons_succ, List.setIfInBounds_toArray, List.set_cons_zero, List.set_cons_succ]))
              refine wpAnyH_ready (rs := [5]) (by kernel_rfl) (by simp) ?_
              refine AllReadyH.cons rfl (fun K hK => ?_) AllReadyH.nil
              refine step_append_int (by rfl) _ _ (by rfl) wo.heap.size _ (b.map Int.ofNat) (by rw [List.length_map]; rfl) HOI.out _ (k : Int) (by rfl) HKC.out (by rw [List.length_map, HBL2.out]; omega) HBW.out.size ?_
              intro v4 w4 hown4 hb4
              have hown5 : OwnI w4 wo.heap.size v4 ((b ++ [k]).map Int.ofNat) := by rw [List.map_append]; exact hown4
              obtain ⟨A4, c4, rfl⟩ := hown5.form
              obtain ⟨k4, hk4, hk4l⟩ := hown5.newAtI (by simp)
              have HK4 := Lib.hid (show A4 = some ⟨k4, 0, none⟩ ∧ w.heap.size ≤ k4 from ⟨hk4, Nat.le_trans hws hk4l⟩)
              clear hk4 hk4l
              have HB4 := Lib.hid (HBW.out.trans hb4)
              have HI4 := Lib.hid (hown5.ints (fun x hx => by
                rw [List.mem_map] at hx
                obtain ⟨q, hq, rfl⟩ := hx
                have h24 := HQB.out q hq
                show Fits (q : Int)
                unfold Fits; omega))
              have HC4 := Lib.hid ((HC.out.below ((Below.drewH_ HBO.out).trans (HB4.out.mono hws))).mono (show w.heap.size ≤ w4.heap.size from Nat.le_trans hws HB4.out.size))
              rw [List.length_map]
              clear hown4 hown5 hb4
              (try simp only [Act.put, List.getElem_toArray, List.getElem_cons_zero, List.getElem_cons_succ, List.setIfInBounds_toArray, List.set_cons_zero, List.set_cons_succ])
              (refine hK.out _ _ ?_ (fun hHeld2 => ?_); (focus ((try dsimp only); exact (HB4.out.cell (p := ⟨bC, oC + k, none⟩) (Nat.lt_of_lt_of_le hbC hws)).trans HCK.out)); (clear hK K); (try simp only [Act.put, List.getElem_toArray, List.getElem_cons_zero, List.getElem_cons_succ, List.setIfInBounds_toArray, List.set_cons_zero, List.set_cons_succ]))
              (refine wpAnyH_ready (rs := [12]) (by kernel_rfl) (by simp) ?_; refine AllReadyH.cons rfl (fun K hK => ?_) AllReadyH.nil; go_simp)
              go_at_call 58
              refine (HIJ.out A4 c4 _ HC4.out HI4.out).mono ?_
              intro e w5 hR
              obtain ⟨h1, hb5⟩ := hR
              have HB5 := Lib.hid (HB4.out.trans (hb5.mono HB4.out.size))
              cases he : gS N bs (N - (k + 1)) (b ++ [k]) (k + 1) with
              | none =>
                rw [he] at h1
                obtain rfl : e = .returned (.slice none 0 0) := h1
                have hg2 := HG2.out
                rw [he] at hg2
                have HG3 := Lib.hid (show gS N bs (N - (k + 1) + 1) b k = gS N bs (N - (k + 1)) b (k + 1) from hg2)
                clear hg2 he hb5
                go_wp2_with fail
                (refine hK.out _ _ ?_ (fun hHeld2 => ?_); (focus ((try dsimp only); exact (HB5.out.cell (p := ⟨bC, oC + k, none⟩) (Nat.lt_of_lt_of_le hbC hws)).trans HCK.out)); (clear hK K); (try simp only [Act.put, List.getElem_toArray, List.getElem_cons_zero, List.getElem_cons_succ, List.setIfInBounds_toArray, List.set_cons_zero, List.set_cons_succ]))
                (refine wpAnyH_take (i := 13) (v := ?_) rfl (by kernel_rfl) (by kernel_rfl) (by kernel_rfl) (fun _ _ _ h => h) (Or.inl ⟨by rfl, ?_⟩) (by assumption) ?_; rotate_left; (focus (intro wS hSw; (try dsimp only at hSw); go_simp; (try with_reducible rfl))); (try simp only [Act.put, List.getElem_toArray, List.getElem_cons_zero, List.getElem_cons_succ, List.setIfInBounds_toArray, List.set_cons_zero, List.set_cons_succ]))
                refine wpAnyH_done (by kernel_rfl) ?_ _
                have hnn : ∀ V : World, (binOp .neq 22 (.slice none 0 0) (.slice none 0 0)).run Tryz.prog V = .ok (.bool false) V := fun V => run_neq_slice_nil_any V _ _ none 0 0 0 0 Tryz.underlying22
                go_wp2_with fail
                go_roundw
                case rel => exact ⟨k + 1, by omega, by omega, by go_num, by rw [HGS.out, show N - k = N - (k + 1) + 1 by omega, HG3.out], (Below.drewH_ HBO.out).trans (HB5.out.mono hws)⟩
                case measure => simp [intOf]; omega
              | some x =>
                rw [he] at h1
                have h1' : ∃ g off c, e = .returned (.slice (some ⟨g, off, none⟩) x.length c) ∧ Ints w5 w5.heap.size (some ⟨g, off, none⟩) (x.map Int.ofNat) ∧ (some ⟨g, off, none⟩ = A4 ∨ w4.heap.size ≤ g) := h1
                obtain ⟨g5, o5, c5, rfl, hi5, hat⟩ := h1'
                have HAT := Lib.hid (show w.heap.size ≤ g5 from hat.elim (fun h => by rw [HK4.out.1] at h; injection h with h; injection h with h h2; have := HK4.out.2; omega) (fun h => Nat.le_trans hws (Nat.le_trans (show wo.heap.size ≤ w4.heap.size from HB4.out.size) h)))
                clear hat
                have hg2 := HG2.out
                rw [he] at hg2
                have HG3 := Lib.hid (show gS N bs (N - (k + 1) + 1) b k = some x from hg2)
                have HI5 := Lib.hid hi5
                clear hg2 he h1 hb5 hi5
                go_wp2_with fail
                (refine hK.out _ _ ?_ (fun hHeld2 => ?_); (focus ((try dsimp only); exact (HB5.out.cell (p := ⟨bC, oC + k, none⟩) (Nat.lt_of_lt_of_le hbC hws)).trans HCK.out)); (clear hK K); (try simp only [Act.put, List.getElem_toArray, List.getElem_cons_zero, List.getElem_cons_succ, List.setIfInBounds_toArray, List.set_cons_zero, List.set_cons_succ]))
                (refine wpAnyH_take (i := 13) (v := ?_) rfl (by kernel_rfl) (by kernel_rfl) (by kernel_rfl) (fun _ _ _ h => h) (Or.inl ⟨by rfl, ?_⟩) (by assumption) ?_; rotate_left; (focus (intro wS hSw; (try dsimp only at hSw); go_simp; (try with_reducible rfl))); (try simp only [Act.put, List.getElem_toArray, List.getElem_cons_zero, List.getElem_cons_succ, List.setIfInBounds_toArray, List.set_cons_zero, List.set_cons_succ]))
                refine wpAnyH_done (by kernel_rfl) ?_ _
                have hnn : ∀ (V : World) a l c, (binOp .neq 22 (.slice (some a) l c) (.slice none 0 0)).run Tryz.prog V = .ok (.bool true) V := fun V a l c => run_neq_slice_nil_any V _ _ (some a) l c 0 0 Tryz.underlying22
                go_wp2_with fail
                go_ret
                rw [HGS.out, show N - k = N - (k + 1) + 1 by omega, HG3.out]
                exact ⟨⟨g5, o5, c5, rfl, HI5.out, .inr HAT.out⟩, (Below.drewH_ HBO.out).trans (HB5.out.mono hws)⟩
        · have hke : k = N := by omega
          subst hke
          have hki : ¬ (k : Int) < (k : Int) := by omega
          have HGV := Lib.hid (show gS k bs m b (last + 1) = none by rw [HGS.out, Nat.sub_self]; exact HGE.out k HCP.out)
          clear hbel
          go_wp2_with fail
          go_ret
          rw [HGV.out]
          exact ⟨rfl, HBO.out⟩

end Go.Proofs.YtjoeglekcnaebaaGreatDoor
