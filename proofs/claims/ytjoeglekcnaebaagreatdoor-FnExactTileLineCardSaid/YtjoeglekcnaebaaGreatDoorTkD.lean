/-
  Several texts of this proof in one: TlsA, TlsB, TilY, TilZ, TlsC, TlsD.
-/
import Derived.Test.YtjoeglekcnaebaaGreatDoorTkB
import Derived.Test.YtjoeglekcnaebaaGreatDoorSrok
import Derived.Test.YtjoeglekcnaebaaGreatDoorTkC
namespace Go.Proofs.YtjoeglekcnaebaaGreatDoor
open Go.RowKit
set_option linter.unusedVariables false
set_option linter.unusedSimpArgs false

set_option maxRecDepth 100000 in
set_option maxHeartbeats 1000000 in
theorem spec_l10Trim_any (b off cap : Nat) (f : Nat → Int) (N : Nat) (w : World) (B : Nat) (hA : Ints w B (some ⟨b, off, none⟩) (lstF f N)) (hN : N ≤ 1000) (hcap : N ≤ cap) :
    Calls Tryz.prog 121 #[.slice (some ⟨b, off, none⟩) N cap] w fun e w' => e = .returned (.slice (some ⟨b, off, none⟩) (trimN f N) cap) ∧ w = w' := by
  have HC := Lib.hid (fun i (hi : i < N) => show w.cell? ⟨b, off + i, none⟩ = some (.int .i64 (f i)) by
    obtain ⟨b', off', e, _, hc⟩ := hA.2.2 (by rw [lstF_len]; omega)
    injection e with e
    injection e with e1 e2
    subst e1 e2
    have := hc i (by rw [lstF_len]; exact hi)
    rwa [lstF_at f hi] at this)
  clear hA
  go_enter Tryz.func121, Tryz.ntmps121
  go_wp2_with fail
  go_loop [3] (fun a => ∃ n : Nat, n ≤ N ∧ a = .int .i64 n ∧ trimN f n = trimN f N) (fun a => (intOf a).toNat)
  case atStart => exact ⟨N, Nat.le_refl _, rfl, rfl⟩
  case round =>
    obtain ⟨n, hn, rfl, ht⟩ := hrel
    have HT := Lib.hid ht
    clear ht
    by_cases h0 : 0 < n
    · obtain ⟨m, rfl⟩ : ∃ m, n = m + 1 := ⟨n - 1, by omega⟩
      have hc := HC.out m (by omega)
      have hst : trimN f (m + 1) = if f m = 0 then trimN f m else m + 1 := rfl
      obtain ⟨x, hx⟩ : ∃ x, f m = x := ⟨_, rfl⟩
      rw [hx] at hc hst
      have HS := Lib.hid hst
      have hp : (0 : Int) < ((m + 1 : Nat) : Int) := by omega
      have hw1 : IntKind.i64.wrap (((m + 1 : Nat) : Int) - 1) = (m : Int) := by rw [i64w (by omega)]; omega
      have hm0 : (0 : Int) ≤ (m : Int) := Int.natCast_nonneg _
      have hml : (m : Int) < (N : Int) := by omega
      have hmc : ((m + 1 : Nat) : Int) ≤ (cap : Int) := by omega
      clear hst hx
      by_cases hz : x = 0
      · subst hz
        go_wp2_with fail
        go_round
        case rel => exact ⟨m, by omega, by go_num, by rw [← HT.out, HS.out, if_pos rfl]⟩
        case measure => simp [intOf]
      · have hze : (x == 0) = false := beq_eq_false_iff_ne.2 hz
        have HV := Lib.hid (show trimN f N = m + 1 by rw [← HT.out, HS.out, if_neg hz])
        go_wp2_with fail
        go_ret
        exact ⟨by rw [HV.out]; rfl, rfl⟩
    · have hn0 : n = 0 := by omega
      subst hn0
      have hmc : (0 : Int) ≤ (cap : Int) := by omega
      have HV := Lib.hid (show trimN f N = 0 from HT.out.symm)
      go_wp2_with fail
      go_ret
      exact ⟨by rw [HV.out]; rfl, rfl⟩

set_option maxRecDepth 100000 in
set_option maxHeartbeats 1000000 in
theorem spec_l10Trim_none (w : World) :
    Calls Tryz.prog 121 #[.slice none 0 0] w fun e w' => e = .returned (.slice none 0 0) ∧ w = w' := by
  go_enter Tryz.func121, Tryz.ntmps121
  go_wp2_with fail
  go_loop [3] (fun a => a = .int .i64 0) (fun _ => 0)
  case atStart => exact rfl
  case round =>
    obtain rfl := hrel
    go_wp2_with fail
    go_ret
    exact ⟨rfl, rfl⟩
theorem spec_l10Trim_zero (A : Option Addr) (c : Nat) (w : World) (base : Nat) (h : OwnI w base (.slice A ([] : List Int).length c) []) :
    Calls Tryz.prog 121 #[.slice A 0 c] w fun e w' => (∃ A' c', e = .returned (.slice A' 0 c')) ∧ w = w' := by
  rcases h.2 with ⟨hv, _⟩ | ⟨g, cap', cur, hv, _⟩
  · injection hv with h1 h2 h3
    subst h1 h3
    refine (spec_l10Trim_none w).mono ?_
    rintro e w' ⟨rfl, rfl⟩
    exact ⟨⟨_, _, rfl⟩, rfl⟩
  · injection hv with h1 h2 h3
    subst h1
    refine (spec_l10Trim_any g 0 c (fun _ => 0) 0 w w.heap.size ⟨Nat.zero_le _, (by intro x hx; cases hx), fun h => absurd h (Nat.lt_irrefl 0)⟩ (by omega) (Nat.zero_le _)).mono ?_
    rintro e w' ⟨rfl, rfl⟩
    exact ⟨⟨_, _, rfl⟩, rfl⟩

set_option maxRecDepth 100000 in
set_option maxHeartbeats 1000000 in
theorem spec_l10Of_any (N : Nat) (A : Option Addr) (cap : Nat) (bs : List Int) (w : World) (hA : Ints w w.heap.size A bs) (hok : RhOk N bs) :
    Calls Tryz.prog 99 #[.agg #[.int .i64 N, .slice A bs.length cap]] w fun e w' => ∃ A' c, e = .returned (.slice A' (polL N bs).length c) ∧ Ints w' w'.heap.size A' (polL N bs) ∧ (∃ b, A' = some ⟨b, 0, none⟩) ∧ Below w.heap.size w w' := by
  have hn1 : 1 ≤ N := by have := hok.1; omega
  have hn2 : N ≤ 24 := by have := hok.2.1; omega
  have HBR := Lib.hid (fun i (hi : i < bs.length) => hok.2.2.1 i hi)
  have HPS := Lib.hid (fun j x (hj : j < bs.length) (hx : bs.getD j 0 = ((x : Nat) : Int)) t => polF_step hj hx t)
  have HP0 := Lib.hid (fun t => show polF (bs.take 0) t = 0 by unfold polF; rw [if_neg (by simp)])
  have HPE := Lib.hid (show bs.take bs.length = bs from List.take_length)
  have HA := Lib.hid hA
  have hlen := hA.1
  unfold maxLen at hlen
  have HC := Lib.hid hA.2.2
  have HB0 := Lib.hid ((Below.refl w.heap.size w).alloc (Nat.le_refl _) (.cells #[.int .i64 N, .slice A bs.length cap] 27))
  have HVA := Lib.hid (Hav.boxed hA N cap)
  have hmk := fun V : World => run_make_int N (by omega) V
  clear hA hok
  obtain ⟨⟨p0, p1, _, _, _⟩, _⟩ := HVA.out
  go_enter Tryz.func99, Tryz.ntmps99
  go_wp2_with fail
  have hmW : (w.alloc (.cells #[.int .i64 N, .slice A bs.length cap] 27)).heap.size = w.heap.size + 1 := by simp
  have HT0 := Lib.hid (hmW ▸ tab_made (w.alloc (.cells #[.int .i64 N, .slice A bs.length cap] 27)) N 3)
  have HB1 := Lib.hid (HB0.out.alloc HB0.out.size (.cells (madeCells #[.int .i64 0] N) 3))
  generalize (w.alloc (.cells #[.int .i64 N, .slice A bs.length cap] 27)).alloc (.cells (madeCells #[.int .i64 0] N) 3) = W at *
  clear hmW p0 p1
  go_loopw [12] (fun i wr => ∃ j : Nat, j ≤ bs.length ∧ i = .int .i64 j ∧ Tab wr (w.heap.size + 1) N (polF (bs.take j)) ∧ Below w.heap.size w wr) (fun i _ => bs.length - (intOf i).toNat)
  case atStart => exact ⟨0, Nat.zero_le _, rfl, HT0.out.congr (fun t _ => (HP0.out t).symm), HB1.out⟩
  case round =>
    obtain ⟨j, hj, rfl, htab, hbel⟩ := hrel
    obtain ⟨wo, rfl⟩ : ∃ wo : World, wo = wr := ⟨_, rfl⟩
    have HT := Lib.hid htab
    have HB := Lib.hid hbel
    have hz := htab.1
    by_cases hlt : j < bs.length
    · obtain ⟨b2, off, rfl, hB, hc⟩ := HC.out (by omega)
      have hcell := (hbel.cell (p := ⟨b2, off + j, none⟩) hB).trans (hc j hlt)
      have hx0 := HBR.out j hlt
      obtain ⟨x, hx⟩ := Int.eq_ofNat_of_zero_le hx0.1
      have hps := HPS.out j x hlt hx
      rw [hx] at hcell hx0
      have hxN : x < N := by omega
      have hxi : (x : Int) < (N : Int) := by omega
      have hxi0 : (0 : Int) ≤ (x : Int) := Int.natCast_nonneg _
      have hfz := HT.out.frz hxN
      have hcu := (HT.out.2 x hxN).1
      have HP := Lib.hid hps
      have hji : (j : Int) < (bs.length : Int) := by omega
      clear htab hbel hc hx hps
      go_wp2_with fail
      have HT2 := Lib.hid (HT.out.set_ (g := polF (bs.take (j + 1))) x 1 hxN (by rw [HP.out, if_pos rfl]) (fun t _ ht => by rw [HP.out, if_neg ht]))
      have HB2 := Lib.hid (HB.out.setCell (p := ⟨w.heap.size + 1, x, none⟩) (Nat.le_succ _) (.int .i64 1))
      go_roundw
      case rel => exact ⟨j + 1, by omega, by go_num, HT2.out, HB2.out⟩
      case measure => simp [intOf]; omega
    · have hje : j = bs.length := by omega
      subst hje
      have hte := HT.out
      rw [HPE.out] at hte
      have hpf : ∀ t, Fits (polF bs t) := fun t => by unfold polF Fits; split <;> omega
      have hin := hte.intsT (by unfold maxLen; omega) (fun t _ => hpf t) N
      have HEN := Lib.hid (spec_l10Trim_any (w.heap.size + 1) 0 N (polF bs) N wo wo.heap.size hin (by omega) (Nat.le_refl _))
      have HPL := Lib.hid (show polL N bs = (lstF (polF bs) N).take (trimN (polF bs) N) from (lstF_take _ (trimN_le _ _)).symm)
      have HPN := Lib.hid (show (polL N bs).length = trimN (polF bs) N by unfold polL endF; exact lstF_len _ _)
      have HIN := Lib.hid hin
      clear htab hbel hte hin hpf
      have hji : ¬ (bs.length : Int) < (bs.length : Int) := by omega
      go_wp2_with fail
      refine HEN.out.mono ?_
      rintro e w2 ⟨rfl, rfl⟩
      go_wp2_with fail
      go_ret
      exact ⟨some ⟨w.heap.size + 1, 0, none⟩, N, by rw [HPN.out]; rfl, by rw [HPL.out]; exact HIN.out.takeT _, ⟨_, rfl⟩, HB.out⟩

end Go.Proofs.YtjoeglekcnaebaaGreatDoor

namespace Go.Proofs.YtjoeglekcnaebaaGreatDoor
open Go.RowKit
set_option linter.unusedVariables false
set_option linter.unusedSimpArgs false

/-- The quotient behind m rounds, as the reference keeps it. -/
def qlS (a b : List Int) : Nat → List Int
  | 0 => []
  | m + 1 => divF a b m (a.length - b.length - m + b.length - 1) :: qlS a b m
theorem qlS_len (a b : List Int) : ∀ m, (qlS a b m).length = m
  | 0 => rfl
  | m + 1 => by unfold qlS; rw [List.length_cons, qlS_len a b m]
theorem qlS_at (a b : List Int) : ∀ m i, i < m → (qlS a b m).getD i 0 = divF a b (m - 1 - i) (a.length - b.length - (m - 1 - i) + b.length - 1)
  | 0, i, h => absurd h (Nat.not_lt_zero _)
  | m + 1, 0, _ => rfl
  | m + 1, i + 1, h => by
    show (qlS a b m).getD i 0 = _
    rw [qlS_at a b m i (by omega), show m + 1 - 1 - (i + 1) = m - 1 - i by omega]
theorem qlS_all (a b : List Int) : qlS a b (divM a b) = quoS a b := by
  have hl : (quoS a b).length = divM a b := by unfold quoS; exact lstF_len _ _
  have h : ∀ i, i < divM a b → (qlS a b (divM a b)).getD i 0 = (quoS a b).getD i 0 := fun i hi => by
    rw [qlS_at a b _ i hi]
    unfold quoS
    rw [lstF_at _ hi]
    have hd : divM a b = a.length - b.length + 1 := by
      unfold divM at hi ⊢
      split
      · rfl
      · rw [if_neg (by assumption)] at hi; omega
    have hlb : b.length ≤ a.length := by
      unfold divM at hi
      split at hi
      · assumption
      · omega
    unfold quoF
    rw [if_pos (by omega), hd]
    rw [show a.length - b.length + 1 - 1 - i = a.length - b.length - i by omega, show a.length - b.length - (a.length - b.length - i) + b.length - 1 = i + b.length - 1 by omega]
  refine List.ext_getElem (by rw [qlS_len, hl]) fun i h1 h2 => ?_
  have := h i (by rw [qlS_len] at h1; exact h1)
  rw [List.getD_eq_getElem?_getD, List.getD_eq_getElem?_getD, List.getElem?_eq_getElem h1, List.getElem?_eq_getElem h2] at this
  exact this
theorem qlS_fits (a b : List Int) (ha : ∀ x ∈ a, Fits x) : ∀ m, ∀ x ∈ qlS a b m, Fits x
  | 0, x, hx => by cases hx
  | m + 1, x, hx => by
    rcases List.mem_cons.1 hx with rfl | hx
    · exact divF_fits a b ha _ _
    · exact qlS_fits a b ha m x hx
theorem OwnI.one_at (w : World) (base g : Nat) (x : Int) (hg : w.heap.size = g) (hb : base ≤ g) : OwnI (w.alloc (.cells #[.int .i64 x] 3)) base (.slice (some ⟨g, 0, none⟩) 1 1) [x] := by
  subst hg
  exact ⟨rfl, .inr ⟨w.heap.size, 1, #[.int .i64 x], rfl, hb, heap_alloc_new w _, Nat.le_refl _, by unfold maxLen; omega, rfl, rfl⟩⟩

set_option maxRecDepth 100000 in
set_option maxHeartbeats 2000000 in
theorem spec_l10Divide_any (b1 o1 : Nat) (A2 : Option Addr) (c1 c2 : Nat) (a b : List Int) (w : World) (hA : Ints w w.heap.size (some ⟨b1, o1, none⟩) a) (hB : Ints w w.heap.size A2 b) (ha1 : 1 ≤ a.length) (ha2 : a.length ≤ 100) (hb1 : 1 ≤ b.length) (hb2 : b.length ≤ 100) :
    Calls Tryz.prog 98 #[.slice (some ⟨b1, o1, none⟩) a.length c1, .slice A2 b.length c2] w fun e w' => ∃ g1 k1 g2 k2, e = .returned (.tuple #[.slice (some ⟨g1, 0, none⟩) (quoS a b).length k1, .slice (some ⟨g2, 0, none⟩) (rstL a b).length k2]) ∧ Ints w' w'.heap.size (some ⟨g1, 0, none⟩) (quoS a b) ∧ Ints w' w'.heap.size (some ⟨g2, 0, none⟩) (rstL a b) ∧ Below w.heap.size w w' := by
  have HCA := Lib.hid (show ∀ i, i < a.length → w.cell? ⟨b1, o1 + i, none⟩ = some (.int .i64 (a.getD i 0)) by
    obtain ⟨b', o', e, _, hc⟩ := hA.2.2 (by omega)
    injection e with e
    injection e with e1 e2
    subst e1 e2
    exact hc)
  have hb1l : b1 < w.heap.size := by
    obtain ⟨b', o', e, hb, _⟩ := hA.2.2 (by omega)
    injection e with e
    injection e with e1 e2
    omega
  have HBI := Lib.hid hB
  have HFI := Lib.hid hA.2.1
  have HQF := Lib.hid (fun m => qlS_fits a b hA.2.1 m)
  clear hA hB
  have hw0 : IntKind.i64.wrap ((a.length : Int) - (b.length : Int)) = (a.length : Int) - (b.length : Int) := i64w (by omega)
  go_enter Tryz.func98, Tryz.ntmps98
  go_wp2_with (at_builtin; refine wpList_append_ints rfl (.tmp 13) (.tmp 14) rfl w.heap.size _ [] rfl (OwnI.empty_at _ _ _ rfl (Nat.le_refl _)) b1 o1 c1 a rfl (fun i hi => ((Below.refl _ _).alloc (Nat.le_refl _) _ |>.cell (p := ⟨b1, o1 + i, none⟩) hb1l).trans (HCA.out i hi)) (by simp; omega) (by simp) ?_; intro v1 w1 hown hb hg; rw [List.nil_append] at hown; obtain ⟨gR, cR, rfl⟩ := hown.posC (by omega))
  obtain ⟨hgR, hcR, hTR⟩ := hown.tabW
  have HB1 := Lib.hid (((Below.refl w.heap.size w).alloc (Nat.le_refl _) (.cells #[] 3)).trans hb)
  have HTR := Lib.hid hTR
  have hgl := hTR.1
  have hz1 := HB1.out.size
  clear hown hb hTR hg
  have HTR2 := Lib.hid (HTR.out.alloc (.cells #[] 3))
  have HB2 := Lib.hid (HB1.out.alloc hz1 (.cells #[] 3))
  have HQ0 := Lib.hid (OwnI.empty_at w1 w.heap.size w1.heap.size rfl hz1)
  have hzW : w1.heap.size < (w1.alloc (.cells #[] 3)).heap.size := by simp
  generalize w1.alloc (.cells #[] 3) = W at *
  obtain ⟨gQ0, hgQ⟩ : ∃ g, w1.heap.size = g := ⟨_, rfl⟩
  rw [hgQ] at hgl hz1 HQ0 hzW ⊢
  clear hgQ
  go_loopw [8, 9] (fun q i wr => ∃ (m gq cq : Nat), m ≤ divM a b ∧ i = .int .i64 ((a.length : Int) - (b.length : Int) - (m : Int)) ∧ q = .slice (some ⟨gq, 0, none⟩) m cq ∧ Ints wr wr.heap.size (some ⟨gq, 0, none⟩) (qlS a b m) ∧ (∀ i, i < m → wr.cell? ⟨gq, 0 + i, none⟩ = some (.int .i64 ((qlS a b m).getD i 0))) ∧ gq < wr.heap.size ∧ Tab wr gR a.length (divF a b m) ∧ Below w.heap.size w wr) (fun _ i _ => (intOf i + 1).toNat)
  case atStart => exact ⟨0, gQ0, 0, Nat.zero_le _, by simp, rfl, ⟨Nat.zero_le _, (fun x hx => by cases hx), fun h => absurd h (Nat.lt_irrefl 0)⟩, fun i hi => absurd hi (Nat.not_lt_zero _), hzW, HTR2.out, HB2.out⟩
  case round =>
    obtain ⟨m, gq, cq, hm, rfl, rfl, hqi, hqc, hgq, htr, hbel⟩ := hrel
    obtain ⟨wo, rfl⟩ : ∃ wo : World, wo = wr := ⟨_, rfl⟩
    have HT1 := Lib.hid htr
    have HQI := Lib.hid hqi
    have HQC := Lib.hid hqc
    have HB := Lib.hid hbel
    have hzR := htr.1
    have hzw := hbel.size
    clear htr hqi hbel hqc
    by_cases hlt : m < divM a b
    · have hll : b.length ≤ a.length ∧ m ≤ a.length - b.length := by unfold divM at hlt; split at hlt <;> omega
      obtain ⟨i, hi⟩ : ∃ i, a.length - b.length - m = i := ⟨_, rfl⟩
      have hie : (a.length : Int) - (b.length : Int) - (m : Int) = (i : Int) := by omega
      have hrd := HT1.out.2 (i + b.length - 1) (by omega)
      have HDS := Lib.hid (show divF a b (m + 1) = subF (divF a b m) b (divF a b m (a.length - b.length - m + b.length - 1)) (a.length - b.length - m) b.length from rfl)
      have hqs : qlS a b (m + 1) = divF a b m (a.length - b.length - m + b.length - 1) :: qlS a b m := rfl
      rw [hi] at HDS hqs
      obtain ⟨x, hx⟩ : ∃ x, divF a b m (i + b.length - 1) = x := ⟨_, rfl⟩
      rw [hx] at hrd HDS hqs
      have HQS := Lib.hid hqs
      have hqe := qlS_len a b m
      have hrc := hrd.1
      have hi0 : (0 : Int) ≤ (i : Int) := Int.natCast_nonneg _
      have hw1 : IntKind.i64.wrap ((i : Int) + (b.length : Int)) = (i : Int) + (b.length : Int) := i64w (by omega)
      have hw2 : IntKind.i64.wrap ((i : Int) + (b.length : Int) - 1) = ((i + b.length - 1 : Nat) : Int) := by rw [i64w (by omega)]; omega
      have hn0 : (0 : Int) ≤ ((i + b.length - 1 : Nat) : Int) := Int.natCast_nonneg _
      have hnl : ((i + b.length - 1 : Nat) : Int) < (a.length : Int) := by omega
      have hil : (i : Int) < (a.length : Int) := by omega
      rw [hie]
      have HIE := Lib.hid hie
      have HI := Lib.hid hi
      have HQE := Lib.hid hqe
      have HQF1 := Lib.hid (HQF.out (m + 1))
      clear hrd hx hi hie hqs hqe
      go_wp2_with (at_builtin; refine wpList_append_ints rfl (.tmp 35) (.tmp 36) rfl wo.heap.size _ [x] rfl (OwnI.one_at _ _ _ x rfl (Nat.le_refl _)) gq 0 cq (qlS a b m) (by rw [HQE.out]; rfl) (fun i hi => ((Below.refl _ _).alloc (Nat.le_refl _) _ |>.cell (p := ⟨gq, 0 + i, none⟩) hgq).trans (HQC.out i (by rw [HQE.out] at hi; exact hi))) (by rw [HQE.out]; simp; omega) (by simp) ?_; intro v2 w2 hown2 hb2 hg2; have hown2' : OwnI w2 wo.heap.size v2 (qlS a b (m + 1)) := (by rw [HQS.out]; exact hown2); obtain ⟨gq2, cq2, rfl⟩ := hown2'.posC (by rw [qlS_len]; omega); have HO2 := Lib.hid (hown2'.ints HQF1.out); have HOT := Lib.hid hown2'.tabW; rw [qlS_len])
      have hbw := ((Below.refl wo.heap.size wo).alloc (Nat.le_refl _) (.cells #[.int .i64 x] 3)).trans hb2
      have HT2 := Lib.hid (HT1.out.below hbw hzR)
      have HB2 := Lib.hid (HB.out.trans (hbw.mono hzw))
      have hgq2 := HOT.out.2.2.1
      have hqg : wo.heap.size ≤ gq2 := HOT.out.1
      have hz2 := hbw.size
      clear hown2 hown2' hb2 hg2 hbw
      go_wp2_with fail
      generalize divF a b m = F at *
      obtain ⟨Q, hQ⟩ : ∃ Q, qlS a b (m + 1) = Q := ⟨_, rfl⟩
      have HQQ := Lib.hid hQ
      have hql := qlS_len a b (m + 1)
      rw [hQ] at HO2 HOT hql
      rw [hql] at HOT
      have HQL := Lib.hid hql
      clear hQ hql HQS HQF1
      go_loopw [40] (fun kk wr => ∃ k : Nat, k ≤ b.length ∧ kk = .int .i64 k ∧ Tab wr gR a.length (subF F b x i k) ∧ Tab wr gq2 (m + 1) (fun t => Q.getD t 0) ∧ Below w.heap.size w wr) (fun kk _ => b.length - (intOf kk).toNat)
      case atStart => exact ⟨0, Nat.zero_le _, rfl, HT2.out.congr (fun t _ => (subF_zero F b x i t).symm), HOT.out.2.2, HB2.out⟩
      case round =>
        obtain ⟨k, hk, rfl, ht1, ht2, hbl⟩ := hrel
        obtain ⟨wi, rfl⟩ : ∃ wi : World, wi = wr := ⟨_, rfl⟩
        have HU1 := Lib.hid ht1
        have HU2 := Lib.hid ht2
        have HBB := Lib.hid hbl
        by_cases hltk : k < b.length
        · obtain ⟨bb, off, rfl, hbB, hbc⟩ := HBI.out.2.2 (by omega)
          have hcb := (hbl.cell (p := ⟨bb, off + k, none⟩) hbB).trans (hbc k hltk)
          have hrk := ht1.2 (i + k) (by omega)
          have hpre := subF_pre F b x i k
          have hat := subF_at F b x i k
          obtain ⟨y, hy⟩ : ∃ y, b.getD k 0 = y := ⟨_, rfl⟩
          rw [hy] at hcb hat
          rw [hpre] at hrk
          obtain ⟨v, hv⟩ : ∃ v, F (i + k) = v := ⟨_, rfl⟩
          rw [hv] at hat hrk
          obtain ⟨P, hP⟩ : ∃ P, IntKind.i64.wrap (x * y) = P := ⟨_, rfl⟩
          obtain ⟨R, hR⟩ : ∃ R, IntKind.i64.wrap (v - P) = R := ⟨_, rfl⟩
          have HAT2 := Lib.hid (show subF F b x i (k + 1) (i + k) = R by rw [hat, ← hR, ← hP]; rfl)
          have hw4 : IntKind.i64.wrap ((i : Int) + (k : Int)) = ((i + k : Nat) : Int) := by rw [i64w (by omega)]; omega
          have hik0 : (0 : Int) ≤ ((i + k : Nat) : Int) := Int.natCast_nonneg _
          have hikl : ((i + k : Nat) : Int) < (a.length : Int) := by omega
          have hrk1 := hrk.1
          have hrk2 := hrk.2
          have hki : (k : Int) < (b.length : Int) := by omega
          clear ht1 ht2 hbl hrk hpre hat hy hbc hv
          go_wp2_with fail
          have HU3 := Lib.hid (HU1.out.set_ (g := subF F b x i (k + 1)) (i + k) R (by omega) HAT2.out (fun t _ ht => subF_ne F b x i k ht))
          have HU4 := Lib.hid (HU2.out.far (p := ⟨gR, i + k, none⟩) (show gq2 ≠ gR by omega) (.int .i64 R))
          have HB4 := Lib.hid (HBB.out.setCell (p := ⟨gR, i + k, none⟩) hgR (.int .i64 R))
          go_roundw
          case rel => exact ⟨k + 1, by omega, by go_num, HU3.out, HU4.out, HB4.out⟩
          case measure => simp [intOf]; omega
        · have hke : k = b.length := by omega
          subst hke
          have hkb : ¬ (b.length : Int) < (b.length : Int) := by omega
          have hw3 : IntKind.i64.wrap ((i : Int) - 1) = (i : Int) - 1 := i64w (by omega)
          have HIS := Lib.hid (show (i : Int) - 1 = (a.length : Int) - (b.length : Int) - ((m + 1 : Nat) : Int) by have := HIE.out; omega)
          clear ht1 ht2 hbl
          go_wp2_with fail
          go_roundw
          case rel =>
            refine ⟨m + 1, gq2, cq2, by omega, by rw [← HIS.out], rfl, ?_, ?_, HU2.out.1, by rw [HDS.out]; exact HU1.out, HBB.out⟩
            · rw [HQQ.out]
              exact ⟨HO2.out.1, HO2.out.2.1, fun _ => ⟨gq2, 0, rfl, HU2.out.1, fun i hi => by rw [Nat.zero_add]; exact (HU2.out.2 i (by rw [HQL.out] at hi; exact hi)).1⟩⟩
            · intro i hi
              rw [HQQ.out, Nat.zero_add]
              exact (HU2.out.2 i hi).1
          case measure => simp [intOf] <;> omega
    · have hme : m = divM a b := by omega
      subst hme
      have hneg : ¬ (0 : Int) ≤ (a.length : Int) - (b.length : Int) - (divM a b : Int) := by unfold divM; split <;> omega
      have hfa := HFI.out
      have hr := HT1.out.intsT (by unfold maxLen; omega) (fun t _ => divF_fits a b hfa (divM a b) t) 0
      have HE2 := Lib.hid (spec_l10Trim_any gR 0 cR (divF a b (divM a b)) a.length wo wo.heap.size hr (by omega) hcR)
      have HRL := Lib.hid (show rstL a b = (lstF (divF a b (divM a b)) a.length).take (trimN (divF a b (divM a b)) a.length) from (lstF_take _ (trimN_le _ _)).symm)
      have HRN := Lib.hid (show (rstL a b).length = trimN (divF a b (divM a b)) a.length by unfold rstL endF; exact lstF_len _ _)
      have HRI := Lib.hid hr
      have HQA := Lib.hid (qlS_all a b)
      have HQN := Lib.hid (show (quoS a b).length = divM a b by unfold quoS; exact lstF_len _ _)
      clear hr hfa
      generalize trimN (divF a b (divM a b)) a.length = tr at *
      go_wp2_with fail
      refine HE2.out.mono ?_
      rintro e w3 ⟨rfl, rfl⟩
      go_wp2_with fail
      refine bodyPost_ret (v := .tuple #[.slice (some ⟨gq, 0, none⟩) (divM a b) cq, .slice (some ⟨gR, 0, none⟩) tr cR]) (by simp [results, Tryz.results98, go_sem]) rfl ?_
      exact ⟨gq, cq, gR, cR, by rw [HQN.out, HRN.out], by rw [← HQA.out]; exact HQI.out, by rw [HRL.out]; exact HRI.out.takeT _, HB.out⟩

set_option maxRecDepth 100000 in
set_option maxHeartbeats 2000000 in
theorem spec_l10Divide_zero (b1 o1 : Nat) (A2 : Option Addr) (c1 c2 : Nat) (b : List Int) (w : World) (hb1 : 1 ≤ b.length) (hb2 : b.length ≤ 100) :
    Calls Tryz.prog 98 #[.slice (some ⟨b1, o1, none⟩) 0 c1, .slice A2 b.length c2] w fun e w' => (∃ A3 k3 A4 k4, e = .returned (.tuple #[.slice A3 0 k3, .slice A4 0 k4])) ∧ Below w.heap.size w w' := by
  have hbn : (b = []) = False := eq_false (fun h => by subst h; simp at hb1)
  have hw0 : IntKind.i64.wrap (-(b.length : Int)) = -(b.length : Int) := i64w (by omega)
  have hw1 : IntKind.i64.wrap (0 - (b.length : Int)) = -(b.length : Int) := by rw [i64w (by omega)]; omega
  go_enter Tryz.func98, Tryz.ntmps98
  go_wp2_with (at_builtin; refine wpList_append_ints rfl (.tmp 13) (.tmp 14) rfl w.heap.size _ [] rfl (OwnI.empty_at _ _ _ rfl (Nat.le_refl _)) b1 o1 c1 [] rfl (fun i hi => absurd hi (Nat.not_lt_zero _)) (by simp) (by simp) ?_; intro v1 w1 hown hb hg; rw [List.nil_append] at hown; obtain ⟨AR, cR, rfl⟩ := hown.form)
  have HB1 := Lib.hid (((Below.refl w.heap.size w).alloc (Nat.le_refl _) (.cells #[] 3)).trans hb)
  have HO := Lib.hid hown
  have hz1 := HB1.out.size
  clear hown hb hg
  have HO2 := Lib.hid (HO.out.alloc (.cells #[] 3))
  have HB2 := Lib.hid (HB1.out.alloc hz1 (.cells #[] 3))
  generalize w1.alloc (.cells #[] 3) = W at *
  obtain ⟨gQ, hgQ⟩ : ∃ g, w1.heap.size = g := ⟨_, rfl⟩
  rw [hgQ]
  clear hgQ
  go_loopw [8, 9] (fun q i wr => q = .slice (some ⟨gQ, 0, none⟩) 0 0 ∧ i = .int .i64 (-(b.length : Int)) ∧ wr = W) (fun _ _ _ => 0)
  case atStart => exact ⟨rfl, rfl, rfl⟩
  case round =>
    obtain ⟨rfl, rfl, rfl⟩ := hrel
    have HE2 := Lib.hid (spec_l10Trim_zero AR cR _ _ HO2.out)
    go_wp2_with fail
    refine HE2.out.mono ?_
    rintro e w3 ⟨⟨A5, c5, rfl⟩, rfl⟩
    go_wp2_with fail
    refine bodyPost_ret (v := .tuple #[.slice (some ⟨gQ, 0, none⟩) 0 0, .slice A5 0 c5]) (by simp [results, Tryz.results98, go_sem]) rfl ?_
    exact ⟨⟨_, _, _, _, rfl⟩, HB2.out⟩

end Go.Proofs.YtjoeglekcnaebaaGreatDoor

namespace Go.Proofs.YtjoeglekcnaebaaGreatDoor
open Go.RowKit
set_option linter.unusedVariables false
set_option linter.unusedSimpArgs false

def vanL (N : Nat) (bs : List Int) : List Int := (dvsL N (N + 1)).filter (fun x => !drpB N bs x)

set_option maxRecDepth 100000 in
set_option maxHeartbeats 2000000 in
theorem impl_VanishingOrders_any (N : Nat) (A : Option Addr) (cap : Nat) (bs : List Int) (w : World) (hA : Ints w w.heap.size A bs) (hok : RhOk N bs) (hd : ∀ x ∈ dvsL N (N + 1), 1 ≤ x ∧ x ≤ 24) (hp : 0 < (dvsL N (N + 1)).length) (hl : (dvsL N (N + 1)).length ≤ 24) :
    Calls Tryz.prog 33 #[.agg #[.int .i64 N, .slice A bs.length cap]] w fun e w' => (∃ g c h, e = .returned (.slice (some ⟨g, 0, none⟩) (vanL N bs).length c) ∧ w.heap.size ≤ g ∧ Tab w' g (vanL N bs).length h ∧ lstF h (vanL N bs).length = vanL N bs) ∧ Below w.heap.size w w' := by
  have hn2 : N ≤ 24 := by have := hok.2.1; omega
  have hn1 : 1 ≤ N := by have := hok.1; omega
  have hfN : Fits (N : Int) := by unfold Fits; omega
  have hr : rhB N bs = true := rhB_iff.2 hok
  have HRO := Lib.hid (fun V h => hr ▸ impl_RhythmOk_any N A cap bs V hfN h)
  have HDV := Lib.hid (fun V => impl_DivisorsOf_any N V hn1 hn2)
  have HBW := Lib.hid ((Below.refl w.heap.size w).alloc (Nat.le_refl _) (.cells #[.int .i64 N, .slice A (bs).length cap] 27))
  have HVA := Lib.hid (Hav.boxed hA N cap)
  have HDL := Lib.hid (dvsL_len N (N + 1))
  have HDF := Lib.hid (fun (g b c : Nat) (w0 w : World) h1 h2 h3 h4 h5 h6 h7 => slices_DeleteFuncV_any N g b (dvsL N (N + 1)).length c A cap bs (fun t => (dvsL N (N + 1)).getD t 0) w0 w h1 hok h2 h3 h4 h5 h6 h7)
  clear hA hr
  obtain ⟨⟨p0, p1, _, _, _⟩, _⟩ := HVA.out
  go_enter Tryz.func33, Tryz.ntmps33
  go_wp2_with fail
  generalize w.alloc (.cells #[.int .i64 N, .slice A (bs).length cap] 27) = W at *
  refine (HRO.out _ HVA.out.2).mono ?_
  rintro e w1 ⟨rfl, hb⟩
  have HBW := Lib.hid (HBW.out.trans (hb.mono HBW.out.size))
  try have HVA := Lib.hid (HVA.out.lift hb)
  try have HVB := Lib.hid (HVB.out.lift hb)
  try have HVC := Lib.hid (HVC.out.lift hb)
  try have HVT := Lib.hid (HVT.out.lift hb)
  try have HVX := Lib.hid (HVX.out.lift hb)
  try have HVM := Lib.hid (HVM.out.lift hb)
  try have HVF := Lib.hid (HVF.out.lift hb)
  try have HVP := Lib.hid (HVP.out.lift hb)
  try have HVQ := Lib.hid (HVQ.out.lift hb)
  try have HLA := Lib.hid (HLA.out.lift hb)
  try have HLW := Lib.hid (HLW.out.lift hb)
  try have HI := Lib.hid (HI.out.lift hb)
  try have HRB := Lib.hid (HRB.out.trans (hb.mono HRB.out.size))
  try have HWW := Lib.hid (HWW.out.trans (hb.mono HWW.out.size))
  clear hb
  clear p0 p1
  obtain ⟨⟨p0, p1, _, _, _⟩, _⟩ := HVA.out
  go_wp2_with fail
  refine (HDV.out w1).mono ?_
  rintro e w2 ⟨v, rfl, hv, hb⟩
  obtain ⟨g, c, rfl⟩ := hv.posC hp
  obtain ⟨hg, hlc, htb⟩ := hv.tabW
  have hlen : (kpt (drpB N bs) (fun t => (dvsL N (N + 1)).getD t 0) (dvsL N (N + 1)).length) = vanL N bs := by
    unfold kpt vanL
    rw [lstF_of]
  have HZ := Lib.hid (HDF.out w.heap.size g c w1 w2 HVA.out hb htb hg hl hlc (fun j hj => hd _ (by rw [List.getD_eq_getElem?_getD, List.getElem?_eq_getElem hj]; exact List.getElem_mem hj)))
  rw [hlen] at HZ
  have hlf : lstF (kptF (drpB N bs) (fun t => (dvsL N (N + 1)).getD t 0) (dvsL N (N + 1)).length) (vanL N bs).length = vanL N bs := by
    rw [← hlen]; exact kptF_lst _ _ _
  generalize kptF (drpB N bs) (fun t => (dvsL N (N + 1)).getD t 0) (dvsL N (N + 1)).length = h at HZ hlf
  have hgw : w.heap.size ≤ g := Nat.le_trans HBW.out.size hg
  have HFL := Lib.hid hlf
  clear hlen hlf htb hv hlc hg hb
  go_wp2_with fail
  refine HZ.out.mono ?_
  rintro e w3 ⟨rfl, htab, hb⟩
  have HBW := Lib.hid (HBW.out.trans (hb.mono HBW.out.size))
  try have HVA := Lib.hid (HVA.out.lift hb)
  try have HVB := Lib.hid (HVB.out.lift hb)
  try have HVC := Lib.hid (HVC.out.lift hb)
  try have HVT := Lib.hid (HVT.out.lift hb)
  try have HVX := Lib.hid (HVX.out.lift hb)
  try have HVM := Lib.hid (HVM.out.lift hb)
  try have HVF := Lib.hid (HVF.out.lift hb)
  try have HVP := Lib.hid (HVP.out.lift hb)
  try have HVQ := Lib.hid (HVQ.out.lift hb)
  try have HLA := Lib.hid (HLA.out.lift hb)
  try have HLW := Lib.hid (HLW.out.lift hb)
  try have HI := Lib.hid (HI.out.lift hb)
  try have HRB := Lib.hid (HRB.out.trans (hb.mono HRB.out.size))
  try have HWW := Lib.hid (HWW.out.trans (hb.mono HWW.out.size))
  clear hb
  go_wp2_with fail
  go_ret
  exact ⟨⟨g, c, h, rfl, hgw, htab, HFL.out⟩, HBW.out⟩

end Go.Proofs.YtjoeglekcnaebaaGreatDoor

namespace Go.Proofs.YtjoeglekcnaebaaGreatDoor
open Go.RowKit
set_option linter.unusedVariables false
set_option linter.unusedSimpArgs false

theorem dvs_ok : ∀ N, N ≤ 24 → 1 ≤ N → (∀ x ∈ dvsL N (N + 1), 1 ≤ x ∧ x ≤ 24) ∧ 0 < (dvsL N (N + 1)).length ∧ (dvsL N (N + 1)).length ≤ 24 := by
  have h : ∀ N : Fin 25, 1 ≤ N.val → (∀ x ∈ dvsL N.val (N.val + 1), 1 ≤ x ∧ x ≤ 24) ∧ 0 < (dvsL N.val (N.val + 1)).length ∧ (dvsL N.val (N.val + 1)).length ≤ 24 := by decide +kernel
  exact fun N hN h1 => h ⟨N, by omega⟩ h1

end Go.Proofs.YtjoeglekcnaebaaGreatDoor

namespace Go.Proofs.YtjoeglekcnaebaaGreatDoor
open Go.RowKit
set_option linter.unusedVariables false
set_option linter.unusedSimpArgs false

theorem quoS_fits {a b : List Int} (h : ∀ x ∈ a, Fits x) : ∀ x ∈ quoS a b, Fits x := fun x hx => by
  unfold quoS lstF at hx
  rw [List.mem_map] at hx
  obtain ⟨t, _, rfl⟩ := hx
  exact quoF_fits a b h _ _

set_option maxRecDepth 100000 in
set_option maxHeartbeats 2000000 in
theorem spec_l10Cyclotomic_any : ∀ (f n : Nat) (w : World), 1 ≤ n → n ≤ 24 → okC f n = true → Calls Tryz.prog 100 #[.int .i64 n] w (RetP w (cycS f n)) := by
  intro f
  induction f with
  | zero => intro n w _ _ h; cases h
  | succ f ih =>
    intro n w hn1 hn2 ho
    have hon : okG (lenC f) (okC f) n n = true := ho
    have HIH := Lib.hid (fun n w h1 h2 h3 => ih n w h1 h2 h3)
    have HST := Lib.hid (fun d (hd : d + 1 ≤ n) (h : 1 ≤ d ∧ n % d = 0) => cyc_stage f n d (okG_le _ _ _ hon hd) hn1 h)
    have HGS := Lib.hid (fun d (hd : d ≤ n) => show 1 ≤ (cycG quoS (cycS f) n d).length ∧ (cycG quoS (cycS f) n d).length ≤ n + 1 by
      obtain ⟨a, b, c⟩ := cycG_same f n hn1 d (okG_le _ _ _ hon hd)
      exact ⟨c.1, by rw [b]; exact lenG_le _ _ _ _ (okG_le _ _ _ hon hd)⟩)
    have HCS := Lib.hid (fun d (h1 : 1 ≤ d) (h : okC f d = true) => show 1 ≤ (cycS f d).length ∧ (cycS f d).length ≤ d + 1 by
      obtain ⟨a, b, c⟩ := cyc_same f d h1 h
      exact ⟨c.1, by rw [b]; exact lenC_le f d h⟩)
    have HGN := Lib.hid (show cycS (f + 1) n = cycG quoS (cycS f) n n from rfl)
    have HG1 := Lib.hid (show cycG quoS (cycS f) n 1 = lstF (oneF n) (n + 1) by
      show (if 1 ≤ 0 ∧ n % 0 = 0 then _ else _) = _
      rw [if_neg (by omega)]; rfl)
    have HGD := Lib.hid (fun d => show cycG quoS (cycS f) n (d + 1) = if 1 ≤ d ∧ n % d = 0 then quoS (cycG quoS (cycS f) n d) (cycS f d) else cycG quoS (cycS f) n d from rfl)
    obtain ⟨N, hN⟩ : ∃ N, n + 1 = N := ⟨_, rfl⟩
    rw [hN] at HGS HG1
    have hmk := fun V : World => run_make_int N (by omega) V
    have hw1 : IntKind.i64.wrap ((n : Int) + 1) = (N : Int) := by rw [i64w (by omega)]; omega
    have HT0 := Lib.hid (tab_made w N 3)
    have HB0 := Lib.hid ((Below.refl w.heap.size w).alloc (Nat.le_refl _) (.cells (madeCells #[.int .i64 0] N) 3))
    have HT1 := Lib.hid (HT0.out.set_ (g := fun t => if t = 0 then -1 else 0) 0 (-1) (by omega) rfl (fun t _ ht => if_neg ht))
    have HT2 := Lib.hid (HT1.out.set_ (g := oneF n) n 1 (by omega) (by unfold oneF; rw [if_neg (by omega), if_pos rfl]) (fun t _ ht => by unfold oneF; rw [if_neg ht]))
    have HB2 := Lib.hid ((HB0.out.setCell (p := ⟨w.heap.size, 0, none⟩) (Nat.le_refl _) (.int .i64 (-1))).setCell (p := ⟨w.heap.size, n, none⟩) (Nat.le_refl _) (.int .i64 1))
    have hc0 := (HT0.out.2 0 (by omega)).1
    have hcn := (HT0.out.2 n (by omega)).1
    have hf0 := HT0.out.frz (t := 0) (by omega)
    have hfn := HT0.out.frz (t := n) (by omega)
    have hcn1 : ((w.alloc (.cells (madeCells #[.int .i64 0] N) 3)).setCell ⟨w.heap.size, 0, none⟩ (.int .i64 (-1))).cell? ⟨w.heap.size, n, none⟩ = some (.int .i64 0) := HT1.out.get (t := n) (by omega) (if_neg (by omega))
    have hfn1 := HT1.out.frz (t := n) (by omega)
    have hn0 : (0 : Int) ≤ (n : Int) := Int.natCast_nonneg _
    have hnl : (n : Int) < (N : Int) := by omega
    have hz0 : (0 : Int) < (N : Int) := by omega
    have HN := Lib.hid hN
    have hN25 : N ≤ 25 := by omega
    have hn00 : (n = 0) = False := eq_false (by omega)
    have hn01 : (0 = n) = False := eq_false (by omega)
    clear ih ho hon hN
    go_enter Tryz.func100, Tryz.ntmps100
    go_upto_region 2 with fail
    generalize w.alloc (.cells (madeCells #[.int .i64 0] N) 3) = W at *
    go_wp2_with fail
    go_loopw [3, 4] (fun so i wr => ∃ (d g c : Nat), 1 ≤ d ∧ d ≤ n ∧ i = .int .i64 d ∧ so = .slice (some ⟨g, 0, none⟩) (cycG quoS (cycS f) n d).length c ∧ Ints wr wr.heap.size (some ⟨g, 0, none⟩) (cycG quoS (cycS f) n d) ∧ Below w.heap.size w wr) (fun _ i _ => n - (intOf i).toNat)
    case atStart =>
      refine ⟨1, w.heap.size, N, Nat.le_refl _, hn1, rfl, ?_, ?_, HB2.out⟩
      · rw [HG1.out, lstF_len]
      · rw [HG1.out]
        exact HT2.out.intsT (by unfold maxLen; omega) (fun t _ => oneF_fits n t) 0
    case round =>
      obtain ⟨d, g, c, hd1, hd, rfl, rfl, hin, hbel⟩ := hrel
      obtain ⟨wo, rfl⟩ : ∃ wo : World, wo = wr := ⟨_, rfl⟩
      have HI := Lib.hid hin
      have HB := Lib.hid hbel
      clear hin hbel hc0 hcn hf0 hfn hcn1 hfn1
      by_cases hlt : d < n
      · have hdi : (d : Int) < (n : Int) := by omega
        have hnz : ((d : Int) = 0) = False := eq_false (by omega)
        have hnz2 : (d = 0) = False := eq_false (by omega)
        have hrm : (n : Int).tmod (d : Int) = ((n % d : Nat) : Int) := by rw [Int.tmod_eq_emod_of_nonneg (by omega)]; omega
        have hml : n % d < d := Nat.mod_lt _ (by omega)
        have hw2 : IntKind.i64.wrap ((n % d : Nat) : Int) = ((n % d : Nat) : Int) := i64w (by omega)
        have hgd := HGD.out d
        have hgs := HGS.out d (by omega)
        by_cases hm : n % d = 0
        · rw [if_pos ⟨hd1, hm⟩] at hgd
          have HG := Lib.hid hgd
          have hst := HST.out d (by omega) ⟨hd1, hm⟩
          have HCY := Lib.hid (fun V => HIH.out d V hd1 (by omega) hst.1)
          have hcs := HCS.out d hd1 hst.1
          have HDV := Lib.hid (fun A1 A2 c1 c2 V h1 h2 => spec_l10Divide_any A1 0 A2 c1 c2 (cycG quoS (cycS f) n d) (cycS f d) V h1 h2 hgs.1 (by omega) hcs.1 (by omega))
          rw [hm] at hrm hw2
          clear hgd hst hcs hgs
          generalize cycG quoS (cycS f) n d = X at *
          generalize cycS f d = Y at *
          go_wp2_with fail
          refine (HCY.out _).mono ?_
          rintro e w2 ⟨g2, c2, rfl, hi2, hb2⟩
          have HI2 := Lib.hid hi2
          have HX2 := Lib.hid (HI.out.lift hb2)
          have HB2 := Lib.hid (HB.out.trans (hb2.mono HB.out.size))
          clear hi2 hb2
          go_wp2_with fail
          refine (HDV.out _ _ _ _ _ HX2.out HI2.out).mono ?_
          rintro e w3 ⟨g3, k3, g4, k4, rfl, hi3, hi4, hb3⟩
          have HI3 := Lib.hid hi3
          have HB3 := Lib.hid (HB2.out.trans (hb3.mono HB2.out.size))
          clear hi3 hi4 hb3
          generalize quoS X Y = Q at *
          go_wp2_with fail
          go_roundw
          case rel => exact ⟨d + 1, g3, k3, by omega, by omega, by go_num, by rw [HG.out], by rw [HG.out]; exact HI3.out, HB3.out⟩
          case measure => simp [intOf]; omega
        · rw [if_neg (fun h => hm h.2)] at hgd
          have HG := Lib.hid hgd
          have hmz : ((n % d : Nat) : Int) ≠ 0 := by omega
          generalize n % d = m at *
          have hme : ((m : Int) == 0) = false := beq_eq_false_iff_ne.2 hmz
          clear hgd hgs
          generalize cycG quoS (cycS f) n d = X at *
          go_wp2_with fail
          go_roundw
          case rel => exact ⟨d + 1, g, c, by omega, by omega, by go_num, by rw [HG.out], by rw [HG.out]; exact HI.out, HB.out⟩
          case measure => simp [intOf]; omega
      · have hde : d = n := by omega
        subst hde
        have hdi : ¬ (d : Int) < (d : Int) := by omega
        generalize cycG quoS (cycS f) d d = X at *
        go_wp2_with fail
        go_ret
        rw [HGN.out]
        exact ⟨g, c, rfl, HI.out, HB.out⟩

set_option maxRecDepth 100000 in
set_option maxHeartbeats 2000000 in
theorem spec_RestBy_any (N d : Nat) (A : Option Addr) (cap : Nat) (bs : List Int) (w : World) (hA : Ints w w.heap.size A bs) (hok : RhOk N bs) (hd1 : 1 ≤ d) (hd2 : d ≤ 24) :
    Calls Tryz.prog 83 #[.agg #[.int .i64 N, .slice A bs.length cap], .int .i64 d] w fun e w' => (∃ A' c, e = .returned (.slice A' (rstN N bs d) c)) ∧ Below w.heap.size w w' := by
  have hn1 : 1 ≤ N := by have := hok.1; omega
  have hn2 : N ≤ 24 := by have := hok.2.1; omega
  have hfN : Fits (N : Int) := by unfold Fits; omega
  have hr : rhB N bs = true := rhB_iff.2 hok
  have HRO := Lib.hid (fun V h => hr ▸ spec_RhythmOk_any N A cap bs V h)
  have HPO := Lib.hid (fun V h => spec_l10Of_any N A cap bs V h hok)
  have hoc := okC_all d (by omega) hd1
  have HCY := Lib.hid (fun V => spec_l10Cyclotomic_any 24 d V hd1 hd2 hoc)
  obtain ⟨hcs, hcl, hcm⟩ := cyc_same 24 d hd1 hoc
  have hc1 : 1 ≤ (cycS 24 d).length := hcm.1
  have hc2 : (cycS 24 d).length ≤ 100 := by rw [hcl]; have := lenC_le 24 d hoc; omega
  have hpl : (polL N bs).length ≤ 24 := Nat.le_trans (endF_len _ _) hn2
  have hin : inB (d : Int) 1 24 = true := inB_true ⟨by omega, by omega⟩
  have HBW := Lib.hid ((Below.refl w.heap.size w).alloc (Nat.le_refl _) (.cells #[.int .i64 N, .slice A (bs).length cap] 27))
  have HVA := Lib.hid (Hav.boxed hA N cap)
  have HDV := Lib.hid (fun (h : 1 ≤ (polL N bs).length) A1 A2 c1 c2 V h1 h2 => spec_l10Divide_any A1 0 A2 c1 c2 (polL N bs) (cycS 24 d) V h1 h2 h (by omega) hc1 hc2)
  have HDZ := Lib.hid (fun A1 A2 c1 c2 V => spec_l10Divide_zero A1 0 A2 c1 c2 (cycS 24 d) V hc1 hc2)
  have HRZ := Lib.hid (fun (h : (polL N bs).length = 0) => (rstN_zero h : rstN N bs d = 0))
  have HRN := Lib.hid (show rstN N bs d = (rstL (polL N bs) (cycS 24 d)).length by rw [← hcs]; rfl)
  generalize rstN N bs d = rn at *
  generalize cycS 24 d = Y at *
  generalize polL N bs = X at *
  clear hA hok hr hoc hcs hcl hcm
  obtain ⟨⟨p0, p1, _, _, _⟩, _⟩ := HVA.out
  go_enter Tryz.func83, Tryz.ntmps83
  go_wp2_with fail
  generalize w.alloc (.cells #[.int .i64 N, .slice A (bs).length cap] 27) = W at *
  refine (HRO.out _ HVA.out.2).mono ?_
  rintro e w1 ⟨rfl, hb⟩
  have HBW := Lib.hid (HBW.out.trans (hb.mono HBW.out.size))
  try have HVA := Lib.hid (HVA.out.lift hb)
  try have HVB := Lib.hid (HVB.out.lift hb)
  try have HVC := Lib.hid (HVC.out.lift hb)
  try have HVT := Lib.hid (HVT.out.lift hb)
  try have HVX := Lib.hid (HVX.out.lift hb)
  try have HVM := Lib.hid (HVM.out.lift hb)
  try have HVF := Lib.hid (HVF.out.lift hb)
  try have HVP := Lib.hid (HVP.out.lift hb)
  try have HVQ := Lib.hid (HVQ.out.lift hb)
  try have HLA := Lib.hid (HLA.out.lift hb)
  try have HLW := Lib.hid (HLW.out.lift hb)
  try have HI := Lib.hid (HI.out.lift hb)
  try have HRB := Lib.hid (HRB.out.trans (hb.mono HRB.out.size))
  try have HWW := Lib.hid (HWW.out.trans (hb.mono HWW.out.size))
  clear hb
  clear p0 p1
  obtain ⟨⟨p0, p1, _, _, _⟩, _⟩ := HVA.out
  go_wp2_with (go_at_call 34; refine (l01In_any _ _ _ _).mono ?_; rintro e w' ⟨rfl, rfl⟩)
  refine (HPO.out _ HVA.out.2).mono ?_
  rintro e w2 ⟨_, k2, rfl, hI2, ⟨A2, rfl⟩, hb⟩
  have HBW := Lib.hid (HBW.out.trans (hb.mono HBW.out.size))
  try have HVA := Lib.hid (HVA.out.lift hb)
  try have HVB := Lib.hid (HVB.out.lift hb)
  try have HVC := Lib.hid (HVC.out.lift hb)
  try have HVT := Lib.hid (HVT.out.lift hb)
  try have HVX := Lib.hid (HVX.out.lift hb)
  try have HVM := Lib.hid (HVM.out.lift hb)
  try have HVF := Lib.hid (HVF.out.lift hb)
  try have HVP := Lib.hid (HVP.out.lift hb)
  try have HVQ := Lib.hid (HVQ.out.lift hb)
  try have HLA := Lib.hid (HLA.out.lift hb)
  try have HLW := Lib.hid (HLW.out.lift hb)
  try have HI := Lib.hid (HI.out.lift hb)
  try have HRB := Lib.hid (HRB.out.trans (hb.mono HRB.out.size))
  try have HWW := Lib.hid (HWW.out.trans (hb.mono HWW.out.size))
  clear hb
  have HVX := Lib.hid hI2
  clear hI2 p0 p1
  go_wp2_with fail
  refine (HCY.out _).mono ?_
  rintro e w3 ⟨g3, c3, rfl, hI3, hb⟩
  have HBW := Lib.hid (HBW.out.trans (hb.mono HBW.out.size))
  try have HVA := Lib.hid (HVA.out.lift hb)
  try have HVB := Lib.hid (HVB.out.lift hb)
  try have HVC := Lib.hid (HVC.out.lift hb)
  try have HVT := Lib.hid (HVT.out.lift hb)
  try have HVX := Lib.hid (HVX.out.lift hb)
  try have HVM := Lib.hid (HVM.out.lift hb)
  try have HVF := Lib.hid (HVF.out.lift hb)
  try have HVP := Lib.hid (HVP.out.lift hb)
  try have HVQ := Lib.hid (HVQ.out.lift hb)
  try have HLA := Lib.hid (HLA.out.lift hb)
  try have HLW := Lib.hid (HLW.out.lift hb)
  try have HI := Lib.hid (HI.out.lift hb)
  try have HRB := Lib.hid (HRB.out.trans (hb.mono HRB.out.size))
  try have HWW := Lib.hid (HWW.out.trans (hb.mono HWW.out.size))
  clear hb
  have HVT := Lib.hid hI3
  clear hI3
  by_cases h0 : X.length = 0
  · have HZ := Lib.hid (HRZ.out h0)
    have hX0 : X = [] := List.eq_nil_of_length_eq_zero h0
    subst hX0
    go_wp2_with fail
    refine (HDZ.out A2 _ _ c3 _).mono ?_
    rintro e w4 ⟨⟨A4, k4, A5, k5, rfl⟩, hb⟩
    have HBW := Lib.hid (HBW.out.trans (hb.mono HBW.out.size))
    try have HVA := Lib.hid (HVA.out.lift hb)
    try have HVB := Lib.hid (HVB.out.lift hb)
    try have HVC := Lib.hid (HVC.out.lift hb)
    try have HVT := Lib.hid (HVT.out.lift hb)
    try have HVX := Lib.hid (HVX.out.lift hb)
    try have HVM := Lib.hid (HVM.out.lift hb)
    try have HVF := Lib.hid (HVF.out.lift hb)
    try have HVP := Lib.hid (HVP.out.lift hb)
    try have HVQ := Lib.hid (HVQ.out.lift hb)
    try have HLA := Lib.hid (HLA.out.lift hb)
    try have HLW := Lib.hid (HLW.out.lift hb)
    try have HI := Lib.hid (HI.out.lift hb)
    try have HRB := Lib.hid (HRB.out.trans (hb.mono HRB.out.size))
    try have HWW := Lib.hid (HWW.out.trans (hb.mono HWW.out.size))
    clear hb
    go_wp2_with fail
    go_ret
    exact ⟨⟨A5, k5, by rw [HZ.out]; rfl⟩, HBW.out⟩
  · have HD := Lib.hid (HDV.out (by omega))
    go_wp2_with fail
    refine (HD.out _ _ _ _ _ HVX.out HVT.out).mono ?_
    rintro e w4 ⟨g4, k4, g5, k5, rfl, _, _, hb⟩
    have HBW := Lib.hid (HBW.out.trans (hb.mono HBW.out.size))
    try have HVA := Lib.hid (HVA.out.lift hb)
    try have HVB := Lib.hid (HVB.out.lift hb)
    try have HVC := Lib.hid (HVC.out.lift hb)
    try have HVT := Lib.hid (HVT.out.lift hb)
    try have HVX := Lib.hid (HVX.out.lift hb)
    try have HVM := Lib.hid (HVM.out.lift hb)
    try have HVF := Lib.hid (HVF.out.lift hb)
    try have HVP := Lib.hid (HVP.out.lift hb)
    try have HVQ := Lib.hid (HVQ.out.lift hb)
    try have HLA := Lib.hid (HLA.out.lift hb)
    try have HLW := Lib.hid (HLW.out.lift hb)
    try have HI := Lib.hid (HI.out.lift hb)
    try have HRB := Lib.hid (HRB.out.trans (hb.mono HRB.out.size))
    try have HWW := Lib.hid (HWW.out.trans (hb.mono HWW.out.size))
    clear hb
    go_wp2_with fail
    go_ret
    exact ⟨⟨some ⟨g5, 0, none⟩, _, by rw [HRN.out]; rfl⟩, HBW.out⟩

set_option maxRecDepth 100000 in
set_option maxHeartbeats 2000000 in
theorem spec_VanishesAt_any (N d : Nat) (A : Option Addr) (cap : Nat) (bs : List Int) (w : World) (hA : Ints w w.heap.size A bs) (hok : RhOk N bs) (hd1 : 1 ≤ d) (hd2 : d ≤ 24) :
    Calls Tryz.prog 56 #[.agg #[.int .i64 N, .slice A bs.length cap], .int .i64 d] w fun e w' => e = .returned (.bool (vanB N bs d)) ∧ Below w.heap.size w w' := by
  have hn2 : N ≤ 24 := by have := hok.2.1; omega
  have hfN : Fits (N : Int) := by unfold Fits; omega
  have hr : rhB N bs = true := rhB_iff.2 hok
  have HRO := Lib.hid (fun V h => hr ▸ spec_RhythmOk_any N A cap bs V h)
  have HRB := Lib.hid (fun V h => spec_RestBy_any N d A cap bs V h hok hd1 hd2)
  have hin : inB (d : Int) 1 24 = true := inB_true ⟨by omega, by omega⟩
  have HV := Lib.hid (show vanB N bs d = ((rstN N bs d : Int) == 0) by
    unfold vanB
    cases h : ((rstN N bs d : Int) == 0)
    · rw [beq_eq_false_iff_ne] at h; exact decide_eq_false (by omega)
    · rw [beq_iff_eq] at h; exact decide_eq_true (by omega))
  have HBW := Lib.hid ((Below.refl w.heap.size w).alloc (Nat.le_refl _) (.cells #[.int .i64 N, .slice A (bs).length cap] 27))
  have HVA := Lib.hid (Hav.boxed hA N cap)
  generalize rstN N bs d = rn at *
  clear hA hok hr
  obtain ⟨⟨p0, p1, _, _, _⟩, _⟩ := HVA.out
  go_enter Tryz.func56, Tryz.ntmps56
  go_wp2_with fail
  generalize w.alloc (.cells #[.int .i64 N, .slice A (bs).length cap] 27) = W at *
  refine (HRO.out _ HVA.out.2).mono ?_
  rintro e w1 ⟨rfl, hb⟩
  have HBW := Lib.hid (HBW.out.trans (hb.mono HBW.out.size))
  try have HVA := Lib.hid (HVA.out.lift hb)
  try have HVB := Lib.hid (HVB.out.lift hb)
  try have HVC := Lib.hid (HVC.out.lift hb)
  try have HVT := Lib.hid (HVT.out.lift hb)
  try have HVX := Lib.hid (HVX.out.lift hb)
  try have HVM := Lib.hid (HVM.out.lift hb)
  try have HVF := Lib.hid (HVF.out.lift hb)
  try have HVP := Lib.hid (HVP.out.lift hb)
  try have HVQ := Lib.hid (HVQ.out.lift hb)
  try have HLA := Lib.hid (HLA.out.lift hb)
  try have HLW := Lib.hid (HLW.out.lift hb)
  try have HI := Lib.hid (HI.out.lift hb)
  try have HRB := Lib.hid (HRB.out.trans (hb.mono HRB.out.size))
  try have HWW := Lib.hid (HWW.out.trans (hb.mono HWW.out.size))
  clear hb
  clear p0 p1
  obtain ⟨⟨p0, p1, _, _, _⟩, _⟩ := HVA.out
  go_wp2_with (go_at_call 34; refine (l01In_any _ _ _ _).mono ?_; rintro e w' ⟨rfl, rfl⟩)
  refine (HRB.out _ HVA.out.2).mono ?_
  rintro e w2 ⟨⟨A2, c2, rfl⟩, hb⟩
  have HBW := Lib.hid (HBW.out.trans (hb.mono HBW.out.size))
  try have HVA := Lib.hid (HVA.out.lift hb)
  try have HVB := Lib.hid (HVB.out.lift hb)
  try have HVC := Lib.hid (HVC.out.lift hb)
  try have HVT := Lib.hid (HVT.out.lift hb)
  try have HVX := Lib.hid (HVX.out.lift hb)
  try have HVM := Lib.hid (HVM.out.lift hb)
  try have HVF := Lib.hid (HVF.out.lift hb)
  try have HVP := Lib.hid (HVP.out.lift hb)
  try have HVQ := Lib.hid (HVQ.out.lift hb)
  try have HLA := Lib.hid (HLA.out.lift hb)
  try have HLW := Lib.hid (HLW.out.lift hb)
  try have HI := Lib.hid (HI.out.lift hb)
  try have HRB := Lib.hid (HRB.out.trans (hb.mono HRB.out.size))
  try have HWW := Lib.hid (HWW.out.trans (hb.mono HWW.out.size))
  clear hb
  go_wp2_with fail
  go_ret
  exact ⟨ret_bool HV.out.symm, HBW.out⟩

end Go.Proofs.YtjoeglekcnaebaaGreatDoor

namespace Go.Proofs.YtjoeglekcnaebaaGreatDoor
open Go.RowKit
set_option linter.unusedVariables false
set_option linter.unusedSimpArgs false

theorem OwnI.monoD {w : World} {base base' : Nat} {v : Value} {xs : List Int} (h : OwnI w base v xs) (hb : base' ≤ base) : OwnI w base' v xs :=
  ⟨h.1, h.2.imp id fun ⟨g, cap, cur, e, hg, r⟩ => ⟨g, cap, cur, e, Nat.le_trans hb hg, r⟩⟩
def vnF (N : Nat) (bs : List Int) : Nat → List Int
  | 0 => []
  | m + 1 => if 2 ≤ m ∧ N % m = 0 ∧ vanB N bs m = true then vnF N bs m ++ [(m : Int)] else vnF N bs m
theorem vnF_len (N : Nat) (bs : List Int) : ∀ m, (vnF N bs m).length ≤ m
  | 0 => Nat.le_refl _
  | m + 1 => by
    have := vnF_len N bs m
    unfold vnF; split <;> simp <;> omega
theorem vnF_two (N : Nat) (bs : List Int) : vnF N bs 2 = [] := by
  show (if 2 ≤ 1 ∧ N % 1 = 0 ∧ vanB N bs 1 = true then _ else (if 2 ≤ 0 ∧ N % 0 = 0 ∧ vanB N bs 0 = true then _ else _)) = _
  rw [if_neg (fun h => absurd h.1 (by decide)), if_neg (fun h => absurd h.1 (by decide))]
  rfl
theorem vnF_all (N : Nat) (bs : List Int) : ∀ m, (dvsL N m).filter (fun x => !drpB N bs x) = vnF N bs m
  | 0 => rfl
  | m + 1 => by
    have ih := vnF_all N bs m
    show (if 1 ≤ m ∧ N % m = 0 then dvsL N m ++ [(m : Int)] else dvsL N m).filter _ = (if 2 ≤ m ∧ N % m = 0 ∧ vanB N bs m = true then vnF N bs m ++ [(m : Int)] else vnF N bs m)
    have hd : drpB N bs (m : Int) = (decide (m = 1) || !vanB N bs m) := by
      unfold drpB
      rw [Int.toNat_natCast]
      congr 1
      rw [Bool.eq_iff_iff]; simp; omega
    by_cases h1 : 1 ≤ m ∧ N % m = 0
    · rw [if_pos h1, List.filter_append, ih]
      by_cases h2 : m = 1
      · rw [if_neg (by omega)]
        rw [h2] at hd
        simp [List.filter_cons, h2]
        exact hd
      · cases h3 : vanB N bs m
        · rw [if_neg (fun h => by cases h.2.2)]
          simp [List.filter_cons, hd, h3]
        · rw [if_pos ⟨by omega, h1.2, rfl⟩]
          simp [List.filter_cons, hd, h3, h2]
    · rw [if_neg h1, ih, if_neg (fun h => h1 ⟨by omega, h.2.1⟩)]
theorem vanL_eq (N : Nat) (bs : List Int) : vanL N bs = vnF N bs (N + 1) := vnF_all N bs (N + 1)

set_option maxRecDepth 100000 in
set_option maxHeartbeats 2000000 in
theorem spec_VanishingOrders_any (N : Nat) (A : Option Addr) (cap : Nat) (bs : List Int) (w : World) (hA : Ints w w.heap.size A bs) (hok : RhOk N bs) :
    Calls Tryz.prog 30 #[.agg #[.int .i64 N, .slice A bs.length cap]] w fun e w' => ∃ v, e = .returned v ∧ OwnI w' w.heap.size v (vanL N bs) ∧ Below w.heap.size w w' := by
  have hn1 : 1 ≤ N := by have := hok.1; omega
  have hn2 : N ≤ 24 := by have := hok.2.1; omega
  have hr : rhB N bs = true := rhB_iff.2 hok
  have HRO := Lib.hid (fun V h => hr ▸ spec_RhythmOk_any N A cap bs V h)
  have HVA0 := Lib.hid (fun d V h h1 h2 => spec_VanishesAt_any N d A cap bs V h hok h1 h2)
  have HBW := Lib.hid ((Below.refl w.heap.size w).alloc (Nat.le_refl _) (.cells #[.int .i64 N, .slice A (bs).length cap] 27))
  have HVA := Lib.hid (Hav.boxed hA N cap)
  have HE := Lib.hid (vanL_eq N bs)
  have hzW : (w.alloc (.cells #[.int .i64 N, .slice A (bs).length cap] 27)).heap.size = w.heap.size + 1 := by simp
  clear hA hok hr
  obtain ⟨⟨p0, p1, _, _, _⟩, _⟩ := HVA.out
  go_enter Tryz.func30, Tryz.ntmps30
  go_wp2_with fail
  generalize w.alloc (.cells #[.int .i64 N, .slice A (bs).length cap] 27) = W at *
  refine (HRO.out _ HVA.out.2).mono ?_
  rintro e w1 ⟨rfl, hb⟩
  have HBW := Lib.hid (HBW.out.trans (hb.mono HBW.out.size))
  try have HVA := Lib.hid (HVA.out.lift hb)
  try have HVB := Lib.hid (HVB.out.lift hb)
  try have HVC := Lib.hid (HVC.out.lift hb)
  try have HVT := Lib.hid (HVT.out.lift hb)
  try have HVX := Lib.hid (HVX.out.lift hb)
  try have HVM := Lib.hid (HVM.out.lift hb)
  try have HVF := Lib.hid (HVF.out.lift hb)
  try have HVP := Lib.hid (HVP.out.lift hb)
  try have HVQ := Lib.hid (HVQ.out.lift hb)
  try have HLA := Lib.hid (HLA.out.lift hb)
  try have HLW := Lib.hid (HLW.out.lift hb)
  try have HI := Lib.hid (HI.out.lift hb)
  try have HRB := Lib.hid (HRB.out.trans (hb.mono HRB.out.size))
  try have HWW := Lib.hid (HWW.out.trans (hb.mono HWW.out.size))
  clear hb
  clear p0 p1 hzW
  obtain ⟨⟨p0, p1, _, _, _⟩, _⟩ := HVA.out
  have hz1 := HBW.out.size
  go_wp2_with fail
  go_loopw [3, 4] (fun so i wr => ∃ j : Nat, 2 ≤ j ∧ j ≤ N + 1 ∧ i = .int .i64 j ∧ OwnI wr w1.heap.size so (vnF N bs j) ∧ Below w1.heap.size w1 wr) (fun _ i _ => N + 1 - (intOf i).toNat)
  case atStart =>
    refine ⟨2, Nat.le_refl _, by omega, rfl, ?_, (Below.refl _ _).alloc (Nat.le_refl _) _⟩
    rw [vnF_two]
    exact OwnI.empty_at _ _ _ rfl (Nat.le_refl _)
  case round =>
    obtain ⟨j, hj1, hj, rfl, hown, hbel1⟩ := hrel
    obtain ⟨wo, rfl⟩ : ∃ wo : World, wo = wr := ⟨_, rfl⟩
    have hws := hbel1.size
    have HB1 := Lib.hid hbel1
    have HO := Lib.hid hown
    have HVX := Lib.hid (HVA.out.lift hbel1)
    clear p0 p1
    obtain ⟨⟨p0, p1, _, _, _⟩, _⟩ := HVX.out
    obtain ⟨A1, c1, rfl⟩ := hown.form
    have hmk := vnF_len N bs j
    clear hown hbel1
    have hvs : vnF N bs (j + 1) = if 2 ≤ j ∧ N % j = 0 ∧ vanB N bs j = true then vnF N bs j ++ [(j : Int)] else vnF N bs j := rfl
    by_cases hlt : j ≤ N
    · have hji : (j : Int) ≤ (N : Int) := by omega
      have hnz : ((j : Int) = 0) = False := eq_false (by omega)
      have hnz2 : (j = 0) = False := eq_false (by omega)
      have hrm : (N : Int).tmod (j : Int) = ((N % j : Nat) : Int) := by rw [Int.tmod_eq_emod_of_nonneg (by omega)]; omega
      have hml : N % j < j := Nat.mod_lt _ (by omega)
      have hw1 : IntKind.i64.wrap ((N % j : Nat) : Int) = ((N % j : Nat) : Int) := i64w (by omega)
      by_cases hd : N % j = 0
      · have HC := Lib.hid (HVA0.out j wo HVX.out.2 (by omega) (by omega))
        cases hv : vanB N bs j
        · rw [if_neg (fun h => by rw [hv] at h; cases h.2.2)] at hvs
          rw [hv] at HC
          have HS := Lib.hid hvs
          rw [hd] at hrm hw1
          clear hvs hml hd hv
          generalize vnF N bs j = L at *
          go_wp2_with fail
          refine HC.out.mono ?_
          rintro e w2 ⟨rfl, hb⟩
          have HO2 := Lib.hid (HO.out.grown hb)
          have HB3 := Lib.hid (HB1.out.trans (hb.mono HB1.out.size))
          clear hb
          go_wp2_with fail
          go_roundw
          case rel => exact ⟨j + 1, by omega, by omega, by go_num, by rw [HS.out]; exact HO2.out, HB3.out⟩
          case measure => simp [intOf]; omega
        · rw [if_pos ⟨hj1, hd, hv⟩] at hvs
          rw [hv] at HC
          have HS := Lib.hid hvs
          rw [hd] at hrm hw1
          clear hvs hml hd hv
          generalize vnF N bs j = L at *
          go_wp2_with fail
          refine HC.out.mono ?_
          rintro e w2 ⟨rfl, hb⟩
          have HO2 := Lib.hid (HO.out.grown hb)
          have HB3 := Lib.hid (HB1.out.trans (hb.mono HB1.out.size))
          have hz3 := HB3.out.size
          clear hb
          go_wp2_with (at_builtin; refine wpList_append_int rfl (.tmp 25) (.tmp 27) rfl w1.heap.size _ L rfl (HO2.out.alloc _) _ _ rfl (cell_new1 _ _ _) (by omega) (by simp; omega) ?_; intro v3 w3 hown3 hb3)
          have HO3 := Lib.hid hown3
          have HB4 := Lib.hid ((HB3.out.alloc hz3 _).trans hb3)
          clear hown3 hb3
          go_wp2_with fail
          go_roundw
          case rel => exact ⟨j + 1, by omega, by omega, by go_num, by rw [HS.out]; exact HO3.out, HB4.out⟩
          case measure => simp [intOf]; omega
      · rw [if_neg (fun h => hd h.2.1)] at hvs
        have HS := Lib.hid hvs
        have hmz : ((N % j : Nat) : Int) ≠ 0 := by omega
        generalize N % j = m at *
        have hme : ((m : Int) == 0) = false := beq_eq_false_iff_ne.2 hmz
        clear hvs
        generalize vnF N bs j = L at *
        go_wp2_with fail
        go_roundw
        case rel => exact ⟨j + 1, by omega, by omega, by go_num, by rw [HS.out]; exact HO.out, HB1.out⟩
        case measure => simp [intOf]; omega
    · have hji : ¬ (j : Int) ≤ (N : Int) := by omega
      have HV := Lib.hid (show vanL N bs = vnF N bs j by
        rw [HE.out, show j = N + 1 by omega])
      generalize vnF N bs j = L at *
      go_wp2_with fail
      go_ret
      exact ⟨_, rfl, by rw [HV.out]; exact OwnI.monoD HO.out hz1, HBW.out.trans (HB1.out.mono hz1)⟩

end Go.Proofs.YtjoeglekcnaebaaGreatDoor

