/-
  The laws' marks on slices of strings; equality of two that hold the same.
-/
import Derived.Test.YtjgbnmljbgadjaaFrm
import Derived.Test.YtjgbnmljbgadjaaStrs
import Derived.Test.YtjgbnmljbgadjaaTabU
namespace Go.Proofs.Ytjgbnmljbgadjaa
open Go.RowKit
set_option linter.unusedVariables false
set_option linter.unusedSimpArgs false

/-- The digits of k before acc, within f steps. -/
def decT : Nat → Nat → List UInt8 → List UInt8
  | 0, _, acc => acc
  | f + 1, k, acc => if k = 0 then acc else decT f (k / 10) (UInt8.ofNat (48 + k % 10) :: acc)
theorem decT_zero (f : Nat) (acc : List UInt8) : decT f 0 acc = acc := by cases f <;> rfl
theorem decT_step {f k : Nat} {acc : List UInt8} (hk : 0 < k) : decT (f + 1) k acc = decT f (k / 10) (UInt8.ofNat (48 + k % 10) :: acc) := by
  show (if k = 0 then acc else _) = _
  rw [if_neg (by omega)]
def mrkT (k : Nat) : List UInt8 := 109 :: decT 20 k []

set_option maxRecDepth 100000 in
set_option maxHeartbeats 1000000 in
theorem markText_any (k : Nat) (w : World) (hk1 : 1 ≤ k) (hk : k ≤ 1000000000000) :
    Calls Try.prog 37 #[.int .i64 k] w fun e w' => e = .returned (.string (mkS (mrkT k))) ∧ Below w.heap.size w w' := by
  have h10 : k < 10 ^ 20 := Nat.lt_of_le_of_lt hk (by decide)
  go_enter Try.func37, Try.ntmps37
  go_wp2_with fail
  go_loopw [0, 3] (fun s t wr => ∃ (f q : Nat) (acc : List UInt8) (u : ByteArray), s = .int .i64 q ∧ t = .string u ∧ Str u acc ∧ acc.length + f = 20 ∧ q < 10 ^ f ∧ q ≤ 1000000000000 ∧ decT f q acc = decT 20 k [] ∧ Below w.heap.size w wr) (fun s _ _ => (intOf s).toNat)
  case atStart => exact ⟨20, k, [], _, rfl, rfl, str_nil, rfl, h10, hk, rfl, Below.refl _ _⟩
  case round =>
    obtain ⟨f, q, acc, u, rfl, rfl, hu, hlen, hqf, hq, hdec, hbel⟩ := hrel
    obtain ⟨wo, rfl⟩ : ∃ wo : World, wo = wr := ⟨_, rfl⟩
    have HU := Lib.hid hu
    have HB := Lib.hid hbel
    have hsz := hu.size
    have hsz' : u.size ≤ 20 := by omega
    clear hu hbel hsz h10
    by_cases hq0 : 0 < q
    · obtain ⟨f', rfl⟩ : ∃ f', f = f' + 1 := ⟨f - 1, by cases f with | zero => simp at hqf; omega | succ f => rfl⟩
      obtain ⟨d, hd⟩ : ∃ d, q % 10 = d := ⟨_, rfl⟩
      obtain ⟨p, hp⟩ : ∃ p, q / 10 = p := ⟨_, rfl⟩
      have hd10 : d < 10 := by omega
      have hp2 : p < 10 ^ f' := by rw [Nat.pow_succ] at hqf; omega
      have hmod : Int.tmod (q : Int) 10 = (d : Int) := by rw [Int.tmod_eq_emod_of_nonneg (by omega)]; omega
      have hmod2 : (q : Int) % 10 = (d : Int) := by omega
      have hquo : Int.tdiv (q : Int) 10 = (p : Int) := by rw [Int.tdiv_eq_ediv_of_nonneg (by omega)]; omega
      have hquo2 : (q : Int) / 10 = (p : Int) := by omega
      have hw1 : IntKind.i64.wrap (d : Int) = d := i64w (by omega)
      have hw2 : IntKind.i64.wrap (48 + (d : Int)) = 48 + (d : Int) := i64w (by omega)
      have hw3 : IntKind.u8.wrap (48 + (d : Int)) = 48 + (d : Int) := by rw [IntKind.wrap_u8]; omega
      have hw4 : IntKind.i64.wrap (p : Int) = p := i64w (by omega)
      obtain ⟨c, hc⟩ : ∃ c : UInt8, UInt8.ofNat (48 + d) = c := ⟨_, rfl⟩
      have hcn : (c.toNat : Int) = 48 + (d : Int) := by rw [← hc, UInt8.toNat_ofNat']; omega
      have hds := decT_step (f := f') (acc := acc) hq0
      rw [hdec, hp, hd, hc] at hds
      have HDS := Lib.hid hds
      have htb : TabU (wo.alloc (.cells #[.int .u8 (48 + (d : Int))] 5)) wo.heap.size 1 (fun _ => c) := by
        refine ⟨by simp, fun t ht => ?_⟩
        have ht0 : t = 0 := by omega
        subst ht0
        refine ⟨?_, frozen_of_row _ _ _ _ _ (heap_alloc_new wo _)⟩
        rw [cell_new1, hcn]
      have hcv := htb.string 1
      have h1 : (mkS (tabL 1 fun _ => c)).size = 1 := by rw [mkS_size, tabL_len]
      have HC1 := Lib.hid (str_mk (tabL 1 fun _ => c))
      generalize mkS (tabL 1 fun _ => c) = C at hcv h1 HC1
      have HP := Lib.hid hp2
      clear hds hdec hc hd hp htb hcn hqf hp2
      go_wp2_with fail
      go_roundw
      case rel =>
        exact ⟨f', p, c :: acc, _, by go_num, rfl, by simpa [tabL] using HC1.out.app HU.out, by simp; omega, HP.out, by omega, HDS.out.symm, HB.out.alloc (by have := HB.out.size; omega) _⟩
      case measure => simp [intOf]; omega
    · have hq00 : q = 0 := by omega
      subst hq00
      rw [decT_zero] at hdec
      have HD := Lib.hid hdec
      clear hdec
      go_wp2_with fail
      go_ret
      refine ⟨ret_str ?_, HB.out⟩
      rw [((str_one 109).app HU.out).eq]
      unfold mrkT
      rw [← HD.out]
      rfl

theorem eqStr_same (xs : List Txt) (A1 A2 : Option Addr) (c1 c2 : Nat) (w : World) (h1 : Strs w w.heap.size A1 xs) (h2 : Strs w w.heap.size A2 xs) :
    Calls Try.prog 17 #[.slice A1 xs.length c1, .slice A2 xs.length c2] w fun e w' => e = .returned (.bool true) ∧ Below w.heap.size w w' := by
  have hl := h1.1
  have HA := Lib.hid h1
  have HB := Lib.hid h2
  clear h1 h2
  go_enter Try.func17, Try.ntmps17
  go_wp2
  go_loopw [5] (fun i wr => ∃ k : Nat, k ≤ xs.length ∧ i = .int .i64 k ∧ Below w.heap.size w wr) (fun i _ => xs.length - (intOf i).toNat)
  case atStart => exact ⟨0, Nat.zero_le _, rfl, Below.refl _ _⟩
  case round =>
    obtain ⟨k, hk, rfl, hbel⟩ := hrel
    by_cases hlt : k < xs.length
    · obtain ⟨b, off, rfl, hB1, hc1⟩ := HA.out.2 (by omega)
      obtain ⟨b2, off2, rfl, hB2, hc2⟩ := HB.out.2 (by omega)
      have hcell1 := hc1 k hlt
      have hcell2 := hc2 k (by omega)
      rw [← hbel.cell (p := ⟨b, off + k, none⟩) hB1] at hcell1
      rw [← hbel.cell (p := ⟨b2, off2 + k, none⟩) hB2] at hcell2
      unfold emS at hcell1 hcell2
      generalize mkS (xs.getD k []) = X at hcell1 hcell2
      clear hc1 hc2
      have hk0 : (0 : Int) ≤ (k : Int) := Int.natCast_nonneg _
      have hk1 : (k : Int) < (xs.length : Int) := by omega
      go_wp2
      go_quiet (fail)
      go_wp2
      go_roundw
      case rel => exact ⟨k + 1, by omega, by go_num, Below.drewN_ hbel _⟩
      case measure => simp [intOf]; omega
    · go_wp2
      go_ret
      exact ⟨rfl, hbel⟩

theorem OwnS.heldV {w : World} {base cap : Nat} {A : Option Addr} {xs : List Txt} (h : OwnS w base (.slice A xs.length cap) xs) : HeldV w A xs.length (fun t => emS (xs.getD t [])) base w.heap.size := by
  intro hn
  rcases h.2 with ⟨hv, h0⟩ | ⟨g, cap', cur, hv, hge, hh, hnc, hm, hsz, hxs⟩
  · omega
  · have hA : A = some ⟨g, 0, none⟩ := by injection hv
    subst hA
    refine ⟨g, rfl, hge, (h.lt g rfl).2, (h.lt g rfl).2, fun t ht => ⟨?_, frozen_of_row _ _ _ _ _ hh⟩⟩
    have := World.ownsRow.cells h (g := g) rfl t (emS (xs.getD t [])) (by rw [List.getElem?_map, List.getElem?_eq_getElem ht]; simp [List.getD_eq_getElem?_getD, ht])
    rwa [Go.WideShapes.add_plain, Nat.zero_add] at this
theorem HeldV.strs {w : World} {A : Option Addr} {xs : List Txt} {base top : Nat} (h : HeldV w A xs.length (fun t => emS (xs.getD t [])) base top) (_ : top ≤ w.heap.size) (hl : xs.length ≤ 1048576) : Strs w w.heap.size A xs := by
  refine ⟨hl, fun hn => ?_⟩
  obtain ⟨b, e, _, _, ht⟩ := h hn
  exact ⟨b, 0, e, ht.1, fun i hi => by rw [Nat.zero_add]; exact (ht.2 i hi).1⟩

set_option maxHeartbeats 400000 in
theorem markStringS_any (A : Option Addr) (cap N : Nat) (f : Nat → Value) (k : Nat) (base top : Nat) (w : World) (hN : N ≤ 1048576) (hA : HeldV w A N f base top) (ht : top ≤ w.heap.size) (hk0 : 1 ≤ k) (hk1 : k ≤ 1000000) :
    Calls Try.prog 19 #[.slice A N cap, .int .i64 k] w fun e w' => e = .returned (.int .i64 (k + N)) ∧ HeldV w' A N (fun t => emS (mrkT (k + t))) base top ∧ Frm (Rng base top) w w' := by
  have HA := Lib.hid hA
  clear hA
  go_enter Try.func19, Try.ntmps19
  go_wp2
  go_loopw [1, 5] (fun kk i wr => ∃ j : Nat, j ≤ N ∧ i = .int .i64 j ∧ kk = .int .i64 (k + j) ∧ HeldV wr A N (fun t => if t < j then emS (mrkT (k + t)) else f t) base top ∧ Frm (Rng base top) w wr) (fun _ i _ => N - (intOf i).toNat)
  case atStart => exact ⟨0, by omega, rfl, by simp, HA.out.congr (fun t _ => by simp), Frm.refl _ _⟩
  case round =>
    obtain ⟨j, hj, rfl, rfl, hheld, hbel⟩ := hrel
    obtain ⟨wo, rfl⟩ : ∃ wo : World, wo = wr := ⟨_, rfl⟩
    by_cases hlt : j < N
    · obtain ⟨b, rfl, hb0, hb1, htab⟩ := hheld (by omega)
      have HT := Lib.hid htab
      have HB := Lib.hid hbel
      have HR := Lib.hid (show Rng base top b from ⟨hb0, hb1⟩)
      have hmt := fun V => markText_any (k + j) V (by omega) (by omega)
      rw [Int.natCast_add] at hmt
      have HM := Lib.hid hmt
      obtain ⟨X, hX⟩ : ∃ X, mkS (mrkT (k + j)) = X := ⟨_, rfl⟩
      rw [hX] at HM
      have HX := Lib.hid hX
      clear hheld htab hbel hmt hX
      go_wp2_with fail
      refine (HM.out _).mono ?_
      rintro e w1 ⟨rfl, hb⟩
      have htab1 := HT.out.frm (Frm.pure hb (fun _ => False)) (fun h => h)
      have hto := htab1.get hlt (v := f j) (if_neg (by omega))
      have hfr := (htab1.2 j hlt).2
      have HT1 := Lib.hid htab1
      have HB1 := Lib.hid (HB.out.trans (Frm.pure hb _))
      clear htab1 hb
      go_wp2_with fail
      go_roundw
      case rel =>
        refine ⟨j + 1, by omega, by go_num, by go_num, fun _ => ⟨b, rfl, hb0, hb1, HT1.out.set_ j _ hlt ?_ ?_⟩, HB1.out.setCell HR.out _⟩
        · rw [if_pos (by omega)]; unfold emS; rw [HX.out]
        · intro t _ ht
          by_cases h : t < j
          · rw [if_pos h, if_pos (by omega)]
          · rw [if_neg h, if_neg (by omega)]
      case measure => simp [intOf]; omega
    · have hjN : j = N := by omega
      subst hjN
      have HEND := Lib.hid (hheld.congr (g := fun t => emS (mrkT (k + t))) (fun t ht => by rw [if_pos (by omega)]))
      clear hheld
      go_wp2
      go_ret
      exact ⟨rfl, HEND.out, hbel⟩

set_option maxHeartbeats 1000000 in
theorem heldStringS_any (A : Option Addr) (cap N : Nat) (k : Nat) (base top : Nat) (w : World) (hN : N ≤ 1048576) (hA : HeldV w A N (fun t => emS (mrkT (k + t))) base top) (hk0 : 1 ≤ k) (hk1 : k ≤ 1000000) :
    Calls Try.prog 20 #[.slice A N cap, .int .i64 k] w fun e w' => e = .returned (.int .i64 (k + N)) ∧ Below w.heap.size w w' := by
  have HA := Lib.hid hA
  clear hA
  go_enter Try.func20, Try.ntmps20
  go_wp2
  go_loopw [1, 5] (fun kk i wr => ∃ j : Nat, j ≤ N ∧ i = .int .i64 j ∧ kk = .int .i64 (k + j) ∧ Below w.heap.size w wr) (fun _ i _ => N - (intOf i).toNat)
  case atStart => exact ⟨0, by omega, rfl, by simp, Below.refl _ _⟩
  case round =>
    obtain ⟨j, hj, rfl, rfl, hbel⟩ := hrel
    obtain ⟨wo, rfl⟩ : ∃ wo : World, wo = wr := ⟨_, rfl⟩
    by_cases hlt : j < N
    · obtain ⟨b, rfl, hb0, hb1, ht⟩ := HA.out (by omega)
      have c0 : wo.cell? ⟨b, j, none⟩ = some (.string (mkS (mrkT (k + j)))) := (hbel.cell (p := ⟨b, j, none⟩) ht.1).trans (ht.2 j hlt).1
      have hbw : b < wo.heap.size := Nat.lt_of_lt_of_le ht.1 hbel.size
      have hmt := fun V => markText_any (k + j) V (by omega) (by omega)
      rw [Int.natCast_add] at hmt
      have HM := Lib.hid hmt
      generalize mkS (mrkT (k + j)) = X at HM c0
      have HB := Lib.hid hbel
      have hk0 : (0 : Int) ≤ (j : Int) := Int.natCast_nonneg _
      have hk1 : (j : Int) < (N : Int) := by omega
      clear ht hmt hbel
      go_wp2_with fail
      (refine wp_region_held_drew (S := (fun w' => w'.cell? ⟨b, j, none⟩ = some (.string X))) (by kernel_rfl) ?_ (fun hHeld => ?_); (focus ((try dsimp only); exact c0)))
      (refine wpAnyH_take (i := 0) (v := ?_) rfl (by kernel_rfl) (by kernel_rfl) (by kernel_rfl) (fun _ _ _ h => h) (Or.inl ⟨by rfl, ?_⟩) (by assumption) ?_; rotate_left; (focus (intro wS hSw; (try dsimp only at hSw); go_simp; (try with_reducible rfl))); (try simp only [Act.put, List.getElem_toArray, List.getElem_cons_zero, List.getElem_cons_succ, List.setIfInBounds_toArray, List.set_cons_zero, List.set_cons_succ]))
      (refine wpAnyH_take (i := 1) (v := ?_) rfl (by kernel_rfl) (by kernel_rfl) (by kernel_rfl) (fun _ _ _ h => h) (Or.inl ⟨by rfl, ?_⟩) (by assumption) ?_; rotate_left; (focus (intro wS hSw; (try dsimp only at hSw); go_simp; (try with_reducible rfl))); (try simp only [Act.put, List.getElem_toArray, List.getElem_cons_zero, List.getElem_cons_succ, List.setIfInBounds_toArray, List.set_cons_zero, List.set_cons_succ]))
      (refine wpAnyH_take (i := 2) (v := ?_) rfl (by kernel_rfl) (by kernel_rfl) (by kernel_rfl) (fun _ _ _ h => h) (Or.inl ⟨by rfl, ?_⟩) (by assumption) ?_; rotate_left; (focus (intro wS hSw; (try dsimp only at hSw); go_simp; (try with_reducible rfl))); (try simp only [Act.put, List.getElem_toArray, List.getElem_cons_zero, List.getElem_cons_succ, List.setIfInBounds_toArray, List.set_cons_zero, List.set_cons_succ]))
      (refine wpAnyH_take (i := 3) (v := ?_) rfl (by kernel_rfl) (by kernel_rfl) (by kernel_rfl) (fun _ _ _ h => h) (Or.inl ⟨by rfl, ?_⟩) (by assumption) ?_; rotate_left; (focus (intro wS hSw; (try dsimp only at hSw); go_simp; (try with_reducible rfl))); (try simp only [Act.put, List.getElem_toArray, List.getElem_cons_zero, List.getElem_cons_succ, List.setIfInBounds_toArray, List.set_cons_zero, List.set_cons_succ]))
      (refine wpAnyH_take (i := 4) (v := ?_) rfl (by kernel_rfl) (by kernel_rfl) (by kernel_rfl) (fun _ _ _ h => h) (Or.inl ⟨by rfl, ?_⟩) (by assumption) ?_; rotate_left; (focus (intro wS hSw; (try dsimp only at hSw); go_simp; (try with_reducible rfl))); (try simp only [Act.put, List.getElem_toArray, List.getElem_cons_zero, List.getElem_cons_succ, List.setIfInBounds_toArray, List.set_cons_zero, List.set_cons_succ]))
      (refine wpAnyH_ready (rs := [5]) (by kernel_rfl) (by simp) ?_; refine AllReadyH.cons rfl (fun K hK => ?_) AllReadyH.nil; go_simp)
      go_at_call 37
      refine (HM.out _).mono ?_
      rintro e w1 ⟨rfl, hb⟩
      have HB1 := Lib.hid ((Below.drew5_ HB.out).trans (hb.mono (show w.heap.size ≤ wo.drew.heap.size from HB.out.size)))
      have d0 := (hb.cell (p := ⟨b, j, none⟩) (show b < wo.drew.heap.size from hbw)).trans c0
      clear hb c0
      go_wp2_with fail
      (refine hK.out _ _ ?_ (fun hHeld2 => ?_); (focus ((try dsimp only); exact d0)); (clear hK K); (try simp only [Act.put, List.getElem_toArray, List.getElem_cons_zero, List.getElem_cons_succ, List.setIfInBounds_toArray, List.set_cons_zero, List.set_cons_succ]))
      (refine wpAnyH_take (i := 6) (v := ?_) rfl (by kernel_rfl) (by kernel_rfl) (by kernel_rfl) (fun _ _ _ h => h) (Or.inl ⟨by rfl, ?_⟩) (by assumption) ?_; rotate_left; (focus (intro wS hSw; (try dsimp only at hSw); go_simp; (try with_reducible rfl))); (try simp only [Act.put, List.getElem_toArray, List.getElem_cons_zero, List.getElem_cons_succ, List.setIfInBounds_toArray, List.set_cons_zero, List.set_cons_succ]))
      refine wpAnyH_done (by kernel_rfl) ?_ _
      go_wp2_with fail
      go_roundw
      case rel => exact ⟨j + 1, by omega, by go_num, by go_num, HB1.out⟩
      case measure => simp [intOf]; omega
    · have hjN : j = N := by omega
      subst hjN
      go_wp2
      go_ret
      exact ⟨rfl, hbel⟩

end Go.Proofs.Ytjgbnmljbgadjaa
