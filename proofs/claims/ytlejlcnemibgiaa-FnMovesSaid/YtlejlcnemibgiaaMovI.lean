/-
  The moves of a rhythm, by the program.
-/
import Derived.Test.YtlejlcnemibgiaaAft
import Derived.Test.YtlejlcnemibgiaaHas
import Derived.Test.YtlejlcnemibgiaaCode
import Derived.Test.YtlejlcnemibgiaaRhs
import Derived.Test.YtlejlcnemibgiaaShV
namespace Go.Proofs.Ytlejlcnemibgiaa
open Go.RowKit Go.Shelf Go.Sort
set_option linter.unusedVariables false
set_option linter.unusedSimpArgs false

theorem and_bitM (c j : Nat) (hc : c < 16777216) : bits BinOp.and IntKind.i64 ((c : Int) / 2 ^ j) 1 = if c.testBit j = true then 1 else 0 := by
  have hle : c / 2 ^ j ≤ c := Nat.div_le_self _ _
  have h := i64_and_nat (c / 2 ^ j) 1 (by omega) (by omega)
  rw [Int.natCast_ediv, Int.natCast_pow] at h
  refine Eq.trans h ?_
  rw [Nat.and_one_is_mod, Nat.testBit_eq_decide_div_mod_eq]
  by_cases hb : c / 2 ^ j % 2 = 1
  · rw [hb]; simp
  · have : c / 2 ^ j % 2 = 0 := by omega
    rw [this]; simp

set_option maxRecDepth 100000 in
set_option maxHeartbeats 1000000 in
theorem impl_rhythmAtM_any (N c : Nat) (w : World) (hn1 : 1 ≤ N) (hn2 : N ≤ 24) (hc : c < 16777216) :
    Calls Try.prog 56 #[.int .i64 N, .int .i64 c] w (RetRh1 w N (bitsB N c N)) := by
  go_enter Try.func56, Try.ntmps56
  go_wp2_with fail
  go_loopw [10] (fun sp wr => ∃ (q : Nat) (v : Value), q ≤ N ∧ sp = .int .i64 q ∧ Cells2 wr (w.heap.size + 1) (.int .i64 N) v ∧ OwnI wr (w.heap.size + 2) v (bitsB N c q) ∧ (∃ u1 u2, Cells2 wr w.heap.size u1 u2) ∧ Below w.heap.size w wr ∧ w.heap.size + 2 ≤ wr.heap.size) (fun sp _ => N - (intOf sp).toNat)
  case atStart =>
    refine ⟨0, .slice none 0 0, Nat.zero_le _, rfl, Cells2.new_at _ _ _ _ _ (by simp), OwnI.nil _ _, ⟨_, _, (Cells2.new w _ _ _).alloc _⟩, ?_, by simp⟩
    exact ((Below.refl _ _).alloc (Nat.le_refl _) _).alloc (by first | exact Nat.le_refl _ | (simp; done) | (simp; omega) | omega) _
  case round =>
    obtain ⟨q, v, hq, rfl, hc2, hown, ⟨u1, u2, hc1⟩, hbel, hsz⟩ := hrel
    obtain ⟨wo, rfl⟩ : ∃ wo : World, wo = wr := ⟨_, rfl⟩
    have hple := bitsB_len N c q
    have HC2 := Lib.hid hc2
    have HC1 := Lib.hid hc1
    obtain ⟨g0, g1, g2, g3, g4⟩ := HC2.out
    obtain ⟨A1, c1, rfl⟩ := hown.form
    by_cases hlt : q < N
    · obtain ⟨j, hj⟩ : ∃ j : Nat, N - 1 - q = j := ⟨_, rfl⟩
      have hv : (N : Int) - 1 - (q : Int) = (j : Int) := by omega
      have hvw : IntKind.i64.wrap ((N : Int) - 1 - q) = (j : Int) := by rw [hv]; exact i64w (by omega)
      have hj63 : j < 63 := by omega
      have hab := and_bitM c j hc
      cases hb : c.testBit j
      · rw [hb, if_neg (by decide)] at hab
        have HS := Lib.hid (bitsB_no (n := N) (c := c) (m := q) (by rw [hj]; exact hb))
        have HO := Lib.hid hown
        clear hb hj hown hc1 hc2
        go_wp2_with fail
        go_roundw
        case rel => exact ⟨q + 1, _, by omega, by go_num, HC2.out, by rw [HS.out]; exact HO.out, ⟨u1, u2, HC1.out⟩, hbel, hsz⟩
        case measure => simp [intOf]; omega
      · rw [hb, if_pos rfl] at hab
        have HS := Lib.hid (bitsB_yes (n := N) (c := c) (m := q) (by rw [hj]; exact hb))
        clear hb hj
        go_wp2_with (at_builtin; refine wpList_append_int rfl _ _ rfl (w.heap.size + 2) _ (bitsB N c q) rfl (hown.alloc _) _ _ rfl (cell_new1 _ _ _) (by omega) (by first | exact Nat.le_refl _ | (simp; done) | (simp; omega) | omega) ?_; intro v' w1 hown1 hg1; obtain ⟨A2, c2, rfl⟩ := hown1.form; obtain ⟨j0, j1, j2, j3, j4⟩ := (HC2.out.alloc (Obj.cells #[Value.int .i64 q] 3)).below hg1 (by omega))
        clear g0 g1 g2 g3 hown
        have hw1 : w.heap.size + 2 ≤ w1.heap.size := by have := hg1.size; simp only [World.size_alloc] at this; omega
        have HD2 := Lib.hid (Cells2.set1 (((HC2.out.alloc (Obj.cells #[Value.int .i64 q] 3)).below hg1 (by omega))) (.slice A2 (bitsB N c q ++ [(q : Int)]).length c2))
        have HD1 := Lib.hid (((HC1.out.alloc (Obj.cells #[Value.int .i64 q] 3)).below hg1 (by omega)).far (p := ⟨w.heap.size + 1, 1, none⟩) (by simp) (.slice A2 (bitsB N c q ++ [(q : Int)]).length c2))
        have HOW := Lib.hid (hown1.far (p := ⟨w.heap.size + 1, 1, none⟩) (by simp) (.slice A2 (bitsB N c q ++ [(q : Int)]).length c2))
        have HBW := Lib.hid ((((hbel.alloc (by omega) _).trans (hg1.mono (by omega))).setCell (p := ⟨w.heap.size + 1, 1, none⟩) (by simp) (.slice A2 (bitsB N c q ++ [(q : Int)]).length c2)))
        clear j0 j1 j2 j3 j4 hg1 hown1 hbel g4 hc2 hc1
        have hlen : (bitsB N c q ++ [(q : Int)]).length = (bitsB N c q).length + 1 := by simp
        rw [hlen] at HD1 HD2 HOW HBW
        clear hlen
        go_wp2_with fail
        go_roundw
        case rel =>
          refine ⟨q + 1, _, by omega, by go_num, HD2.out, by rw [HS.out]; exact HOW.out, ⟨u1, u2, HD1.out⟩, HBW.out, by simpa [World.setCell] using hw1⟩
        case measure => simp [intOf]; omega
    · have hqe : q = N := by omega
      subst hqe
      obtain ⟨f0, f1, f2, f3, f4⟩ := HC1.out
      clear hc1 hc2
      go_wp2_with fail
      refine bodyPost_ret (v := .agg #[.int .i64 q, .slice A1 (bitsB q c q).length c1]) (by simp [results, Try.results56, go_sem, f0, f1]) rfl ?_
      refine ⟨A1, c1, rfl, ?_, ?_⟩
      · exact (((hown.far (p := ⟨w.heap.size, 0, none⟩) (by simp) _).far (p := ⟨w.heap.size, 1, none⟩) (by simp) _).rw_ (by omega)).mono (by omega)
      · exact (hbel.setCell (Nat.le_refl _) _).setCell (Nat.le_refl _) _

theorem reverse_ints (g cap base : Nat) (xs : List Int) (w : World) (h : RowE (Value.int .i64) 3 w base g cap xs) (hl : xs.length ≤ 1048576) :
    Calls Try.prog 55 #[.slice (some ⟨g, 0, none⟩) xs.length cap] w fun e w' => e = .returned (.tuple #[]) ∧ RowE (Value.int .i64) 3 w' base g cap xs.reverse ∧ Below base w w' :=
  (Any.slices_Reverse_int Try.lays112 g 0 cap xs w h.holds (by omega)).mono fun e w' ⟨he, q, hw⟩ => by
    have := h.put (ys := xs.reverse) (by simp) (n := q) (os := #[]) (hw.trans (grow_empty _).symm)
    exact ⟨he, this.1, this.2⟩
/-- The same at any slice of the call's own. -/
theorem reverse_own (A : Option Addr) (cap base : Nat) (xs : List Int) (w : World) (h : OwnI w base (.slice A xs.length cap) xs) (hb : base ≤ w.heap.size) (hl : xs.length ≤ 1048576) :
    Calls Try.prog 55 #[.slice A xs.length cap] w fun e w' => e = .returned (.tuple #[]) ∧ OwnI w' base (.slice A xs.length cap) xs.reverse ∧ Below base w w' := by
  by_cases hp : 0 < xs.length
  · obtain ⟨g, c, e⟩ := h.posC hp
    injection e with e1 _ e2
    subst e1 e2
    refine (reverse_ints g cap base xs w h.rowC hl).mono ?_
    rintro e w' ⟨rfl, hr, hbb⟩
    have := hr.ownC
    rw [List.length_reverse] at this
    exact ⟨rfl, this, hbb⟩
  · have h0 : xs = [] := List.eq_nil_of_length_eq_zero (by omega)
    subst h0
    refine (Any.slices_Reverse_int_empty Try.lays112 A cap w).mono ?_
    rintro e w' ⟨rfl, rfl⟩
    exact ⟨rfl, h, Below.refl _ _⟩

/-- A cell of a slice of the call's own, written. -/
theorem OwnI.set_ints {w : World} {base g cap : Nat} {xs : List Int} (h : OwnI w base (.slice (some ⟨g, 0, none⟩) xs.length cap) xs) (hf : ∀ x ∈ xs, Fits x) (i : Nat) (hi : i < xs.length) (y : Int) (hy : Fits y) :
    Ints (w.setCell ⟨g, i, none⟩ (.int .i64 y)) (w.setCell ⟨g, i, none⟩ (.int .i64 y)).heap.size (some ⟨g, 0, none⟩) (xs.set i y) ∧ w.frozen? ⟨g, i, none⟩ = false ∧ w.cell? ⟨g, i, none⟩ = some (.int .i64 (xs.getD i 0)) ∧ g < w.heap.size ∧ base ≤ g := by
  have hin := h.ints hf
  obtain ⟨b, off, e, hlt, hc⟩ := hin.2.2 (by omega)
  injection e with e
  injection e with e1 e2
  subst e1 e2
  have hb := (h.lt g rfl).1
  have hfz : w.frozen? ⟨g, i, none⟩ = false := by
    rcases h.2 with ⟨hv, h0⟩ | ⟨g', cap', cur, hv, hg, hh, _⟩
    · omega
    · injection hv with h1
      injection h1 with h1
      injection h1 with h1
      subst h1
      exact frozen_of_row _ _ _ _ _ hh
  have hci := hc i hi
  rw [Nat.zero_add] at hci
  refine ⟨⟨by rw [List.length_set]; exact hin.1, fun x hx => ?_, fun hn => ⟨g, 0, rfl, by simpa [World.setCell] using hlt, fun j hj => ?_⟩⟩, hfz, hci, hlt, hb⟩
  · rcases List.mem_or_eq_of_mem_set hx with h1 | rfl
    · exact hf x h1
    · exact hy
  · rw [List.length_set] at hj
    rw [Nat.zero_add]
    have hcj := hc j hj
    rw [Nat.zero_add] at hcj
    by_cases e : j = i
    · subst e
      rw [World.cell?_setCell_same w _ _ hci, List.getD_eq_getElem?_getD, List.getElem?_set_self hj]; rfl
    · rw [World.cell?_setCell_other w _ _ _ (fun q => e (by injection q; omega)), hcj, List.getD_eq_getElem?_getD, List.getD_eq_getElem?_getD, List.getElem?_set_ne (by omega)]

theorem coll_move {N : Nat} {bs : List Int} (hok : RhOk N bs) (i : Nat) (y : Int) : collL (modL N (bs.set i y) (bs.set i y).length) = ofL (bs.set i (y % N)) N := by
  have hN : (0 : Int) < N := by have := hok.1; omega
  refine asc_unique (collL_asc _).1 (ofL_sorted _ _) fun x => ?_
  rw [(collL_asc _).2, modL_mem, ofL_mem]
  have key : ∀ z : Int, (∃ u ∈ bs.set i y, u % N = z) ↔ z ∈ bs.set i (y % N) := fun z => by
    have hm : (bs.set i y).map (· % (N : Int)) = bs.set i (y % N) := by
      rw [List.map_set]
      congr 1
      refine (List.map_congr_left fun u hu => ?_).trans (List.map_id' bs)
      have := rhok_range hok u hu
      exact Int.emod_eq_of_lt this.1 this.2
    rw [← hm, List.mem_map]
  constructor
  · rintro hz
    obtain ⟨u, hu, rfl⟩ := hz
    have h0 := Int.emod_nonneg u (show (N : Int) ≠ 0 by omega)
    have h1 := Int.emod_lt_of_pos u hN
    obtain ⟨t, ht⟩ := Int.eq_ofNat_of_zero_le h0
    refine ⟨t, by omega, ?_, ht⟩
    unfold hasB
    rw [← ht]
    exact decide_eq_true ((key _).1 ⟨u, hu, rfl⟩)
  · rintro ⟨t, ht, hb, rfl⟩
    unfold hasB at hb
    rw [decide_eq_true_eq] at hb
    exact (key _).2 hb

theorem mvL_succ (N : Nat) (bs : List Int) (m : Nat) : mvL N bs (m + 1) = if hasB bs (mvQ N bs m) then mvL N bs m else mvL N bs m ++ [mvX N bs m] := rfl
def cdL (N : Nat) (bs : List Int) (m : Nat) : List Int := (mvL N bs m).map fun x => (codI N x : Int)
theorem cdL_yes {N : Nat} {bs : List Int} {m : Nat} (h : hasB bs (mvQ N bs m) = true) : cdL N bs (m + 1) = cdL N bs m := by
  unfold cdL; rw [mvL_succ, h, if_pos rfl]
theorem cdL_no {N : Nat} {bs : List Int} {m : Nat} (h : hasB bs (mvQ N bs m) = false) : cdL N bs (m + 1) = cdL N bs m ++ [(codI N (mvX N bs m) : Int)] := by
  unfold cdL; rw [mvL_succ, h, if_neg (by decide), List.map_append]; rfl
theorem cdL_len (N : Nat) (bs : List Int) : ∀ m, (cdL N bs m).length ≤ m
  | 0 => Nat.le_refl _
  | m + 1 => by
    have := cdL_len N bs m
    cases h : hasB bs (mvQ N bs m)
    · rw [cdL_no h, List.length_append]; show _ + 1 ≤ _; omega
    · rw [cdL_yes h]; omega
theorem cdL_small {N : Nat} (bs : List Int) (h1 : 1 ≤ N) (h2 : N ≤ 24) : ∀ m, ∀ c ∈ cdL N bs m, ∃ n : Nat, c = n ∧ n < 16777216
  | 0, c, hc => by simp [cdL, mvL] at hc
  | m + 1, c, hc => by
    cases h : hasB bs (mvQ N bs m)
    · rw [cdL_no h, List.mem_append, List.mem_singleton] at hc
      rcases hc with hc | rfl
      · exact cdL_small bs h1 h2 m c hc
      · exact ⟨_, rfl, codI_small (ofL_ok _ h1 h2)⟩
    · rw [cdL_yes h] at hc
      exact cdL_small bs h1 h2 m c hc
/-- What the program hands back. -/
def movP (N : Nat) (cs : List Int) : List (Int × List Int) := cs.map fun c => ((N : Int), bitsB N c.toNat N)
def movC (N : Nat) (bs : List Int) : List Int := (collL (cdL N bs (2 * bs.length))).reverse

end Go.Proofs.Ytlejlcnemibgiaa
