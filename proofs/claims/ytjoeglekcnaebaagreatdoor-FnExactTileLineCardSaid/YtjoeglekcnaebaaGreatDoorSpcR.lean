/-
  The reference's rhythms of numbers, mapped rhythms, sameness, period.
-/
import Derived.Test.YtjoeglekcnaebaaGreatDoorRw
import Derived.Test.YtjoeglekcnaebaaGreatDoorRem
import Derived.Test.YtjoeglekcnaebaaGreatDoorWin
import Derived.Test.YtjoeglekcnaebaaGreatDoorPer
namespace Go.Proofs.YtjoeglekcnaebaaGreatDoor
open Go.RowKit
set_option linter.unusedVariables false
set_option linter.unusedSimpArgs false

theorem Below.drew4_ {B : Nat} {a w : World} (h : Below B a w) : Below B a w.drew := ⟨h.os, h.tape, h.output, h.size, h.block⟩
theorem Ints.drew4_ {w : World} {B : Nat} {A : Option Addr} {xs : List Int} (h : Ints w B A xs) : Ints w.drew B A xs := h

def ofL (xs : List Int) (q : Nat) : List Int := ((List.range q).filter (fun t : Nat => hasB xs t)).map Int.ofNat
theorem ofL_yes {xs : List Int} {q : Nat} (h : hasB xs q = true) : ofL xs (q + 1) = ofL xs q ++ [(q : Int)] := by
  unfold ofL; rw [List.range_succ, List.filter_append]; simp [h]
theorem ofL_no {xs : List Int} {q : Nat} (h : hasB xs q = false) : ofL xs (q + 1) = ofL xs q := by
  unfold ofL; rw [List.range_succ, List.filter_append]; simp [h]
theorem ofL_len (xs : List Int) (q : Nat) : (ofL xs q).length ≤ q := by
  unfold ofL
  rw [List.length_map]
  exact Nat.le_trans (List.length_filter_le _ _) (by simp)
theorem ofL_mem {xs : List Int} {q : Nat} {x : Int} : x ∈ ofL xs q ↔ ∃ t : Nat, t < q ∧ hasB xs t = true ∧ x = t := by
  unfold ofL
  rw [List.mem_map]
  constructor
  · rintro ⟨p, hp, rfl⟩
    rw [List.mem_filter, List.mem_range] at hp
    exact ⟨p, hp.1, hp.2, rfl⟩
  · rintro ⟨p, h1, h2, rfl⟩
    exact ⟨p, by rw [List.mem_filter, List.mem_range]; exact ⟨h1, h2⟩, rfl⟩
theorem ofL_sorted (xs : List Int) (q : Nat) : (ofL xs q).Pairwise (fun a b => a < b) := by
  unfold ofL
  rw [List.pairwise_map]
  exact List.Pairwise.imp (fun {a b} h => by show (a : Int) < b; omega) (List.Pairwise.filter _ List.pairwise_lt_range)
theorem ofL_fit {xs : List Int} {q : Nat} (hq : q ≤ 1000) : ∀ x ∈ ofL xs q, Fits x := by
  intro x hx
  obtain ⟨t, ht, _, rfl⟩ := ofL_mem.1 hx
  unfold Fits
  omega

def mapL (a b n : Int) (xs : List Int) (j : Nat) : List Int := (xs.take j).map (fun x => (a * x + b) % n)
theorem mapL_succ {a b n : Int} {xs : List Int} {j : Nat} {x : Int} (hj : j < xs.length) (hx : xs.getD j 0 = x) : mapL a b n xs (j + 1) = mapL a b n xs j ++ [(a * x + b) % n] := by
  unfold mapL
  rw [List.take_succ_eq_append_getElem hj, List.map_append, List.map_singleton]
  have : xs[j] = x := by rw [← hx, List.getD_eq_getElem?_getD, List.getElem?_eq_getElem hj]; rfl
  rw [this]
theorem mapL_len (a b n : Int) (xs : List Int) (j : Nat) : (mapL a b n xs j).length ≤ xs.length := by
  unfold mapL
  rw [List.length_map, List.length_take]
  omega
theorem mapL_mem {a b n x : Int} {xs : List Int} : x ∈ mapL a b n xs xs.length ↔ ∃ y ∈ xs, (a * y + b) % n = x := by
  unfold mapL
  rw [List.take_length, List.mem_map]
theorem mapL_fit {a b n : Int} {xs : List Int} (hn : 1 ≤ n) (hn2 : n ≤ 1000000000) (k : Nat) : ∀ x ∈ mapL a b n xs k, Fits x := by
  intro x hx
  unfold mapL at hx
  rw [List.mem_map] at hx
  obtain ⟨y, _, rfl⟩ := hx
  have := Int.emod_nonneg (a * y + b) (show n ≠ 0 by omega)
  have := Int.emod_lt_of_pos (a * y + b) (show 0 < n by omega)
  unfold Fits
  omega

theorem rotL_of {N : Nat} {bs : List Int} (hok : RhOk N bs) (k : Int) : ofL (mapL 1 k N bs bs.length) N = rotL N bs k := by
  refine asc_unique (ofL_sorted _ _) (rotL_sorted _ _ _) fun x => ?_
  rw [ofL_mem, rotL_mem]
  have hN : (0 : Int) < N := by have := hok.1; omega
  have hkey : ∀ t : Nat, t < N → (hasB (mapL 1 k N bs bs.length) t = true ↔ hasB bs (((t : Int) - k) % N) = true) := by
    intro t ht
    unfold hasB
    rw [decide_eq_true_eq, decide_eq_true_eq, mapL_mem]
    constructor
    · rintro ⟨b, hb, h⟩
      have hr := rhok_range hok b hb
      rw [← h, Int.emod_sub_emod, show 1 * b + k - k = b by omega, Int.emod_eq_of_lt hr.1 hr.2]
      exact hb
    · intro hb
      refine ⟨_, hb, ?_⟩
      rw [Int.one_mul, Int.emod_add_emod, show (t : Int) - k + k = t by omega, Int.emod_eq_of_lt (by omega) (by omega)]
  constructor
  · rintro ⟨t, ht, h, rfl⟩; exact ⟨t, ht, (hkey t ht).1 h, rfl⟩
  · rintro ⟨t, ht, h, rfl⟩; exact ⟨t, ht, (hkey t ht).2 h, rfl⟩

set_option maxHeartbeats 400000 in
theorem spec_l02Mod_any (k n : Int) (w : World) (hn : 1 ≤ n) (hn2 : n ≤ 1000000000) :
    Calls Tryz.prog 64 #[.int .i64 k, .int .i64 n] w fun e w' => e = .returned (.int .i64 (k % n)) ∧ w = w' := by
  have h0 : (n = 0) = False := by simp; omega
  have h1 := Int.lt_tmod_of_pos k (show 0 < n by omega)
  have h2 := Int.tmod_lt_of_pos k (show 0 < n by omega)
  have HR := Lib.hid (rem_emod k n)
  have h5 : IntKind.i64.wrap (k.tmod n) = k.tmod n := i64w (by omega)
  have h3 : IntKind.i64.wrap (k.tmod n + n) = k.tmod n + n := i64w (by omega)
  have h4 : (k.tmod n + n).tmod n = (k.tmod n + n) % n := Int.tmod_eq_emod_of_nonneg (by omega)
  have h6 : IntKind.i64.wrap ((k.tmod n + n) % n) = (k.tmod n + n) % n := i64w (by rw [HR.out]; have := Int.emod_nonneg k (show n ≠ 0 by omega); have := Int.emod_lt_of_pos k (show 0 < n by omega); omega)
  go_enter Tryz.func64, Tryz.ntmps64
  go_wp2
  go_ret
  exact ⟨ret_int (by have := HR.out; rw [Int.add_emod_right] at this; exact this), rfl⟩

set_option maxRecDepth 100000 in
set_option maxHeartbeats 1000000 in
theorem spec_l02Of_any (N : Nat) (A : Option Addr) (cap : Nat) (xs : List Int) (w : World) (hA : Ints w w.heap.size A xs) (hn1 : 1 ≤ N) (hn2 : N ≤ 24) :
    Calls Tryz.prog 65 #[.int .i64 N, .slice A xs.length cap] w (RetRh1 w N (ofL xs N)) := by
  have HH := Lib.hid (fun (q : Nat) (V : World) (hV : Below w.heap.size w V) => spec_l02Has_any A cap xs (q : Int) V w.heap.size (hA.below hV))
  clear hA
  go_enter Tryz.func65, Tryz.ntmps65
  go_wp2_with fail
  go_loopw [6] (fun sp wr => ∃ (q : Nat) (v : Value), q ≤ N ∧ sp = .int .i64 q ∧ Cells2 wr (w.heap.size + 1) (.int .i64 N) v ∧ OwnI wr (w.heap.size + 2) v (ofL xs q) ∧ (∃ u1 u2, Cells2 wr w.heap.size u1 u2) ∧ Below w.heap.size w wr ∧ w.heap.size + 2 ≤ wr.heap.size) (fun sp _ => N - (intOf sp).toNat)
  case atStart =>
    refine ⟨0, .slice none 0 0, Nat.zero_le _, rfl, Cells2.new_at _ _ _ _ _ (by simp), OwnI.nil _ _, ⟨_, _, (Cells2.new w _ _ _).alloc _⟩, ?_, by simp⟩
    exact ((Below.refl _ _).alloc (Nat.le_refl _) _).alloc (by first | exact Nat.le_refl _ | (simp; done) | (simp; omega) | omega) _
  case round =>
    obtain ⟨q, v, hq, rfl, hc2, hown, ⟨u1, u2, hc1⟩, hbel, hsz⟩ := hrel
    obtain ⟨wo, rfl⟩ : ∃ wo : World, wo = wr := ⟨_, rfl⟩
    have hple := ofL_len xs q
    have HC2 := Lib.hid hc2
    have HC1 := Lib.hid hc1
    obtain ⟨g0, g1, g2, g3, g4⟩ := HC2.out
    obtain ⟨A1, c1, rfl⟩ := hown.form
    by_cases hlt : q < N
    · have hhb := HH.out q wo hbel
      cases hb : hasB xs q
      · rw [hb] at hhb
        have HHB := Lib.hid hhb
        have HS := Lib.hid (ofL_no hb)
        have HO := Lib.hid hown
        clear hb hown hc1 hc2 hhb
        go_wp2_with (go_at_call 39; refine HHB.out.mono ?_; rintro e w' ⟨rfl, rfl⟩)
        go_roundw
        case rel => exact ⟨q + 1, _, by omega, by go_num, HC2.out, by rw [HS.out]; exact HO.out, ⟨u1, u2, HC1.out⟩, hbel, hsz⟩
        case measure => simp [intOf]; omega
      · rw [hb] at hhb
        have HHB := Lib.hid hhb
        have HS := Lib.hid (ofL_yes hb)
        generalize ofL xs q = L at hown hple HS HC2 hc2 g1
        clear hb hhb
        go_wp2_with (first
          | (go_at_call 39; refine HHB.out.mono ?_; rintro e w' ⟨rfl, rfl⟩)
          | (at_builtin; refine wpList_append_int rfl _ _ rfl (w.heap.size + 2) _ L rfl (hown.alloc _) _ _ rfl (cell_new1 _ _ _) (by omega) (by first | exact Nat.le_refl _ | (simp; done) | (simp; omega) | omega) ?_; intro v' w1 hown1 hg1; obtain ⟨A2, c2, rfl⟩ := hown1.form; obtain ⟨j0, j1, j2, j3, j4⟩ := (HC2.out.alloc (Obj.cells #[Value.int .i64 q] 3)).below hg1 (by omega)))
        clear g0 g1 g2 g3 hown
        have hw1 : w.heap.size + 2 ≤ w1.heap.size := by have := hg1.size; simp only [World.size_alloc] at this; omega
        have HD2 := Lib.hid (Cells2.set1 (((HC2.out.alloc (Obj.cells #[Value.int .i64 q] 3)).below hg1 (by omega))) (.slice A2 (L ++ [(q : Int)]).length c2))
        have HD1 := Lib.hid (((HC1.out.alloc (Obj.cells #[Value.int .i64 q] 3)).below hg1 (by omega)).far (p := ⟨w.heap.size + 1, 1, none⟩) (by simp) (.slice A2 (L ++ [(q : Int)]).length c2))
        have HOW := Lib.hid (hown1.far (p := ⟨w.heap.size + 1, 1, none⟩) (by simp) (.slice A2 (L ++ [(q : Int)]).length c2))
        have HBW := Lib.hid ((((hbel.alloc (by omega) _).trans (hg1.mono (by omega))).setCell (p := ⟨w.heap.size + 1, 1, none⟩) (by simp) (.slice A2 (L ++ [(q : Int)]).length c2)))
        clear j0 j1 j2 j3 j4 hg1 hown1 hbel g4 hc2 hc1
        have hlen : (L ++ [(q : Int)]).length = L.length + 1 := by simp
        rw [hlen] at HD1 HD2 HOW HBW
        clear hlen
        go_wp2_with fail
        go_roundw
        case rel =>
          refine ⟨q + 1, _, by omega, by go_num, HD2.out, by rw [HS.out]; exact HOW.out, ⟨u1, u2, HD1.out⟩, HBW.out, by simpa [World.setCell] using hw1⟩
        case measure => simp [intOf]; omega
    · have hqe : q = N := by omega
      subst hqe
      obtain ⟨f0, f1, f2, f3, f4⟩ := HC1.out
      clear hc1 hc2
      go_wp2_with fail
      refine bodyPost_ret (v := .agg #[.int .i64 q, .slice A1 (ofL xs q).length c1]) (by simp [results, Tryz.results65, go_sem, f0, f1]) rfl ?_
      refine ⟨A1, c1, rfl, ?_, ?_⟩
      · exact (((hown.far (p := ⟨w.heap.size, 0, none⟩) (by simp) _).far (p := ⟨w.heap.size, 1, none⟩) (by simp) _).rw_ (by omega)).mono (by omega)
      · exact (hbel.setCell (Nat.le_refl _) _).setCell (Nat.le_refl _) _

set_option maxRecDepth 100000 in
set_option maxHeartbeats 1000000 in
theorem spec_l02Map_any (N : Nat) (A : Option Addr) (cap : Nat) (bs : List Int) (a b : Int) (w : World) (hA : Ints w w.heap.size A bs) (hok : RhOk N bs) (hab : ∀ x : Int, 0 ≤ x → x < 24 → -1000000 ≤ a * x ∧ a * x ≤ 1000000) (hb : -1000000 ≤ b ∧ b ≤ 1000000) :
    Calls Tryz.prog 36 #[.agg #[.int .i64 N, .slice A bs.length cap], .int .i64 a, .int .i64 b] w (RetRh1 w N (ofL (mapL a b N bs bs.length) N)) := by
  have hn1 := hok.1
  have hn2 := hok.2.1
  have hlen := hA.1
  unfold maxLen at hlen
  have hbl : bs.length ≤ N := by
    have := rotL_len N bs 0
    rwa [(rotL_same hok 0).2 (fun t ht => by rw [show (t : Int) - 0 = t by omega, Int.emod_eq_of_lt (by omega) (by omega)])] at this
  have HC := Lib.hid hA.2.2
  have HOK := Lib.hid hok
  have HAB := Lib.hid hab
  have hro := fun (A2 : Option Addr) (c2 : Nat) (V : World) (hV : Ints V V.heap.size A2 (mapL a b N bs bs.length)) => spec_l02Of_any N A2 c2 (mapL a b N bs bs.length) V hV (by omega) (by omega)
  have hrl := ofL_len (mapL a b N bs bs.length) N
  generalize ofL (mapL a b N bs bs.length) N = R at hro hrl ⊢
  have HRO := Lib.hid hro
  clear hA hok hro hab
  have hW0 := (((Below.refl w.heap.size w).alloc (Nat.le_refl _) (.cells #[.int .i64 N, .slice A bs.length cap] 27)).alloc (by first | exact Nat.le_refl _ | (simp; done) | (simp; omega) | omega) (.cells #[.int .i64 0, .slice none 0 0] 27)).alloc (by first | exact Nat.le_refl _ | (simp; done) | (simp; omega) | omega) (.cells #[] 3)
  have HW := Lib.hid hW0
  have HG := Lib.hid (((Cells2.new w (.int .i64 N) (.slice A bs.length cap) 27).alloc (.cells #[.int .i64 0, .slice none 0 0] 27)).alloc (.cells #[] 3))
  have HN := Lib.hid ((Cells2.new (w.alloc (.cells #[.int .i64 N, .slice A bs.length cap] 27)) (.int .i64 0) (.slice none 0 0) 27).alloc (.cells #[] 3))
  obtain ⟨g0, g1, _, _, _⟩ := HG.out
  clear hW0
  go_enter Tryz.func36, Tryz.ntmps36
  go_wp2_with fail
  clear g0 g1
  go_loopw [7, 14] (fun so i wr => ∃ j : Nat, j ≤ bs.length ∧ i = .int .i64 j ∧ OwnI wr (w.heap.size + 2) so (mapL a b N bs j) ∧ Below (w.heap.size + 2) (((w.alloc (.cells #[.int .i64 N, .slice A bs.length cap] 27)).alloc (.cells #[.int .i64 0, .slice none 0 0] 27)).alloc (.cells #[] 3)) wr) (fun _ i _ => bs.length - (intOf i).toNat)
  case atStart => exact ⟨0, Nat.zero_le _, rfl, OwnI.empty_at _ _ _ (by simp) (by omega), Below.refl _ _⟩
  case round =>
    obtain ⟨j, hj, rfl, hown, hbel⟩ := hrel
    obtain ⟨wo, rfl⟩ : ∃ wo : World, wo = wr := ⟨_, rfl⟩
    have hws : w.heap.size + 3 ≤ wo.heap.size := by have := hbel.size; simpa using this
    have HBE := Lib.hid hbel
    have HO := Lib.hid hown
    obtain ⟨A1, c1, rfl⟩ := hown.form
    have hmk := mapL_len a b N bs j
    clear hbel hown
    obtain ⟨g0, g1, g2, g3, g4⟩ := (HG.out).below (HBE.out.mono (show w.heap.size + 1 ≤ _ by omega)) (by simp)
    by_cases hlt : j < bs.length
    · obtain ⟨b2, off, rfl, hB, hc⟩ := HC.out (by omega)
      have hcell := ((HW.out.trans (HBE.out.mono (by omega))).cell (p := ⟨b2, off + j, none⟩) hB).trans (hc j hlt)
      have hx0 := HOK.out.2.2.1 j hlt
      obtain ⟨x, hx⟩ : ∃ x, bs.getD j 0 = x := ⟨_, rfl⟩
      rw [hx] at hcell hx0
      obtain ⟨hx1, hx2⟩ := hx0
      have HSU := Lib.hid (mapL_succ (a := a) (b := b) (n := (N : Int)) hlt hx)
      have hax := HAB.out x hx1 (by omega)
      have hw1 : IntKind.i64.wrap (a * x) = a * x := i64w (by omega)
      have hw2 : IntKind.i64.wrap (a * x + b) = a * x + b := i64w (by omega)
      have HMD := Lib.hid (fun V => spec_l02Mod_any (a * x + b) N V hn1 (by omega))
      generalize mapL a b N bs j = L at HO HSU hmk ⊢
      clear hc hx
      go_wp2_with (first
        | (go_at_call 64; refine (HMD.out _).mono ?_; rintro e w' ⟨rfl, rfl⟩)
        | (at_builtin; refine wpList_append_int rfl (.tmp 18) (.tmp 27) rfl (w.heap.size + 2) _ L rfl (HO.out.alloc _) _ _ rfl (cell_new1 _ _ _) (by omega) (by simp; omega) ?_; intro v2 w2 hown2 hb2))
      have HO2 := Lib.hid hown2
      have HB2 := Lib.hid ((HBE.out.alloc (by omega) _).trans hb2)
      clear hown2 hb2
      go_wp2_with fail
      go_roundw
      case rel => exact ⟨j + 1, by omega, by go_num, by rw [HSU.out]; exact HO2.out, HB2.out⟩
      case measure => simp [intOf]; omega
    · have hje : j = bs.length := by omega
      subst hje
      have HI := Lib.hid (HO.out.ints (mapL_fit hn1 (by omega) _))
      generalize mapL a b N bs bs.length = L at HO HRO HI hmk ⊢
      go_wp2_with fail
      refine (HRO.out A1 c1 _ HI.out).mono ?_
      rintro e w2 ⟨A2, c2, rfl, hrw, hb2⟩
      have hz2 := hb2.size
      obtain ⟨f0, f1, f2, f3, f4⟩ := (HN.out.below HBE.out (by simp)).below hb2 (by simp; omega)
      simp only [World.size_alloc] at f0 f1 f2 f3
      go_wp2_with fail
      refine bodyPost_ret (v := .agg #[.int .i64 N, .slice A2 R.length c2]) (by simp [results, Tryz.results36, go_sem, f0, f1]) rfl ?_
      refine ⟨A2, c2, rfl, ?_, ?_⟩
      · exact ((hrw.far (p := ⟨w.heap.size + 1, 0, none⟩) (by simp; omega) _).far (p := ⟨w.heap.size + 1, 1, none⟩) (by simp; omega) _).mono (by omega)
      · exact (((HW.out.trans (HBE.out.mono (by omega))).trans (hb2.mono (by omega))).setCell (by simp) _).setCell (by simp) _

end Go.Proofs.YtjoeglekcnaebaaGreatDoor
