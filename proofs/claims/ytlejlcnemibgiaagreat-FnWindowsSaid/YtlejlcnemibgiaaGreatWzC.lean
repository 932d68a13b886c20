/-
  Several texts of this proof in one: Rem, SpcR, RowE, CmpT, Coll, MovT, WayT, WayU, EvnT, Evn, Turn, Eqs.
-/
import Derived.Test.YtlejlcnemibgiaaGreatIntW
import Derived.Test.YtlejlcnemibgiaaGreatRw
import Derived.Test.YtlejlcnemibgiaaGreatWin
import Derived.Test.YtlejlcnemibgiaaGreatWzA
import Derived.Test.YtlejlcnemibgiaaGreatOwn
import Derived.Lib.SlicesCompact
import Derived.Sort.Grow
import Derived.Sort.EncStr
import Derived.Test.YtlejlcnemibgiaaGreatChecked
import Derived.Test.YtlejlcnemibgiaaGreatShI
import Derived.Lib.RowBridge
import Derived.Test.YtlejlcnemibgiaaGreatWzB
import Derived.Test.YtlejlcnemibgiaaGreatCells
import Derived.Test.YtlejlcnemibgiaaGreatFrm
import Derived.Deep.RegionLaw
namespace Go.Proofs.YtlejlcnemibgiaaGreat
open Go.RowKit
set_option linter.unusedVariables false
set_option linter.unusedSimpArgs false

theorem rem_emod (k n : Int) : (k.tmod n + n) % n = k % n := by
  rw [Int.add_emod_right]
  have e := Int.mul_tdiv_add_tmod k n
  have : k.tmod n = k - n * k.tdiv n := by omega
  rw [this, Int.sub_mul_emod_self_left]

set_option maxHeartbeats 400000 in
theorem impl_remainder_any (k n : Int) (w : World) (hn : 1 ≤ n) (hn2 : n ≤ 1000000000) :
    Calls Tryz.prog 83 #[.int .i64 k, .int .i64 n] w fun e w' => e = .returned (.int .i64 (k % n)) ∧ w = w' := by
  have h0 : (n = 0) = False := by simp; omega
  have h1 := Int.lt_tmod_of_pos k (show 0 < n by omega)
  have h2 := Int.tmod_lt_of_pos k (show 0 < n by omega)
  have HR := Lib.hid (rem_emod k n)
  have h5 : IntKind.i64.wrap (k.tmod n) = k.tmod n := i64w (by omega)
  have h3 : IntKind.i64.wrap (k.tmod n + n) = k.tmod n + n := i64w (by omega)
  have h4 : (k.tmod n + n).tmod n = (k.tmod n + n) % n := Int.tmod_eq_emod_of_nonneg (by omega)
  have h6 : IntKind.i64.wrap ((k.tmod n + n) % n) = (k.tmod n + n) % n := i64w (by rw [HR.out]; have := Int.emod_nonneg k (show n ≠ 0 by omega); have := Int.emod_lt_of_pos k (show 0 < n by omega); omega)
  go_enter Tryz.func83, Tryz.ntmps83
  go_wp2
  go_ret
  exact ⟨ret_int (by have := HR.out; rw [Int.add_emod_right] at this; exact this), rfl⟩

end Go.Proofs.YtlejlcnemibgiaaGreat

namespace Go.Proofs.YtlejlcnemibgiaaGreat
open Go.RowKit
set_option linter.unusedVariables false
set_option linter.unusedSimpArgs false

theorem Below.drew4_ {B : Nat} {a w : World} (h : Below B a w) : Below B a w.drew := ⟨h.os, h.tape, h.output, h.size, h.block⟩
theorem Ints.drew4_ {w : World} {B : Nat} {A : Option Addr} {xs : List Int} (h : Ints w B A xs) : Ints w.drew B A xs := h

def ofL (xs : List Int) (q : Nat) : List Int := ((List.range q).filter (fun t : Nat => hasB xs t)).map Int.ofNat
theorem ofL_yes {xs : List Int} {q : Nat} (h : hasB xs q = true) : ofL xs (q + 1) = ofL xs q ++ [(q : Int)] := by
  unfold ofL; rw [List.range_succ, List.filter_append]; simp [h]
theorem ofL_no {xs : List Int} {q : Nat} (h : hasB xs q = false) : ofL xs (q + 1) = ofL xs q := by
  unfold ofL; rw [List.range_succ, List.filter_append]; simp [h]
theorem ofL_len (xs : List Int) (q : Nat) : (ofL xs q).length ≤ q := by
  unfold ofL
  rw [List.length_map]
  exact Nat.le_trans (List.length_filter_le _ _) (by simp)
theorem ofL_mem {xs : List Int} {q : Nat} {x : Int} : x ∈ ofL xs q ↔ ∃ t : Nat, t < q ∧ hasB xs t = true ∧ x = t := by
  unfold ofL
  rw [List.mem_map]
  constructor
  · rintro ⟨p, hp, rfl⟩
    rw [List.mem_filter, List.mem_range] at hp
    exact ⟨p, hp.1, hp.2, rfl⟩
  · rintro ⟨p, h1, h2, rfl⟩
    exact ⟨p, by rw [List.mem_filter, List.mem_range]; exact ⟨h1, h2⟩, rfl⟩
theorem ofL_sorted (xs : List Int) (q : Nat) : (ofL xs q).Pairwise (fun a b => a < b) := by
  unfold ofL
  rw [List.pairwise_map]
  exact List.Pairwise.imp (fun {a b} h => by show (a : Int) < b; omega) (List.Pairwise.filter _ List.pairwise_lt_range)
theorem ofL_fit {xs : List Int} {q : Nat} (hq : q ≤ 1000) : ∀ x ∈ ofL xs q, Fits x := by
  intro x hx
  obtain ⟨t, ht, _, rfl⟩ := ofL_mem.1 hx
  unfold Fits
  omega

def mapL (a b n : Int) (xs : List Int) (j : Nat) : List Int := (xs.take j).map (fun x => (a * x + b) % n)
theorem mapL_succ {a b n : Int} {xs : List Int} {j : Nat} {x : Int} (hj : j < xs.length) (hx : xs.getD j 0 = x) : mapL a b n xs (j + 1) = mapL a b n xs j ++ [(a * x + b) % n] := by
  unfold mapL
  rw [List.take_succ_eq_append_getElem hj, List.map_append, List.map_singleton]
  have : xs[j] = x := by rw [← hx, List.getD_eq_getElem?_getD, List.getElem?_eq_getElem hj]; rfl
  rw [this]
theorem mapL_len (a b n : Int) (xs : List Int) (j : Nat) : (mapL a b n xs j).length ≤ xs.length := by
  unfold mapL
  rw [List.length_map, List.length_take]
  omega
theorem mapL_mem {a b n x : Int} {xs : List Int} : x ∈ mapL a b n xs xs.length ↔ ∃ y ∈ xs, (a * y + b) % n = x := by
  unfold mapL
  rw [List.take_length, List.mem_map]
theorem mapL_fit {a b n : Int} {xs : List Int} (hn : 1 ≤ n) (hn2 : n ≤ 1000000000) (k : Nat) : ∀ x ∈ mapL a b n xs k, Fits x := by
  intro x hx
  unfold mapL at hx
  rw [List.mem_map] at hx
  obtain ⟨y, _, rfl⟩ := hx
  have := Int.emod_nonneg (a * y + b) (show n ≠ 0 by omega)
  have := Int.emod_lt_of_pos (a * y + b) (show 0 < n by omega)
  unfold Fits
  omega

theorem rotL_of {N : Nat} {bs : List Int} (hok : RhOk N bs) (k : Int) : ofL (mapL 1 k N bs bs.length) N = rotL N bs k := by
  refine asc_unique (ofL_sorted _ _) (rotL_sorted _ _ _) fun x => ?_
  rw [ofL_mem, rotL_mem]
  have hN : (0 : Int) < N := by have := hok.1; omega
  have hkey : ∀ t : Nat, t < N → (hasB (mapL 1 k N bs bs.length) t = true ↔ hasB bs (((t : Int) - k) % N) = true) := by
    intro t ht
    unfold hasB
    rw [decide_eq_true_eq, decide_eq_true_eq, mapL_mem]
    constructor
    · rintro ⟨b, hb, h⟩
      have hr := rhok_range hok b hb
      rw [← h, Int.emod_sub_emod, show 1 * b + k - k = b by omega, Int.emod_eq_of_lt hr.1 hr.2]
      exact hb
    · intro hb
      refine ⟨_, hb, ?_⟩
      rw [Int.one_mul, Int.emod_add_emod, show (t : Int) - k + k = t by omega, Int.emod_eq_of_lt (by omega) (by omega)]
  constructor
  · rintro ⟨t, ht, h, rfl⟩; exact ⟨t, ht, (hkey t ht).1 h, rfl⟩
  · rintro ⟨t, ht, h, rfl⟩; exact ⟨t, ht, (hkey t ht).2 h, rfl⟩

set_option maxRecDepth 100000 in
set_option maxHeartbeats 1000000 in
theorem spec_l02Of_any (N : Nat) (A : Option Addr) (cap : Nat) (xs : List Int) (w : World) (hA : Ints w w.heap.size A xs) (hn1 : 1 ≤ N) (hn2 : N ≤ 24) :
    Calls Tryz.prog 42 #[.int .i64 N, .slice A xs.length cap] w (RetRh1 w N (ofL xs N)) := by
  have HH := Lib.hid (fun (q : Nat) (V : World) (hV : Below w.heap.size w V) => spec_l02Has_any A cap xs (q : Int) V w.heap.size (hA.below hV))
  clear hA
  go_enter Tryz.func42, Tryz.ntmps42
  go_wp2_with fail
  go_loopw [6] (fun sp wr => ∃ (q : Nat) (v : Value), q ≤ N ∧ sp = .int .i64 q ∧ Cells2 wr (w.heap.size + 1) (.int .i64 N) v ∧ OwnI wr (w.heap.size + 2) v (ofL xs q) ∧ (∃ u1 u2, Cells2 wr w.heap.size u1 u2) ∧ Below w.heap.size w wr ∧ w.heap.size + 2 ≤ wr.heap.size) (fun sp _ => N - (intOf sp).toNat)
  case atStart =>
    refine ⟨0, .slice none 0 0, Nat.zero_le _, rfl, Cells2.new_at _ _ _ _ _ (by simp), OwnI.nil _ _, ⟨_, _, (Cells2.new w _ _ _).alloc _⟩, ?_, by simp⟩
    exact ((Below.refl _ _).alloc (Nat.le_refl _) _).alloc (by first | exact Nat.le_refl _ | (simp; done) | (simp; omega) | omega) _
  case round =>
    obtain ⟨q, v, hq, rfl, hc2, hown, ⟨u1, u2, hc1⟩, hbel, hsz⟩ := hrel
    obtain ⟨wo, rfl⟩ : ∃ wo : World, wo = wr := ⟨_, rfl⟩
    have hple := ofL_len xs q
    have HC2 := Lib.hid hc2
    have HC1 := Lib.hid hc1
    obtain ⟨g0, g1, g2, g3, g4⟩ := HC2.out
    obtain ⟨A1, c1, rfl⟩ := hown.form
    by_cases hlt : q < N
    · have hhb := HH.out q wo hbel
      cases hb : hasB xs q
      · rw [hb] at hhb
        have HHB := Lib.hid hhb
        have HS := Lib.hid (ofL_no hb)
        have HO := Lib.hid hown
        clear hb hown hc1 hc2 hhb
        go_wp2_with (go_at_call 55; refine HHB.out.mono ?_; rintro e w' ⟨rfl, rfl⟩)
        go_roundw
        case rel => exact ⟨q + 1, _, by omega, by go_num, HC2.out, by rw [HS.out]; exact HO.out, ⟨u1, u2, HC1.out⟩, hbel, hsz⟩
        case measure => simp [intOf]; omega
      · rw [hb] at hhb
        have HHB := Lib.hid hhb
        have HS := Lib.hid (ofL_yes hb)
        generalize ofL xs q = L at hown hple HS HC2 hc2 g1
        clear hb hhb
        go_wp2_with (first
          | (go_at_call 55; refine HHB.out.mono ?_; rintro e w' ⟨rfl, rfl⟩)
          | (at_builtin; refine wpList_append_int rfl _ _ rfl (w.heap.size + 2) _ L rfl (hown.alloc _) _ _ rfl (cell_new1 _ _ _) (by omega) (by first | exact Nat.le_refl _ | (simp; done) | (simp; omega) | omega) ?_; intro v' w1 hown1 hg1; obtain ⟨A2, c2, rfl⟩ := hown1.form; obtain ⟨j0, j1, j2, j3, j4⟩ := (HC2.out.alloc (Obj.cells #[Value.int .i64 q] 3)).below hg1 (by omega)))
        clear g0 g1 g2 g3 hown
        have hw1 : w.heap.size + 2 ≤ w1.heap.size := by have := hg1.size; simp only [World.size_alloc] at this; omega
        have HD2 := Lib.hid (Cells2.set1 (((HC2.out.alloc (Obj.cells #[Value.int .i64 q] 3)).below hg1 (by omega))) (.slice A2 (L ++ [(q : Int)]).length c2))
        have HD1 := Lib.hid (((HC1.out.alloc (Obj.cells #[Value.int .i64 q] 3)).below hg1 (by omega)).far (p := ⟨w.heap.size + 1, 1, none⟩) (by simp) (.slice A2 (L ++ [(q : Int)]).length c2))
        have HOW := Lib.hid (hown1.far (p := ⟨w.heap.size + 1, 1, none⟩) (by simp) (.slice A2 (L ++ [(q : Int)]).length c2))
        have HBW := Lib.hid ((((hbel.alloc (by omega) _).trans (hg1.mono (by omega))).setCell (p := ⟨w.heap.size + 1, 1, none⟩) (by simp) (.slice A2 (L ++ [(q : Int)]).length c2)))
        clear j0 j1 j2 j3 j4 hg1 hown1 hbel g4 hc2 hc1
        have hlen : (L ++ [(q : Int)]).length = L.length + 1 := by simp
        rw [hlen] at HD1 HD2 HOW HBW
        clear hlen
        go_wp2_with fail
        go_roundw
        case rel =>
          refine ⟨q + 1, _, by omega, by go_num, HD2.out, by rw [HS.out]; exact HOW.out, ⟨u1, u2, HD1.out⟩, HBW.out, by simpa [World.setCell] using hw1⟩
        case measure => simp [intOf]; omega
    · have hqe : q = N := by omega
      subst hqe
      obtain ⟨f0, f1, f2, f3, f4⟩ := HC1.out
      clear hc1 hc2
      go_wp2_with fail
      refine bodyPost_ret (v := .agg #[.int .i64 q, .slice A1 (ofL xs q).length c1]) (by simp [results, Tryz.results42, go_sem, f0, f1]) rfl ?_
      refine ⟨A1, c1, rfl, ?_, ?_⟩
      · exact (((hown.far (p := ⟨w.heap.size, 0, none⟩) (by simp) _).far (p := ⟨w.heap.size, 1, none⟩) (by simp) _).rw_ (by omega)).mono (by omega)
      · exact (hbel.setCell (Nat.le_refl _) _).setCell (Nat.le_refl _) _

end Go.Proofs.YtlejlcnemibgiaaGreat

namespace Go.Proofs.YtlejlcnemibgiaaGreat
open Go.RowKit Go.Sort
set_option linter.unusedVariables false
set_option linter.unusedSimpArgs false

section
variable {α : Type}

def RowE (enc : α → Value) (e : TypeId) (w : World) (base g cap : Nat) (xs : List α) : Prop :=
  base ≤ g ∧ xs.length ≤ cap ∧ cap ≤ maxLen ∧ ∃ cur : Array Value, w.heap[g]? = some (.cells cur e (0, 0)) ∧ cur.size = cap ∧ cur.toList.take xs.length = xs.map enc

variable {enc : α → Value} {e : TypeId} {w w' : World} {base g cap : Nat} {xs ys : List α}

theorem RowE.lt (h : RowE enc e w base g cap xs) : g < w.heap.size := by
  obtain ⟨_, _, _, cur, hh, _⟩ := h
  exact (Array.getElem?_eq_some_iff.1 hh).1
theorem RowE.get (h : RowE enc e w base g cap xs) {j : Nat} (hj : j < xs.length) : w.cell? ⟨g, j, none⟩ = some (enc xs[j]) := by
  obtain ⟨_, hl, _, cur, hh, hs, ht⟩ := h
  rw [cell_of_row _ _ _ _ _ _ hh, ← Array.getElem?_toList]
  have : (cur.toList.take xs.length)[j]? = (xs.map enc)[j]? := by rw [ht]
  rw [List.getElem?_take_of_lt hj] at this
  rw [this, List.getElem?_map, List.getElem?_eq_getElem hj]
  rfl
theorem RowE.holds [Inhabited α] (h : RowE enc e w base g cap xs) : Holds enc w g 0 xs.toArray := by
  intro j hj
  have hj' : j < xs.length := by simpa using hj
  refine ⟨?_, ?_⟩
  · rw [Nat.zero_add, h.get hj', getElem!_pos _ j (by simpa using hj')]
    simp
  · obtain ⟨_, _, _, cur, hh, _⟩ := h
    exact frozen_of_row _ _ _ _ _ hh
theorem RowE.put [Inhabited α] (h : RowE enc e w base g cap xs) (hl : ys.length = xs.length) {n : Nat} {os : Array Obj} (hw : w' = grow (putRow enc (Sort.ahead w n) g 0 ys.toArray) os) : RowE enc e w' base g cap ys ∧ Below base w w' := by
  have hlt := h.lt
  obtain ⟨hb, hle, hm, cur, hh, hs, ht⟩ := h
  have hhe : w'.heap = w.heap.modify g (onCells (putCells enc 0 ys.toArray)) ++ os := by subst hw; rfl
  refine ⟨⟨hb, by omega, hm, putCells enc 0 ys.toArray cur, ?_, by simp [putCells, hs], ?_⟩, ?_⟩
  · rw [hhe, Array.getElem?_append_left (by simpa using hlt), Array.getElem?_modify, if_pos rfl, hh]
    rfl
  · refine List.ext_getElem? fun j => ?_
    by_cases hj : j < ys.length
    · have hjc : j < cur.size := by omega
      rw [List.getElem?_take_of_lt hj, Array.getElem?_toList, List.getElem?_map, List.getElem?_eq_getElem hj]
      unfold putCells
      rw [Array.getElem?_mapIdx, Array.getElem?_eq_getElem hjc]
      simp only [Option.map_some, Nat.zero_le, true_and, Nat.zero_add, Nat.sub_zero, List.size_toArray, if_pos hj]
      rw [getElem!_pos _ j (by simpa using hj)]
      simp
    · rw [List.getElem?_eq_none (by rw [List.length_take]; omega), List.getElem?_eq_none (by rw [List.length_map]; omega)]
  · refine ⟨by subst hw; rfl, by subst hw; rfl, by subst hw; rfl, by rw [hhe]; simp, fun k hk => ?_⟩
    rw [hhe]
    by_cases hkw : k < w.heap.size
    · rw [Array.getElem?_append_left (by simpa using hkw), Array.getElem?_modify, if_neg (by omega)]
    · omega
theorem RowE.cut (h : RowE enc e w base g cap (xs ++ ys)) : RowE enc e w base g cap xs := by
  obtain ⟨hb, hle, hm, cur, hh, hs, ht⟩ := h
  rw [List.length_append] at hle
  refine ⟨hb, by omega, hm, cur, hh, hs, ?_⟩
  have := congrArg (List.take xs.length) ht
  rw [List.take_take, List.length_append, Nat.min_eq_left (by omega), List.map_append, List.take_left' (by simp)] at this
  exact this
end

end Go.Proofs.YtlejlcnemibgiaaGreat

namespace Go.Proofs.YtlejlcnemibgiaaGreat
set_option linter.unusedVariables false
set_option linter.unusedSimpArgs false

section
variable {α : Type} [Inhabited α] [DecidableEq α]

/-- Sorted numbers or texts, each once: what stays is strictly ascending and has the same members. -/
theorem compactUpTo_sorted (lt : α → α → Bool) (htr : ∀ a b c, lt a b = true → lt b c = true → lt a c = true) (d : Array α) (hs : ∀ i j, i < j → j < d.size → d[i]! = d[j]! ∨ lt d[i]! d[j]! = true) :
    ∀ m, m ≤ d.size → (Lib.compactUpTo d m).Pairwise (fun a b => lt a b = true) ∧ (∀ x, x ∈ Lib.compactUpTo d m ↔ ∃ j, j < m ∧ d[j]! = x) ∧ ∀ x ∈ Lib.compactUpTo d m, 0 < m → x = d[m - 1]! ∨ lt x d[m - 1]! = true
  | 0, _ => by
    refine ⟨by simp [Lib.compactUpTo], fun x => by simp [Lib.compactUpTo], fun x hx => by simp [Lib.compactUpTo] at hx⟩
  | m + 1, h => by
    obtain ⟨h1, h2, h3⟩ := compactUpTo_sorted lt htr d hs m (by omega)
    rw [Lib.compactUpTo_succ]
    by_cases hm : m = 0
    · subst hm
      rw [Lib.keeps_lt_one d 0 (by omega), if_pos rfl, show Lib.compactUpTo d 0 = [] by simp [Lib.compactUpTo]]
      refine ⟨by simp, fun x => ?_, fun x hx _ => ?_⟩
      · simp only [List.nil_append, List.mem_singleton]
        constructor
        · rintro rfl; exact ⟨0, by omega, rfl⟩
        · rintro ⟨j, hj, rfl⟩
          have : j = 0 := by omega
          subst this; rfl
      · simp only [List.nil_append, List.mem_singleton] at hx
        subst hx
        exact .inl rfl
    · by_cases heq : d[m]! = d[m - 1]!
      · rw [Lib.keeps_neg (by omega) heq, if_neg (by simp), List.append_nil]
        refine ⟨h1, fun x => ?_, fun x hx _ => ?_⟩
        · rw [h2]
          constructor
          · rintro ⟨j, hj, rfl⟩; exact ⟨j, by omega, rfl⟩
          · rintro ⟨j, hj, rfl⟩
            by_cases e : j = m
            · subst e; exact ⟨j - 1, by omega, heq.symm⟩
            · exact ⟨j, by omega, rfl⟩
        · rw [Nat.add_sub_cancel, heq]
          exact h3 x hx (by omega)
      · rw [Lib.keeps_pos heq, if_pos rfl]
        have hlt : ∀ x ∈ Lib.compactUpTo d m, lt x d[m]! = true := by
          intro x hx
          have hstep : lt d[m - 1]! d[m]! = true := by
            rcases hs (m - 1) m (by omega) (by omega) with e | e
            · exact absurd e.symm heq
            · exact e
          rcases h3 x hx (by omega) with e | e
          · rw [e]; exact hstep
          · exact htr _ _ _ e hstep
        refine ⟨?_, fun x => ?_, fun x hx _ => ?_⟩
        · rw [List.pairwise_append]
          refine ⟨h1, by simp, fun a ha b hb => ?_⟩
          rw [List.mem_singleton] at hb
          subst hb
          exact hlt a ha
        · rw [List.mem_append, h2, List.mem_singleton]
          constructor
          · rintro (⟨j, hj, rfl⟩ | rfl)
            · exact ⟨j, by omega, rfl⟩
            · exact ⟨m, by omega, rfl⟩
          · rintro ⟨j, hj, rfl⟩
            by_cases e : j = m
            · subst e; exact .inr rfl
            · exact .inl ⟨j, by omega, rfl⟩
        · rw [Nat.add_sub_cancel]
          rcases List.mem_append.1 hx with hx | hx
          · exact .inr (hlt x hx)
          · rw [List.mem_singleton] at hx; exact .inl hx

theorem compact_sorted (lt : α → α → Bool) (htr : ∀ a b c, lt a b = true → lt b c = true → lt a c = true) (zs : List α) (hs : zs.Pairwise (fun a b => a = b ∨ lt a b = true)) :
    (Lib.compact zs).Pairwise (fun a b => lt a b = true) ∧ ∀ x, x ∈ Lib.compact zs ↔ x ∈ zs := by
  have hget : ∀ i, i < zs.length → zs.toArray[i]! = zs[i]! := by
    intro i hi
    rw [getElem!_pos _ i (by simpa using hi), getElem!_pos _ i hi]
    simp
  obtain ⟨h1, h2, _⟩ := compactUpTo_sorted lt htr zs.toArray (fun i j hij hj => by
    have hj' : j < zs.length := by simpa using hj
    rw [hget i (by omega), hget j hj', getElem!_pos _ i (by omega), getElem!_pos _ j hj']
    exact List.pairwise_iff_getElem.1 hs i j (by omega) hj' hij) zs.length (by simp)
  refine ⟨h1, fun x => (h2 x).trans ?_⟩
  constructor
  · rintro ⟨j, hj, rfl⟩
    rw [hget j hj, getElem!_pos _ j hj]
    exact List.getElem_mem hj
  · intro hx
    obtain ⟨j, hj, rfl⟩ := List.getElem_of_mem hx
    exact ⟨j, hj, by rw [hget j hj, getElem!_pos _ j hj]⟩
end

end Go.Proofs.YtlejlcnemibgiaaGreat

namespace Go.Proofs.YtlejlcnemibgiaaGreat
open Go.RowKit Go.Shelf Go.Sort
set_option linter.unusedVariables false
set_option linter.unusedSimpArgs false

def collL (xs : List Int) : List Int := Lib.compact (xs.mergeSort fun x y => decide (x ≤ y))
theorem collL_asc (xs : List Int) : (collL xs).Pairwise (fun a b => a < b) ∧ ∀ x, x ∈ collL xs ↔ x ∈ xs := by
  have hs : (xs.mergeSort fun x y => decide (x ≤ y)).Pairwise (fun a b => a = b ∨ decide (a < b) = true) := by
    have := List.pairwise_mergeSort (le := fun x y : Int => decide (x ≤ y)) (fun a b c h1 h2 => by simp at h1 h2 ⊢; omega) (fun a b => by simp; omega) xs
    refine this.imp fun {a b} h => ?_
    simp at h ⊢
    omega
  have := compact_sorted (fun a b : Int => decide (a < b)) (fun a b c h1 h2 => by simp at h1 h2 ⊢; omega) _ hs
  refine ⟨this.1.imp fun {a b} h => by simpa using h, fun x => ?_⟩
  unfold collL
  rw [this.2, List.mem_mergeSort]
theorem collL_len (xs : List Int) : (collL xs).length ≤ xs.length := by
  have := Lib.compact_length_le (xs.mergeSort fun x y => decide (x ≤ y))
  rwa [List.length_mergeSort] at this
theorem collL_nil : collL [] = [] := by
  have := collL_len []
  exact List.eq_nil_of_length_eq_zero (by simpa using this)

theorem OwnI.posC {w : World} {base : Nat} {v : Value} {xs : List Int} (h : OwnI w base v xs) (hp : 0 < xs.length) : ∃ g c, v = .slice (some ⟨g, 0, none⟩) xs.length c := by
  rcases h.2 with ⟨rfl, h0⟩ | ⟨g, cap, cur, rfl, hg, hh, hnc, hm, _⟩
  · omega
  · exact ⟨g, cap, rfl⟩
theorem OwnI.rowC {w : World} {base g cap : Nat} {xs : List Int} (h : OwnI w base (.slice (some ⟨g, 0, none⟩) xs.length cap) xs) : RowE (Value.int .i64) 3 w base g cap xs := by
  rcases h.2 with ⟨hv, h0⟩ | ⟨g', cap', cur, hv, hg, hh, hnc, hm, hs, ht⟩
  · cases hv
  · injection hv with h1 h2 h3
    injection h1 with h1
    injection h1 with h1
    subst h1 h3
    exact ⟨hg, hnc, hm, cur, hh, by simpa using hs, by rw [Nat.mul_one] at ht; exact ht⟩
theorem RowE.ownC {w : World} {base g cap : Nat} {xs : List Int} (h : RowE (Value.int .i64) 3 w base g cap xs) : OwnI w base (.slice (some ⟨g, 0, none⟩) xs.length cap) xs := by
  obtain ⟨hb, hl, hm, cur, hh, hs, ht⟩ := h
  exact ⟨by simp, .inr ⟨g, cap, cur, rfl, hb, hh, hl, hm, by rw [Nat.mul_one]; exact hs, by rw [Nat.mul_one]; exact ht⟩⟩

theorem sort_ints (g cap base : Nat) (xs : List Int) (w : World) (h : RowE (Value.int .i64) 3 w base g cap xs) (hl : xs.length ≤ 1048576) :
    Calls Tryz.prog 99 #[.slice (some ⟨g, 0, none⟩) xs.length cap] w fun e w' => e = .returned (.tuple #[]) ∧ RowE (Value.int .i64) 3 w' base g cap (xs.mergeSort fun x y => decide (x ≤ y)) ∧ Below base w w' :=
  (Any.slices_Sort_int Tryz.lays189 g 0 cap xs w h.holds h.lt (by omega)).mono fun e w' ⟨he, n, os, hw⟩ => by
    have := h.put (ys := xs.mergeSort fun x y => decide (x ≤ y)) (List.length_mergeSort _) hw
    exact ⟨he, this.1, this.2⟩

theorem compact_ints (g cap base : Nat) (xs : List Int) (w : World) (h : RowE (Value.int .i64) 3 w base g cap xs) (hl : xs.length ≤ 1048576) :
    Calls Tryz.prog 100 #[.slice (some ⟨g, 0, none⟩) xs.length cap] w fun e w' => e = .returned (.slice (some ⟨g, 0, none⟩) (Lib.compact xs).length cap) ∧ RowE (Value.int .i64) 3 w' base g cap (Lib.compact xs) ∧ Below base w w' :=
  (Any.slices_Compact_int Tryz.lays20 g 0 cap xs w h.holds (by omega) h.2.1).mono fun e w' ⟨he, q, hw⟩ => by
    have hle := Lib.compact_length_le xs
    have := h.put (ys := Lib.compact xs ++ List.replicate (xs.length - (Lib.compact xs).length) 0) (by simp; omega) (n := q) (os := #[]) (hw.trans (grow_empty _).symm)
    exact ⟨he, this.1.cut, this.2⟩

theorem ints_cellsC {w : World} {B g off : Nat} {xs : List Int} (h : Ints w B (some ⟨g, off, none⟩) xs) : ∀ j, j < xs.length → w.cell? ⟨g, off + j, none⟩ = some (.int .i64 (xs.getD j 0)) := by
  intro j hj
  obtain ⟨b, off', e, _, hc⟩ := h.2.2 (by omega)
  injection e with e
  injection e with e1 e2
  subst e1 e2
  exact hc j hj

theorem clone_ints (A : Option Addr) (cap : Nat) (xs : List Int) (w : World) (h : Ints w w.heap.size A xs) (hl : xs.length ≤ 1048576) :
    Calls Tryz.prog 98 #[.slice A xs.length cap] w fun e w' => ∃ v, e = .returned v ∧ OwnI w' w.heap.size v xs ∧ Below w.heap.size w w' := by
  by_cases hp : 0 < xs.length
  · obtain ⟨b, off, rfl, _, _⟩ := h.2.2 hp
    refine (Any.slices_Clone_int Tryz.lays15 b off xs.length cap xs w (Nat.le_refl _) (by omega) (ints_cellsC h)).mono ?_
    rintro e w' ⟨v, rfl, ho, _, hb⟩
    rw [List.take_length] at ho
    exact ⟨v, rfl, ho, hb⟩
  · have h0 : xs = [] := List.eq_nil_of_length_eq_zero (by omega)
    subst h0
    cases A with
    | none =>
      refine (Any.slices_Clone_int_nil Tryz.lays15 0 cap w).mono ?_
      rintro e w' ⟨rfl, rfl⟩
      exact ⟨_, rfl, OwnI.nil _ _, Below.refl _ _⟩
    | some a =>
      refine (Any.slices_Clone_int_zero Tryz.lays15 a cap w).mono ?_
      rintro e w' ⟨v, rfl, ho, _, hb⟩
      exact ⟨v, rfl, ho, hb⟩

set_option maxRecDepth 100000 in
set_option maxHeartbeats 400000 in
theorem impl_collected_any (A : Option Addr) (cap : Nat) (xs : List Int) (w : World) (hA : Ints w w.heap.size A xs) (hl : xs.length ≤ 1048576) :
    Calls Tryz.prog 84 #[.slice A xs.length cap] w fun e w' => ∃ v, e = .returned v ∧ OwnI w' w.heap.size v (collL xs) ∧ Below w.heap.size w w' := by
  have HCL := Lib.hid (clone_ints A cap xs w hA hl)
  clear hA
  by_cases hp : 0 < xs.length
  · have hsrt := fun V g c h => sort_ints g c w.heap.size xs V h hl
    have hcmp := fun V g c h => compact_ints g c w.heap.size (xs.mergeSort fun x y => decide (x ≤ y)) V h (by rw [List.length_mergeSort]; exact hl)
    have hcl := collL_len xs
    rw [List.length_mergeSort] at hcmp
    have he : Lib.compact (xs.mergeSort fun x y => decide (x ≤ y)) = collL xs := rfl
    rw [he] at hcmp
    generalize collL xs = C at hcmp hcl ⊢
    generalize (xs.mergeSort fun x y => decide (x ≤ y)) = M at hsrt hcmp
    have HS := Lib.hid hsrt
    have HC := Lib.hid hcmp
    clear hsrt hcmp he
    go_enter Tryz.func84, Tryz.ntmps84
    go_wp2_with fail
    refine HCL.out.mono ?_
    rintro e w1 ⟨v, rfl, ho, hb⟩
    obtain ⟨g, c, rfl⟩ := ho.posC hp
    have HR := Lib.hid ho.rowC
    have HB := Lib.hid hb
    clear ho hb
    go_wp2_with fail
    refine (HS.out _ g c HR.out).mono ?_
    rintro e w2 ⟨rfl, hr2, hb2⟩
    have HR2 := Lib.hid hr2
    have HB2 := Lib.hid (HB.out.trans hb2)
    clear hr2 hb2
    go_wp2_with fail
    refine (HC.out _ g c HR2.out).mono ?_
    rintro e w3 ⟨rfl, hr3, hb3⟩
    have HR3 := Lib.hid hr3
    have HB3 := Lib.hid (HB2.out.trans hb3)
    clear hr3 hb3
    go_wp2_with fail
    go_ret
    exact ⟨_, rfl, HR3.out.ownC, HB3.out⟩
  · have h0 : xs = [] := List.eq_nil_of_length_eq_zero (by omega)
    subst h0
    rw [collL_nil]
    go_enter Tryz.func84, Tryz.ntmps84
    go_wp2_with fail
    refine HCL.out.mono ?_
    rintro e w1 ⟨v, rfl, ho, hb⟩
    obtain ⟨A1, c1, rfl⟩ := ho.form
    have HO := Lib.hid ho
    have HB := Lib.hid hb
    clear ho hb
    go_wp2_with fail
    refine (Any.slices_Sort_int_none Tryz.lays189 A1 c1 _).mono ?_
    rintro e w2 ⟨rfl, rfl⟩
    go_wp2_with fail
    refine (Any.slices_Compact_int_empty Tryz.lays20 A1 c1 _).mono ?_
    rintro e w2 ⟨rfl, rfl⟩
    go_wp2_with fail
    go_ret
    exact ⟨_, rfl, HO.out, HB.out⟩

/-- The numbers taken modulo n, as far as k. -/
def modL (n : Int) (xs : List Int) (k : Nat) : List Int := (xs.take k).map (· % n)
theorem modL_succ {n : Int} {xs : List Int} {k : Nat} {x : Int} (hk : k < xs.length) (hx : xs.getD k 0 = x) : modL n xs (k + 1) = modL n xs k ++ [x % n] := by
  unfold modL
  rw [List.take_succ_eq_append_getElem hk, List.map_append, List.map_singleton]
  have : xs[k] = x := by rw [← hx, List.getD_eq_getElem?_getD, List.getElem?_eq_getElem hk]; rfl
  rw [this]
theorem modL_len (n : Int) (xs : List Int) (k : Nat) : (modL n xs k).length ≤ xs.length := by
  unfold modL
  rw [List.length_map, List.length_take]
  omega
theorem modL_mem {n x : Int} {xs : List Int} : x ∈ modL n xs xs.length ↔ ∃ y ∈ xs, y % n = x := by
  unfold modL
  rw [List.take_length, List.mem_map]
theorem modL_fit {n : Int} {xs : List Int} (hn : 1 ≤ n) (hn2 : n ≤ 1000000000) (k : Nat) : ∀ x ∈ modL n xs k, Fits x := by
  intro x hx
  unfold modL at hx
  rw [List.mem_map] at hx
  obtain ⟨y, _, rfl⟩ := hx
  have := Int.emod_nonneg y (show n ≠ 0 by omega)
  have := Int.emod_lt_of_pos y (show 0 < n by omega)
  unfold Fits
  omega

set_option maxRecDepth 100000 in
set_option maxHeartbeats 1000000 in
theorem impl_rhythmOf_any (n : Int) (A : Option Addr) (cap : Nat) (xs : List Int) (w : World) (hA : Ints w w.heap.size A xs) (hl : xs.length ≤ 1000000) (hn : 1 ≤ n) (hn2 : n ≤ 1000000000) :
    Calls Tryz.prog 60 #[.int .i64 n, .slice A xs.length cap] w (RetRh1 w n (collL (modL n xs xs.length))) := by
  have HC := Lib.hid hA.2.2
  have hco := fun (A2 : Option Addr) (c2 : Nat) (V : World) (hV : Ints V V.heap.size A2 (modL n xs xs.length)) => impl_collected_any A2 c2 (modL n xs xs.length) V hV (by have := modL_len n xs xs.length; omega)
  have hcl := collL_len (modL n xs xs.length)
  obtain ⟨R, hR⟩ : ∃ R, collL (modL n xs xs.length) = R := ⟨_, rfl⟩
  rw [hR] at hco hcl ⊢
  have HCO := Lib.hid hco
  clear hco hR
  have hml := modL_len n xs xs.length
  clear hA
  have HW := Lib.hid ((Below.refl w.heap.size w).alloc (Nat.le_refl _) (.cells #[.int .i64 0, .slice none 0 0] 25))
  have HN := Lib.hid (Cells2.new w (.int .i64 0) (.slice none 0 0) 25)
  go_enter Tryz.func60, Tryz.ntmps60
  go_wp2_with fail
  go_loopw [5, 10] (fun so i wr => ∃ k : Nat, k ≤ xs.length ∧ i = .int .i64 k ∧ OwnI wr (w.heap.size + 1) so (modL n xs k) ∧ Below (w.heap.size + 1) (w.alloc (.cells #[.int .i64 0, .slice none 0 0] 25)) wr) (fun _ i _ => xs.length - (intOf i).toNat)
  case atStart => exact ⟨0, Nat.zero_le _, rfl, OwnI.nil _ _, Below.refl _ _⟩
  case round =>
    obtain ⟨k, hk, rfl, hown, hbel⟩ := hrel
    obtain ⟨wo, rfl⟩ : ∃ wo : World, wo = wr := ⟨_, rfl⟩
    have hws : w.heap.size + 1 ≤ wo.heap.size := by have := hbel.size; simpa using this
    have HBE := Lib.hid hbel
    have HO := Lib.hid hown
    obtain ⟨A1, c1, rfl⟩ := hown.form
    have hmk := modL_len n xs k
    clear hbel hown
    by_cases hlt : k < xs.length
    · obtain ⟨b, off, rfl, hB, hc⟩ := HC.out (by omega)
      have hcell := ((HW.out.trans (HBE.out.mono (by omega))).cell (p := ⟨b, off + k, none⟩) hB).trans (hc k hlt)
      obtain ⟨x, hx⟩ : ∃ x, xs.getD k 0 = x := ⟨_, rfl⟩
      rw [hx] at hcell
      have HSU := Lib.hid (modL_succ (n := n) hlt hx)
      generalize modL n xs k = L at HO HSU hmk ⊢
      clear hc hx
      go_wp2_with (first
        | (go_at_call 83; refine (impl_remainder_any x n _ hn hn2).mono ?_; rintro e w' ⟨rfl, rfl⟩)
        | (at_builtin; refine wpList_append_int rfl (.tmp 14) (.tmp 18) rfl (w.heap.size + 1) _ L rfl (HO.out.alloc _) _ _ rfl (cell_new1 _ _ _) (by omega) (by simp; omega) ?_; intro v2 w2 hown2 hb2))
      have HO2 := Lib.hid hown2
      have HB2 := Lib.hid ((HBE.out.alloc (by omega) _).trans hb2)
      clear hown2 hb2
      go_wp2_with fail
      go_roundw
      case rel => exact ⟨k + 1, by omega, by go_num, by rw [HSU.out]; exact HO2.out, HB2.out⟩
      case measure => simp [intOf]; omega
    · have hke : k = xs.length := by omega
      subst hke
      have HI := Lib.hid (HO.out.ints (modL_fit hn hn2 _))
      generalize modL n xs xs.length = L at HO HCO HI hmk hcl hml ⊢
      go_wp2_with fail
      refine (HCO.out A1 c1 _ HI.out).mono ?_
      rintro e w2 ⟨v, rfl, ho2, hb2⟩
      obtain ⟨A2, c2, rfl⟩ := ho2.form
      have hz2 := hb2.size
      obtain ⟨f0, f1, f2, f3, f4⟩ := (HN.out.below HBE.out (by simp)).below hb2 (by omega)
      go_wp2_with fail
      refine bodyPost_ret (v := .agg #[.int .i64 n, .slice A2 R.length c2]) (by simp [results, Tryz.results60, go_sem, f0, f1]) rfl ?_
      refine ⟨A2, c2, rfl, ?_, ?_⟩
      · exact (((ho2.rw_ (by omega)).far (p := ⟨w.heap.size, 0, none⟩) (by simp; omega) _).far (p := ⟨w.heap.size, 1, none⟩) (by simp; omega) _).mono (by omega)
      · exact (((HW.out.trans (HBE.out.mono (by omega))).trans (hb2.mono (by omega))).setCell (Nat.le_refl _) _).setCell (Nat.le_refl _) _

end Go.Proofs.YtlejlcnemibgiaaGreat

namespace Go.Proofs.YtlejlcnemibgiaaGreat
open Go.RowKit
set_option linter.unusedVariables false
set_option linter.unusedSimpArgs false

def codI (N : Nat) (X : List Int) : Nat := codeN N X X.length
def aftB (N : Nat) (a b : List Int) : Bool := decide (codI N b < codI N a)
theorem codI_bit {N : Nat} {X : List Int} (h : RhOk N X) (b : Nat) (hb : b < N) : (codI N X).testBit b = hasB X ((N : Int) - 1 - b) :=
  codeN_has N X (by have := h.1; omega) h.2.2.1 b (by omega)
theorem codI_lt {N : Nat} {X : List Int} (h : RhOk N X) : codI N X < 2 ^ N := by
  have := codeN_lt N X (by have := h.1; omega) h.2.2.1 X.length (Nat.le_refl _)
  rwa [Int.toNat_natCast] at this
theorem codI_small {N : Nat} {X : List Int} (h : RhOk N X) : codI N X < 16777216 := by
  have h1 := codI_lt h
  have h2 : (2 : Nat) ^ N ≤ 2 ^ 24 := Nat.pow_le_pow_right (by omega) (by have := h.2.1; omega)
  omega
theorem codI_out {N : Nat} {X : List Int} (h : RhOk N X) (b : Nat) (hb : N ≤ b) : (codI N X).testBit b = false :=
  Nat.testBit_lt_two_pow (Nat.lt_of_lt_of_le (codI_lt h) (Nat.pow_le_pow_right (by omega) hb))
theorem lt_of_bit {x y : Nat} (i : Nat) (hx : x.testBit i = false) (hy : y.testBit i = true) (hxy : ∀ j, i < j → x.testBit j = y.testBit j) : x < y := by
  have e : x / 2 ^ i / 2 = y / 2 ^ i / 2 := by
    rw [Nat.div_div_eq_div_mul, Nat.div_div_eq_div_mul, ← Nat.pow_succ]
    refine Nat.eq_of_testBit_eq fun j => ?_
    rw [Nat.testBit_div_two_pow, Nat.testBit_div_two_pow]
    exact hxy _ (by omega)
  rw [Nat.testBit_eq_decide_div_mod_eq] at hx hy
  have h1 := of_decide_eq_false hx
  have h2 := of_decide_eq_true hy
  have h3 : y / 2 ^ i = x / 2 ^ i + 1 := by omega
  have h4 := Nat.div_mul_le_self y (2 ^ i)
  have h5 : x < (x / 2 ^ i + 1) * 2 ^ i := (Nat.div_lt_iff_lt_mul (Nat.two_pow_pos i)).1 (Nat.lt_succ_self _)
  rw [h3] at h4
  omega
theorem aft_first {N : Nat} {a b : List Int} {p : Nat} (ha : RhOk N a) (hb : RhOk N b) (hp : p < N) (hs : ∀ q : Nat, q < p → hasB a q = hasB b q) (hd : hasB a p ≠ hasB b p) : aftB N a b = hasB a p := by
  have e : (N : Int) - 1 - ((N - 1 - p : Nat) : Int) = p := by omega
  have ba := codI_bit ha (N - 1 - p) (by omega)
  have bb := codI_bit hb (N - 1 - p) (by omega)
  rw [e] at ba bb
  have hj : ∀ j, N - 1 - p < j → (codI N a).testBit j = (codI N b).testBit j := fun j hj => by
    by_cases hn : j < N
    · rw [codI_bit ha j hn, codI_bit hb j hn, show (N : Int) - 1 - j = ((N - 1 - j : Nat) : Int) by omega]
      exact hs _ (by omega)
    · rw [codI_out ha j (by omega), codI_out hb j (by omega)]
  unfold aftB
  cases h1 : hasB a p
  · have h2 : hasB b p = true := by
      cases h3 : hasB b p
      · exact absurd (h1.trans h3.symm) hd
      · rfl
    rw [h1] at ba; rw [h2] at bb
    exact decide_eq_false (Nat.not_lt_of_le (Nat.le_of_lt (lt_of_bit (N - 1 - p) ba bb hj)))
  · have h2 : hasB b p = false := by
      cases h3 : hasB b p
      · rfl
      · exact absurd (h1.trans h3.symm) hd
    rw [h1] at ba; rw [h2] at bb
    exact decide_eq_true (lt_of_bit (N - 1 - p) bb ba (fun j h => (hj j h).symm))
theorem bits_cod {N : Nat} {X : List Int} (h : RhOk N X) : bitsB N (codI N X) N = X := by
  refine asc_unique (bitsB_sorted N _ N) (rhok_asc h) fun x => ?_
  rw [bitsB_mem]
  constructor
  · rintro ⟨p, hp, hb, rfl⟩
    rw [codI_bit h (N - 1 - p) (by omega), show (N : Int) - 1 - ((N - 1 - p : Nat) : Int) = p by omega] at hb
    unfold hasB at hb
    rwa [decide_eq_true_eq] at hb
  · intro hx
    have hr := rhok_range h x hx
    obtain ⟨p, rfl⟩ := Int.eq_ofNat_of_zero_le hr.1
    refine ⟨p, by omega, ?_, rfl⟩
    rw [codI_bit h (N - 1 - p) (by omega), show (N : Int) - 1 - ((N - 1 - p : Nat) : Int) = p by omega]
    unfold hasB
    exact decide_eq_true hx
theorem cod_inj {N : Nat} {a b : List Int} (ha : RhOk N a) (hb : RhOk N b) (h : codI N a = codI N b) : a = b := by
  rw [← bits_cod ha, ← bits_cod hb, h]
theorem aft_none {N : Nat} {a b : List Int} (ha : RhOk N a) (hb : RhOk N b) (hs : ∀ q : Nat, q < N → hasB a q = hasB b q) : aftB N a b = false := by
  have e : a = b := asc_unique (rhok_asc ha) (rhok_asc hb) fun x => by
    constructor
    · intro hx
      have hr := rhok_range ha x hx
      obtain ⟨p, rfl⟩ := Int.eq_ofNat_of_zero_le hr.1
      have := hs p (by omega)
      unfold hasB at this
      rw [decide_eq_true (show (p : Int) ∈ a from hx)] at this
      exact of_decide_eq_true this.symm
    · intro hx
      have hr := rhok_range hb x hx
      obtain ⟨p, rfl⟩ := Int.eq_ofNat_of_zero_le hr.1
      have := hs p (by omega)
      unfold hasB at this
      rw [decide_eq_true (show (p : Int) ∈ b from hx)] at this
      exact of_decide_eq_true this
  unfold aftB
  rw [e]
  exact decide_eq_false (Nat.lt_irrefl _)

/-- Step m moves beat m / 2 on or back; the pulse, and the rhythm that comes of it. -/
def mvD (m : Nat) : Int := if m % 2 = 0 then 1 else -1
def mvQ (N : Nat) (bs : List Int) (m : Nat) : Int := (bs.getD (m / 2) 0 + mvD m) % N
def mvX (N : Nat) (bs : List Int) (m : Nat) : List Int := ofL (bs.set (m / 2) (mvQ N bs m)) N
def mvL (N : Nat) (bs : List Int) : Nat → List (List Int)
  | 0 => []
  | m + 1 => if hasB bs (mvQ N bs m) then mvL N bs m else mvL N bs m ++ [mvX N bs m]
def posF (N : Nat) (out : List (List Int)) (x : List Int) : Nat := (out.takeWhile fun y => aftB N y x).length
def insF (N : Nat) (out : List (List Int)) (x : List Int) : List (List Int) := if out[posF N out x]? = some x then out else out.take (posF N out x) ++ (x :: out.drop (posF N out x))
def insL (N : Nat) (bs : List Int) : Nat → List (List Int)
  | 0 => []
  | m + 1 => if hasB bs (mvQ N bs m) then insL N bs m else insF N (insL N bs m) (mvX N bs m)

theorem ofL_ok {N : Nat} (xs : List Int) (h1 : 1 ≤ N) (h2 : N ≤ 24) : RhOk N (ofL xs N) := by
  have hs := ofL_sorted xs N
  refine ⟨by omega, by omega, fun i hi => ?_, fun i hi => ?_⟩
  · obtain ⟨t, ht, _, e⟩ := ofL_mem.1 (show (ofL xs N).getD i 0 ∈ ofL xs N by
      rw [List.getD_eq_getElem?_getD, List.getElem?_eq_getElem hi]; exact List.getElem_mem hi)
    rw [e]; omega
  · have := List.pairwise_iff_getElem.1 hs i (i + 1) (by omega) hi (by omega)
    rw [List.getD_eq_getElem?_getD, List.getD_eq_getElem?_getD, List.getElem?_eq_getElem hi, List.getElem?_eq_getElem (by omega : i < _)]
    exact this

theorem posF_le (N : Nat) (out : List (List Int)) (x : List Int) : posF N out x ≤ out.length := by
  unfold posF
  exact (List.takeWhile_sublist _).length_le
theorem posF_before {N : Nat} : ∀ {out : List (List Int)} {x : List Int} {i : Nat} (h : i < out.length), i < posF N out x → aftB N out[i] x = true
  | y :: out, x, i, h, hi => by
    unfold posF at hi
    by_cases hy : aftB N y x = true
    · rw [List.takeWhile_cons_of_pos (p := fun y => aftB N y x) hy, List.length_cons] at hi
      cases i with
      | zero => exact hy
      | succ i =>
        show aftB N (out[i]'(by simpa using h)) x = true
        exact posF_before (by simpa using h) (by unfold posF; omega)
    · rw [List.takeWhile_cons_of_neg (p := fun y => aftB N y x) hy] at hi; exact absurd hi (by simp)
theorem posF_at {N : Nat} : ∀ {out : List (List Int)} {x : List Int} (h : posF N out x < out.length), aftB N out[posF N out x] x = false
  | y :: out, x, h => by
    by_cases hy : aftB N y x = true
    · have e : posF N (y :: out) x = posF N out x + 1 := by unfold posF; rw [List.takeWhile_cons_of_pos (p := fun y => aftB N y x) hy, List.length_cons]
      have h' : posF N out x < out.length := by rw [e] at h; simpa using h
      have := posF_at h'
      simp only [e, List.getElem_cons_succ]
      exact this
    · have e : posF N (y :: out) x = 0 := by unfold posF; rw [List.takeWhile_cons_of_neg (p := fun y => aftB N y x) hy]; rfl
      simp only [e, List.getElem_cons_zero]
      simpa using hy

def Desc (N : Nat) (out : List (List Int)) : Prop := out.Pairwise (fun a b => codI N b < codI N a) ∧ ∀ x ∈ out, RhOk N x
theorem insF_desc {N : Nat} {out : List (List Int)} {x : List Int} (h : Desc N out) (hx : RhOk N x) : Desc N (insF N out x) ∧ ∀ y, y ∈ insF N out x ↔ y ∈ out ∨ y = x := by
  unfold insF
  obtain ⟨k, hk⟩ : ∃ k, posF N out x = k := ⟨_, rfl⟩
  have hkl := posF_le N out x
  have hbf : ∀ i (hi : i < out.length), i < k → codI N x < codI N out[i] := fun i hi hik => by
    have := posF_before (N := N) (x := x) hi (by omega)
    unfold aftB at this
    exact of_decide_eq_true this
  rw [hk] at hkl ⊢
  by_cases he : out[k]? = some x
  · rw [if_pos he]
    refine ⟨h, fun y => ⟨.inl, fun hy => ?_⟩⟩
    rcases hy with hy | rfl
    · exact hy
    · exact List.mem_of_getElem? he
  · rw [if_neg he]
    have haf : ∀ i (hi : i < out.length), k ≤ i → codI N out[i] < codI N x := fun i hi hki => by
      have hkn : k < out.length := by omega
      have h1 : codI N out[k] ≤ codI N x := by
        subst hk
        have := posF_at (N := N) (x := x) hkn
        unfold aftB at this
        have := of_decide_eq_false this
        omega
      have h2 : codI N out[k] ≠ codI N x := fun e => he (by
        rw [List.getElem?_eq_getElem hkn, cod_inj (h.2 _ (List.getElem_mem hkn)) hx e])
      by_cases hik : i = k
      · subst hik; omega
      · have := List.pairwise_iff_getElem.1 h.1 k i hkn hi (by omega)
        omega
    have hmem : ∀ y, y ∈ out.take k ++ (x :: out.drop k) ↔ y ∈ out ∨ y = x := fun y => by
      rw [List.mem_append, List.mem_cons]
      constructor
      · rintro (h1 | rfl | h1)
        · exact .inl (List.mem_of_mem_take h1)
        · exact .inr rfl
        · exact .inl (List.mem_of_mem_drop h1)
      · rintro (h1 | rfl)
        · rw [← List.take_append_drop k out, List.mem_append] at h1
          rcases h1 with h1 | h1
          · exact .inl h1
          · exact .inr (.inr h1)
        · exact .inr (.inl rfl)
    refine ⟨⟨?_, fun y hy => ?_⟩, hmem⟩
    · rw [List.pairwise_append, List.pairwise_cons]
      refine ⟨h.1.sublist (List.take_sublist _ _), ⟨fun y hy => ?_, h.1.sublist (List.drop_sublist _ _)⟩, fun a ha b hb => ?_⟩
      · obtain ⟨i, hi, rfl⟩ := List.getElem_of_mem hy
        rw [List.getElem_drop]
        exact haf _ _ (by omega)
      · obtain ⟨i, hi, rfl⟩ := List.getElem_of_mem ha
        rw [List.length_take] at hi
        rw [List.getElem_take]
        have h1 := hbf i (by omega) (by omega)
        rw [List.mem_cons] at hb
        rcases hb with rfl | hb
        · exact h1
        · obtain ⟨j, hj, rfl⟩ := List.getElem_of_mem hb
          rw [List.getElem_drop]
          have h2 := haf (k + j) (by rw [List.length_drop] at hj; omega) (by omega)
          omega
    · rcases (hmem y).1 hy with h1 | rfl
      · exact h.2 y h1
      · exact hx
theorem insL_desc {N : Nat} (bs : List Int) (h1 : 1 ≤ N) (h2 : N ≤ 24) : ∀ m, Desc N (insL N bs m) ∧ ∀ y, y ∈ insL N bs m ↔ y ∈ mvL N bs m
  | 0 => ⟨⟨List.Pairwise.nil, fun x hx => by cases hx⟩, fun y => by simp [insL, mvL]⟩
  | m + 1 => by
    obtain ⟨ih1, ih2⟩ := insL_desc bs h1 h2 m
    unfold insL mvL
    cases hb : hasB bs (mvQ N bs m)
    · rw [if_neg (by decide), if_neg (by decide)]
      obtain ⟨a, b⟩ := insF_desc ih1 (show RhOk N (mvX N bs m) from ofL_ok _ h1 h2)
      refine ⟨a, fun y => ?_⟩
      rw [b, ih2, List.mem_append, List.mem_singleton]
    · rw [if_pos rfl, if_pos rfl]
      exact ⟨ih1, ih2⟩
/-- By insertion, or by their codes from the greatest down: the same. -/
theorem mov_eq {N : Nat} (bs : List Int) (h1 : 1 ≤ N) (h2 : N ≤ 24) (m : Nat) :
    insL N bs m = (collL ((mvL N bs m).map fun x => (codI N x : Int))).reverse.map (fun c => bitsB N c.toNat N) := by
  obtain ⟨⟨d1, d2⟩, d3⟩ := insL_desc bs h1 h2 m
  obtain ⟨c1, c2⟩ := collL_asc ((mvL N bs m).map fun x => (codI N x : Int))
  have e : ((insL N bs m).map fun x => (codI N x : Int)).reverse = collL ((mvL N bs m).map fun x => (codI N x : Int)) := by
    refine asc_unique ?_ c1 fun c => ?_
    · rw [List.pairwise_reverse, List.pairwise_map]
      exact d1.imp (fun h => by omega)
    · rw [c2, List.mem_reverse, List.mem_map, List.mem_map]
      constructor
      · rintro ⟨x, hx, rfl⟩; exact ⟨x, (d3 x).1 hx, rfl⟩
      · rintro ⟨x, hx, rfl⟩; exact ⟨x, (d3 x).2 hx, rfl⟩
  rw [← e, List.reverse_reverse, List.map_map]
  refine (List.map_id' (insL N bs m)).symm.trans (List.map_congr_left fun x hx => ?_)
  show x = bitsB N ((codI N x : Int)).toNat N
  rw [Int.toNat_natCast, bits_cod (d2 x hx)]

theorem rhok_len {N : Nat} {bs : List Int} (hok : RhOk N bs) : bs.length ≤ N := by
  have := rotL_len N bs 0
  rwa [(rotL_same hok 0).2 (fun t ht => by rw [show (t : Int) - 0 = t by omega, Int.emod_eq_of_lt (by omega) (by omega)])] at this

end Go.Proofs.YtlejlcnemibgiaaGreat

namespace Go.Proofs.YtlejlcnemibgiaaGreat
open Go.RowKit
set_option linter.unusedVariables false
set_option linter.unusedSimpArgs false

def absI (x : Int) : Int := if 0 ≤ x then x else -x
def sigN (f : Nat → Int) : Nat → Int
  | 0 => 0
  | m + 1 => sigN f m + f m
theorem sigN_congr {f g : Nat → Int} : ∀ {m : Nat}, (∀ i, i < m → f i = g i) → sigN f m = sigN g m
  | 0, _ => rfl
  | m + 1, h => by
    unfold sigN
    rw [sigN_congr (fun i hi => h i (by omega)), h m (by omega)]
theorem sigN_le {f g : Nat → Int} : ∀ {m : Nat}, (∀ i, i < m → f i ≤ g i) → sigN f m ≤ sigN g m
  | 0, _ => Int.le_refl _
  | m + 1, h => by
    unfold sigN
    have := sigN_le (f := f) (g := g) (m := m) (fun i hi => h i (by omega))
    have := h m (by omega)
    omega
theorem sigN_nonneg {f : Nat → Int} : ∀ {m : Nat}, (∀ i, i < m → 0 ≤ f i) → 0 ≤ sigN f m
  | 0, _ => Int.le_refl _
  | m + 1, h => by
    unfold sigN
    have := sigN_nonneg (f := f) (m := m) (fun i hi => h i (by omega))
    have := h m (by omega)
    omega
theorem sigN_zero {f : Nat → Int} : ∀ {m : Nat}, (∀ i, i < m → f i = 0) → sigN f m = 0
  | 0, _ => rfl
  | m + 1, h => by
    unfold sigN
    rw [sigN_zero (fun i hi => h i (by omega)), h m (by omega)]; rfl
theorem sigN_one {f g : Nat → Int} {j : Nat} : ∀ {m : Nat}, j < m → (∀ i, i < m → i ≠ j → f i = g i) → sigN f m - sigN g m = f j - g j
  | 0, h, _ => by omega
  | m + 1, h, he => by
    unfold sigN
    by_cases hj : j = m
    · subst hj
      rw [sigN_congr (fun i hi => he i (by omega) (by omega))]; omega
    · have := sigN_one (f := f) (g := g) (j := j) (m := m) (by omega) (fun i hi => he i (by omega))
      rw [he m (by omega) (by omega)]; omega
theorem sigN_shift (f : Nat → Int) : ∀ m, sigN (fun i => f (i + 1)) m = sigN f m - f 0 + f m
  | 0 => by unfold sigN; omega
  | m + 1 => by
    have := sigN_shift f m
    unfold sigN
    rw [this]; omega

/-- A list of beats, read on and on, around. -/
def extB (n : Int) (b : List Int) (t : Int) : Int := b.getD (t % (b.length : Int)).toNat 0 + t / (b.length : Int) * n
def Perd (k : Nat) (n : Int) (A : Int → Int) : Prop := ∀ t, A (t + k) = A t + n
theorem Perd.mul {k : Nat} {n : Int} {A : Int → Int} (h : Perd k n A) (t : Int) : ∀ j : Nat, A (t + j * k) = A t + j * n ∧ A (t - j * k) = A t - j * n
  | 0 => by simp
  | j + 1 => by
    obtain ⟨h1, h2⟩ := h.mul t j
    have e1 := h (t + j * k)
    have e2 := h (t - (j + 1 : Nat) * k)
    have x1 : ((j + 1 : Nat) : Int) * k = j * k + k := by rw [Int.natCast_add, Int.add_mul]; simp
    have x2 : ((j + 1 : Nat) : Int) * n = j * n + n := by rw [Int.natCast_add, Int.add_mul]; simp
    rw [x1] at e2 ⊢
    rw [x2]
    rw [show t - (j * k + k) + k = t - j * k by omega] at e2
    rw [show t + (j * k + k) = t + j * k + k by omega]
    omega
theorem Perd.muli {k : Nat} {n : Int} {A : Int → Int} (h : Perd k n A) (t j : Int) : A (t + j * k) = A t + j * n := by
  rcases Int.eq_nat_or_neg j with ⟨m, rfl | rfl⟩
  · exact (h.mul t m).1
  · have := (h.mul t m).2
    rw [Int.neg_mul, Int.neg_mul]
    exact this
theorem Perd.red {k : Nat} {n : Int} {A : Int → Int} (h : Perd k n A) (t : Int) : A t = A (t % k) + t / k * n := by
  have := h.muli (t % k) (t / k)
  rw [← this]
  congr 1
  have := Int.emod_add_mul_ediv t k
  rw [Int.mul_comm] at this
  exact this.symm
theorem Perd.ext {k : Nat} {n : Int} {A B : Int → Int} (hk : 1 ≤ k) (hA : Perd k n A) (hB : Perd k n B) (h : ∀ i : Nat, i < k → A i = B i) (t : Int) : A t = B t := by
  rw [hA.red t, hB.red t]
  have h0 := Int.emod_nonneg t (show (k : Int) ≠ 0 by omega)
  have h1 := Int.emod_lt_of_pos t (show (0 : Int) < k by omega)
  obtain ⟨i, hi⟩ := Int.eq_ofNat_of_zero_le h0
  rw [hi, h i (by omega)]
theorem extB_perd (n : Int) (b : List Int) (hk : 1 ≤ b.length) : Perd b.length n (extB n b) := by
  intro t
  unfold extB
  rw [Int.add_emod_right, Int.add_ediv_of_dvd_right (Int.dvd_refl _), Int.ediv_self (by omega), Int.add_mul]
  omega
theorem extB_at (n : Int) (b : List Int) (i : Nat) (hi : i < b.length) : extB n b i = b.getD i 0 := by
  unfold extB
  rw [Int.emod_eq_of_lt (by omega) (by omega), Int.ediv_eq_zero_of_lt (by omega) (by omega), Int.toNat_natCast]
  omega

/-- The sum of the ways from a to b, with a turn. -/
def farG (A B : Int → Int) (k : Nat) (s : Int) : Int := sigN (fun i => absI (A i - B (i + s))) k
theorem farG_shift1 {A B : Int → Int} {k : Nat} {n : Int} (hA : Perd k n A) (hB : Perd k n B) (s : Int) : farG (fun t => A (t + 1)) (fun t => B (t + 1)) k s = farG A B k s := by
  unfold farG
  have := sigN_shift (fun i => absI (A i - B (i + s))) k
  have e : absI (A k - B (k + s)) = absI (A 0 - B (0 + s)) := by
    have e1 := hA 0
    have e2 := hB (0 + s)
    rw [Int.zero_add] at e1 e2
    rw [show (k : Int) + s = s + k by omega, e1, Int.zero_add, e2]
    congr 1
    omega
  simp only [Int.natCast_zero] at this
  rw [e] at this
  rw [show sigN (fun i => absI (A (i + 1) - B (i + s + 1))) k = sigN (fun i : Nat => absI (A ((i + 1 : Nat) : Int) - B (((i + 1 : Nat) : Int) + s))) k from sigN_congr fun i _ => by
    rw [show ((i + 1 : Nat) : Int) = (i : Int) + 1 by omega, show (i : Int) + 1 + s = i + s + 1 by omega]]
  rw [this]
  omega
theorem farG_shift {A B : Int → Int} {k : Nat} {n : Int} (hA : Perd k n A) (hB : Perd k n B) (s : Int) (e : Int) : farG (fun t => A (t + e)) B k s = farG A B k (s - e) := by
  have main : ∀ (j : Nat) (A B : Int → Int), Perd k n A → Perd k n B → farG (fun t => A (t + j)) (fun t => B (t + j)) k s = farG A B k s := by
    intro j
    induction j with
    | zero => intro A B _ _; simp
    | succ j ih =>
      intro A B hA hB
      have h1 := ih (fun t => A (t + 1)) (fun t => B (t + 1)) (fun t => by
        have := hA (t + 1); rw [show t + 1 + (k : Int) = t + k + 1 by omega] at this; exact this) (fun t => by
        have := hB (t + 1); rw [show t + 1 + (k : Int) = t + k + 1 by omega] at this; exact this)
      rw [farG_shift1 hA hB] at h1
      rw [← h1]
      congr 1 <;> (funext t; rw [show t + ((j + 1 : Nat) : Int) = t + j + 1 by omega])
  have h3 : farG (fun t => A (t + e)) B k s = farG (fun t => A (t + e)) (fun t => B (t - e + e)) k s := by
    congr 1; funext t; rw [show t - e + e = t by omega]
  rw [h3]
  have h5 : ∀ (e : Int), farG (fun t => A (t + e)) (fun t => B (t - e + e)) k s = farG A (fun t => B (t - e)) k s := by
    intro e
    have h4 : Perd k n (fun t => B (t - e)) := fun t => by
      have := hB (t - e); rw [show t - e + (k : Int) = t + k - e by omega] at this; exact this
    rcases Int.eq_nat_or_neg e with ⟨m, rfl | rfl⟩
    · have := main m A (fun t => B (t - m)) hA h4
      rw [← this]
      congr 1; funext t; congr 1; omega
    · have := main m (fun t => A (t + -m)) (fun t => B t) (fun t => by
        have := hA (t + -m); rw [show t + -(m : Int) + (k : Int) = t + k + -m by omega] at this; exact this) hB
      have e1 : farG (fun t => A (t + (m : Int) + -m)) (fun t => B (t + m)) k s = farG A (fun t => B (t - -m)) k s := by
        congr 1 <;> (funext t; congr 1; omega)
      rw [← e1, this]
      congr 1; funext t; congr 1; omega
  rw [h5 e]
  unfold farG
  refine sigN_congr fun i _ => ?_
  show absI (A i - B (i + s - e)) = _
  rw [show (i : Int) + s - e = i + (s - e) by omega]

/-- The least of f at lo, lo + 1, .., lo + m. -/
def leastF (f : Int → Int) (lo : Int) : Nat → Int
  | 0 => f lo
  | m + 1 => if f (lo + (m + 1 : Nat)) < leastF f lo m then f (lo + (m + 1 : Nat)) else leastF f lo m
theorem leastF_spec (f : Int → Int) (lo : Int) : ∀ m : Nat, (∀ s, lo ≤ s → s ≤ lo + m → leastF f lo m ≤ f s) ∧ ∃ s, lo ≤ s ∧ s ≤ lo + m ∧ leastF f lo m = f s
  | 0 => ⟨fun s h1 h2 => by
      have : s = lo := by simp at h2; omega
      subst this; exact Int.le_refl _, lo, by omega, by simp, rfl⟩
  | m + 1 => by
    obtain ⟨h1, s0, h2, h3, h4⟩ := leastF_spec f lo m
    unfold leastF
    split
    · rename_i hlt
      refine ⟨fun s a b => ?_, lo + (m + 1 : Nat), by omega, by omega, rfl⟩
      by_cases e : s = lo + (m + 1 : Nat)
      · subst e; exact Int.le_refl _
      · have := h1 s a (by omega); omega
    · rename_i hlt
      refine ⟨fun s a b => ?_, s0, h2, by omega, h4⟩
      by_cases e : s = lo + (m + 1 : Nat)
      · subst e; omega
      · exact h1 s a (by omega)

/-- The number of moves from a to b (as many beats). -/
def farS (n : Int) (a b : List Int) (s : Int) : Int := farG (extB n a) (extB n b) a.length s
def farV (n : Int) (a b : List Int) : Int := leastF (farS n a b) (-(a.length : Int)) (2 * a.length)

section
variable {N : Nat} {a b : List Int}
theorem rh_at {i : Nat} (h : RhOk N a) (hi : i < a.length) : 0 ≤ a.getD i 0 ∧ a.getD i 0 < N := h.2.2.1 i hi
theorem ext_range (h : RhOk N a) (i : Nat) (hi : i < a.length) : 0 ≤ extB N a i ∧ extB N a i < N := by
  rw [extB_at N a i hi]; exact h.2.2.1 i hi
theorem ext_step (h : RhOk N a) (hk : 1 ≤ a.length) (t : Int) : extB N a t < extB N a (t + 1) := by
  have hp := extB_perd N a hk
  have h0 := Int.emod_nonneg t (show (a.length : Int) ≠ 0 by omega)
  have h1 := Int.emod_lt_of_pos t (show (0 : Int) < a.length by omega)
  obtain ⟨i, hi⟩ := Int.eq_ofNat_of_zero_le h0
  have e1 := hp.red t
  have e2 := hp.muli (t % a.length + 1) (t / a.length)
  rw [show t % (a.length : Int) + 1 + t / a.length * a.length = t + 1 by
    have := Int.emod_add_mul_ediv t a.length; rw [Int.mul_comm] at this; omega] at e2
  rw [e1, e2, hi]
  have hil : i < a.length := by omega
  have ri := ext_range h i hil
  by_cases hl : i + 1 < a.length
  · have := h.2.2.2 i hl
    have x1 := extB_at N a i hil
    have x2 := extB_at N a (i + 1) hl
    rw [Int.natCast_add] at x2
    have x3 : ((1 : Nat) : Int) = 1 := rfl
    rw [x3] at x2
    omega
  · have x2 := hp 0
    rw [show (0 : Int) + a.length = i + 1 by omega] at x2
    have r0 := ext_range h 0 (by omega)
    rw [show ((0 : Nat) : Int) = 0 from rfl] at r0
    omega
theorem ext_mono (h : RhOk N a) (hk : 1 ≤ a.length) (t : Int) : ∀ j : Nat, extB N a t + j ≤ extB N a (t + j)
  | 0 => by simp
  | j + 1 => by
    have := ext_mono h hk t j
    have := ext_step h hk (t + j)
    rw [show t + ((j + 1 : Nat) : Int) = t + j + 1 by omega]
    omega
theorem absI_nonneg (x : Int) : 0 ≤ absI x := by unfold absI; split <;> omega
theorem farS_nonneg (n : Int) (a b : List Int) (s : Int) : 0 ≤ farS n a b s := sigN_nonneg fun i _ => absI_nonneg _
theorem farS_far (ha : RhOk N a) (hb : RhOk N b) (hl : a.length = b.length) (hk : 1 ≤ a.length) (s : Int) :
    (∀ j : Nat, farS N a b a.length ≤ farS N a b (a.length + j)) ∧ ∀ j : Nat, farS N a b (-(a.length : Int)) ≤ farS N a b (-(a.length : Int) - j) := by
  have hkb : 1 ≤ b.length := by omega
  refine ⟨fun j => sigN_le fun i hi => ?_, fun j => sigN_le fun i hi => ?_⟩
  · have r := ext_range ha i hi
    have q := ext_range hb i (by omega)
    have p := extB_perd N b hkb i
    rw [← hl] at p
    have m := ext_mono hb hkb (i + a.length) j
    rw [show (i : Int) + (a.length + j) = i + a.length + j by omega]
    unfold absI
    split <;> split <;> omega
  · have r := ext_range ha i hi
    have q := ext_range hb i (by omega)
    have p := extB_perd N b hkb (i - a.length)
    rw [← hl, show (i : Int) - a.length + a.length = i by omega] at p
    have m := ext_mono hb hkb (i + (-a.length - j)) j
    rw [show (i : Int) + (-(a.length : Int) - j) + j = i - a.length by omega] at m
    rw [show (i : Int) + -(a.length : Int) = i - a.length by omega]
    unfold absI
    split <;> split <;> omega
theorem farV_le (ha : RhOk N a) (hb : RhOk N b) (hl : a.length = b.length) (s : Int) : farV N a b ≤ farS N a b s := by
  obtain ⟨h1, _⟩ := leastF_spec (farS N a b) (-(a.length : Int)) (2 * a.length)
  by_cases hk : 1 ≤ a.length
  · obtain ⟨f1, f2⟩ := farS_far ha hb hl hk s
    by_cases hs : s ≤ a.length
    · by_cases hs2 : -(a.length : Int) ≤ s
      · exact h1 s hs2 (by omega)
      · obtain ⟨j, hj⟩ := Int.eq_ofNat_of_zero_le (show 0 ≤ -(a.length : Int) - s by omega)
        have := f2 j
        rw [show -(a.length : Int) - j = s by omega] at this
        exact Int.le_trans (h1 _ (by omega) (by omega)) this
    · obtain ⟨j, hj⟩ := Int.eq_ofNat_of_zero_le (show 0 ≤ s - (a.length : Int) by omega)
      have := f1 j
      rw [show (a.length : Int) + j = s by omega] at this
      exact Int.le_trans (h1 _ (by omega) (by omega)) this
  · have h0 : a.length = 0 := by omega
    obtain ⟨_, s0, _, _, e⟩ := leastF_spec (farS N a b) (-(a.length : Int)) (2 * a.length)
    unfold farV
    rw [e]
    unfold farS farG
    rw [h0]
    exact Int.le_refl _
theorem farV_ex (n : Int) (a b : List Int) : ∃ s, farV n a b = farS n a b s := by
  obtain ⟨_, s, _, _, e⟩ := leastF_spec (farS n a b) (-(a.length : Int)) (2 * a.length)
  exact ⟨s, e⟩
theorem farV_nonneg (n : Int) (a b : List Int) : 0 ≤ farV n a b := by
  obtain ⟨s, e⟩ := farV_ex n a b
  rw [e]; exact farS_nonneg _ _ _ _
end

end Go.Proofs.YtlejlcnemibgiaaGreat

namespace Go.Proofs.YtlejlcnemibgiaaGreat
open Go.RowKit
set_option linter.unusedVariables false
set_option linter.unusedSimpArgs false

def genL (k : Nat) (f : Nat → Int) : List Int := (List.range k).map f
theorem genL_len (k : Nat) (f : Nat → Int) : (genL k f).length = k := by simp [genL]
theorem genL_at {k : Nat} {f : Nat → Int} {j : Nat} (h : j < k) : (genL k f).getD j 0 = f j := by
  unfold genL
  rw [List.getD_eq_getElem?_getD, List.getElem?_map, List.getElem?_range h]
  rfl
theorem genL_mem {k : Nat} {f : Nat → Int} {x : Int} : x ∈ genL k f ↔ ∃ j, j < k ∧ f j = x := by
  unfold genL
  rw [List.mem_map]
  constructor
  · rintro ⟨j, hj, e⟩; exact ⟨j, List.mem_range.1 hj, e⟩
  · rintro ⟨j, hj, e⟩; exact ⟨j, List.mem_range.2 hj, e⟩
theorem set_mem {a : List Int} {i : Nat} {q x : Int} (hi : i < a.length) : x ∈ a.set i q ↔ ∃ j, j < a.length ∧ (if j = i then q else a.getD j 0) = x := by
  rw [List.mem_iff_getElem?]
  constructor
  · rintro ⟨j, hj⟩
    rw [List.getElem?_set] at hj
    by_cases e : i = j
    · subst e
      rw [if_pos rfl, if_pos hi] at hj
      exact ⟨i, hi, by rw [if_pos rfl]; exact Option.some.inj hj⟩
    · rw [if_neg e] at hj
      have hl : j < a.length := by
        rcases Nat.lt_or_ge j a.length with h | h
        · exact h
        · rw [List.getElem?_eq_none h] at hj; cases hj
      exact ⟨j, hl, by rw [if_neg (fun h => e h.symm), List.getD_eq_getElem?_getD, hj]; rfl⟩
  · rintro ⟨j, hj, e⟩
    refine ⟨j, ?_⟩
    rw [List.getElem?_set]
    by_cases h : i = j
    · subst h
      rw [if_pos rfl, if_pos hi]
      rw [if_pos rfl] at e
      rw [e]
    · rw [if_neg h]
      rw [if_neg (fun x => h x.symm), List.getD_eq_getElem?_getD, List.getElem?_eq_getElem hj] at e
      rw [List.getElem?_eq_getElem hj]
      exact congrArg some e
theorem ofL_gen {N k : Nat} {f : Nat → Int} {xs : List Int} (hr : ∀ j, j < k → 0 ≤ f j ∧ f j < N) (hs : ∀ j, j + 1 < k → f j < f (j + 1)) (h1 : 1 ≤ N) (h2 : N ≤ 24) (hm : ∀ x, x ∈ xs ↔ ∃ j, j < k ∧ f j = x) : ofL xs N = genL k f := by
  have hok : RhOk N (genL k f) := ⟨by omega, by omega, fun i hi => by
    rw [genL_len] at hi; rw [genL_at hi]; exact hr i hi, fun i hi => by
    rw [genL_len] at hi; rw [genL_at hi, genL_at (by omega)]; exact hs i hi⟩
  refine asc_unique (ofL_sorted _ _) (rhok_asc hok) fun x => ?_
  rw [ofL_mem, genL_mem]
  constructor
  · rintro ⟨t, ht, hb, rfl⟩
    unfold hasB at hb
    rw [decide_eq_true_eq] at hb
    exact (hm _).1 hb
  · rintro ⟨j, hj, rfl⟩
    obtain ⟨r0, r1⟩ := hr j hj
    obtain ⟨t, ht⟩ := Int.eq_ofNat_of_zero_le r0
    refine ⟨t, by omega, ?_, ht⟩
    unfold hasB
    rw [decide_eq_true_eq, ← ht]
    exact (hm _).2 ⟨j, hj, rfl⟩

section
variable {N : Nat} {a b : List Int}
/-- The beats with one moved on, read on and on. -/
def mvA (N : Nat) (a : List Int) (i : Nat) (d t : Int) : Int := extB N a t + (if t % (a.length : Int) = i then d else 0)
theorem mvA_perd (i : Nat) (d : Int) (hk : 1 ≤ a.length) : Perd a.length N (mvA N a i d) := by
  intro t
  unfold mvA
  rw [Int.add_emod_right, extB_perd N a hk t]
  omega
theorem ext_gen {k : Nat} {f : Nat → Int} {i : Nat} {d e : Int} (ha : a.length = k) (hk : 1 ≤ k) (h : ∀ j, j < k → f j = mvA N a i d (j + e)) : ∀ t, extB N (genL k f) t = mvA N a i d (t + e) := by
  have hp := extB_perd N (genL k f) (by rw [genL_len]; exact hk)
  rw [genL_len] at hp
  have hq := mvA_perd (N := N) (a := a) i d (by omega)
  rw [ha] at hq
  refine Perd.ext hk hp (B := fun t => mvA N a i d (t + e)) (fun t => ?_) fun j hj => ?_
  · have := hq (t + e)
    rw [show t + e + (k : Int) = t + k + e by omega] at this
    exact this
  · rw [extB_at N _ j (by rw [genL_len]; exact hj), genL_at hj]
    exact h j hj
theorem mvA_at (i : Nat) (d : Int) (j : Nat) (hj : j < a.length) : mvA N a i d j = a.getD j 0 + (if j = i then d else 0) := by
  unfold mvA
  rw [extB_at N a j hj, Int.emod_eq_of_lt (by omega) (by omega)]
  congr 1
  by_cases h : j = i
  · rw [if_pos h, if_pos (by omega)]
  · rw [if_neg h, if_neg (by omega)]
theorem rh_lt (h : RhOk N a) : ∀ {i j : Nat}, i < j → j < a.length → a.getD i 0 < a.getD j 0
  | i, 0, hij, _ => by omega
  | i, j + 1, hij, hj => by
    have := h.2.2.2 j hj
    by_cases e : i = j
    · subst e; exact this
    · have := rh_lt h (i := i) (j := j) (by omega) (by omega); omega
theorem not_at {q : Int} (hq : q ∉ a) {j : Nat} (hj : j < a.length) : a.getD j 0 ≠ q := fun e => hq (by
  rw [← e, List.getD_eq_getElem?_getD, List.getElem?_eq_getElem hj]; exact List.getElem_mem hj)

theorem mv_ext (h : RhOk N a) {i : Nat} (hi : i < a.length) {d : Int} (hd : d = 1 ∨ d = -1) (hq : (a.getD i 0 + d) % N ∉ a) :
    (ofL (a.set i ((a.getD i 0 + d) % N)) N).length = a.length ∧ ∃ e, ∀ t, extB N (ofL (a.set i ((a.getD i 0 + d) % N)) N) t = mvA N a i d (t + e) := by
  have h1 : 1 ≤ N := by have := h.1; omega
  have h2 : N ≤ 24 := by have := h.2.1; omega
  have ri := h.2.2.1 i hi
  have hasc := h.2.2.2
  by_cases hw : 0 ≤ a.getD i 0 + d ∧ a.getD i 0 + d < N
  · rw [Int.emod_eq_of_lt hw.1 hw.2] at hq ⊢
    have e := ofL_gen (N := N) (k := a.length) (f := fun j => if j = i then a.getD i 0 + d else a.getD j 0) (xs := a.set i (a.getD i 0 + d)) (fun j hj => by
      show 0 ≤ (if j = i then _ else _) ∧ (if j = i then _ else _) < _
      split
      · exact hw
      · exact h.2.2.1 j hj) (fun j hj => by
      show (if j = i then _ else _) < (if j + 1 = i then _ else _)
      have := hasc j hj
      have n1 := not_at hq (j := j) (by omega)
      have n2 := not_at hq (j := j + 1) hj
      by_cases e1 : j = i
      · subst e1
        rw [if_pos rfl, if_neg (by omega)]
        rcases hd with rfl | rfl <;> omega
      · rw [if_neg e1]
        by_cases e2 : j + 1 = i
        · subst e2
          rw [if_pos rfl]
          rcases hd with rfl | rfl <;> omega
        · rw [if_neg e2]; exact this) h1 h2 (fun x => set_mem hi)
    rw [e]
    refine ⟨genL_len _ _, 0, ext_gen rfl (by omega) fun j hj => ?_⟩
    rw [show (j : Int) + 0 = j by omega, mvA_at i d j hj]
    split <;> rename_i e1
    · subst e1; rfl
    · omega
  · rcases hd with rfl | rfl
    · have hN : a.getD i 0 = N - 1 := by omega
      have hik : i + 1 = a.length := by
        rcases Nat.lt_or_ge (i + 1) a.length with h' | h'
        · have := hasc i h'; have := h.2.2.1 (i + 1) h'; omega
        · omega
      have hz : (a.getD i 0 + 1) % (N : Int) = 0 := by rw [hN, show (N : Int) - 1 + 1 = N by omega, Int.emod_self]
      rw [hz] at hq ⊢
      have e := ofL_gen (N := N) (k := a.length) (f := fun j => if j = 0 then 0 else a.getD (j - 1) 0) (xs := a.set i 0) (fun j hj => by
        show 0 ≤ (if j = 0 then _ else _) ∧ (if j = 0 then _ else _) < _
        split
        · omega
        · exact h.2.2.1 (j - 1) (by omega)) (fun j hj => by
        show (if j = 0 then _ else _) < (if j + 1 = 0 then _ else _)
        rw [if_neg (by omega : ¬ j + 1 = 0), show j + 1 - 1 = j by omega]
        have n1 := not_at hq (j := j) (by omega)
        have := (h.2.2.1 j (by omega)).1
        split
        · omega
        · have := hasc (j - 1) (by omega); rwa [show j - 1 + 1 = j by omega] at this) h1 h2 (fun x => by
        rw [set_mem hi]
        constructor
        · rintro ⟨j, hj, e⟩
          by_cases e1 : j = i
          · rw [if_pos e1] at e; exact ⟨0, by omega, by simpa using e⟩
          · rw [if_neg e1] at e
            refine ⟨j + 1, by omega, ?_⟩
            show (if j + 1 = 0 then _ else _) = _
            rw [if_neg (by omega), show j + 1 - 1 = j by omega]; exact e
        · rintro ⟨j, hj, e⟩
          by_cases e1 : j = 0
          · subst e1
            refine ⟨i, hi, ?_⟩
            rw [if_pos rfl]; simpa using e
          · refine ⟨j - 1, by omega, ?_⟩
            rw [if_neg (by omega)]
            have e' : (if j = 0 then (0 : Int) else a.getD (j - 1) 0) = x := e
            rwa [if_neg e1] at e')
      rw [e]
      refine ⟨genL_len _ _, -1, ext_gen rfl (by omega) fun j hj => ?_⟩
      by_cases e1 : j = 0
      · subst e1
        rw [if_pos rfl]
        have hp := mvA_perd (N := N) (a := a) i 1 (by omega) (((0 : Nat) : Int) + -1)
        rw [show ((0 : Nat) : Int) + -1 + (a.length : Int) = (i : Nat) by omega, mvA_at i 1 i hi, if_pos rfl, hN] at hp
        omega
      · rw [if_neg e1, show (j : Int) + -1 = ((j - 1 : Nat) : Int) by omega, mvA_at i 1 (j - 1) (by omega), if_neg (by omega)]
        omega
    · have hN : a.getD i 0 = 0 := by omega
      have hik : i = 0 := by
        rcases Nat.eq_zero_or_pos i with h' | h'
        · exact h'
        · have := rh_lt h h' hi; have := h.2.2.1 0 (by omega); omega
      subst hik
      have hz : (a.getD 0 0 + -1) % (N : Int) = N - 1 := by
        rw [hN, show (0 : Int) + -1 = -1 by omega]
        rw [← Int.add_emod_right, Int.emod_eq_of_lt (by omega) (by omega)]; omega
      rw [hz] at hq ⊢
      have e := ofL_gen (N := N) (k := a.length) (f := fun j => if j + 1 = a.length then (N : Int) - 1 else a.getD (j + 1) 0) (xs := a.set 0 ((N : Int) - 1)) (fun j hj => by
        show (0 : Int) ≤ (if j + 1 = a.length then (N : Int) - 1 else a.getD (j + 1) 0) ∧ (if j + 1 = a.length then (N : Int) - 1 else a.getD (j + 1) 0) < _
        split
        · omega
        · exact h.2.2.1 (j + 1) (by omega)) (fun j hj => by
        show (if j + 1 = a.length then (N : Int) - 1 else a.getD (j + 1) 0) < (if j + 1 + 1 = a.length then (N : Int) - 1 else a.getD (j + 1 + 1) 0)
        rw [if_neg (by omega : ¬ j + 1 = a.length)]
        have n1 := not_at hq (j := j + 1) hj
        have := (h.2.2.1 (j + 1) hj).2
        split
        · omega
        · exact hasc (j + 1) (by omega)) h1 h2 (fun x => by
        rw [set_mem hi]
        constructor
        · rintro ⟨j, hj, e⟩
          by_cases e1 : j = 0
          · rw [if_pos e1] at e
            refine ⟨a.length - 1, by omega, ?_⟩
            show (if _ then _ else _) = _
            rw [if_pos (by omega)]; exact e
          · rw [if_neg e1] at e
            refine ⟨j - 1, by omega, ?_⟩
            show (if _ then _ else _) = _
            rw [if_neg (by omega), show j - 1 + 1 = j by omega]; exact e
        · rintro ⟨j, hj, e⟩
          have e' : (if j + 1 = a.length then (N : Int) - 1 else a.getD (j + 1) 0) = x := e
          by_cases e1 : j + 1 = a.length
          · rw [if_pos e1] at e'
            exact ⟨0, hi, by rw [if_pos rfl]; exact e'⟩
          · rw [if_neg e1] at e'
            exact ⟨j + 1, by omega, by rw [if_neg (by omega)]; exact e'⟩)
      rw [e]
      refine ⟨genL_len _ _, 1, ext_gen rfl (by omega) fun j hj => ?_⟩
      by_cases e1 : j + 1 = a.length
      · rw [if_pos e1]
        have hp := mvA_perd (N := N) (a := a) 0 (-1) (by omega) ((0 : Nat) : Int)
        rw [mvA_at 0 (-1) 0 hi, if_pos rfl, hN] at hp
        rw [show (j : Int) + 1 = ((0 : Nat) : Int) + (a.length : Int) by omega, hp]
        omega
      · rw [if_neg e1, show (j : Int) + 1 = ((j + 1 : Nat) : Int) by omega, mvA_at 0 (-1) (j + 1) (by omega), if_neg (by omega)]
        omega

/-- What a move changes in a sum. -/
theorem farG_mv (i : Nat) (d : Int) (hi : i < a.length) (s : Int) :
    farG (mvA N a i d) (extB N b) a.length s - farS N a b s = absI (extB N a i + d - extB N b (i + s)) - absI (extB N a i - extB N b (i + s)) := by
  unfold farS farG
  rw [sigN_one hi (fun j hj hne => by
    show absI (mvA N a i d j - _) = _
    rw [mvA_at i d j hj, if_neg hne, extB_at N a j hj, Int.add_zero])]
  rw [mvA_at i d i hi, if_pos rfl, extB_at N a i hi]
theorem farS_mv (h : RhOk N a) (hl : a.length = b.length) {i : Nat} (hi : i < a.length) {d : Int} (hd : d = 1 ∨ d = -1) (hq : (a.getD i 0 + d) % N ∉ a) :
    ∃ e, ∀ s, farS N (ofL (a.set i ((a.getD i 0 + d) % N)) N) b s = farG (mvA N a i d) (extB N b) a.length (s - e) := by
  obtain ⟨hlen, e, he⟩ := mv_ext h hi hd hq
  refine ⟨e, fun s => ?_⟩
  have hp := mvA_perd (N := N) (a := a) i d (by omega)
  have hb := extB_perd N b (by omega)
  rw [← hl] at hb
  rw [← farG_shift hp hb s e]
  unfold farS
  rw [hlen]
  congr 1
  funext t
  exact he t
theorem mv_lip (ha : RhOk N a) (hb : RhOk N b) (hl : a.length = b.length) {i : Nat} (hi : i < a.length) {d : Int} (hd : d = 1 ∨ d = -1) (hq : (a.getD i 0 + d) % N ∉ a) :
    farV N a b - 1 ≤ farV N (ofL (a.set i ((a.getD i 0 + d) % N)) N) b := by
  obtain ⟨e, he⟩ := farS_mv ha hl hi hd hq
  obtain ⟨s, hs⟩ := farV_ex N (ofL (a.set i ((a.getD i 0 + d) % N)) N) b
  rw [hs, he s]
  have h1 := farV_le ha hb hl (s - e)
  have h2 := farG_mv (N := N) (a := a) (b := b) i d hi (s - e)
  unfold absI at h2
  rcases hd with rfl | rfl
  · split at h2 <;> split at h2 <;> omega
  · split at h2 <;> split at h2 <;> omega
theorem mv_down (ha : RhOk N a) (hb : RhOk N b) (hl : a.length = b.length) {s : Int} (hs : farV N a b = farS N a b s) {i : Nat} (hi : i < a.length) {d : Int} (hq : (a.getD i 0 + d) % N ∉ a)
    (hd : d = 1 ∧ extB N a i < extB N b (i + s) ∨ d = -1 ∧ extB N b (i + s) < extB N a i) :
    farV N (ofL (a.set i ((a.getD i 0 + d) % N)) N) b ≤ farV N a b - 1 := by
  have hd' : d = 1 ∨ d = -1 := by rcases hd with h | h; exact .inl h.1; exact .inr h.1
  obtain ⟨e, he⟩ := farS_mv ha hl hi hd' hq
  have hlen := (mv_ext ha hi hd' hq).1
  have h1 : 1 ≤ N := by have := ha.1; omega
  have h2 : N ≤ 24 := by have := ha.2.1; omega
  have h3 := farV_le (ofL_ok (a.set i ((a.getD i 0 + d) % N)) h1 h2) hb (hlen.trans hl) (s + e)
  rw [he, show s + e - e = s by omega] at h3
  have h4 := farG_mv (N := N) (a := a) (b := b) i d hi s
  unfold absI at h4
  rcases hd with ⟨rfl, hd⟩ | ⟨rfl, hd⟩
  · split at h4 <;> split at h4 <;> omega
  · split at h4 <;> split at h4 <;> omega
end

end Go.Proofs.YtlejlcnemibgiaaGreat

namespace Go.Proofs.YtlejlcnemibgiaaGreat
open Go.RowKit
set_option linter.unusedVariables false
set_option linter.unusedSimpArgs false

def evL (k n m q : Nat) : List Int := (List.range q).map fun i => (((i * n + m) / k : Nat) : Int)
theorem evL_succ (k n m q : Nat) : evL k n m (q + 1) = evL k n m q ++ [(((q * n + m) / k : Nat) : Int)] := by simp [evL, List.range_succ]
theorem evL_len (k n m q : Nat) : (evL k n m q).length = q := by simp [evL]
theorem evL_gen (k n m q : Nat) : evL k n m q = genL q fun i => (((i * n + m) / k : Nat) : Int) := rfl
def evB (n k : Nat) : List Int := evL k n 0 k
theorem evB_len (n k : Nat) : (evB n k).length = k := evL_len _ _ _ _
theorem evB_ok {n k : Nat} (h1 : 1 ≤ n) (h2 : n ≤ 24) (hk : k ≤ n) : RhOk n (evB n k) := by
  unfold evB
  rw [evL_gen]
  refine ⟨by omega, by omega, fun i hi => ?_, fun i hi => ?_⟩
  · rw [genL_len] at hi
    rw [genL_at hi]
    have : (i * n + 0) / k < n := Nat.div_lt_of_lt_mul (by
      have := Nat.mul_lt_mul_of_pos_right (show i < k from hi) (show 0 < n by omega)
      omega)
    exact ⟨Int.natCast_nonneg _, Int.ofNat_lt.2 this⟩
  · rw [genL_len] at hi
    rw [genL_at hi, genL_at (by omega)]
    have h3 : (i * n + 0 + k) / k = (i * n + 0) / k + 1 := Nat.add_div_right _ (by omega)
    have h4 : (i * n + 0 + k) / k ≤ ((i + 1) * n + 0) / k := Nat.div_le_div_right (by rw [Nat.add_mul]; omega)
    have : (i * n + 0) / k < ((i + 1) * n + 0) / k := by omega
    exact Int.ofNat_lt.2 this
theorem ofL_rh {N : Nat} {a : List Int} (h : RhOk N a) : ofL a N = a := by
  refine asc_unique (ofL_sorted _ _) (rhok_asc h) fun x => ?_
  rw [ofL_mem]
  constructor
  · rintro ⟨t, ht, hb, rfl⟩
    unfold hasB at hb
    rwa [decide_eq_true_eq] at hb
  · intro hx
    have := rhok_range h x hx
    obtain ⟨t, ht⟩ := Int.eq_ofNat_of_zero_le this.1
    exact ⟨t, by omega, by unfold hasB; rw [decide_eq_true_eq, ← ht]; exact hx, ht⟩

/-- The first of the least of f at 0, .., m - 1. -/
def bestK (f : Nat → Int) : Nat → Nat
  | 0 => 0
  | m + 1 => if f m < f (bestK f m) then m else bestK f m
theorem bestK_one (f : Nat → Int) : bestK f 1 = 0 := by unfold bestK; show (if f 0 < f 0 then 0 else 0) = 0; split <;> rfl
theorem bestK_lt (f : Nat → Int) : ∀ m, 1 ≤ m → bestK f m < m
  | 0, h => by omega
  | 1, _ => by rw [bestK_one]; omega
  | m + 2, _ => by
    have := bestK_lt f (m + 1) (by omega)
    unfold bestK
    split <;> omega
theorem bestK_le (f : Nat → Int) : ∀ m i, i < m → f (bestK f m) ≤ f i
  | 0, i, h => by omega
  | m + 1, i, h => by
    have ih := bestK_le f m
    unfold bestK
    by_cases e : i = m
    · subst e; split <;> omega
    · have := ih i (by omega)
      split <;> omega

theorem asc_nodup {l : List Int} (h : l.Pairwise (fun a b => a < b)) : l.Nodup := List.Pairwise.imp (fun {a b} hab e => by omega) h
theorem ofL_length {N : Nat} {xs : List Int} (hn : xs.Nodup) (hr : ∀ x ∈ xs, 0 ≤ x ∧ x < N) : (ofL xs N).length = xs.length := by
  refine List.Perm.length_eq ((List.perm_ext_iff_of_nodup (asc_nodup (ofL_sorted xs N)) hn).2 fun x => ?_)
  rw [ofL_mem]
  constructor
  · rintro ⟨t, _, hb, rfl⟩
    unfold hasB at hb
    rwa [decide_eq_true_eq] at hb
  · intro hx
    have := hr x hx
    obtain ⟨t, ht⟩ := Int.eq_ofNat_of_zero_le this.1
    exact ⟨t, by omega, by unfold hasB; rw [decide_eq_true_eq, ← ht]; exact hx, ht⟩
theorem rotL_ok {N : Nat} {bs : List Int} (h : RhOk N bs) (k : Int) : RhOk N (rotL N bs k) ∧ (rotL N bs k).length = bs.length := by
  have h1 : 1 ≤ N := by have := h.1; omega
  have h2 : N ≤ 24 := by have := h.2.1; omega
  rw [← rotL_of h k]
  refine ⟨ofL_ok _ h1 h2, ?_⟩
  have hl : (mapL 1 k N bs bs.length).length = bs.length := by unfold mapL; rw [List.length_map, List.take_length]
  refine (ofL_length ?_ fun x hx => ?_).trans hl
  · unfold mapL
    rw [List.take_length]
    refine List.pairwise_map.2 (List.Pairwise.imp_of_mem (fun {a b} ha hb hab e => ?_) (rhok_asc h))
    have ra := rhok_range h a ha
    have rb := rhok_range h b hb
    have e2 : (1 * a + k - (1 * b + k)) % (N : Int) = 0 := Int.emod_emod_of_dvd _ (Int.dvd_refl _) ▸ (Int.emod_eq_emod_iff_emod_sub_eq_zero.1 e)
    rw [show 1 * a + k - (1 * b + k) = a - b by omega] at e2
    have e3 := Int.emod_add_mul_ediv (a - b) N
    rw [e2] at e3
    have hq : (a - b) / (N : Int) = 0 ∨ (a - b) / (N : Int) ≤ -1 ∨ 1 ≤ (a - b) / (N : Int) := by omega
    rcases hq with hq | hq | hq
    · rw [hq] at e3; omega
    · have := Int.mul_le_mul_of_nonneg_left hq (show (0 : Int) ≤ N by omega); omega
    · have := Int.mul_le_mul_of_nonneg_left hq (show (0 : Int) ≤ N by omega); omega
  · unfold mapL at hx
    rw [List.mem_map] at hx
    obtain ⟨y, _, rfl⟩ := hx
    exact ⟨Int.emod_nonneg _ (by omega), Int.emod_lt_of_pos _ (by omega)⟩

/-- The nearest even rhythm by moves; the number of moves. -/
def fewK (N : Nat) (a : List Int) : Nat := bestK (fun k => farV N a (rotL N (evB N a.length) (k : Int))) N
def fewX (N : Nat) (a : List Int) : List Int := rotL N (evB N a.length) (fewK N a : Int)

end Go.Proofs.YtlejlcnemibgiaaGreat

namespace Go.Proofs.YtlejlcnemibgiaaGreat
open Go.RowKit
set_option linter.unusedVariables false
set_option linter.unusedSimpArgs false

set_option maxRecDepth 100000 in
set_option maxHeartbeats 1000000 in
theorem spec_l06Even_any (k n m : Nat) (w : World) (hk1 : 1 ≤ k) (hk : k ≤ 24) (hn1 : 1 ≤ n) (hn : n ≤ 24) (hm : m ≤ 1000) :
    Calls Tryz.prog 23 #[.int .i64 k, .int .i64 n, .int .i64 m] w (RetRh1 w n (ofL (evL k n m k) n)) := by
  have hro := fun (A2 : Option Addr) (c2 : Nat) (V : World) (hV : Ints V V.heap.size A2 (evL k n m k)) => spec_l02Of_any n A2 c2 (evL k n m k) V hV hn1 hn
  have hrl := ofL_len (evL k n m k) n
  generalize ofL (evL k n m k) n = R at hro hrl ⊢
  have HRO := Lib.hid hro
  clear hro
  have HW := Lib.hid (((Below.refl w.heap.size w).alloc (Nat.le_refl _) (.cells #[.int .i64 0, .slice none 0 0] 25)).alloc (by first | exact Nat.le_refl _ | (simp; done) | (simp; omega) | omega) (.cells #[] 3))
  have HN := Lib.hid ((Cells2.new w (.int .i64 0) (.slice none 0 0) 25).alloc (.cells #[] 3))
  have hk0 : ((k : Int) = 0) = False := by simp; omega
  have hk00 : (k = 0) = False := by simp; omega
  go_enter Tryz.func23, Tryz.ntmps23
  go_wp2_with fail
  go_loopw [7, 8] (fun so i wr => ∃ q : Nat, q ≤ k ∧ i = .int .i64 q ∧ OwnI wr (w.heap.size + 1) so (evL k n m q) ∧ Below (w.heap.size + 1) ((w.alloc (.cells #[.int .i64 0, .slice none 0 0] 25)).alloc (.cells #[] 3)) wr) (fun _ i _ => k - (intOf i).toNat)
  case atStart => exact ⟨0, Nat.zero_le _, rfl, OwnI.empty_at _ _ _ (by simp) (by omega), Below.refl _ _⟩
  case round =>
    obtain ⟨q, hq, rfl, hown, hbel⟩ := hrel
    obtain ⟨wo, rfl⟩ : ∃ wo : World, wo = wr := ⟨_, rfl⟩
    have hws : w.heap.size + 2 ≤ wo.heap.size := by have := hbel.size; simpa using this
    have HBE := Lib.hid hbel
    have HO := Lib.hid hown
    obtain ⟨A1, c1, rfl⟩ := hown.form
    have hmk := evL_len k n m q
    have hmk' : (evL k n m q).length ≤ 24 := by omega
    clear hbel hown hmk
    by_cases hlt : q < k
    · have hqn : q * n ≤ 576 := Nat.le_trans (Nat.mul_le_mul (show q ≤ 24 by omega) hn) (by decide)
      have HSU := Lib.hid (evL_succ k n m q)
      have hp0 : (q : Int) * (n : Int) = ((q * n : Nat) : Int) := by push_cast; rfl
      obtain ⟨P, hP⟩ : ∃ P, q * n = P := ⟨_, rfl⟩
      rw [hP] at hp0 hqn HSU
      obtain ⟨D, hD⟩ : ∃ D, (P + m) / k = D := ⟨_, rfl⟩
      rw [hD] at HSU
      have hDl : D ≤ 2000 := by rw [← hD]; exact Nat.le_trans (Nat.div_le_self _ _) (by omega)
      have hw1 : IntKind.i64.wrap (P : Int) = P := i64w (by omega)
      have hw2 : IntKind.i64.wrap ((P : Int) + m) = (P : Int) + m := i64w (by omega)
      have hdv : Int.tdiv ((P : Int) + m) k = (D : Int) := by rw [Int.tdiv_eq_ediv_of_nonneg (by omega), ← hD, Int.natCast_ediv, Int.natCast_add]
      have hdv2 : ((P : Int) + m) / k = (D : Int) := by rw [← hD, Int.natCast_ediv, Int.natCast_add]
      have hw3 : IntKind.i64.wrap (D : Int) = D := i64w (by omega)
      generalize evL k n m q = L at HO HSU hmk' ⊢
      clear hP hD
      go_wp2_with (at_builtin; refine wpList_append_int rfl (.tmp 15) (.tmp 23) rfl (w.heap.size + 1) _ L rfl (HO.out.alloc _) _ _ rfl (cell_new1 _ _ _) (by omega) (by simp; omega) ?_; intro v2 w2 hown2 hb2)
      have HO2 := Lib.hid hown2
      have HB2 := Lib.hid ((HBE.out.alloc (by omega) _).trans hb2)
      clear hown2 hb2
      go_wp2_with fail
      go_roundw
      case rel => exact ⟨q + 1, by omega, by go_num, by rw [HSU.out]; exact HO2.out, HB2.out⟩
      case measure => simp [intOf]; omega
    · have hqe : q = k := by omega
      subst hqe
      have HI := Lib.hid (HO.out.ints (fun x hx => by
        unfold evL at hx
        rw [List.mem_map] at hx
        obtain ⟨i, hi, rfl⟩ := hx
        rw [List.mem_range] at hi
        have h1 : i * n ≤ 576 := Nat.le_trans (Nat.mul_le_mul (show i ≤ 24 by omega) hn) (by decide)
        have h2 := Nat.div_le_self (i * n + m) q
        generalize (i * n + m) / q = z at h2 ⊢
        unfold Fits
        omega))
      generalize evL q n m q = L at HO HRO HI hmk' ⊢
      go_wp2_with fail
      refine (HRO.out A1 c1 _ HI.out).mono ?_
      rintro e w2 ⟨A2, c2, rfl, hrw, hb2⟩
      have hz2 := hb2.size
      obtain ⟨f0, f1, f2, f3, f4⟩ := (HN.out.below HBE.out (by simp)).below hb2 (by omega)
      go_wp2_with fail
      refine bodyPost_ret (v := .agg #[.int .i64 n, .slice A2 R.length c2]) (by simp [results, Tryz.results23, go_sem, f0, f1]) rfl ?_
      refine ⟨A2, c2, rfl, ?_, ?_⟩
      · exact ((hrw.far (p := ⟨w.heap.size, 0, none⟩) (by simp; omega) _).far (p := ⟨w.heap.size, 1, none⟩) (by simp; omega) _).mono (by omega)
      · exact (((HW.out.trans (HBE.out.mono (by omega))).trans (hb2.mono (by omega))).setCell (Nat.le_refl _) _).setCell (Nat.le_refl _) _

set_option maxRecDepth 100000 in
set_option maxHeartbeats 1000000 in
theorem spec_l06Even_none (n : Nat) (w : World) (hn1 : 1 ≤ n) (hn : n ≤ 24) :
    Calls Tryz.prog 23 #[.int .i64 0, .int .i64 n, .int .i64 0] w (RetRh1 w n []) := by
  have HRO := Lib.hid (fun (A2 : Option Addr) (c2 : Nat) (V : World) (hV : Ints V V.heap.size A2 []) => show Calls Tryz.prog 42 #[.int .i64 n, .slice A2 0 c2] V (RetRh1 V n []) from by
    have := spec_l02Of_any n A2 c2 [] V hV hn1 hn
    rwa [show ofL [] n = [] from by
      refine List.eq_nil_iff_forall_not_mem.2 fun x hx => ?_
      obtain ⟨t, _, h, _⟩ := ofL_mem.1 hx
      simp [hasB] at h] at this)
  have HN := Lib.hid ((Cells2.new w (.int .i64 0) (.slice none 0 0) 25).alloc (.cells #[] 3))
  have HW := Lib.hid (((Below.refl w.heap.size w).alloc (Nat.le_refl _) (.cells #[.int .i64 0, .slice none 0 0] 25)).alloc (by first | exact Nat.le_refl _ | (simp; done) | (simp; omega) | omega) (.cells #[] 3))
  have HI := Lib.hid (show Ints ((w.alloc (.cells #[.int .i64 0, .slice none 0 0] 25)).alloc (.cells #[] 3)) ((w.alloc (.cells #[.int .i64 0, .slice none 0 0] 25)).alloc (.cells #[] 3)).heap.size (some ⟨w.heap.size + 1, 0, none⟩) [] from ⟨Nat.zero_le _, (fun x hx => by cases hx), fun h => absurd h (Nat.lt_irrefl 0)⟩)
  go_enter Tryz.func23, Tryz.ntmps23
  go_wp2_with fail
  go_loopw [7, 8] (fun so i wr => i = .int .i64 0 ∧ so = .slice (some ⟨w.heap.size + 1, 0, none⟩) 0 0 ∧ wr = (w.alloc (.cells #[.int .i64 0, .slice none 0 0] 25)).alloc (.cells #[] 3)) (fun _ _ _ => 0)
  case atStart => exact ⟨rfl, rfl, rfl⟩
  case round =>
    obtain ⟨rfl, rfl, rfl⟩ := hrel
    go_wp2_with fail
    refine (HRO.out _ _ _ HI.out).mono ?_
    rintro e w2 ⟨A2, c2, rfl, hrw, hb2⟩
    have hz2 := hb2.size
    simp only [World.size_alloc] at hz2
    obtain ⟨f0, f1, f2, f3, f4⟩ := HN.out.below hb2 (by simp; omega)
    go_wp2_with fail
    refine bodyPost_ret (v := .agg #[.int .i64 n, .slice A2 0 c2]) (by simp [results, Tryz.results23, go_sem, f0, f1]) rfl ?_
    refine ⟨A2, c2, rfl, ?_, ?_⟩
    · exact ⟨Nat.zero_le _, fun h => absurd h (Nat.lt_irrefl 0)⟩
    · exact ((HW.out.trans (hb2.mono (by simp; omega))).setCell (Nat.le_refl _) _).setCell (Nat.le_refl _) _

theorem spec_even_any (n k : Nat) (w : World) (h1 : 1 ≤ n) (h2 : n ≤ 24) (hk : k ≤ n) :
    Calls Tryz.prog 23 #[.int .i64 k, .int .i64 n, .int .i64 0] w (RetRh1 w n (evB n k)) := by
  rcases Nat.eq_zero_or_pos k with rfl | hp
  · exact spec_l06Even_none n w h1 h2
  · have := spec_l06Even_any k n 0 w hp (by omega) h1 h2 (by omega)
    rwa [show ofL (evL k n 0 k) n = evB n k from ofL_rh (evB_ok h1 h2 hk)] at this

end Go.Proofs.YtlejlcnemibgiaaGreat

namespace Go.Proofs.YtlejlcnemibgiaaGreat
open Go.RowKit
set_option linter.unusedVariables false
set_option linter.unusedSimpArgs false

def addL (k : Int) (xs : List Int) (j : Nat) : List Int := (xs.take j).map (· + k)
theorem addL_succ {k : Int} {xs : List Int} {j : Nat} {x : Int} (hj : j < xs.length) (hx : xs.getD j 0 = x) : addL k xs (j + 1) = addL k xs j ++ [x + k] := by
  unfold addL
  rw [List.take_succ_eq_append_getElem hj, List.map_append, List.map_singleton]
  have : xs[j] = x := by rw [← hx, List.getD_eq_getElem?_getD, List.getElem?_eq_getElem hj]; rfl
  rw [this]
theorem addL_len (k : Int) (xs : List Int) (j : Nat) : (addL k xs j).length ≤ xs.length := by
  unfold addL
  rw [List.length_map, List.length_take]
  omega
theorem addL_mem {k x : Int} {xs : List Int} : x ∈ addL k xs xs.length ↔ ∃ y ∈ xs, y + k = x := by
  unfold addL
  rw [List.take_length, List.mem_map]
theorem getD_mem {xs : List Int} {x : Int} (h : x ∈ xs) : ∃ i, i < xs.length ∧ xs.getD i 0 = x := by
  obtain ⟨i, hi, rfl⟩ := List.getElem_of_mem h
  exact ⟨i, hi, by rw [List.getD_eq_getElem?_getD, List.getElem?_eq_getElem hi]; rfl⟩
theorem addL_fit {N : Nat} {bs : List Int} (hok : RhOk N bs) (k : Nat) (hk : k ≤ 1000) (j : Nat) : ∀ x ∈ addL k bs j, Fits x := by
  intro x hx
  unfold addL at hx
  rw [List.mem_map] at hx
  obtain ⟨y, hy, rfl⟩ := hx
  have := rhok_range hok y (List.mem_of_mem_take hy)
  have := hok.2.1
  unfold Fits
  omega

theorem rotL_coll {N : Nat} {bs : List Int} (hok : RhOk N bs) (k : Int) : collL (modL N (addL k bs bs.length) (addL k bs bs.length).length) = rotL N bs k := by
  refine asc_unique (collL_asc _).1 (rotL_sorted _ _ _) fun x => ?_
  rw [(collL_asc _).2, modL_mem, rotL_mem]
  have hN : (0 : Int) < N := by have := hok.1; omega
  constructor
  · rintro ⟨y, hy, rfl⟩
    obtain ⟨b, hb, rfl⟩ := addL_mem.1 hy
    have h0 := Int.emod_nonneg (b + k) (show (N : Int) ≠ 0 by omega)
    have h1 := Int.emod_lt_of_pos (b + k) hN
    obtain ⟨t, ht⟩ := Int.eq_ofNat_of_zero_le h0
    refine ⟨t, by omega, ?_, ht⟩
    have hr := rhok_range hok b hb
    rw [← ht, Int.emod_sub_emod, show b + k - k = b by omega, Int.emod_eq_of_lt hr.1 hr.2]
    unfold hasB
    rw [decide_eq_true_eq]
    exact hb
  · rintro ⟨t, ht, hb, rfl⟩
    unfold hasB at hb
    rw [decide_eq_true_eq] at hb
    refine ⟨_, addL_mem.2 ⟨_, hb, rfl⟩, ?_⟩
    rw [Int.emod_add_emod, show (t : Int) - k + k = t by omega, Int.emod_eq_of_lt (by omega) (by omega)]

set_option maxHeartbeats 400000 in
theorem impl_rotated1_any (x k : Int) (b : Nat) (w : World) (hx : 0 ≤ x ∧ x ≤ 1000000) (hk : 0 ≤ k ∧ k ≤ 1000000) (hc : w.cell? ⟨b, 0, none⟩ = some (.int .i64 k)) :
    Calls Tryz.prog 52 #[.int .i64 x, .pointer (some ⟨b, 0, none⟩)] w fun e w' => e = .returned (.int .i64 (x + k)) ∧ w = w' := by
  have h1 : IntKind.i64.wrap (x + k) = x + k := i64w (by omega)
  go_enter Tryz.func52, Tryz.ntmps52
  go_wp2_with fail
  go_ret
  exact ⟨rfl, rfl⟩

set_option maxRecDepth 100000 in
set_option maxHeartbeats 1000000 in
theorem impl_moved_any (N : Nat) (A : Option Addr) (cap : Nat) (bs : List Int) (k b : Nat) (w : World) (hA : Ints w w.heap.size A bs) (hok : RhOk N bs) (hk : k ≤ 1000) (hb : b < w.heap.size) (hkc : w.cell? ⟨b, 0, none⟩ = some (.int .i64 k)) :
    Calls Tryz.prog 51 #[.agg #[.int .i64 N, .slice A bs.length cap], .func (.func 52) #[] #[.pointer (some ⟨b, 0, none⟩)]] w (RetRh1 w N (rotL N bs k)) := by
  have hn1 := hok.1
  have hn2 := hok.2.1
  have hlen := hA.1
  unfold maxLen at hlen
  have hbl : bs.length ≤ N := by
    have := rotL_len N bs 0
    rwa [(rotL_same hok 0).2 (fun t ht => by rw [show (t : Int) - 0 = t by omega, Int.emod_eq_of_lt (by omega) (by omega)])] at this
  have HC := Lib.hid hA.2.2
  have HOK := Lib.hid hok
  have HKC := Lib.hid hkc
  have hro := fun (A2 : Option Addr) (c2 : Nat) (V : World) (hV : Ints V V.heap.size A2 (addL k bs bs.length)) => impl_rhythmOf_any N A2 c2 (addL k bs bs.length) V hV (by have := addL_len k bs bs.length; omega) hn1 (by omega)
  rw [rotL_coll hok] at hro
  have hrl := rotL_len N bs k
  generalize rotL N bs k = R at hro hrl ⊢
  have HRO := Lib.hid hro
  clear hA hok hkc hro
  have hW0 := ((Below.refl w.heap.size w).alloc (Nat.le_refl _) (.cells #[.int .i64 N, .slice A bs.length cap] 25)).alloc (by first | exact Nat.le_refl _ | (simp; done) | (simp; omega) | omega) (.cells #[.int .i64 0, .slice none 0 0] 25)
  have HW := Lib.hid hW0
  have HG := Lib.hid ((Cells2.new w (.int .i64 N) (.slice A bs.length cap) 25).alloc (.cells #[.int .i64 0, .slice none 0 0] 25))
  have HN := Lib.hid (Cells2.new (w.alloc (.cells #[.int .i64 N, .slice A bs.length cap] 25)) (.int .i64 0) (.slice none 0 0) 25)
  obtain ⟨g0, g1, _, _, _⟩ := HG.out
  clear hW0
  go_enter Tryz.func51, Tryz.ntmps51
  go_wp2_with fail
  clear g0 g1
  go_loopw [5, 11] (fun so i wr => ∃ j : Nat, j ≤ bs.length ∧ i = .int .i64 j ∧ OwnI wr (w.heap.size + 2) so (addL k bs j) ∧ Below (w.heap.size + 2) ((w.alloc (.cells #[.int .i64 N, .slice A bs.length cap] 25)).alloc (.cells #[.int .i64 0, .slice none 0 0] 25)) wr) (fun _ i _ => bs.length - (intOf i).toNat)
  case atStart => exact ⟨0, Nat.zero_le _, rfl, OwnI.nil _ _, Below.refl _ _⟩
  case round =>
    obtain ⟨j, hj, rfl, hown, hbel⟩ := hrel
    obtain ⟨wo, rfl⟩ : ∃ wo : World, wo = wr := ⟨_, rfl⟩
    have hws : w.heap.size + 2 ≤ wo.heap.size := by have := hbel.size; simpa using this
    have HBE := Lib.hid hbel
    have HO := Lib.hid hown
    obtain ⟨A1, c1, rfl⟩ := hown.form
    have hmk := addL_len k bs j
    clear hbel hown
    obtain ⟨g0, g1, g2, g3, g4⟩ := HG.out.below HBE.out (by simp)
    by_cases hlt : j < bs.length
    · obtain ⟨b2, off, rfl, hB, hc⟩ := HC.out (by omega)
      have hcell := ((HW.out.trans (HBE.out.mono (by omega))).cell (p := ⟨b2, off + j, none⟩) hB).trans (hc j hlt)
      have hx0 := HOK.out.2.2.1 j hlt
      obtain ⟨x, hx⟩ : ∃ x, bs.getD j 0 = x := ⟨_, rfl⟩
      rw [hx] at hcell hx0
      obtain ⟨hx1, hx2⟩ := hx0
      have HSU := Lib.hid (addL_succ (k := (k : Int)) hlt hx)
      have hkc2 := ((HW.out.trans (HBE.out.mono (by omega))).cell (p := ⟨b, 0, none⟩) hb).trans HKC.out
      have HR1 := Lib.hid (impl_rotated1_any x k b wo ⟨hx1, by omega⟩ (by omega) hkc2)
      generalize addL k bs j = L at HO HSU hmk ⊢
      clear hc hx hkc2
      go_wp2_with (first
        | (go_at_call 52; refine HR1.out.mono ?_; rintro e w' ⟨rfl, rfl⟩)
        | (at_builtin; refine wpList_append_int rfl (.tmp 15) (.tmp 19) rfl (w.heap.size + 2) _ L rfl (HO.out.alloc _) _ _ rfl (cell_new1 _ _ _) (by omega) (by simp; omega) ?_; intro v2 w2 hown2 hb2))
      have HO2 := Lib.hid hown2
      have HB2 := Lib.hid ((HBE.out.alloc (by omega) _).trans hb2)
      clear hown2 hb2
      go_wp2_with fail
      go_roundw
      case rel => exact ⟨j + 1, by omega, by go_num, by rw [HSU.out]; exact HO2.out, HB2.out⟩
      case measure => simp [intOf]; omega
    · have hje : j = bs.length := by omega
      subst hje
      have HI := Lib.hid (HO.out.ints (addL_fit HOK.out k hk _))
      generalize addL k bs bs.length = L at HO HRO HI hmk ⊢
      go_wp2_with fail
      refine (HRO.out A1 c1 _ HI.out).mono ?_
      rintro e w2 ⟨A2, c2, rfl, hrw, hb2⟩
      have hz2 := hb2.size
      obtain ⟨f0, f1, f2, f3, f4⟩ := (HN.out.below HBE.out (by simp)).below hb2 (by simp; omega)
      simp only [World.size_alloc] at f0 f1 f2 f3
      go_wp2_with fail
      refine bodyPost_ret (v := .agg #[.int .i64 N, .slice A2 R.length c2]) (by simp [results, Tryz.results51, go_sem, f0, f1]) rfl ?_
      refine ⟨A2, c2, rfl, ?_, ?_⟩
      · exact ((hrw.far (p := ⟨w.heap.size + 1, 0, none⟩) (by simp; omega) _).far (p := ⟨w.heap.size + 1, 1, none⟩) (by simp; omega) _).mono (by omega)
      · exact (((HW.out.trans (HBE.out.mono (by omega))).trans (hb2.mono (by omega))).setCell (by simp) _).setCell (by simp) _

set_option maxRecDepth 100000 in
set_option maxHeartbeats 1000000 in
theorem impl_rotated_any (N : Nat) (A : Option Addr) (cap : Nat) (bs : List Int) (k : Nat) (w : World) (hA : Ints w w.heap.size A bs) (hok : RhOk N bs) (hk : k ≤ 1000) :
    Calls Tryz.prog 34 #[.agg #[.int .i64 N, .slice A bs.length cap], .int .i64 k] w (RetRh1 w N (rotL N bs k)) := by
  have HA := Lib.hid hA
  have HMV := Lib.hid (fun (b : Nat) (V : World) hV hb hc => impl_moved_any N A cap bs k b V hV hok hk hb hc)
  generalize rotL N bs k = R at HMV ⊢
  clear hA hok
  have HW := Lib.hid ((((Below.refl w.heap.size w).alloc (Nat.le_refl _) (.cells #[.int .i64 N, .slice A bs.length cap] 25)).alloc (by first | exact Nat.le_refl _ | (simp; done) | (simp; omega) | omega) (.cells #[.int .i64 k] 3)).alloc (by first | exact Nat.le_refl _ | (simp; done) | (simp; omega) | omega) (.cells #[.int .i64 0, .slice none 0 0] 25))
  have HG := Lib.hid (((Cells2.new w (.int .i64 N) (.slice A bs.length cap) 25).alloc (.cells #[.int .i64 k] 3)).alloc (.cells #[.int .i64 0, .slice none 0 0] 25))
  have HN := Lib.hid (Cells2.new ((w.alloc (.cells #[.int .i64 N, .slice A bs.length cap] 25)).alloc (.cells #[.int .i64 k] 3)) (.int .i64 0) (.slice none 0 0) 25)
  have HK := Lib.hid (show (((w.alloc (.cells #[.int .i64 N, .slice A bs.length cap] 25)).alloc (.cells #[.int .i64 k] 3)).alloc (.cells #[.int .i64 0, .slice none 0 0] 25)).cell? ⟨w.heap.size + 1, 0, none⟩ = some (.int .i64 k) by
    rw [((Below.refl (w.heap.size + 2) ((w.alloc (.cells #[.int .i64 N, .slice A bs.length cap] 25)).alloc (.cells #[.int .i64 k] 3))).alloc (by simp) (.cells #[.int .i64 0, .slice none 0 0] 25)).cell (p := ⟨w.heap.size + 1, 0, none⟩) (by simp)]
    simp)
  obtain ⟨g0, g1, _, _, _⟩ := HG.out
  go_enter Tryz.func34, Tryz.ntmps34
  go_wp2_with fail
  refine (HMV.out (w.heap.size + 1) _ (HA.out.lift HW.out) (by simp) HK.out).mono ?_
  rintro e w2 ⟨A2, c2, rfl, hrw, hb2⟩
  have hz2 := hb2.size
  obtain ⟨f0, f1, f2, f3, f4⟩ := HN.out.below hb2 (by simp)
  simp only [World.size_alloc] at f0 f1 f2 f3 hz2 hrw hb2
  go_wp2_with fail
  refine bodyPost_ret (v := .agg #[.int .i64 N, .slice A2 R.length c2]) (by simp [results, Tryz.results34, go_sem, f0, f1]) rfl ?_
  refine ⟨A2, c2, rfl, ?_, ?_⟩
  · exact ((hrw.far (p := ⟨w.heap.size + 2, 0, none⟩) (by simp) _).far (p := ⟨w.heap.size + 2, 1, none⟩) (by simp) _).mono (by omega)
  · exact ((HW.out.trans (hb2.mono (by omega))).setCell (p := ⟨w.heap.size + 2, 0, none⟩) (Nat.le_add_right _ _) _).setCell (p := ⟨w.heap.size + 2, 1, none⟩) (Nat.le_add_right _ _) _

end Go.Proofs.YtlejlcnemibgiaaGreat

namespace Go.Proofs.YtlejlcnemibgiaaGreat
open Go.RowKit Go.Shelf
set_option linter.unusedVariables false
set_option linter.unusedSimpArgs false

theorem Ints.drew3_ {w : World} {B : Nat} {A : Option Addr} {xs : List Int} (h : Ints w B A xs) : Ints w.drew B A xs := h
theorem Below.drew3_ {B : Nat} {a w : World} (h : Below B a w) : Below B a w.drew := ⟨h.os, h.tape, h.output, h.size, h.block⟩
theorem Below.drewL3_ {B : Nat} {a w : World} (h : Below B a w) : Below B a.drew w := ⟨h.os, h.tape, h.output, h.size, h.block⟩
theorem RW.drewN3_ {w : World} {base : Nat} {A : Option Addr} {xs : List Int} (h : RW w base A xs) : RW w.drew base A xs := h

theorem slices_Equal_any (A1 A2 : Option Addr) (c1 c2 : Nat) (xs ys : List Int) (w : World) (B1 B2 : Nat) (h1 : Ints w B1 A1 xs) (h2 : Ints w B2 A2 ys) :
    Calls Tryz.prog 56 #[.slice A1 xs.length c1, .slice A2 ys.length c2] w fun e w' => e = .returned (.bool (eqB xs ys)) ∧ ∃ q, w' = w.drewN q := by
  have hl1 := h1.1
  have hl2 := h2.1
  unfold maxLen at hl1 hl2
  by_cases hx : xs.length = ys.length
  · by_cases hp : 0 < xs.length
    · obtain ⟨b1, o1, rfl, _, _⟩ := h1.2.2 hp
      obtain ⟨b2, o2, rfl, _, _⟩ := h2.2.2 (by omega)
      refine (Any.slices_Equal_int Tryz.lays111 b1 o1 xs.length c1 b2 o2 ys.length c2 xs ys w (Nat.le_refl _) (Nat.le_refl _) (by omega) (by omega) (ints_cellsC h1) (ints_cellsC h2)).mono ?_
      rintro e w' ⟨rfl, q, rfl⟩
      rw [List.take_length, List.take_length]
      refine ⟨ret_bool ?_, q, rfl⟩
      unfold eqB
      rw [Bool.eq_iff_iff, beq_iff_eq, decide_eq_true_eq]
    · have e1 : xs = [] := List.eq_nil_of_length_eq_zero (by omega)
      have e2 : ys = [] := List.eq_nil_of_length_eq_zero (by omega)
      subst e1 e2
      refine (Any.slices_Equal_int_empty Tryz.lays111 A1 A2 c1 0 c2 w (by omega)).mono ?_
      rintro e w' ⟨rfl, rfl⟩
      exact ⟨rfl, 0, rfl⟩
  · refine (Any.slices_Equal_int_lens Tryz.lays111 A1 A2 xs.length c1 ys.length c2 w hx).mono ?_
    rintro e w' ⟨rfl, rfl⟩
    refine ⟨ret_bool ?_, 0, rfl⟩
    unfold eqB
    rw [eq_comm, decide_eq_false_iff_not]
    intro h
    exact hx (by rw [h])

set_option maxRecDepth 100000 in
set_option maxHeartbeats 400000 in
theorem impl_equals_any (n : Int) (A1 A2 : Option Addr) (c1 c2 : Nat) (xs ys : List Int) (w : World) (h1 : Ints w w.heap.size A1 xs) (h2 : Ints w w.heap.size A2 ys) :
    Calls Tryz.prog 43 #[.agg #[.int .i64 n, .slice A1 xs.length c1], .agg #[.int .i64 n, .slice A2 ys.length c2]] w fun e w' => e = .returned (.bool (eqB xs ys)) ∧ Below w.heap.size w w' := by
  have hW0 := ((Below.refl w.heap.size w).alloc (Nat.le_refl _) (.cells #[.int .i64 n, .slice A1 xs.length c1] 25)).alloc (by first | exact Nat.le_refl _ | (simp; done) | (simp; omega) | omega) (.cells #[.int .i64 n, .slice A2 ys.length c2] 25)
  have HW := Lib.hid hW0
  have HEQ := Lib.hid (fun (V : World) (hV : Below w.heap.size w V) => slices_Equal_any A1 A2 c1 c2 xs ys V w.heap.size w.heap.size (h1.below hV) (h2.below hV))
  obtain ⟨g0, g1, _, _, _⟩ := ((Cells2.new w (.int .i64 n) (.slice A1 xs.length c1) 25).alloc (.cells #[.int .i64 n, .slice A2 ys.length c2] 25))
  obtain ⟨k0, k1, _, _, _⟩ := (Cells2.new (w.alloc (.cells #[.int .i64 n, .slice A1 xs.length c1] 25)) (.int .i64 n) (.slice A2 ys.length c2) 25)
  simp only [World.size_alloc] at k0 k1
  have hnn : (n == n) = true := by simp
  generalize eqB xs ys = b at HEQ ⊢
  clear h1 h2 hW0
  go_enter Tryz.func43, Tryz.ntmps43
  go_wp2_with (go_at_call 56; refine (HEQ.out _ HW.out).mono ?_; rintro e w' ⟨rfl, q, rfl⟩)
  go_ret
  exact ⟨rfl, Below.drewN_ HW.out q⟩

set_option maxRecDepth 100000 in
set_option maxHeartbeats 1000000 in
theorem impl_period_any (N : Nat) (A : Option Addr) (cap : Nat) (bs : List Int) (w : World) (hA : Ints w w.heap.size A bs) (hok : RhOk N bs) :
    Calls Tryz.prog 25 #[.agg #[.int .i64 N, .slice A bs.length cap]] w fun e w' => e = .returned (.int .i64 (perV N bs)) ∧ Below w.heap.size w w' := by
  have hn1 : 1 ≤ N := by have := hok.1; omega
  have hn2 : N ≤ 24 := by have := hok.2.1; omega
  have HOK := Lib.hid hok
  have HA := Lib.hid hA
  have HFT := Lib.hid (fun k : Int => show ∀ x ∈ rotL N bs k, Fits x from fun x hx => by
    obtain ⟨t, ht, _, rfl⟩ := rotL_mem.1 hx
    unfold Fits
    omega)
  clear hA hok
  have HW := Lib.hid ((Below.refl w.heap.size w).alloc (Nat.le_refl _) (.cells #[.int .i64 N, .slice A bs.length cap] 25))
  have HG := Lib.hid (Cells2.new w (.int .i64 N) (.slice A bs.length cap) 25)
  go_enter Tryz.func25, Tryz.ntmps25
  go_wp2_with fail
  go_loopw [3] (fun s wr => ∃ k : Nat, 1 ≤ k ∧ k ≤ N ∧ s = .int .i64 k ∧ (∀ j, 1 ≤ j → j < k → perB N bs j = false) ∧ Below (w.heap.size + 1) (w.alloc (.cells #[.int .i64 N, .slice A bs.length cap] 25)) wr) (fun s _ => N - (intOf s).toNat)
  case atStart => exact ⟨1, by omega, hn1, rfl, fun j h1 h2 => by omega, Below.refl _ _⟩
  case round =>
    obtain ⟨k, hk1, hk, rfl, hno, hbel⟩ := hrel
    obtain ⟨wo, rfl⟩ : ∃ wo : World, wo = wr := ⟨_, rfl⟩
    have hws : w.heap.size + 1 ≤ wo.heap.size := by have := hbel.size; simpa using this
    have HNO := Lib.hid hno
    have HBE := Lib.hid hbel
    have HWW := Lib.hid (HW.out.trans (HBE.out.mono (by omega)))
    obtain ⟨c0, c1, _, _, _⟩ := HG.out.below hbel (by simp)
    have HRO := Lib.hid (fun (V : World) (hV : Ints V V.heap.size A bs) => impl_rotated_any N A cap bs k V hV HOK.out (by omega))
    have HEQ := Lib.hid (fun (A2 : Option Addr) (c2 : Nat) (V : World) (h1 : Ints V V.heap.size A2 (rotL N bs k)) (h2 : Ints V V.heap.size A bs) => impl_equals_any N A2 A c2 cap (rotL N bs k) bs V h1 h2)
    have HF2 := Lib.hid (HFT.out k)
    clear hno hbel
    obtain ⟨r, hr⟩ : ∃ r, perB N bs k = r := ⟨_, rfl⟩
    have HR := Lib.hid hr
    rw [show eqB (rotL N bs k) bs = r from hr] at HEQ
    generalize rotL N bs k = L at HRO HEQ HF2
    clear hr
    cases r
    all_goals
      go_wp2_with fail
      (refine wp_region_held_drew (S := (fun w' => w'.cell? ⟨w.heap.size, 0, none⟩ = some (.int .i64 N) ∧ w'.cell? ⟨w.heap.size, 1, none⟩ = some (.slice A bs.length cap))) (by kernel_rfl) ?_ (fun hHeld => ?_); (focus ((try dsimp only); exact ⟨c0, c1⟩)))
      (refine wpAnyH_take (i := 0) (v := ?_) rfl (by kernel_rfl) (by kernel_rfl) (by kernel_rfl) (fun _ _ _ h => h) (Or.inl ⟨by rfl, ?_⟩) (by assumption) ?_; rotate_left; (focus (intro wS hSw; (try dsimp only at hSw); go_simp; (try with_reducible rfl))); (try simp only [Act.put, List.getElem_toArray, List.getElem_cons_zero, List.getElem_cons_succ, List.setIfInBounds_toArray, List.set_cons_zero, List.set_cons_succ]))
      (refine wpAnyH_take (i := 1) (v := ?_) rfl (by kernel_rfl) (by kernel_rfl) (by kernel_rfl) (fun _ _ _ h => h) (Or.inl ⟨by rfl, ?_⟩) (by assumption) ?_; rotate_left; (focus (intro wS hSw; (try dsimp only at hSw); go_simp; (try with_reducible rfl))); (try simp only [Act.put, List.getElem_toArray, List.getElem_cons_zero, List.getElem_cons_succ, List.setIfInBounds_toArray, List.set_cons_zero, List.set_cons_succ]))
      (refine wpAnyH_take (i := 3) (v := ?_) rfl (by kernel_rfl) (by kernel_rfl) (by kernel_rfl) (fun _ _ _ h => h) (Or.inl ⟨by rfl, ?_⟩) (by assumption) ?_; rotate_left; (focus (intro wS hSw; (try dsimp only at hSw); go_simp; (try with_reducible rfl))); (try simp only [Act.put, List.getElem_toArray, List.getElem_cons_zero, List.getElem_cons_succ, List.setIfInBounds_toArray, List.set_cons_zero, List.set_cons_succ]))
      (refine wpAnyH_ready (rs := [2]) (by kernel_rfl) (by simp) ?_; refine AllReadyH.cons rfl (fun K hK => ?_) AllReadyH.nil; go_simp)
      go_at_call 34
      refine (HRO.out _ (HA.out.lift HWW.out).drew3_).mono ?_
      rintro e w1 ⟨A2, c2, rfl, hrw, hb1⟩
      have hz1 : wo.heap.size ≤ w1.heap.size := hb1.size
      have HI1 := Lib.hid (hrw.ints HF2.out)
      have HB1 := Lib.hid (show Below wo.heap.size wo.drew w1 from hb1)
      have HWX := Lib.hid ((Below.drew3_ HWW.out).trans (HB1.out.mono (Nat.le_trans (Nat.le_succ _) hws)))
      clear hrw hb1
      go_wp2_with fail
      have hcc := (bcellB HB1.out).1
      have d0 := (hcc w.heap.size 0 (by omega)).trans c0
      have d1 := (hcc w.heap.size 1 (by omega)).trans c1
      clear hcc
      (refine hK.out _ _ ?_ (fun hHeld2 => ?_); (focus ((try dsimp only); exact ⟨d0, d1⟩)); (clear hK K); (try simp only [Act.put, List.getElem_toArray, List.getElem_cons_zero, List.getElem_cons_succ, List.setIfInBounds_toArray, List.set_cons_zero, List.set_cons_succ]))
      (refine wpAnyH_ready (rs := [4]) (by kernel_rfl) (by simp) ?_; refine AllReadyH.cons rfl (fun K hK => ?_) AllReadyH.nil; go_simp)
      go_at_call 43
      refine (HEQ.out A2 c2 _ HI1.out (HA.out.lift HWX.out)).mono ?_
      rintro e w2 ⟨rfl, hb2⟩
      have hcc2 := (bcellB hb2).1
      have e0 := (hcc2 w.heap.size 0 (by omega)).trans d0
      have e1 := (hcc2 w.heap.size 1 (by omega)).trans d1
      have HBY := Lib.hid (((Below.drew3_ HBE.out).trans (HB1.out.mono hws)).trans (hb2.mono (Nat.le_trans hws hz1)))
      clear hb2 hcc2 c0 c1 d0 d1
      go_wp2_with fail
      (refine hK.out _ _ ?_ (fun hHeld2 => ?_); (focus ((try dsimp only); exact ⟨e0, e1⟩)); (clear hK K); (try simp only [Act.put, List.getElem_toArray, List.getElem_cons_zero, List.getElem_cons_succ, List.setIfInBounds_toArray, List.set_cons_zero, List.set_cons_succ]))
      (refine wpAnyH_take (i := 5) (v := ?_) rfl (by kernel_rfl) (by kernel_rfl) (by kernel_rfl) (fun _ _ _ h => h) (Or.inl ⟨by rfl, ?_⟩) (by assumption) ?_; rotate_left; (focus (intro wS hSw; (try dsimp only at hSw); go_simp; (try with_reducible rfl))); (try simp only [Act.put, List.getElem_toArray, List.getElem_cons_zero, List.getElem_cons_succ, List.setIfInBounds_toArray, List.set_cons_zero, List.set_cons_succ]))
      refine wpAnyH_done (by kernel_rfl) ?_ _
    · have hkN : k < N := by
        apply Classical.byContradiction
        intro hh
        have e : k = N := by omega
        have h3 := HR.out
        rw [e, perB_all HOK.out] at h3
        cases h3
      go_wp2_with fail
      go_roundw
      case rel =>
        refine ⟨k + 1, by omega, by omega, by go_num, fun j h1 h2 => ?_, HBY.out⟩
        by_cases e : j = k
        · subst e; exact HR.out
        · exact HNO.out j h1 (by omega)
      case measure => simp [intOf]; omega
    · have HP := Lib.hid (perV_unique HOK.out hk1 HR.out HNO.out)
      go_wp2_with fail
      go_ret
      exact ⟨ret_int (by rw [HP.out]), HW.out.trans (HBY.out.mono (by omega))⟩

end Go.Proofs.YtlejlcnemibgiaaGreat

