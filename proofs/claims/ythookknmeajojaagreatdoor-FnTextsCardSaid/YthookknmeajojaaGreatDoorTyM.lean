/-
  Several texts of this proof in one: RowE, CmpT, Coll, Turn, Eqs, Sam.
-/
import Derived.Test.YthookknmeajojaaGreatDoorOwn
import Derived.Lib.SlicesCompact
import Derived.Sort.Grow
import Derived.Sort.EncStr
import Derived.Test.YthookknmeajojaaGreatDoorChecked
import Derived.Test.YthookknmeajojaaGreatDoorRw
import Derived.Test.YthookknmeajojaaGreatDoorTyC
import Derived.Test.YthookknmeajojaaGreatDoorShI
import Derived.Lib.RowBridge
import Derived.Test.YthookknmeajojaaGreatDoorTyK
import Derived.Test.YthookknmeajojaaGreatDoorTyA
import Derived.Test.YthookknmeajojaaGreatDoorIntW
import Derived.Test.YthookknmeajojaaGreatDoorCells
namespace Go.Proofs.YthookknmeajojaaGreatDoor
open Go.RowKit Go.Sort
set_option linter.unusedVariables false
set_option linter.unusedSimpArgs false

section
variable {α : Type}

def RowE (enc : α → Value) (e : TypeId) (w : World) (base g cap : Nat) (xs : List α) : Prop :=
  base ≤ g ∧ xs.length ≤ cap ∧ cap ≤ maxLen ∧ ∃ cur : Array Value, w.heap[g]? = some (.cells cur e (0, 0)) ∧ cur.size = cap ∧ cur.toList.take xs.length = xs.map enc

variable {enc : α → Value} {e : TypeId} {w w' : World} {base g cap : Nat} {xs ys : List α}

theorem RowE.lt (h : RowE enc e w base g cap xs) : g < w.heap.size := by
  obtain ⟨_, _, _, cur, hh, _⟩ := h
  exact (Array.getElem?_eq_some_iff.1 hh).1
theorem RowE.get (h : RowE enc e w base g cap xs) {j : Nat} (hj : j < xs.length) : w.cell? ⟨g, j, none⟩ = some (enc xs[j]) := by
  obtain ⟨_, hl, _, cur, hh, hs, ht⟩ := h
  rw [cell_of_row _ _ _ _ _ _ hh, ← Array.getElem?_toList]
  have : (cur.toList.take xs.length)[j]? = (xs.map enc)[j]? := by rw [ht]
  rw [List.getElem?_take_of_lt hj] at this
  rw [this, List.getElem?_map, List.getElem?_eq_getElem hj]
  rfl
theorem RowE.holds [Inhabited α] (h : RowE enc e w base g cap xs) : Holds enc w g 0 xs.toArray := by
  intro j hj
  have hj' : j < xs.length := by simpa using hj
  refine ⟨?_, ?_⟩
  · rw [Nat.zero_add, h.get hj', getElem!_pos _ j (by simpa using hj')]
    simp
  · obtain ⟨_, _, _, cur, hh, _⟩ := h
    exact frozen_of_row _ _ _ _ _ hh
theorem RowE.put [Inhabited α] (h : RowE enc e w base g cap xs) (hl : ys.length = xs.length) {n : Nat} {os : Array Obj} (hw : w' = grow (putRow enc (Sort.ahead w n) g 0 ys.toArray) os) : RowE enc e w' base g cap ys ∧ Below base w w' := by
  have hlt := h.lt
  obtain ⟨hb, hle, hm, cur, hh, hs, ht⟩ := h
  have hhe : w'.heap = w.heap.modify g (onCells (putCells enc 0 ys.toArray)) ++ os := by subst hw; rfl
  refine ⟨⟨hb, by omega, hm, putCells enc 0 ys.toArray cur, ?_, by simp [putCells, hs], ?_⟩, ?_⟩
  · rw [hhe, Array.getElem?_append_left (by simpa using hlt), Array.getElem?_modify, if_pos rfl, hh]
    rfl
  · refine List.ext_getElem? fun j => ?_
    by_cases hj : j < ys.length
    · have hjc : j < cur.size := by omega
      rw [List.getElem?_take_of_lt hj, Array.getElem?_toList, List.getElem?_map, List.getElem?_eq_getElem hj]
      unfold putCells
      rw [Array.getElem?_mapIdx, Array.getElem?_eq_getElem hjc]
      simp only [Option.map_some, Nat.zero_le, true_and, Nat.zero_add, Nat.sub_zero, List.size_toArray, if_pos hj]
      rw [getElem!_pos _ j (by simpa using hj)]
      simp
    · rw [List.getElem?_eq_none (by rw [List.length_take]; omega), List.getElem?_eq_none (by rw [List.length_map]; omega)]
  · refine ⟨by subst hw; rfl, by subst hw; rfl, by subst hw; rfl, by rw [hhe]; simp, fun k hk => ?_⟩
    rw [hhe]
    by_cases hkw : k < w.heap.size
    · rw [Array.getElem?_append_left (by simpa using hkw), Array.getElem?_modify, if_neg (by omega)]
    · omega
theorem RowE.cut (h : RowE enc e w base g cap (xs ++ ys)) : RowE enc e w base g cap xs := by
  obtain ⟨hb, hle, hm, cur, hh, hs, ht⟩ := h
  rw [List.length_append] at hle
  refine ⟨hb, by omega, hm, cur, hh, hs, ?_⟩
  have := congrArg (List.take xs.length) ht
  rw [List.take_take, List.length_append, Nat.min_eq_left (by omega), List.map_append, List.take_left' (by simp)] at this
  exact this
end

end Go.Proofs.YthookknmeajojaaGreatDoor

namespace Go.Proofs.YthookknmeajojaaGreatDoor
set_option linter.unusedVariables false
set_option linter.unusedSimpArgs false

section
variable {α : Type} [Inhabited α] [DecidableEq α]

/-- Sorted numbers or texts, each once: what stays is strictly ascending and has the same members. -/
theorem compactUpTo_sorted (lt : α → α → Bool) (htr : ∀ a b c, lt a b = true → lt b c = true → lt a c = true) (d : Array α) (hs : ∀ i j, i < j → j < d.size → d[i]! = d[j]! ∨ lt d[i]! d[j]! = true) :
    ∀ m, m ≤ d.size → (Lib.compactUpTo d m).Pairwise (fun a b => lt a b = true) ∧ (∀ x, x ∈ Lib.compactUpTo d m ↔ ∃ j, j < m ∧ d[j]! = x) ∧ ∀ x ∈ Lib.compactUpTo d m, 0 < m → x = d[m - 1]! ∨ lt x d[m - 1]! = true
  | 0, _ => by
    refine ⟨by simp [Lib.compactUpTo], fun x => by simp [Lib.compactUpTo], fun x hx => by simp [Lib.compactUpTo] at hx⟩
  | m + 1, h => by
    obtain ⟨h1, h2, h3⟩ := compactUpTo_sorted lt htr d hs m (by omega)
    rw [Lib.compactUpTo_succ]
    by_cases hm : m = 0
    · subst hm
      rw [Lib.keeps_lt_one d 0 (by omega), if_pos rfl, show Lib.compactUpTo d 0 = [] by simp [Lib.compactUpTo]]
      refine ⟨by simp, fun x => ?_, fun x hx _ => ?_⟩
      · simp only [List.nil_append, List.mem_singleton]
        constructor
        · rintro rfl; exact ⟨0, by omega, rfl⟩
        · rintro ⟨j, hj, rfl⟩
          have : j = 0 := by omega
          subst this; rfl
      · simp only [List.nil_append, List.mem_singleton] at hx
        subst hx
        exact .inl rfl
    · by_cases heq : d[m]! = d[m - 1]!
      · rw [Lib.keeps_neg (by omega) heq, if_neg (by simp), List.append_nil]
        refine ⟨h1, fun x => ?_, fun x hx _ => ?_⟩
        · rw [h2]
          constructor
          · rintro ⟨j, hj, rfl⟩; exact ⟨j, by omega, rfl⟩
          · rintro ⟨j, hj, rfl⟩
            by_cases e : j = m
            · subst e; exact ⟨j - 1, by omega, heq.symm⟩
            · exact ⟨j, by omega, rfl⟩
        · rw [Nat.add_sub_cancel, heq]
          exact h3 x hx (by omega)
      · rw [Lib.keeps_pos heq, if_pos rfl]
        have hlt : ∀ x ∈ Lib.compactUpTo d m, lt x d[m]! = true := by
          intro x hx
          have hstep : lt d[m - 1]! d[m]! = true := by
            rcases hs (m - 1) m (by omega) (by omega) with e | e
            · exact absurd e.symm heq
            · exact e
          rcases h3 x hx (by omega) with e | e
          · rw [e]; exact hstep
          · exact htr _ _ _ e hstep
        refine ⟨?_, fun x => ?_, fun x hx _ => ?_⟩
        · rw [List.pairwise_append]
          refine ⟨h1, by simp, fun a ha b hb => ?_⟩
          rw [List.mem_singleton] at hb
          subst hb
          exact hlt a ha
        · rw [List.mem_append, h2, List.mem_singleton]
          constructor
          · rintro (⟨j, hj, rfl⟩ | rfl)
            · exact ⟨j, by omega, rfl⟩
            · exact ⟨m, by omega, rfl⟩
          · rintro ⟨j, hj, rfl⟩
            by_cases e : j = m
            · subst e; exact .inr rfl
            · exact .inl ⟨j, by omega, rfl⟩
        · rw [Nat.add_sub_cancel]
          rcases List.mem_append.1 hx with hx | hx
          · exact .inr (hlt x hx)
          · rw [List.mem_singleton] at hx; exact .inl hx

theorem compact_sorted (lt : α → α → Bool) (htr : ∀ a b c, lt a b = true → lt b c = true → lt a c = true) (zs : List α) (hs : zs.Pairwise (fun a b => a = b ∨ lt a b = true)) :
    (Lib.compact zs).Pairwise (fun a b => lt a b = true) ∧ ∀ x, x ∈ Lib.compact zs ↔ x ∈ zs := by
  have hget : ∀ i, i < zs.length → zs.toArray[i]! = zs[i]! := by
    intro i hi
    rw [getElem!_pos _ i (by simpa using hi), getElem!_pos _ i hi]
    simp
  obtain ⟨h1, h2, _⟩ := compactUpTo_sorted lt htr zs.toArray (fun i j hij hj => by
    have hj' : j < zs.length := by simpa using hj
    rw [hget i (by omega), hget j hj', getElem!_pos _ i (by omega), getElem!_pos _ j hj']
    exact List.pairwise_iff_getElem.1 hs i j (by omega) hj' hij) zs.length (by simp)
  refine ⟨h1, fun x => (h2 x).trans ?_⟩
  constructor
  · rintro ⟨j, hj, rfl⟩
    rw [hget j hj, getElem!_pos _ j hj]
    exact List.getElem_mem hj
  · intro hx
    obtain ⟨j, hj, rfl⟩ := List.getElem_of_mem hx
    exact ⟨j, hj, by rw [hget j hj, getElem!_pos _ j hj]⟩
end

end Go.Proofs.YthookknmeajojaaGreatDoor

namespace Go.Proofs.YthookknmeajojaaGreatDoor
open Go.RowKit Go.Shelf Go.Sort
set_option linter.unusedVariables false
set_option linter.unusedSimpArgs false

def collL (xs : List Int) : List Int := Lib.compact (xs.mergeSort fun x y => decide (x ≤ y))
theorem collL_asc (xs : List Int) : (collL xs).Pairwise (fun a b => a < b) ∧ ∀ x, x ∈ collL xs ↔ x ∈ xs := by
  have hs : (xs.mergeSort fun x y => decide (x ≤ y)).Pairwise (fun a b => a = b ∨ decide (a < b) = true) := by
    have := List.pairwise_mergeSort (le := fun x y : Int => decide (x ≤ y)) (fun a b c h1 h2 => by simp at h1 h2 ⊢; omega) (fun a b => by simp; omega) xs
    refine this.imp fun {a b} h => ?_
    simp at h ⊢
    omega
  have := compact_sorted (fun a b : Int => decide (a < b)) (fun a b c h1 h2 => by simp at h1 h2 ⊢; omega) _ hs
  refine ⟨this.1.imp fun {a b} h => by simpa using h, fun x => ?_⟩
  unfold collL
  rw [this.2, List.mem_mergeSort]
theorem collL_len (xs : List Int) : (collL xs).length ≤ xs.length := by
  have := Lib.compact_length_le (xs.mergeSort fun x y => decide (x ≤ y))
  rwa [List.length_mergeSort] at this
theorem collL_nil : collL [] = [] := by
  have := collL_len []
  exact List.eq_nil_of_length_eq_zero (by simpa using this)

theorem OwnI.posC {w : World} {base : Nat} {v : Value} {xs : List Int} (h : OwnI w base v xs) (hp : 0 < xs.length) : ∃ g c, v = .slice (some ⟨g, 0, none⟩) xs.length c := by
  rcases h.2 with ⟨rfl, h0⟩ | ⟨g, cap, cur, rfl, hg, hh, hnc, hm, _⟩
  · omega
  · exact ⟨g, cap, rfl⟩
theorem OwnI.rowC {w : World} {base g cap : Nat} {xs : List Int} (h : OwnI w base (.slice (some ⟨g, 0, none⟩) xs.length cap) xs) : RowE (Value.int .i64) 3 w base g cap xs := by
  rcases h.2 with ⟨hv, h0⟩ | ⟨g', cap', cur, hv, hg, hh, hnc, hm, hs, ht⟩
  · cases hv
  · injection hv with h1 h2 h3
    injection h1 with h1
    injection h1 with h1
    subst h1 h3
    exact ⟨hg, hnc, hm, cur, hh, by simpa using hs, by rw [Nat.mul_one] at ht; exact ht⟩
theorem RowE.ownC {w : World} {base g cap : Nat} {xs : List Int} (h : RowE (Value.int .i64) 3 w base g cap xs) : OwnI w base (.slice (some ⟨g, 0, none⟩) xs.length cap) xs := by
  obtain ⟨hb, hl, hm, cur, hh, hs, ht⟩ := h
  exact ⟨by simp, .inr ⟨g, cap, cur, rfl, hb, hh, hl, hm, by rw [Nat.mul_one]; exact hs, by rw [Nat.mul_one]; exact ht⟩⟩

theorem sort_ints (g cap base : Nat) (xs : List Int) (w : World) (h : RowE (Value.int .i64) 3 w base g cap xs) (hl : xs.length ≤ 1048576) :
    Calls Tryz.prog 124 #[.slice (some ⟨g, 0, none⟩) xs.length cap] w fun e w' => e = .returned (.tuple #[]) ∧ RowE (Value.int .i64) 3 w' base g cap (xs.mergeSort fun x y => decide (x ≤ y)) ∧ Below base w w' :=
  (Any.slices_Sort_int Tryz.lays189 g 0 cap xs w h.holds h.lt (by omega)).mono fun e w' ⟨he, n, os, hw⟩ => by
    have := h.put (ys := xs.mergeSort fun x y => decide (x ≤ y)) (List.length_mergeSort _) hw
    exact ⟨he, this.1, this.2⟩

theorem compact_ints (g cap base : Nat) (xs : List Int) (w : World) (h : RowE (Value.int .i64) 3 w base g cap xs) (hl : xs.length ≤ 1048576) :
    Calls Tryz.prog 125 #[.slice (some ⟨g, 0, none⟩) xs.length cap] w fun e w' => e = .returned (.slice (some ⟨g, 0, none⟩) (Lib.compact xs).length cap) ∧ RowE (Value.int .i64) 3 w' base g cap (Lib.compact xs) ∧ Below base w w' :=
  (Any.slices_Compact_int Tryz.lays20 g 0 cap xs w h.holds (by omega) h.2.1).mono fun e w' ⟨he, q, hw⟩ => by
    have hle := Lib.compact_length_le xs
    have := h.put (ys := Lib.compact xs ++ List.replicate (xs.length - (Lib.compact xs).length) 0) (by simp; omega) (n := q) (os := #[]) (hw.trans (grow_empty _).symm)
    exact ⟨he, this.1.cut, this.2⟩

theorem ints_cellsC {w : World} {B g off : Nat} {xs : List Int} (h : Ints w B (some ⟨g, off, none⟩) xs) : ∀ j, j < xs.length → w.cell? ⟨g, off + j, none⟩ = some (.int .i64 (xs.getD j 0)) := by
  intro j hj
  obtain ⟨b, off', e, _, hc⟩ := h.2.2 (by omega)
  injection e with e
  injection e with e1 e2
  subst e1 e2
  exact hc j hj

theorem clone_ints (A : Option Addr) (cap : Nat) (xs : List Int) (w : World) (h : Ints w w.heap.size A xs) (hl : xs.length ≤ 1048576) :
    Calls Tryz.prog 123 #[.slice A xs.length cap] w fun e w' => ∃ v, e = .returned v ∧ OwnI w' w.heap.size v xs ∧ Below w.heap.size w w' := by
  by_cases hp : 0 < xs.length
  · obtain ⟨b, off, rfl, _, _⟩ := h.2.2 hp
    refine (Any.slices_Clone_int Tryz.lays15 b off xs.length cap xs w (Nat.le_refl _) (by omega) (ints_cellsC h)).mono ?_
    rintro e w' ⟨v, rfl, ho, _, hb⟩
    rw [List.take_length] at ho
    exact ⟨v, rfl, ho, hb⟩
  · have h0 : xs = [] := List.eq_nil_of_length_eq_zero (by omega)
    subst h0
    cases A with
    | none =>
      refine (Any.slices_Clone_int_nil Tryz.lays15 0 cap w).mono ?_
      rintro e w' ⟨rfl, rfl⟩
      exact ⟨_, rfl, OwnI.nil _ _, Below.refl _ _⟩
    | some a =>
      refine (Any.slices_Clone_int_zero Tryz.lays15 a cap w).mono ?_
      rintro e w' ⟨v, rfl, ho, _, hb⟩
      exact ⟨v, rfl, ho, hb⟩

set_option maxRecDepth 100000 in
set_option maxHeartbeats 400000 in
theorem impl_collected_any (A : Option Addr) (cap : Nat) (xs : List Int) (w : World) (hA : Ints w w.heap.size A xs) (hl : xs.length ≤ 1048576) :
    Calls Tryz.prog 80 #[.slice A xs.length cap] w fun e w' => ∃ v, e = .returned v ∧ OwnI w' w.heap.size v (collL xs) ∧ Below w.heap.size w w' := by
  have HCL := Lib.hid (clone_ints A cap xs w hA hl)
  clear hA
  by_cases hp : 0 < xs.length
  · have hsrt := fun V g c h => sort_ints g c w.heap.size xs V h hl
    have hcmp := fun V g c h => compact_ints g c w.heap.size (xs.mergeSort fun x y => decide (x ≤ y)) V h (by rw [List.length_mergeSort]; exact hl)
    have hcl := collL_len xs
    rw [List.length_mergeSort] at hcmp
    have he : Lib.compact (xs.mergeSort fun x y => decide (x ≤ y)) = collL xs := rfl
    rw [he] at hcmp
    generalize collL xs = C at hcmp hcl ⊢
    generalize (xs.mergeSort fun x y => decide (x ≤ y)) = M at hsrt hcmp
    have HS := Lib.hid hsrt
    have HC := Lib.hid hcmp
    clear hsrt hcmp he
    go_enter Tryz.func80, Tryz.ntmps80
    go_wp2_with fail
    refine HCL.out.mono ?_
    rintro e w1 ⟨v, rfl, ho, hb⟩
    obtain ⟨g, c, rfl⟩ := ho.posC hp
    have HR := Lib.hid ho.rowC
    have HB := Lib.hid hb
    clear ho hb
    go_wp2_with fail
    refine (HS.out _ g c HR.out).mono ?_
    rintro e w2 ⟨rfl, hr2, hb2⟩
    have HR2 := Lib.hid hr2
    have HB2 := Lib.hid (HB.out.trans hb2)
    clear hr2 hb2
    go_wp2_with fail
    refine (HC.out _ g c HR2.out).mono ?_
    rintro e w3 ⟨rfl, hr3, hb3⟩
    have HR3 := Lib.hid hr3
    have HB3 := Lib.hid (HB2.out.trans hb3)
    clear hr3 hb3
    go_wp2_with fail
    go_ret
    exact ⟨_, rfl, HR3.out.ownC, HB3.out⟩
  · have h0 : xs = [] := List.eq_nil_of_length_eq_zero (by omega)
    subst h0
    rw [collL_nil]
    go_enter Tryz.func80, Tryz.ntmps80
    go_wp2_with fail
    refine HCL.out.mono ?_
    rintro e w1 ⟨v, rfl, ho, hb⟩
    obtain ⟨A1, c1, rfl⟩ := ho.form
    have HO := Lib.hid ho
    have HB := Lib.hid hb
    clear ho hb
    go_wp2_with fail
    refine (Any.slices_Sort_int_none Tryz.lays189 A1 c1 _).mono ?_
    rintro e w2 ⟨rfl, rfl⟩
    go_wp2_with fail
    refine (Any.slices_Compact_int_empty Tryz.lays20 A1 c1 _).mono ?_
    rintro e w2 ⟨rfl, rfl⟩
    go_wp2_with fail
    go_ret
    exact ⟨_, rfl, HO.out, HB.out⟩

/-- The numbers taken modulo n, as far as k. -/
def modL (n : Int) (xs : List Int) (k : Nat) : List Int := (xs.take k).map (· % n)
theorem modL_succ {n : Int} {xs : List Int} {k : Nat} {x : Int} (hk : k < xs.length) (hx : xs.getD k 0 = x) : modL n xs (k + 1) = modL n xs k ++ [x % n] := by
  unfold modL
  rw [List.take_succ_eq_append_getElem hk, List.map_append, List.map_singleton]
  have : xs[k] = x := by rw [← hx, List.getD_eq_getElem?_getD, List.getElem?_eq_getElem hk]; rfl
  rw [this]
theorem modL_len (n : Int) (xs : List Int) (k : Nat) : (modL n xs k).length ≤ xs.length := by
  unfold modL
  rw [List.length_map, List.length_take]
  omega
theorem modL_mem {n x : Int} {xs : List Int} : x ∈ modL n xs xs.length ↔ ∃ y ∈ xs, y % n = x := by
  unfold modL
  rw [List.take_length, List.mem_map]
theorem modL_fit {n : Int} {xs : List Int} (hn : 1 ≤ n) (hn2 : n ≤ 1000000000) (k : Nat) : ∀ x ∈ modL n xs k, Fits x := by
  intro x hx
  unfold modL at hx
  rw [List.mem_map] at hx
  obtain ⟨y, _, rfl⟩ := hx
  have := Int.emod_nonneg y (show n ≠ 0 by omega)
  have := Int.emod_lt_of_pos y (show 0 < n by omega)
  unfold Fits
  omega

set_option maxRecDepth 100000 in
set_option maxHeartbeats 1000000 in
theorem impl_rhythmOf_any (n : Int) (A : Option Addr) (cap : Nat) (xs : List Int) (w : World) (hA : Ints w w.heap.size A xs) (hl : xs.length ≤ 1000000) (hn : 1 ≤ n) (hn2 : n ≤ 1000000000) :
    Calls Tryz.prog 126 #[.int .i64 n, .slice A xs.length cap] w (RetRh1 w n (collL (modL n xs xs.length))) := by
  have HC := Lib.hid hA.2.2
  have hco := fun (A2 : Option Addr) (c2 : Nat) (V : World) (hV : Ints V V.heap.size A2 (modL n xs xs.length)) => impl_collected_any A2 c2 (modL n xs xs.length) V hV (by have := modL_len n xs xs.length; omega)
  have hcl := collL_len (modL n xs xs.length)
  obtain ⟨R, hR⟩ : ∃ R, collL (modL n xs xs.length) = R := ⟨_, rfl⟩
  rw [hR] at hco hcl ⊢
  have HCO := Lib.hid hco
  clear hco hR
  have hml := modL_len n xs xs.length
  clear hA
  have HW := Lib.hid ((Below.refl w.heap.size w).alloc (Nat.le_refl _) (.cells #[.int .i64 0, .slice none 0 0] 26))
  have HN := Lib.hid (Cells2.new w (.int .i64 0) (.slice none 0 0) 26)
  go_enter Tryz.func126, Tryz.ntmps126
  go_wp2_with fail
  go_loopw [5, 10] (fun so i wr => ∃ k : Nat, k ≤ xs.length ∧ i = .int .i64 k ∧ OwnI wr (w.heap.size + 1) so (modL n xs k) ∧ Below (w.heap.size + 1) (w.alloc (.cells #[.int .i64 0, .slice none 0 0] 26)) wr) (fun _ i _ => xs.length - (intOf i).toNat)
  case atStart => exact ⟨0, Nat.zero_le _, rfl, OwnI.nil _ _, Below.refl _ _⟩
  case round =>
    obtain ⟨k, hk, rfl, hown, hbel⟩ := hrel
    obtain ⟨wo, rfl⟩ : ∃ wo : World, wo = wr := ⟨_, rfl⟩
    have hws : w.heap.size + 1 ≤ wo.heap.size := by have := hbel.size; simpa using this
    have HBE := Lib.hid hbel
    have HO := Lib.hid hown
    obtain ⟨A1, c1, rfl⟩ := hown.form
    have hmk := modL_len n xs k
    clear hbel hown
    by_cases hlt : k < xs.length
    · obtain ⟨b, off, rfl, hB, hc⟩ := HC.out (by omega)
      have hcell := ((HW.out.trans (HBE.out.mono (by omega))).cell (p := ⟨b, off + k, none⟩) hB).trans (hc k hlt)
      obtain ⟨x, hx⟩ : ∃ x, xs.getD k 0 = x := ⟨_, rfl⟩
      rw [hx] at hcell
      have HSU := Lib.hid (modL_succ (n := n) hlt hx)
      generalize modL n xs k = L at HO HSU hmk ⊢
      clear hc hx
      go_wp2_with (first
        | (go_at_call 129; refine (impl_remainder_any x n _ hn hn2).mono ?_; rintro e w' ⟨rfl, rfl⟩)
        | (at_builtin; refine wpList_append_int rfl (.tmp 14) (.tmp 18) rfl (w.heap.size + 1) _ L rfl (HO.out.alloc _) _ _ rfl (cell_new1 _ _ _) (by omega) (by simp; omega) ?_; intro v2 w2 hown2 hb2))
      have HO2 := Lib.hid hown2
      have HB2 := Lib.hid ((HBE.out.alloc (by omega) _).trans hb2)
      clear hown2 hb2
      go_wp2_with fail
      go_roundw
      case rel => exact ⟨k + 1, by omega, by go_num, by rw [HSU.out]; exact HO2.out, HB2.out⟩
      case measure => simp [intOf]; omega
    · have hke : k = xs.length := by omega
      subst hke
      have HI := Lib.hid (HO.out.ints (modL_fit hn hn2 _))
      generalize modL n xs xs.length = L at HO HCO HI hmk hcl hml ⊢
      go_wp2_with fail
      refine (HCO.out A1 c1 _ HI.out).mono ?_
      rintro e w2 ⟨v, rfl, ho2, hb2⟩
      obtain ⟨A2, c2, rfl⟩ := ho2.form
      have hz2 := hb2.size
      obtain ⟨f0, f1, f2, f3, f4⟩ := (HN.out.below HBE.out (by simp)).below hb2 (by omega)
      go_wp2_with fail
      refine bodyPost_ret (v := .agg #[.int .i64 n, .slice A2 R.length c2]) (by simp [results, Tryz.results126, go_sem, f0, f1]) rfl ?_
      refine ⟨A2, c2, rfl, ?_, ?_⟩
      · exact (((ho2.rw_ (by omega)).far (p := ⟨w.heap.size, 0, none⟩) (by simp; omega) _).far (p := ⟨w.heap.size, 1, none⟩) (by simp; omega) _).mono (by omega)
      · exact (((HW.out.trans (HBE.out.mono (by omega))).trans (hb2.mono (by omega))).setCell (Nat.le_refl _) _).setCell (Nat.le_refl _) _

end Go.Proofs.YthookknmeajojaaGreatDoor

namespace Go.Proofs.YthookknmeajojaaGreatDoor
open Go.RowKit
set_option linter.unusedVariables false
set_option linter.unusedSimpArgs false

def addL (k : Int) (xs : List Int) (j : Nat) : List Int := (xs.take j).map (· + k)
theorem addL_succ {k : Int} {xs : List Int} {j : Nat} {x : Int} (hj : j < xs.length) (hx : xs.getD j 0 = x) : addL k xs (j + 1) = addL k xs j ++ [x + k] := by
  unfold addL
  rw [List.take_succ_eq_append_getElem hj, List.map_append, List.map_singleton]
  have : xs[j] = x := by rw [← hx, List.getD_eq_getElem?_getD, List.getElem?_eq_getElem hj]; rfl
  rw [this]
theorem addL_len (k : Int) (xs : List Int) (j : Nat) : (addL k xs j).length ≤ xs.length := by
  unfold addL
  rw [List.length_map, List.length_take]
  omega
theorem addL_mem {k x : Int} {xs : List Int} : x ∈ addL k xs xs.length ↔ ∃ y ∈ xs, y + k = x := by
  unfold addL
  rw [List.take_length, List.mem_map]
theorem getD_mem {xs : List Int} {x : Int} (h : x ∈ xs) : ∃ i, i < xs.length ∧ xs.getD i 0 = x := by
  obtain ⟨i, hi, rfl⟩ := List.getElem_of_mem h
  exact ⟨i, hi, by rw [List.getD_eq_getElem?_getD, List.getElem?_eq_getElem hi]; rfl⟩
theorem addL_fit {N : Nat} {bs : List Int} (hok : RhOk N bs) (k : Nat) (hk : k ≤ 1000) (j : Nat) : ∀ x ∈ addL k bs j, Fits x := by
  intro x hx
  unfold addL at hx
  rw [List.mem_map] at hx
  obtain ⟨y, hy, rfl⟩ := hx
  have := rhok_range hok y (List.mem_of_mem_take hy)
  have := hok.2.1
  unfold Fits
  omega

theorem rotL_coll {N : Nat} {bs : List Int} (hok : RhOk N bs) (k : Int) : collL (modL N (addL k bs bs.length) (addL k bs bs.length).length) = rotL N bs k := by
  refine asc_unique (collL_asc _).1 (rotL_sorted _ _ _) fun x => ?_
  rw [(collL_asc _).2, modL_mem, rotL_mem]
  have hN : (0 : Int) < N := by have := hok.1; omega
  constructor
  · rintro ⟨y, hy, rfl⟩
    obtain ⟨b, hb, rfl⟩ := addL_mem.1 hy
    have h0 := Int.emod_nonneg (b + k) (show (N : Int) ≠ 0 by omega)
    have h1 := Int.emod_lt_of_pos (b + k) hN
    obtain ⟨t, ht⟩ := Int.eq_ofNat_of_zero_le h0
    refine ⟨t, by omega, ?_, ht⟩
    have hr := rhok_range hok b hb
    rw [← ht, Int.emod_sub_emod, show b + k - k = b by omega, Int.emod_eq_of_lt hr.1 hr.2]
    unfold hasB
    rw [decide_eq_true_eq]
    exact hb
  · rintro ⟨t, ht, hb, rfl⟩
    unfold hasB at hb
    rw [decide_eq_true_eq] at hb
    refine ⟨_, addL_mem.2 ⟨_, hb, rfl⟩, ?_⟩
    rw [Int.emod_add_emod, show (t : Int) - k + k = t by omega, Int.emod_eq_of_lt (by omega) (by omega)]

set_option maxHeartbeats 400000 in
theorem impl_rotated1_any (x k : Int) (b : Nat) (w : World) (hx : 0 ≤ x ∧ x ≤ 1000000) (hk : 0 ≤ k ∧ k ≤ 1000000) (hc : w.cell? ⟨b, 0, none⟩ = some (.int .i64 k)) :
    Calls Tryz.prog 83 #[.int .i64 x, .pointer (some ⟨b, 0, none⟩)] w fun e w' => e = .returned (.int .i64 (x + k)) ∧ w = w' := by
  have h1 : IntKind.i64.wrap (x + k) = x + k := i64w (by omega)
  go_enter Tryz.func83, Tryz.ntmps83
  go_wp2_with fail
  go_ret
  exact ⟨rfl, rfl⟩

set_option maxRecDepth 100000 in
set_option maxHeartbeats 1000000 in
theorem impl_moved_any (N : Nat) (A : Option Addr) (cap : Nat) (bs : List Int) (k b : Nat) (w : World) (hA : Ints w w.heap.size A bs) (hok : RhOk N bs) (hk : k ≤ 1000) (hb : b < w.heap.size) (hkc : w.cell? ⟨b, 0, none⟩ = some (.int .i64 k)) :
    Calls Tryz.prog 82 #[.agg #[.int .i64 N, .slice A bs.length cap], .func (.func 83) #[] #[.pointer (some ⟨b, 0, none⟩)]] w (RetRh1 w N (rotL N bs k)) := by
  have hn1 := hok.1
  have hn2 := hok.2.1
  have hlen := hA.1
  unfold maxLen at hlen
  have hbl : bs.length ≤ N := by
    have := rotL_len N bs 0
    rwa [(rotL_same hok 0).2 (fun t ht => by rw [show (t : Int) - 0 = t by omega, Int.emod_eq_of_lt (by omega) (by omega)])] at this
  have HC := Lib.hid hA.2.2
  have HOK := Lib.hid hok
  have HKC := Lib.hid hkc
  have hro := fun (A2 : Option Addr) (c2 : Nat) (V : World) (hV : Ints V V.heap.size A2 (addL k bs bs.length)) => impl_rhythmOf_any N A2 c2 (addL k bs bs.length) V hV (by have := addL_len k bs bs.length; omega) hn1 (by omega)
  rw [rotL_coll hok] at hro
  have hrl := rotL_len N bs k
  generalize rotL N bs k = R at hro hrl ⊢
  have HRO := Lib.hid hro
  clear hA hok hkc hro
  have hW0 := ((Below.refl w.heap.size w).alloc (Nat.le_refl _) (.cells #[.int .i64 N, .slice A bs.length cap] 26)).alloc (by first | exact Nat.le_refl _ | (simp; done) | (simp; omega) | omega) (.cells #[.int .i64 0, .slice none 0 0] 26)
  have HW := Lib.hid hW0
  have HG := Lib.hid ((Cells2.new w (.int .i64 N) (.slice A bs.length cap) 26).alloc (.cells #[.int .i64 0, .slice none 0 0] 26))
  have HN := Lib.hid (Cells2.new (w.alloc (.cells #[.int .i64 N, .slice A bs.length cap] 26)) (.int .i64 0) (.slice none 0 0) 26)
  obtain ⟨g0, g1, _, _, _⟩ := HG.out
  clear hW0
  go_enter Tryz.func82, Tryz.ntmps82
  go_wp2_with fail
  clear g0 g1
  go_loopw [5, 11] (fun so i wr => ∃ j : Nat, j ≤ bs.length ∧ i = .int .i64 j ∧ OwnI wr (w.heap.size + 2) so (addL k bs j) ∧ Below (w.heap.size + 2) ((w.alloc (.cells #[.int .i64 N, .slice A bs.length cap] 26)).alloc (.cells #[.int .i64 0, .slice none 0 0] 26)) wr) (fun _ i _ => bs.length - (intOf i).toNat)
  case atStart => exact ⟨0, Nat.zero_le _, rfl, OwnI.nil _ _, Below.refl _ _⟩
  case round =>
    obtain ⟨j, hj, rfl, hown, hbel⟩ := hrel
    obtain ⟨wo, rfl⟩ : ∃ wo : World, wo = wr := ⟨_, rfl⟩
    have hws : w.heap.size + 2 ≤ wo.heap.size := by have := hbel.size; simpa using this
    have HBE := Lib.hid hbel
    have HO := Lib.hid hown
    obtain ⟨A1, c1, rfl⟩ := hown.form
    have hmk := addL_len k bs j
    clear hbel hown
    obtain ⟨g0, g1, g2, g3, g4⟩ := HG.out.below HBE.out (by simp)
    by_cases hlt : j < bs.length
    · obtain ⟨b2, off, rfl, hB, hc⟩ := HC.out (by omega)
      have hcell := ((HW.out.trans (HBE.out.mono (by omega))).cell (p := ⟨b2, off + j, none⟩) hB).trans (hc j hlt)
      have hx0 := HOK.out.2.2.1 j hlt
      obtain ⟨x, hx⟩ : ∃ x, bs.getD j 0 = x := ⟨_, rfl⟩
      rw [hx] at hcell hx0
      obtain ⟨hx1, hx2⟩ := hx0
      have HSU := Lib.hid (addL_succ (k := (k : Int)) hlt hx)
      have hkc2 := ((HW.out.trans (HBE.out.mono (by omega))).cell (p := ⟨b, 0, none⟩) hb).trans HKC.out
      have HR1 := Lib.hid (impl_rotated1_any x k b wo ⟨hx1, by omega⟩ (by omega) hkc2)
      generalize addL k bs j = L at HO HSU hmk ⊢
      clear hc hx hkc2
      go_wp2_with (first
        | (go_at_call 83; refine HR1.out.mono ?_; rintro e w' ⟨rfl, rfl⟩)
        | (at_builtin; refine wpList_append_int rfl (.tmp 15) (.tmp 19) rfl (w.heap.size + 2) _ L rfl (HO.out.alloc _) _ _ rfl (cell_new1 _ _ _) (by omega) (by simp; omega) ?_; intro v2 w2 hown2 hb2))
      have HO2 := Lib.hid hown2
      have HB2 := Lib.hid ((HBE.out.alloc (by omega) _).trans hb2)
      clear hown2 hb2
      go_wp2_with fail
      go_roundw
      case rel => exact ⟨j + 1, by omega, by go_num, by rw [HSU.out]; exact HO2.out, HB2.out⟩
      case measure => simp [intOf]; omega
    · have hje : j = bs.length := by omega
      subst hje
      have HI := Lib.hid (HO.out.ints (addL_fit HOK.out k hk _))
      generalize addL k bs bs.length = L at HO HRO HI hmk ⊢
      go_wp2_with fail
      refine (HRO.out A1 c1 _ HI.out).mono ?_
      rintro e w2 ⟨A2, c2, rfl, hrw, hb2⟩
      have hz2 := hb2.size
      obtain ⟨f0, f1, f2, f3, f4⟩ := (HN.out.below HBE.out (by simp)).below hb2 (by simp; omega)
      simp only [World.size_alloc] at f0 f1 f2 f3
      go_wp2_with fail
      refine bodyPost_ret (v := .agg #[.int .i64 N, .slice A2 R.length c2]) (by simp [results, Tryz.results82, go_sem, f0, f1]) rfl ?_
      refine ⟨A2, c2, rfl, ?_, ?_⟩
      · exact ((hrw.far (p := ⟨w.heap.size + 1, 0, none⟩) (by simp; omega) _).far (p := ⟨w.heap.size + 1, 1, none⟩) (by simp; omega) _).mono (by omega)
      · exact (((HW.out.trans (HBE.out.mono (by omega))).trans (hb2.mono (by omega))).setCell (by simp) _).setCell (by simp) _

set_option maxRecDepth 100000 in
set_option maxHeartbeats 1000000 in
theorem impl_rotated_any (N : Nat) (A : Option Addr) (cap : Nat) (bs : List Int) (k : Nat) (w : World) (hA : Ints w w.heap.size A bs) (hok : RhOk N bs) (hk : k ≤ 1000) :
    Calls Tryz.prog 45 #[.agg #[.int .i64 N, .slice A bs.length cap], .int .i64 k] w (RetRh1 w N (rotL N bs k)) := by
  have HA := Lib.hid hA
  have HMV := Lib.hid (fun (b : Nat) (V : World) hV hb hc => impl_moved_any N A cap bs k b V hV hok hk hb hc)
  generalize rotL N bs k = R at HMV ⊢
  clear hA hok
  have HW := Lib.hid ((((Below.refl w.heap.size w).alloc (Nat.le_refl _) (.cells #[.int .i64 N, .slice A bs.length cap] 26)).alloc (by first | exact Nat.le_refl _ | (simp; done) | (simp; omega) | omega) (.cells #[.int .i64 k] 3)).alloc (by first | exact Nat.le_refl _ | (simp; done) | (simp; omega) | omega) (.cells #[.int .i64 0, .slice none 0 0] 26))
  have HG := Lib.hid (((Cells2.new w (.int .i64 N) (.slice A bs.length cap) 26).alloc (.cells #[.int .i64 k] 3)).alloc (.cells #[.int .i64 0, .slice none 0 0] 26))
  have HN := Lib.hid (Cells2.new ((w.alloc (.cells #[.int .i64 N, .slice A bs.length cap] 26)).alloc (.cells #[.int .i64 k] 3)) (.int .i64 0) (.slice none 0 0) 26)
  have HK := Lib.hid (show (((w.alloc (.cells #[.int .i64 N, .slice A bs.length cap] 26)).alloc (.cells #[.int .i64 k] 3)).alloc (.cells #[.int .i64 0, .slice none 0 0] 26)).cell? ⟨w.heap.size + 1, 0, none⟩ = some (.int .i64 k) by
    rw [((Below.refl (w.heap.size + 2) ((w.alloc (.cells #[.int .i64 N, .slice A bs.length cap] 26)).alloc (.cells #[.int .i64 k] 3))).alloc (by simp) (.cells #[.int .i64 0, .slice none 0 0] 26)).cell (p := ⟨w.heap.size + 1, 0, none⟩) (by simp)]
    simp)
  obtain ⟨g0, g1, _, _, _⟩ := HG.out
  go_enter Tryz.func45, Tryz.ntmps45
  go_wp2_with fail
  refine (HMV.out (w.heap.size + 1) _ (HA.out.lift HW.out) (by simp) HK.out).mono ?_
  rintro e w2 ⟨A2, c2, rfl, hrw, hb2⟩
  have hz2 := hb2.size
  obtain ⟨f0, f1, f2, f3, f4⟩ := HN.out.below hb2 (by simp)
  simp only [World.size_alloc] at f0 f1 f2 f3 hz2 hrw hb2
  go_wp2_with fail
  refine bodyPost_ret (v := .agg #[.int .i64 N, .slice A2 R.length c2]) (by simp [results, Tryz.results45, go_sem, f0, f1]) rfl ?_
  refine ⟨A2, c2, rfl, ?_, ?_⟩
  · exact ((hrw.far (p := ⟨w.heap.size + 2, 0, none⟩) (by simp) _).far (p := ⟨w.heap.size + 2, 1, none⟩) (by simp) _).mono (by omega)
  · exact ((HW.out.trans (hb2.mono (by omega))).setCell (p := ⟨w.heap.size + 2, 0, none⟩) (Nat.le_add_right _ _) _).setCell (p := ⟨w.heap.size + 2, 1, none⟩) (Nat.le_add_right _ _) _

end Go.Proofs.YthookknmeajojaaGreatDoor

namespace Go.Proofs.YthookknmeajojaaGreatDoor
open Go.RowKit Go.Shelf
set_option linter.unusedVariables false
set_option linter.unusedSimpArgs false

theorem Ints.drew3_ {w : World} {B : Nat} {A : Option Addr} {xs : List Int} (h : Ints w B A xs) : Ints w.drew B A xs := h
theorem Below.drew3_ {B : Nat} {a w : World} (h : Below B a w) : Below B a w.drew := ⟨h.os, h.tape, h.output, h.size, h.block⟩
theorem Below.drewL3_ {B : Nat} {a w : World} (h : Below B a w) : Below B a.drew w := ⟨h.os, h.tape, h.output, h.size, h.block⟩
theorem RW.drewN3_ {w : World} {base : Nat} {A : Option Addr} {xs : List Int} (h : RW w base A xs) : RW w.drew base A xs := h

theorem slices_Equal_any (A1 A2 : Option Addr) (c1 c2 : Nat) (xs ys : List Int) (w : World) (B1 B2 : Nat) (h1 : Ints w B1 A1 xs) (h2 : Ints w B2 A2 ys) :
    Calls Tryz.prog 116 #[.slice A1 xs.length c1, .slice A2 ys.length c2] w fun e w' => e = .returned (.bool (eqB xs ys)) ∧ ∃ q, w' = w.drewN q := by
  have hl1 := h1.1
  have hl2 := h2.1
  unfold maxLen at hl1 hl2
  by_cases hx : xs.length = ys.length
  · by_cases hp : 0 < xs.length
    · obtain ⟨b1, o1, rfl, _, _⟩ := h1.2.2 hp
      obtain ⟨b2, o2, rfl, _, _⟩ := h2.2.2 (by omega)
      refine (Any.slices_Equal_int Tryz.lays111 b1 o1 xs.length c1 b2 o2 ys.length c2 xs ys w (Nat.le_refl _) (Nat.le_refl _) (by omega) (by omega) (ints_cellsC h1) (ints_cellsC h2)).mono ?_
      rintro e w' ⟨rfl, q, rfl⟩
      rw [List.take_length, List.take_length]
      refine ⟨ret_bool ?_, q, rfl⟩
      unfold eqB
      rw [Bool.eq_iff_iff, beq_iff_eq, decide_eq_true_eq]
    · have e1 : xs = [] := List.eq_nil_of_length_eq_zero (by omega)
      have e2 : ys = [] := List.eq_nil_of_length_eq_zero (by omega)
      subst e1 e2
      refine (Any.slices_Equal_int_empty Tryz.lays111 A1 A2 c1 0 c2 w (by omega)).mono ?_
      rintro e w' ⟨rfl, rfl⟩
      exact ⟨rfl, 0, rfl⟩
  · refine (Any.slices_Equal_int_lens Tryz.lays111 A1 A2 xs.length c1 ys.length c2 w hx).mono ?_
    rintro e w' ⟨rfl, rfl⟩
    refine ⟨ret_bool ?_, 0, rfl⟩
    unfold eqB
    rw [eq_comm, decide_eq_false_iff_not]
    intro h
    exact hx (by rw [h])

set_option maxRecDepth 100000 in
set_option maxHeartbeats 400000 in
theorem impl_equals_any (n : Int) (A1 A2 : Option Addr) (c1 c2 : Nat) (xs ys : List Int) (w : World) (h1 : Ints w w.heap.size A1 xs) (h2 : Ints w w.heap.size A2 ys) :
    Calls Tryz.prog 70 #[.agg #[.int .i64 n, .slice A1 xs.length c1], .agg #[.int .i64 n, .slice A2 ys.length c2]] w fun e w' => e = .returned (.bool (eqB xs ys)) ∧ Below w.heap.size w w' := by
  have hW0 := ((Below.refl w.heap.size w).alloc (Nat.le_refl _) (.cells #[.int .i64 n, .slice A1 xs.length c1] 26)).alloc (by first | exact Nat.le_refl _ | (simp; done) | (simp; omega) | omega) (.cells #[.int .i64 n, .slice A2 ys.length c2] 26)
  have HW := Lib.hid hW0
  have HEQ := Lib.hid (fun (V : World) (hV : Below w.heap.size w V) => slices_Equal_any A1 A2 c1 c2 xs ys V w.heap.size w.heap.size (h1.below hV) (h2.below hV))
  obtain ⟨g0, g1, _, _, _⟩ := ((Cells2.new w (.int .i64 n) (.slice A1 xs.length c1) 26).alloc (.cells #[.int .i64 n, .slice A2 ys.length c2] 26))
  obtain ⟨k0, k1, _, _, _⟩ := (Cells2.new (w.alloc (.cells #[.int .i64 n, .slice A1 xs.length c1] 26)) (.int .i64 n) (.slice A2 ys.length c2) 26)
  simp only [World.size_alloc] at k0 k1
  have hnn : (n == n) = true := by simp
  generalize eqB xs ys = b at HEQ ⊢
  clear h1 h2 hW0
  go_enter Tryz.func70, Tryz.ntmps70
  go_wp2_with (go_at_call 116; refine (HEQ.out _ HW.out).mono ?_; rintro e w' ⟨rfl, q, rfl⟩)
  go_ret
  exact ⟨rfl, Below.drewN_ HW.out q⟩

set_option maxRecDepth 100000 in
set_option maxHeartbeats 1000000 in
theorem impl_period_any (N : Nat) (A : Option Addr) (cap : Nat) (bs : List Int) (w : World) (hA : Ints w w.heap.size A bs) (hok : RhOk N bs) :
    Calls Tryz.prog 44 #[.agg #[.int .i64 N, .slice A bs.length cap]] w fun e w' => e = .returned (.int .i64 (perV N bs)) ∧ Below w.heap.size w w' := by
  have hn1 : 1 ≤ N := by have := hok.1; omega
  have hn2 : N ≤ 24 := by have := hok.2.1; omega
  have HOK := Lib.hid hok
  have HA := Lib.hid hA
  have HFT := Lib.hid (fun k : Int => show ∀ x ∈ rotL N bs k, Fits x from fun x hx => by
    obtain ⟨t, ht, _, rfl⟩ := rotL_mem.1 hx
    unfold Fits
    omega)
  clear hA hok
  have HW := Lib.hid ((Below.refl w.heap.size w).alloc (Nat.le_refl _) (.cells #[.int .i64 N, .slice A bs.length cap] 26))
  have HG := Lib.hid (Cells2.new w (.int .i64 N) (.slice A bs.length cap) 26)
  go_enter Tryz.func44, Tryz.ntmps44
  go_wp2_with fail
  go_loopw [3] (fun s wr => ∃ k : Nat, 1 ≤ k ∧ k ≤ N ∧ s = .int .i64 k ∧ (∀ j, 1 ≤ j → j < k → perB N bs j = false) ∧ Below (w.heap.size + 1) (w.alloc (.cells #[.int .i64 N, .slice A bs.length cap] 26)) wr) (fun s _ => N - (intOf s).toNat)
  case atStart => exact ⟨1, by omega, hn1, rfl, fun j h1 h2 => by omega, Below.refl _ _⟩
  case round =>
    obtain ⟨k, hk1, hk, rfl, hno, hbel⟩ := hrel
    obtain ⟨wo, rfl⟩ : ∃ wo : World, wo = wr := ⟨_, rfl⟩
    have hws : w.heap.size + 1 ≤ wo.heap.size := by have := hbel.size; simpa using this
    have HNO := Lib.hid hno
    have HBE := Lib.hid hbel
    have HWW := Lib.hid (HW.out.trans (HBE.out.mono (by omega)))
    obtain ⟨c0, c1, _, _, _⟩ := HG.out.below hbel (by simp)
    have HRO := Lib.hid (fun (V : World) (hV : Ints V V.heap.size A bs) => impl_rotated_any N A cap bs k V hV HOK.out (by omega))
    have HEQ := Lib.hid (fun (A2 : Option Addr) (c2 : Nat) (V : World) (h1 : Ints V V.heap.size A2 (rotL N bs k)) (h2 : Ints V V.heap.size A bs) => impl_equals_any N A2 A c2 cap (rotL N bs k) bs V h1 h2)
    have HF2 := Lib.hid (HFT.out k)
    clear hno hbel
    obtain ⟨r, hr⟩ : ∃ r, perB N bs k = r := ⟨_, rfl⟩
    have HR := Lib.hid hr
    rw [show eqB (rotL N bs k) bs = r from hr] at HEQ
    generalize rotL N bs k = L at HRO HEQ HF2
    clear hr
    cases r
    all_goals
      go_wp2_with fail
      (refine wp_region_held_drew (S := (fun w' => w'.cell? ⟨w.heap.size, 0, none⟩ = some (.int .i64 N) ∧ w'.cell? ⟨w.heap.size, 1, none⟩ = some (.slice A bs.length cap))) (by kernel_rfl) ?_ (fun hHeld => ?_); (focus ((try dsimp only); exact ⟨c0, c1⟩)))
      (refine wpAnyH_take (i := 0) (v := ?_) rfl (by kernel_rfl) (by kernel_rfl) (by kernel_rfl) (fun _ _ _ h => h) (Or.inl ⟨by rfl, ?_⟩) (by assumption) ?_; rotate_left; (focus (intro wS hSw; (try dsimp only at hSw); go_simp; (try with_reducible rfl))); (try simp only [Act.put, List.getElem_toArray, List.getElem_cons_zero, List.getElem_cons_succ, List.setIfInBounds_toArray, List.set_cons_zero, List.set_cons_succ]))
      (refine wpAnyH_take (i := 1) (v := ?_) rfl (by kernel_rfl) (by kernel_rfl) (by kernel_rfl) (fun _ _ _ h => h) (Or.inl ⟨by rfl, ?_⟩) (by assumption) ?_; rotate_left; (focus (intro wS hSw; (try dsimp only at hSw); go_simp; (try with_reducible rfl))); (try simp only [Act.put, List.getElem_toArray, List.getElem_cons_zero, List.getElem_cons_succ, List.setIfInBounds_toArray, List.set_cons_zero, List.set_cons_succ]))
      (refine wpAnyH_take (i := 3) (v := ?_) rfl (by kernel_rfl) (by kernel_rfl) (by kernel_rfl) (fun _ _ _ h => h) (Or.inl ⟨by rfl, ?_⟩) (by assumption) ?_; rotate_left; (focus (intro wS hSw; (try dsimp only at hSw); go_simp; (try with_reducible rfl))); (try simp only [Act.put, List.getElem_toArray, List.getElem_cons_zero, List.getElem_cons_succ, List.setIfInBounds_toArray, List.set_cons_zero, List.set_cons_succ]))
      (refine wpAnyH_ready (rs := [2]) (by kernel_rfl) (by simp) ?_; refine AllReadyH.cons rfl (fun K hK => ?_) AllReadyH.nil; go_simp)
      go_at_call 45
      refine (HRO.out _ (HA.out.lift HWW.out).drew3_).mono ?_
      rintro e w1 ⟨A2, c2, rfl, hrw, hb1⟩
      have hz1 : wo.heap.size ≤ w1.heap.size := hb1.size
      have HI1 := Lib.hid (hrw.ints HF2.out)
      have HB1 := Lib.hid (show Below wo.heap.size wo.drew w1 from hb1)
      have HWX := Lib.hid ((Below.drew3_ HWW.out).trans (HB1.out.mono (Nat.le_trans (Nat.le_succ _) hws)))
      clear hrw hb1
      go_wp2_with fail
      have hcc := (bcellB HB1.out).1
      have d0 := (hcc w.heap.size 0 (by omega)).trans c0
      have d1 := (hcc w.heap.size 1 (by omega)).trans c1
      clear hcc
      (refine hK.out _ _ ?_ (fun hHeld2 => ?_); (focus ((try dsimp only); exact ⟨d0, d1⟩)); (clear hK K); (try simp only [Act.put, List.getElem_toArray, List.getElem_cons_zero, List.getElem_cons_succ, List.setIfInBounds_toArray, List.set_cons_zero, List.set_cons_succ]))
      (refine wpAnyH_ready (rs := [4]) (by kernel_rfl) (by simp) ?_; refine AllReadyH.cons rfl (fun K hK => ?_) AllReadyH.nil; go_simp)
      go_at_call 70
      refine (HEQ.out A2 c2 _ HI1.out (HA.out.lift HWX.out)).mono ?_
      rintro e w2 ⟨rfl, hb2⟩
      have hcc2 := (bcellB hb2).1
      have e0 := (hcc2 w.heap.size 0 (by omega)).trans d0
      have e1 := (hcc2 w.heap.size 1 (by omega)).trans d1
      have HBY := Lib.hid (((Below.drew3_ HBE.out).trans (HB1.out.mono hws)).trans (hb2.mono (Nat.le_trans hws hz1)))
      clear hb2 hcc2 c0 c1 d0 d1
      go_wp2_with fail
      (refine hK.out _ _ ?_ (fun hHeld2 => ?_); (focus ((try dsimp only); exact ⟨e0, e1⟩)); (clear hK K); (try simp only [Act.put, List.getElem_toArray, List.getElem_cons_zero, List.getElem_cons_succ, List.setIfInBounds_toArray, List.set_cons_zero, List.set_cons_succ]))
      (refine wpAnyH_take (i := 5) (v := ?_) rfl (by kernel_rfl) (by kernel_rfl) (by kernel_rfl) (fun _ _ _ h => h) (Or.inl ⟨by rfl, ?_⟩) (by assumption) ?_; rotate_left; (focus (intro wS hSw; (try dsimp only at hSw); go_simp; (try with_reducible rfl))); (try simp only [Act.put, List.getElem_toArray, List.getElem_cons_zero, List.getElem_cons_succ, List.setIfInBounds_toArray, List.set_cons_zero, List.set_cons_succ]))
      refine wpAnyH_done (by kernel_rfl) ?_ _
    · have hkN : k < N := by
        apply Classical.byContradiction
        intro hh
        have e : k = N := by omega
        have h3 := HR.out
        rw [e, perB_all HOK.out] at h3
        cases h3
      go_wp2_with fail
      go_roundw
      case rel =>
        refine ⟨k + 1, by omega, by omega, by go_num, fun j h1 h2 => ?_, HBY.out⟩
        by_cases e : j = k
        · subst e; exact HR.out
        · exact HNO.out j h1 (by omega)
      case measure => simp [intOf]; omega
    · have HP := Lib.hid (perV_unique HOK.out hk1 HR.out HNO.out)
      go_wp2_with fail
      go_ret
      exact ⟨ret_int (by rw [HP.out]), HW.out.trans (HBY.out.mono (by omega))⟩

end Go.Proofs.YthookknmeajojaaGreatDoor

namespace Go.Proofs.YthookknmeajojaaGreatDoor
open Go.RowKit
set_option linter.unusedVariables false
set_option linter.unusedSimpArgs false

theorem eqB_noE {xs ys : List Int} {k : Nat} (h1 : k < xs.length) (h2 : k < ys.length) (h : xs.getD k 0 ≠ ys.getD k 0) : eqB xs ys = false := by
  unfold eqB
  exact decide_eq_false fun e => h (by rw [e])
theorem eqB_yesE {xs ys : List Int} (hl : xs.length = ys.length) (h : ∀ k, k < xs.length → xs.getD k 0 = ys.getD k 0) : eqB xs ys = true := by
  unfold eqB
  refine decide_eq_true (List.ext_getElem hl fun i h1 h2 => ?_)
  have := h i h1
  rw [List.getD_eq_getElem?_getD, List.getD_eq_getElem?_getD, List.getElem?_eq_getElem h1, List.getElem?_eq_getElem h2] at this
  exact this

set_option maxRecDepth 100000 in
set_option maxHeartbeats 1000000 in
theorem laws_sameE_any (A B : Option Addr) (ca cb : Nat) (xs ys : List Int) (w : World) (hA : Ints w w.heap.size A xs) (hB : Ints w w.heap.size B ys) (hl : xs.length = ys.length) :
    Calls Tryz.prog 36 #[.slice A xs.length ca, .slice B ys.length cb] w fun e w' => e = .returned (.bool (eqB xs ys)) ∧ w = w' := by
  have hl1 := hA.1
  unfold maxLen at hl1
  have HA := Lib.hid hA.2.2
  have HB := Lib.hid hB.2.2
  have HL := Lib.hid hl
  rw [← hl]
  clear hA hB hl
  go_enter Tryz.func36, Tryz.ntmps36
  go_wp2
  go_loop [14] (fun i => ∃ k : Nat, k ≤ xs.length ∧ i = .int .i64 k ∧ ∀ j, j < k → xs.getD j 0 = ys.getD j 0) (fun i => xs.length - (intOf i).toNat)
  case atStart => exact ⟨0, Nat.zero_le _, rfl, fun j h => by omega⟩
  case round =>
    obtain ⟨k, hk, rfl, hall⟩ := hrel
    have HALL := Lib.hid hall
    clear hall
    by_cases hlt : k < xs.length
    · obtain ⟨b, off, rfl, hB1, hc1⟩ := HA.out (by omega)
      obtain ⟨b2, off2, rfl, hB2, hc2⟩ := HB.out (by rw [← HL.out]; omega)
      have hcell1 := hc1 k hlt
      have hcell2 := hc2 k (by rw [← HL.out]; exact hlt)
      have HNO := Lib.hid (fun h => eqB_noE (xs := xs) (ys := ys) (k := k) hlt (by rw [← HL.out]; exact hlt) h)
      have HALL' := Lib.hid (fun (h : xs.getD k 0 = ys.getD k 0) => show ∀ j, j < k + 1 → xs.getD j 0 = ys.getD j 0 from fun j hj => by
        by_cases e : j = k
        · rw [e]; exact h
        · exact HALL.out j (by omega))
      generalize xs.getD k 0 = x at hcell1 HNO HALL'
      generalize ys.getD k 0 = y at hcell2 HNO HALL'
      clear hc1 hc2
      by_cases hxy : x = y
      · subst hxy
        have HN := Lib.hid (HALL'.out rfl)
        go_wp2
        go_round
        case rel => exact ⟨k + 1, by omega, by go_num, HN.out⟩
        case measure => simp [intOf]; omega
      · have hxy2 : (x != y) = true := by rw [bne_iff_ne]; exact hxy
        have HF := Lib.hid (HNO.out hxy)
        go_wp2
        go_ret
        exact ⟨ret_bool HF.out.symm, rfl⟩
    · have HT := Lib.hid (show eqB xs ys = true from eqB_yesE HL.out fun j hj => HALL.out j (by omega))
      go_wp2
      go_ret
      exact ⟨ret_bool HT.out.symm, rfl⟩

set_option maxHeartbeats 400000 in
theorem laws_rhythmsE_any (n : Int) (A B : Option Addr) (ca cb : Nat) (xs ys : List Int) (w : World) (hA : Ints w w.heap.size A xs) (hB : Ints w w.heap.size B ys) (hl : xs.length = ys.length) :
    Calls Tryz.prog 35 #[.agg #[.int .i64 n, .slice A xs.length ca], .agg #[.int .i64 n, .slice B ys.length cb]] w fun e w' => e = .returned (.bool (eqB xs ys)) ∧ Below w.heap.size w w' := by
  have HW := Lib.hid (((Below.refl w.heap.size w).alloc (Nat.le_refl _) (.cells #[.int .i64 n, .slice A xs.length ca] 26)).alloc (by first | exact Nat.le_refl _ | (simp; done) | (simp; omega) | omega) (.cells #[.int .i64 n, .slice B ys.length cb] 26))
  have HS := Lib.hid (laws_sameE_any A B ca cb xs ys _ (hA.lift HW.out) (hB.lift HW.out) hl)
  obtain ⟨c0, c1⟩ := box2 ((Below.refl (w.heap.size + 1) (w.alloc (.cells #[.int .i64 n, .slice A xs.length ca] 26))).alloc (by first | exact Nat.le_refl _ | (simp; done) | (simp; omega) | omega) (.cells #[.int .i64 n, .slice B ys.length cb] 26))
  obtain ⟨d0, d1⟩ := box2 (Below.refl ((w.alloc (.cells #[.int .i64 n, .slice A xs.length ca] 26)).heap.size + 1) ((w.alloc (.cells #[.int .i64 n, .slice A xs.length ca] 26)).alloc (.cells #[.int .i64 n, .slice B ys.length cb] 26)))
  simp only [World.size_alloc] at d0 d1
  clear hA hB hl
  generalize eqB xs ys = q at HS ⊢
  go_enter Tryz.func35, Tryz.ntmps35
  go_wp2_with fail
  refine HS.out.mono ?_
  rintro e w1 ⟨rfl, rfl⟩
  go_wp2_with fail
  go_ret
  exact ⟨rfl, HW.out⟩

end Go.Proofs.YthookknmeajojaaGreatDoor

