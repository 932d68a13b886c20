/-
  Several texts of this proof in one: MetS, MetR, MetB.
-/
import Derived.Test.YthookknmeajojaaGreatDoorTyD
import Derived.Test.YthookknmeajojaaGreatDoorTyA
import Derived.Test.YthookknmeajojaaGreatDoorMetN
import Derived.WalkSpells
import Derived.Lib.LazyBuf
namespace Go.Proofs.YthookknmeajojaaGreatDoor
open Go.RowKit
set_option linter.unusedVariables false
set_option linter.unusedSimpArgs false

theorem met_step {n : Int} {bs : List Int} (h : rhB n bs = true) {i : Nat} (hi : i < bs.length) : ∃ s : Nat, (stepsL n bs).getD i 0 = s ∧ 1 ≤ s ∧ s ≤ 24 := by
  have hl := stepsL_len n bs
  have := (stepsOf_fit n bs).2 ((stepsL n bs).getD i 0) (by
    rw [stepsOf_ok h, List.getD_eq_getElem?_getD, List.getElem?_eq_getElem (by omega)]
    exact List.getElem_mem _)
  obtain ⟨s, hs⟩ := Int.eq_ofNat_of_zero_le (show 0 ≤ (stepsL n bs).getD i 0 by omega)
  exact ⟨s, hs, by omega, by omega⟩
theorem metb_len {N : Nat} {bs : List Int} (hok : RhOk N bs) : bs.length ≤ N := by have := hok.len; omega

end Go.Proofs.YthookknmeajojaaGreatDoor

namespace Go.Proofs.YthookknmeajojaaGreatDoor
open Go.RowKit
set_option linter.unusedVariables false
set_option linter.unusedSimpArgs false

end Go.Proofs.YthookknmeajojaaGreatDoor

namespace Go.Proofs.YthookknmeajojaaGreatDoor
open Go.RowKit Go.Shelf
set_option linter.unusedVariables false
set_option linter.unusedSimpArgs false

def mtrL (N : Nat) : List (List Int) := if 2 ≤ N then metL 6 N [] else []
theorem mtrL_ok {N : Nat} (h2 : N ≤ 24) {x : List Int} (hx : x ∈ mtrL N) : MetOk x ∧ prd x = N := by
  unfold mtrL at hx
  split at hx
  · exact metL_ok (by omega) h2 hx
  · cases hx
theorem mtrL_len {N : Nat} (h2 : N ≤ 24) : (mtrL N).length ≤ 100 := by
  unfold mtrL
  split
  · exact metL_len (by omega) h2
  · exact Nat.zero_le _
def RetMt (w : World) (L : List (List Int)) (e : Ending) (w' : World) : Prop := ∃ v rs, e = .returned v ∧ OwnW w' w.heap.size v rs ∧ rs.map SV.xs = L ∧ Below w.heap.size w w'

set_option maxHeartbeats 400000 in
theorem spec_MetersOf_new (N : Nat) (w : World) (h1 : 1 ≤ N) (h2 : N ≤ 24) : Calls Tryz.prog 98 #[.int .i64 N] w fun e w' => ∃ v rs, e = .returned v ∧ OwnW w' w.heap.size v rs ∧ NewK w.heap.size rs (mtrL N) ∧ Below w.heap.size w w' := by
  by_cases hN : 2 ≤ N
  · have hin : inB (N : Int) 2 24 = true := inB_true ⟨by omega, by omega⟩
    have HL := Lib.hid (show mtrL N = metL 6 N [] from if_pos hN)
    have HO0 := Lib.hid (show OwnW ((w.alloc (.cells #[] 3)).alloc (.cells #[] 24)) w.heap.size (.slice (some ⟨w.heap.size + 1, 0, none⟩) 0 0) [] from by
      have := World.ownsRow_lit (base := w.heap.size) (e := 24) (size := 1) (w.alloc (.cells #[] 3)) #[] 0 (by simp) (by unfold maxLen; omega) rfl
      rw [World.size_alloc] at this
      exact ⟨this, fun r hr => by cases hr⟩)
    have HM := Lib.hid (spec_l18Meters_any 6 N [] (some ⟨w.heap.size, 0, none⟩) 0 w.heap.size _ [] _ rfl (by omega) h1 h2 (Nat.zero_le _) (Ints.none_ _) (fun h => absurd h (Nat.lt_irrefl 0)) ⟨_, _, rfl, fun h => absurd h (Nat.lt_irrefl 0)⟩ HO0.out (by simp; omega) (by decide))
    have HB := Lib.hid (((Below.refl w.heap.size w).alloc (Nat.le_refl _) (.cells #[] 3)).alloc (by simp) (.cells #[] 24))
    generalize metL 6 N [] = L at *
    rw [List.length_nil] at HM
    clear HO0
    go_enter Tryz.func98, Tryz.ntmps98
    go_wp2_with (go_at_call 48; refine (l01In_any _ _ _ _).mono ?_; rintro e w' ⟨rfl, rfl⟩)
    refine HM.out.mono ?_
    rintro e w1 ⟨v, rs, rfl, hown, hkey, hfr, _⟩
    rw [List.nil_append] at hown
    have HO := Lib.hid hown
    have HF := Lib.hid hfr
    clear hown hfr
    go_wp2_with fail
    go_ret
    exact ⟨v, rs, rfl, HO.out, ⟨hkey.1.trans HL.out.symm, hkey.2⟩, HB.out.trans (HF.out.below (fun c hc => by have hc2 : some (w.heap.size + 1) = some c := hc; injection hc2; omega) (by simp; omega))⟩
  · have hin : inB (N : Int) 2 24 = false := inB_false (by omega)
    have HL := Lib.hid (show mtrL N = [] from if_neg hN)
    go_enter Tryz.func98, Tryz.ntmps98
    go_wp2_with (go_at_call 48; refine (l01In_any _ _ _ _).mono ?_; rintro e w' ⟨rfl, rfl⟩)
    go_ret
    rw [HL.out]
    exact ⟨_, [], rfl, OwnW.nil _ _, ⟨rfl, fun r hr => by cases hr⟩, Below.refl _ _⟩
theorem spec_MetersOf_any (N : Nat) (w : World) (h1 : 1 ≤ N) (h2 : N ≤ 24) : Calls Tryz.prog 98 #[.int .i64 N] w (RetMt w (mtrL N)) := (spec_MetersOf_new N w h1 h2).mono fun e w' h => by
  obtain ⟨v, rs, a, b, c, d⟩ := h
  exact ⟨v, rs, a, b, c.1, d⟩

/-- The best meter, by its number in the list. -/
def bstM (N : Nat) (bs : List Int) (j : Nat) : List Int := (mtrL N).getD (bstI (fun i => syncV N bs ((mtrL N).getD i [])) j) []
theorem bstM_mem {N : Nat} {bs : List Int} {j : Nat} (h1 : 1 ≤ j) (h2 : j ≤ (mtrL N).length) : bstM N bs j ∈ mtrL N := by
  have := bstI_lt (fun i => syncV N bs ((mtrL N).getD i [])) j h1
  unfold bstM
  rw [List.getD_eq_getElem?_getD, List.getElem?_eq_getElem (by omega)]
  exact List.getElem_mem _

theorem getD_xs (rs : List SV) (i : Nat) : (rs.map SV.xs).getD i [] = (rs.getD i ⟨[], none, 0⟩).xs := by
  rw [List.getD_eq_getElem?_getD, List.getD_eq_getElem?_getD, List.getElem?_map]
  cases rs[i]? <;> rfl
def rowF (N : Nat) (bs : List Int) (rs : List SV) (i : Nat) : Int := syncV N bs (rs.getD i ⟨[], none, 0⟩).xs
theorem bstM_row {N : Nat} {bs : List Int} {rs : List SV} (h : rs.map SV.xs = mtrL N) (j : Nat) : bstM N bs j = (rs.getD (bstI (rowF N bs rs) j) ⟨[], none, 0⟩).xs := by
  have hf : (fun i => syncV N bs ((mtrL N).getD i [])) = rowF N bs rs := by
    funext i
    unfold rowF
    rw [← h, getD_xs]
  unfold bstM
  rw [hf, ← h, getD_xs]
theorem bstI_stay {f : Nat → Int} {j : Nat} (h : ¬ f j < f (bstI f j)) : bstI f (j + 1) = bstI f j := by
  by_cases h0 : j = 0
  · subst h0; rfl
  · exact bstI_no h0 h
theorem bstI_take {f : Nat → Int} {j : Nat} (h : f j < f (bstI f j)) : bstI f (j + 1) = j := by
  by_cases h0 : j = 0
  · subst h0; rfl
  · exact bstI_yes h0 h
theorem bstI_le (f : Nat → Int) {j n : Nat} (h : j ≤ n) (hn : 0 < n) : bstI f j < n := by
  by_cases h0 : j = 0
  · subst h0; exact hn
  · have := bstI_lt f j (by omega); omega

/-- What BestMeter hands back. -/
def RetBest (w : World) (N : Nat) (bs : List Int) (e : Ending) (w' : World) : Prop :=
  Below w.heap.size w w' ∧ ((mtrL N = [] ∧ e = .returned (.tuple #[.slice none 0 0, .bool false])) ∨
    ∃ A c, mtrL N ≠ [] ∧ e = .returned (.tuple #[.slice A (bstM N bs (mtrL N).length).length c, .bool true]) ∧ Ints w' w'.heap.size A (bstM N bs (mtrL N).length) ∧ (bstM N bs (mtrL N).length).length ≤ c)

end Go.Proofs.YthookknmeajojaaGreatDoor

