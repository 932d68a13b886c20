/-
  Several texts of this proof in one: Rok, StepsL, Srok, StepsOf.
-/
import Derived.Test.YthookknmeajojaaGreatDoorIntW
import Derived.Test.YthookknmeajojaaGreatDoorOwn
namespace Go.Proofs.YthookknmeajojaaGreatDoor
open Go.RowKit
set_option linter.unusedVariables false
set_option linter.unusedSimpArgs false

set_option maxHeartbeats 400000 in
theorem impl_RhythmOk_bad (n : Int) (A : Option Addr) (cap : Nat) (bs : List Int) (w : World) (hn : Fits n) (hA : Ints w w.heap.size A bs) (hbad : ¬ (1 ≤ n ∧ n ≤ 24)) :
    Calls Tryz.prog 41 #[.agg #[.int .i64 n, .slice A bs.length cap]] w fun e w' => e = .returned (.bool false) ∧ Below w.heap.size w w' := by
  obtain ⟨hlen, hfit, hcells⟩ := hA
  unfold maxLen at hlen
  unfold Fits at hn
  have HF := Lib.hid hfit
  have HC := Lib.hid hcells
  have HI := Lib.hid (inB_false hbad)
  clear hfit hcells
  go_enter Tryz.func41, Tryz.ntmps41
  go_wp2
  go_loop [8] (fun i => ∃ k : Nat, k ≤ bs.length ∧ i = .int .i64 k) (fun i => bs.length - (intOf i).toNat)
  case atStart => exact ⟨0, Nat.zero_le _, rfl⟩
  case round =>
    obtain ⟨k, hk, rfl⟩ := hrel
    by_cases hlt : k < bs.length
    · obtain ⟨b, off, rfl, hB, hc⟩ := HC.out (by omega)
      have hcell := hc k hlt
      have hcell1 := hc (k - 1) (by omega)
      obtain ⟨x, hx⟩ : ∃ x, bs.getD k 0 = x := ⟨_, rfl⟩
      obtain ⟨y, hy⟩ : ∃ y, bs.getD (k - 1) 0 = y := ⟨_, rfl⟩
      rw [hx] at hcell
      rw [hy] at hcell1
      clear hx hy hc
      go_wp2_with (go_at_call 39; refine (within_any _ _ _ _).mono ?_; rintro e w' ⟨rfl, rfl⟩)
      all_goals first
        | (go_ret; exact ⟨rfl, (by repeat (first | exact Below.refl _ _ | assumption | (refine Below.alloc ?_ (by first | exact Nat.le_refl _ | (simp; done) | (simp; omega) | omega) _) | (refine Below.drew ?_) | (refine Below.setCell ?_ (by first | exact Nat.le_refl _ | (simp; done) | (simp; omega) | omega) _)))⟩)
        | (go_round
           case rel => exact ⟨k + 1, by omega, by go_num⟩
           case measure => simp [intOf]; omega)
    · go_wp2_with (go_at_call 39; refine (within_any _ _ _ _).mono ?_; rintro e w' ⟨rfl, rfl⟩)
      go_ret
      exact ⟨by rw [HI.out]; rfl, (by repeat (first | exact Below.refl _ _ | assumption | (refine Below.alloc ?_ (by first | exact Nat.le_refl _ | (simp; done) | (simp; omega) | omega) _) | (refine Below.drew ?_) | (refine Below.setCell ?_ (by first | exact Nat.le_refl _ | (simp; done) | (simp; omega) | omega) _)))⟩

set_option maxHeartbeats 400000 in
theorem impl_RhythmOk_size (n : Int) (A : Option Addr) (cap : Nat) (bs : List Int) (w : World) (hA : Ints w w.heap.size A bs) (h1 : 1 ≤ n) (h24 : n ≤ 24) :
    Calls Tryz.prog 41 #[.agg #[.int .i64 n, .slice A bs.length cap]] w fun e w' => e = .returned (.bool (rhB n bs)) ∧ Below w.heap.size w w' := by
  obtain ⟨hlen, hfit, hcells⟩ := hA
  unfold maxLen at hlen
  have HF := Lib.hid hfit
  have HC := Lib.hid hcells
  have HI := Lib.hid (inB_true ⟨h1, h24⟩)
  clear hfit hcells
  go_enter Tryz.func41, Tryz.ntmps41
  go_wp2
  go_loop [8] (fun i => ∃ k : Nat, RhPre n bs k ∧ i = .int .i64 k) (fun i => bs.length - (intOf i).toNat)
  case atStart => exact ⟨0, RhPre.zero _ _, rfl⟩
  case round =>
    obtain ⟨k, hpre, rfl⟩ := hrel
    have hk := hpre.1
    have HP := Lib.hid hpre
    clear hpre
    by_cases hlt : k < bs.length
    · obtain ⟨b, off, rfl, hB, hc⟩ := HC.out (by omega)
      have hcell := hc k hlt
      have hcell1 := hc (k - 1) (by omega)
      obtain ⟨x, hx⟩ : ∃ x, bs.getD k 0 = x := ⟨_, rfl⟩
      obtain ⟨y, hy⟩ : ∃ y, bs.getD (k - 1) 0 = y := ⟨_, rfl⟩
      rw [hx] at hcell
      rw [hy] at hcell1
      have HX := Lib.hid hx
      have HY := Lib.hid hy
      clear hx hy hc
      go_wp2_with (go_at_call 39; refine (within_any _ _ _ _).mono ?_; rintro e w' ⟨rfl, rfl⟩)
      all_goals first
        | (go_ret; exact ⟨ret_bool (rh_fail1 hlt HX.out ‹_›).symm, (by repeat (first | exact Below.refl _ _ | assumption | (refine Below.alloc ?_ (by first | exact Nat.le_refl _ | (simp; done) | (simp; omega) | omega) _) | (refine Below.drew ?_) | (refine Below.setCell ?_ (by first | exact Nat.le_refl _ | (simp; done) | (simp; omega) | omega) _)))⟩)
        | (go_ret; exact ⟨ret_bool (rh_fail2 hlt HX.out HY.out ‹_› ‹_›).symm, (by repeat (first | exact Below.refl _ _ | assumption | (refine Below.alloc ?_ (by first | exact Nat.le_refl _ | (simp; done) | (simp; omega) | omega) _) | (refine Below.drew ?_) | (refine Below.setCell ?_ (by first | exact Nat.le_refl _ | (simp; done) | (simp; omega) | omega) _)))⟩)
        | (go_round
           case rel => exact ⟨k + 1, HP.out.step hlt HX.out HY.out ‹_› (fun _ => by first | assumption | omega), by go_num⟩
           case measure => simp [intOf]; omega)
    · have hke : k = bs.length := by omega
      subst hke
      have HR := Lib.hid (HP.out.done h1 h24)
      go_wp2_with (go_at_call 39; refine (within_any _ _ _ _).mono ?_; rintro e w' ⟨rfl, rfl⟩)
      go_ret
      exact ⟨by rw [HI.out, HR.out]; rfl, (by repeat (first | exact Below.refl _ _ | assumption | (refine Below.alloc ?_ (by first | exact Nat.le_refl _ | (simp; done) | (simp; omega) | omega) _) | (refine Below.drew ?_) | (refine Below.setCell ?_ (by first | exact Nat.le_refl _ | (simp; done) | (simp; omega) | omega) _)))⟩

theorem impl_RhythmOk_any (n : Int) (A : Option Addr) (cap : Nat) (bs : List Int) (w : World) (hn : Fits n) (hA : Ints w w.heap.size A bs) :
    Calls Tryz.prog 41 #[.agg #[.int .i64 n, .slice A bs.length cap]] w fun e w' => e = .returned (.bool (rhB n bs)) ∧ Below w.heap.size w w' := by
  by_cases h : 1 ≤ n ∧ n ≤ 24
  · exact impl_RhythmOk_size n A cap bs w hA h.1 h.2
  · rw [rhB_bad h]
    exact impl_RhythmOk_bad n A cap bs w hn hA h

end Go.Proofs.YthookknmeajojaaGreatDoor

namespace Go.Proofs.YthookknmeajojaaGreatDoor
open Go.RowKit
set_option linter.unusedVariables false
set_option linter.unusedSimpArgs false

def stepAt (n : Int) (bs : List Int) (i : Nat) : Int := if i + 1 < bs.length then bs.getD (i + 1) 0 - bs.getD i 0 else n + bs.getD 0 0 - bs.getD i 0
/-- The first k steps. -/
def stepsK (n : Int) (bs : List Int) (k : Nat) : List Int := (List.range k).map (stepAt n bs)
def stepsL (n : Int) (bs : List Int) : List Int := stepsK n bs bs.length
theorem stepsK_zero (n : Int) (bs : List Int) : stepsK n bs 0 = [] := rfl
theorem stepsK_succ (n : Int) (bs : List Int) (k : Nat) : stepsK n bs (k + 1) = stepsK n bs k ++ [stepAt n bs k] := by simp [stepsK, List.range_succ]
theorem stepsK_len (n : Int) (bs : List Int) (k : Nat) : (stepsK n bs k).length = k := by simp [stepsK]
theorem stepsL_len (n : Int) (bs : List Int) : (stepsL n bs).length = bs.length := stepsK_len _ _ _
theorem stepAt_more {n : Int} {bs : List Int} {k : Nat} {x y : Int} (h : k + 1 < bs.length) (hx : bs.getD k 0 = x) (hy : bs.getD (k + 1) 0 = y) : stepAt n bs k = y - x := by
  unfold stepAt; rw [if_pos h, hx, hy]
theorem stepAt_last {n : Int} {bs : List Int} {k : Nat} {x z : Int} (h : ¬ k + 1 < bs.length) (hx : bs.getD k 0 = x) (hz : bs.getD 0 0 = z) : stepAt n bs k = n + z - x := by
  unfold stepAt; rw [if_neg h, hx, hz]

theorem RhOk.beat {n : Int} {bs : List Int} (h : RhOk n bs) {i : Nat} (hi : i < bs.length) : 0 ≤ bs.getD i 0 ∧ bs.getD i 0 < n := h.2.2.1 i hi
theorem RhOk.mono {n : Int} {bs : List Int} (h : RhOk n bs) : ∀ (j i : Nat), i < j → j < bs.length → bs.getD i 0 + (j - i : Int) ≤ bs.getD j 0
  | 0, i, hi, _ => by omega
  | j + 1, i, hi, hj => by
    have h1 := h.2.2.2 j hj
    by_cases e : i = j
    · subst e; omega
    · have := RhOk.mono h j i (by omega) (by omega)
      omega
theorem RhOk.len {n : Int} {bs : List Int} (h : RhOk n bs) : (bs.length : Int) ≤ n := by
  by_cases h0 : bs.length = 0
  · have := h.1; omega
  · have h1 := h.beat (i := bs.length - 1) (by omega)
    by_cases h2 : bs.length = 1
    · have := h.1; omega
    · have h3 := h.mono (bs.length - 1) 0 (by omega) (by omega)
      have h4 := h.beat (i := 0) (by omega)
      omega
theorem stepAt_pos {n : Int} {bs : List Int} (h : RhOk n bs) {i : Nat} (hi : i < bs.length) : 1 ≤ stepAt n bs i ∧ stepAt n bs i ≤ n := by
  unfold stepAt
  split
  · rename_i h1
    have a := h.beat h1
    have b := h.beat hi
    have c := h.2.2.2 i h1
    omega
  · have b := h.beat hi
    have a := h.beat (i := 0) (by omega)
    by_cases e : i = 0
    · subst e; have := h.1; omega
    · have c := h.mono i 0 (by omega) hi
      omega
theorem stepsK_fit {n : Int} {bs : List Int} (h : RhOk n bs) (k : Nat) (hk : k ≤ bs.length) : ∀ x ∈ stepsK n bs k, 1 ≤ x ∧ x ≤ 24 := by
  intro x hx
  obtain ⟨i, hi, rfl⟩ := List.mem_map.1 hx
  have hi := List.mem_range.1 hi
  have := stepAt_pos h (i := i) (by omega)
  have := h.2.1
  omega

/-- A list of ints in new memory: what a call hands back. -/
def RetInts (w : World) (xs : List Int) (e : Ending) (w' : World) : Prop := ∃ A cap, e = .returned (.slice A xs.length cap) ∧ Ints w' w'.heap.size A xs ∧ Below w.heap.size w w'

set_option maxRecDepth 100000 in
set_option maxHeartbeats 1000000 in
theorem impl_steps_any (n : Int) (A : Option Addr) (cap : Nat) (bs : List Int) (w : World) (hA : Ints w w.heap.size A bs) (hok : RhOk n bs) :
    Calls Tryz.prog 122 #[.agg #[.int .i64 n, .slice A bs.length cap]] w (RetInts w (stepsL n bs)) := by
  have hn1 := hok.1
  have hn2 := hok.2.1
  have hlen := hok.len
  have HC := Lib.hid hA.2.2
  have HOK := Lib.hid hok
  clear hA hok
  go_enter Tryz.func122, Tryz.ntmps122
  go_wp2
  go_loopw [3, 9] (fun v i wr => ∃ k : Nat, k ≤ bs.length ∧ i = .int .i64 k ∧ OwnI wr (w.heap.size + 1) v (stepsK n bs k) ∧ Below (w.heap.size + 1) (w.alloc (.cells #[.int .i64 n, .slice A bs.length cap] 26)) wr) (fun _ i _ => bs.length - (intOf i).toNat)
  case atStart => exact ⟨0, Nat.zero_le _, rfl, OwnI.nil _ _, Below.refl _ _⟩
  case round =>
    obtain ⟨k, hk, rfl, hown, hbel⟩ := hrel
    have hz := hbel.size
    simp only [World.size_alloc] at hz
    obtain ⟨A1, c1, rfl⟩ := hown.form
    obtain ⟨hcb, hfb⟩ := bcellB hbel
    by_cases hlt : k < bs.length
    · obtain ⟨b, off, rfl, hB, hc⟩ := HC.out (by omega)
      have hcell := hc k hlt
      have hcell0 := hc 0 (by omega)
      have hbx := HOK.out.beat hlt
      have hbz := HOK.out.beat (i := 0) (by omega)
      obtain ⟨x, hx⟩ : ∃ x, bs.getD k 0 = x := ⟨_, rfl⟩
      obtain ⟨z, hz0⟩ : ∃ z, bs.getD 0 0 = z := ⟨_, rfl⟩
      rw [hx] at hcell hbx
      rw [hz0] at hcell0 hbz
      have hcell' : wr.cell? ⟨b, off + k, none⟩ = some (.int .i64 x) := by
        rw [hcb b _ (by omega), World.cell?_alloc_lt w _ _ hB]; exact hcell
      have hcell0' : wr.cell? ⟨b, off, none⟩ = some (.int .i64 z) := by
        rw [hcb b _ (by omega), World.cell?_alloc_lt w _ _ hB]; exact hcell0
      have HX := Lib.hid hx
      have HZ := Lib.hid hz0
      have hs := stepsK_succ n bs k
      have HS := Lib.hid hs
      clear hx hz0 hs
      by_cases hmore : k + 1 < bs.length
      · have hcell1 := hc (k + 1) hmore
        have hby := HOK.out.beat hmore
        obtain ⟨y, hy⟩ : ∃ y, bs.getD (k + 1) 0 = y := ⟨_, rfl⟩
        rw [hy] at hcell1 hby
        have hcell1' : wr.cell? ⟨b, off + (k + 1), none⟩ = some (.int .i64 y) := by
          rw [hcb b _ (by omega), World.cell?_alloc_lt w _ _ hB]; exact hcell1
        have hst := stepAt_more (n := n) hmore HX.out hy
        have HY := Lib.hid hy
        have HST := Lib.hid hst
        clear hy hst hc
        go_wp2_with (at_builtin; refine wpList_append_int rfl _ _ rfl (w.heap.size + 1) _ (stepsK n bs k) rfl (hown.alloc _) _ _ rfl (cell_new1 _ _ _) (by first | omega | (simp only [stepsK_len]; omega)) (by first | exact Nat.le_refl _ | (simp; done) | (simp; omega) | omega) ?_; intro v' w1 hown1 hg1)
        go_roundw
        case rel => exact ⟨k + 1, by omega, by go_num, by rw [HS.out, HST.out]; exact hown1, (hbel.alloc hz _).trans hg1⟩
        case measure => simp [intOf]; omega
      · clear hc
        have hst := stepAt_last (n := n) hmore HX.out HZ.out
        have HST := Lib.hid hst
        clear hst
        go_wp2_with fail
        have hbx0 : wr.cell? ⟨w.heap.size, 0, none⟩ = some (.int .i64 n) := by rw [hcb _ _ (by omega)]; simp [go_sem]
        have hbx1 : wr.cell? ⟨w.heap.size, 1, none⟩ = some (.slice (some ⟨b, off, none⟩) bs.length cap) := by rw [hcb _ _ (by omega)]; simp [go_sem]
        have hl0 : (0 : Int) < (bs.length : Int) := by omega
        have hl1 : 0 < bs.length := by omega
        go_region_held3 (fun w' => w'.cell? ⟨w.heap.size, 0, none⟩ = some (.int .i64 n) ∧ w'.cell? ⟨w.heap.size, 1, none⟩ = some (.slice (some ⟨b, off, none⟩) bs.length cap) ∧ w'.cell? ⟨b, off, none⟩ = some (.int .i64 z))
          (first
            | go_keep
            | (obtain ⟨hcc, _⟩ := bcellB hg1
               refine ⟨?_, ?_, ?_⟩ <;> (rw [hcc _ _ (by omega)]; simp [go_sem, *])))
          ((refine step_append_int (by rfl) _ _ (by rfl) (w.heap.size + 1) _ (stepsK n bs k) (by rfl) ((hown.alloc _).drew) _ _ (by rfl) (cell_new1 _ _ _) (by simp only [stepsK_len]; omega) (by first | exact Nat.le_refl _ | (simp; done) | (simp; omega) | omega) ?_; intro v' w1 hown1 hg1))
        go_wp2_with fail
        go_roundw
        case rel => exact ⟨k + 1, by omega, by go_num, by rw [HS.out, HST.out]; rw [i64w (x := n + z) (by omega), i64w (x := n + z - x) (by omega)] at hown1; exact hown1, ((hbel.alloc hz _).drew).trans hg1⟩
        case measure => simp [intOf]; omega
    · have hf := stepsK_fit HOK.out k hk
      have hke : k = bs.length := by omega
      have HOWN := Lib.hid hown
      clear hown
      subst hke
      go_wp2
      go_ret
      have hl : (stepsK n bs bs.length).length = bs.length := stepsK_len _ _ _
      exact ⟨A1, c1, rfl, HOWN.out.ints (fun x hx => by have := hf x hx; exact ⟨by omega, by omega⟩), ((Below.refl _ _).alloc (Nat.le_refl _) _).trans (hbel.mono (by omega))⟩

end Go.Proofs.YthookknmeajojaaGreatDoor

namespace Go.Proofs.YthookknmeajojaaGreatDoor
open Go.RowKit
set_option linter.unusedVariables false
set_option linter.unusedSimpArgs false

set_option maxHeartbeats 400000 in
theorem spec_RhythmOk_any (n : Int) (A : Option Addr) (cap : Nat) (bs : List Int) (w : World) (hA : Ints w w.heap.size A bs) :
    Calls Tryz.prog 47 #[.agg #[.int .i64 n, .slice A bs.length cap]] w fun e w' => e = .returned (.bool (rhB n bs)) ∧ Below w.heap.size w w' := by
  obtain ⟨hlen, hfit, hcells⟩ := hA
  unfold maxLen at hlen
  have HF := Lib.hid hfit
  have HC := Lib.hid hcells
  clear hfit hcells
  by_cases hsz : 1 ≤ n ∧ n ≤ 24
  · obtain ⟨h1, h24⟩ := hsz
    have hin := inB_true ⟨h1, h24⟩
    go_enter Tryz.func47, Tryz.ntmps47
    go_wp2_with (go_at_call 48; refine (l01In_any _ _ _ _).mono ?_; rintro e w' ⟨rfl, rfl⟩)
    clear hin
    go_loop [12] (fun i => ∃ k : Nat, RhPre n bs k ∧ i = .int .i64 k) (fun i => bs.length - (intOf i).toNat)
    case atStart => exact ⟨0, RhPre.zero _ _, rfl⟩
    case round =>
      obtain ⟨k, hpre, rfl⟩ := hrel
      have hk := hpre.1
      have HP := Lib.hid hpre
      clear hpre
      by_cases hlt : k < bs.length
      · obtain ⟨b, off, rfl, hB, hc⟩ := HC.out (by omega)
        have hcell := hc k hlt
        have hcell1 := hc (k - 1) (by omega)
        obtain ⟨x, hx⟩ : ∃ x, bs.getD k 0 = x := ⟨_, rfl⟩
        obtain ⟨y, hy⟩ : ∃ y, bs.getD (k - 1) 0 = y := ⟨_, rfl⟩
        rw [hx] at hcell
        rw [hy] at hcell1
        have HX := Lib.hid hx
        have HY := Lib.hid hy
        clear hx hy hc
        go_wp2_with (go_at_call 48; refine (l01In_any _ _ _ _).mono ?_; rintro e w' ⟨rfl, rfl⟩)
        all_goals first
          | (go_ret; exact ⟨ret_bool (rh_fail1 hlt HX.out ‹_›).symm, (by repeat (first | exact Below.refl _ _ | assumption | (refine Below.alloc ?_ (by first | exact Nat.le_refl _ | (simp; done) | (simp; omega) | omega) _) | (refine Below.drew ?_) | (refine Below.setCell ?_ (by first | exact Nat.le_refl _ | (simp; done) | (simp; omega) | omega) _)))⟩)
          | (go_ret; exact ⟨ret_bool (rh_fail2 hlt HX.out HY.out ‹_› ‹_›).symm, (by repeat (first | exact Below.refl _ _ | assumption | (refine Below.alloc ?_ (by first | exact Nat.le_refl _ | (simp; done) | (simp; omega) | omega) _) | (refine Below.drew ?_) | (refine Below.setCell ?_ (by first | exact Nat.le_refl _ | (simp; done) | (simp; omega) | omega) _)))⟩)
          | (go_round
             case rel => exact ⟨k + 1, HP.out.step hlt HX.out HY.out ‹_› (fun _ => by first | assumption | omega), by go_num⟩
             case measure => simp [intOf]; omega)
      · have hke : k = bs.length := by omega
        subst hke
        have HR := Lib.hid (HP.out.done h1 h24)
        go_wp2
        go_ret
        exact ⟨ret_bool HR.out.symm, (by repeat (first | exact Below.refl _ _ | assumption | (refine Below.alloc ?_ (by first | exact Nat.le_refl _ | (simp; done) | (simp; omega) | omega) _) | (refine Below.drew ?_) | (refine Below.setCell ?_ (by first | exact Nat.le_refl _ | (simp; done) | (simp; omega) | omega) _)))⟩
  · have hin := inB_false hsz
    have HR := Lib.hid (rhB_bad (bs := bs) hsz)
    clear hsz
    go_enter Tryz.func47, Tryz.ntmps47
    go_wp2_with (go_at_call 48; refine (l01In_any _ _ _ _).mono ?_; rintro e w' ⟨rfl, rfl⟩)
    go_ret
    exact ⟨ret_bool HR.out.symm, (by repeat (first | exact Below.refl _ _ | assumption | (refine Below.alloc ?_ (by first | exact Nat.le_refl _ | (simp; done) | (simp; omega) | omega) _) | (refine Below.drew ?_) | (refine Below.setCell ?_ (by first | exact Nat.le_refl _ | (simp; done) | (simp; omega) | omega) _)))⟩

end Go.Proofs.YthookknmeajojaaGreatDoor

namespace Go.Proofs.YthookknmeajojaaGreatDoor
open Go.RowKit
set_option linter.unusedVariables false
set_option linter.unusedSimpArgs false

noncomputable def stepsOf (n : Int) (bs : List Int) : List Int := if rhB n bs = true then stepsL n bs else []
theorem stepsOf_ok {n : Int} {bs : List Int} (h : rhB n bs = true) : stepsOf n bs = stepsL n bs := if_pos h
theorem stepsOf_no {n : Int} {bs : List Int} (h : rhB n bs = false) : stepsOf n bs = [] := if_neg (by rw [h]; decide)
theorem stepsOf_fit (n : Int) (bs : List Int) : (stepsOf n bs).length ≤ 24 ∧ ∀ x ∈ stepsOf n bs, 1 ≤ x ∧ x ≤ 24 := by
  cases h : rhB n bs
  · rw [stepsOf_no h]; exact ⟨Nat.zero_le _, fun x hx => by cases hx⟩
  · rw [stepsOf_ok h]
    have hok := rhB_iff.1 h
    refine ⟨?_, stepsK_fit hok _ (Nat.le_refl _)⟩
    have := hok.len
    have := hok.2.1
    rw [stepsL_len]; omega
theorem Ints.nil_ (w : World) (B : Nat) (A : Option Addr) : Ints w B A [] := ⟨Nat.zero_le _, ⟨fun x hx => (List.not_mem_nil hx).elim, fun h => absurd h (Nat.lt_irrefl 0)⟩⟩

set_option maxHeartbeats 400000 in
theorem impl_StepsOf_any (n : Int) (A : Option Addr) (cap : Nat) (bs : List Int) (w : World) (hn : Fits n) (hA : Ints w w.heap.size A bs) :
    Calls Tryz.prog 78 #[.agg #[.int .i64 n, .slice A bs.length cap]] w (RetInts w (stepsOf n bs)) := by
  have HA := Lib.hid hA
  have HN := Lib.hid hn
  clear hA hn
  cases hr : rhB n bs
  · have HS := Lib.hid (stepsOf_no hr)
    go_enter Tryz.func78, Tryz.ntmps78
    go_wp2_with (go_at_call 41; refine (impl_RhythmOk_any n A cap bs _ HN.out (HA.out.lift (by repeat (first | exact Below.refl _ _ | assumption | (refine Below.alloc ?_ (by first | exact Nat.le_refl _ | (simp; done) | (simp; omega) | omega) _) | (refine Below.drew ?_) | (refine Below.setCell ?_ (by first | exact Nat.le_refl _ | (simp; done) | (simp; omega) | omega) _))))).mono ?_; rintro e w1 ⟨rfl, hb⟩)
    go_ret
    have hb' := ((Below.refl w.heap.size w).alloc (by first | exact Nat.le_refl _ | (simp; done) | (simp; omega) | omega) _).trans (hb.mono (by first | exact Nat.le_refl _ | (simp; done) | (simp; omega) | omega))
    rw [HS.out]
    exact ⟨none, 0, rfl, Ints.nil_ _ _ _, hb'⟩
  · have HS := Lib.hid (stepsOf_ok hr)
    have HR := Lib.hid (rhB_iff.1 hr)
    go_enter Tryz.func78, Tryz.ntmps78
    go_wp2_with (first
      | (go_at_call 41; refine (impl_RhythmOk_any n A cap bs _ HN.out (HA.out.lift (by repeat (first | exact Below.refl _ _ | assumption | (refine Below.alloc ?_ (by first | exact Nat.le_refl _ | (simp; done) | (simp; omega) | omega) _) | (refine Below.drew ?_) | (refine Below.setCell ?_ (by first | exact Nat.le_refl _ | (simp; done) | (simp; omega) | omega) _))))).mono ?_; rintro e w1 ⟨rfl, hb⟩; have hb' := ((Below.refl w.heap.size w).alloc (by first | exact Nat.le_refl _ | (simp; done) | (simp; omega) | omega) _).trans (hb.mono (by first | exact Nat.le_refl _ | (simp; done) | (simp; omega) | omega)); obtain ⟨hc, hf⟩ := bcell hb)
      | (go_at_call 122; refine (impl_steps_any n A cap bs _ (HA.out.lift hb') HR.out).mono ?_; rintro e w2 ⟨A2, c2, rfl, hi2, hb2⟩))
    go_ret
    rw [HS.out]
    exact ⟨A2, c2, rfl, hi2, hb'.trans (hb2.mono hb'.size)⟩

end Go.Proofs.YthookknmeajojaaGreatDoor

