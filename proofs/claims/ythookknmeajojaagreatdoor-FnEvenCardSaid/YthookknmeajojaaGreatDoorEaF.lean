/-
  Several texts of this proof in one: StepsL, Srok, StepsOf, Spn, SzsT, Frm, Szs, SpS, IsEv.
-/
import Derived.Test.YthookknmeajojaaGreatDoorEaC
import Derived.Test.YthookknmeajojaaGreatDoorEaA
import Derived.Test.YthookknmeajojaaGreatDoorEaE
namespace Go.Proofs.YthookknmeajojaaGreatDoor
open Go.RowKit
set_option linter.unusedVariables false
set_option linter.unusedSimpArgs false

def stepAt (n : Int) (bs : List Int) (i : Nat) : Int := if i + 1 < bs.length then bs.getD (i + 1) 0 - bs.getD i 0 else n + bs.getD 0 0 - bs.getD i 0
/-- The first k steps. -/
def stepsK (n : Int) (bs : List Int) (k : Nat) : List Int := (List.range k).map (stepAt n bs)
def stepsL (n : Int) (bs : List Int) : List Int := stepsK n bs bs.length
theorem stepsK_zero (n : Int) (bs : List Int) : stepsK n bs 0 = [] := rfl
theorem stepsK_succ (n : Int) (bs : List Int) (k : Nat) : stepsK n bs (k + 1) = stepsK n bs k ++ [stepAt n bs k] := by simp [stepsK, List.range_succ]
theorem stepsK_len (n : Int) (bs : List Int) (k : Nat) : (stepsK n bs k).length = k := by simp [stepsK]
theorem stepsL_len (n : Int) (bs : List Int) : (stepsL n bs).length = bs.length := stepsK_len _ _ _
theorem stepAt_more {n : Int} {bs : List Int} {k : Nat} {x y : Int} (h : k + 1 < bs.length) (hx : bs.getD k 0 = x) (hy : bs.getD (k + 1) 0 = y) : stepAt n bs k = y - x := by
  unfold stepAt; rw [if_pos h, hx, hy]
theorem stepAt_last {n : Int} {bs : List Int} {k : Nat} {x z : Int} (h : ¬ k + 1 < bs.length) (hx : bs.getD k 0 = x) (hz : bs.getD 0 0 = z) : stepAt n bs k = n + z - x := by
  unfold stepAt; rw [if_neg h, hx, hz]

theorem RhOk.beat {n : Int} {bs : List Int} (h : RhOk n bs) {i : Nat} (hi : i < bs.length) : 0 ≤ bs.getD i 0 ∧ bs.getD i 0 < n := h.2.2.1 i hi
theorem RhOk.mono {n : Int} {bs : List Int} (h : RhOk n bs) : ∀ (j i : Nat), i < j → j < bs.length → bs.getD i 0 + (j - i : Int) ≤ bs.getD j 0
  | 0, i, hi, _ => by omega
  | j + 1, i, hi, hj => by
    have h1 := h.2.2.2 j hj
    by_cases e : i = j
    · subst e; omega
    · have := RhOk.mono h j i (by omega) (by omega)
      omega
theorem RhOk.len {n : Int} {bs : List Int} (h : RhOk n bs) : (bs.length : Int) ≤ n := by
  by_cases h0 : bs.length = 0
  · have := h.1; omega
  · have h1 := h.beat (i := bs.length - 1) (by omega)
    by_cases h2 : bs.length = 1
    · have := h.1; omega
    · have h3 := h.mono (bs.length - 1) 0 (by omega) (by omega)
      have h4 := h.beat (i := 0) (by omega)
      omega
theorem stepAt_pos {n : Int} {bs : List Int} (h : RhOk n bs) {i : Nat} (hi : i < bs.length) : 1 ≤ stepAt n bs i ∧ stepAt n bs i ≤ n := by
  unfold stepAt
  split
  · rename_i h1
    have a := h.beat h1
    have b := h.beat hi
    have c := h.2.2.2 i h1
    omega
  · have b := h.beat hi
    have a := h.beat (i := 0) (by omega)
    by_cases e : i = 0
    · subst e; have := h.1; omega
    · have c := h.mono i 0 (by omega) hi
      omega
theorem stepsK_fit {n : Int} {bs : List Int} (h : RhOk n bs) (k : Nat) (hk : k ≤ bs.length) : ∀ x ∈ stepsK n bs k, 1 ≤ x ∧ x ≤ 24 := by
  intro x hx
  obtain ⟨i, hi, rfl⟩ := List.mem_map.1 hx
  have hi := List.mem_range.1 hi
  have := stepAt_pos h (i := i) (by omega)
  have := h.2.1
  omega

/-- A list of ints in new memory: what a call hands back. -/
def RetInts (w : World) (xs : List Int) (e : Ending) (w' : World) : Prop := ∃ A cap, e = .returned (.slice A xs.length cap) ∧ Ints w' w'.heap.size A xs ∧ Below w.heap.size w w'

set_option maxRecDepth 100000 in
set_option maxHeartbeats 1000000 in
theorem impl_steps_any (n : Int) (A : Option Addr) (cap : Nat) (bs : List Int) (w : World) (hA : Ints w w.heap.size A bs) (hok : RhOk n bs) :
    Calls Tryz.prog 122 #[.agg #[.int .i64 n, .slice A bs.length cap]] w (RetInts w (stepsL n bs)) := by
  have hn1 := hok.1
  have hn2 := hok.2.1
  have hlen := hok.len
  have HC := Lib.hid hA.2.2
  have HOK := Lib.hid hok
  clear hA hok
  go_enter Tryz.func122, Tryz.ntmps122
  go_wp2
  go_loopw [3, 9] (fun v i wr => ∃ k : Nat, k ≤ bs.length ∧ i = .int .i64 k ∧ OwnI wr (w.heap.size + 1) v (stepsK n bs k) ∧ Below (w.heap.size + 1) (w.alloc (.cells #[.int .i64 n, .slice A bs.length cap] 26)) wr) (fun _ i _ => bs.length - (intOf i).toNat)
  case atStart => exact ⟨0, Nat.zero_le _, rfl, OwnI.nil _ _, Below.refl _ _⟩
  case round =>
    obtain ⟨k, hk, rfl, hown, hbel⟩ := hrel
    have hz := hbel.size
    simp only [World.size_alloc] at hz
    obtain ⟨A1, c1, rfl⟩ := hown.form
    obtain ⟨hcb, hfb⟩ := bcellB hbel
    by_cases hlt : k < bs.length
    · obtain ⟨b, off, rfl, hB, hc⟩ := HC.out (by omega)
      have hcell := hc k hlt
      have hcell0 := hc 0 (by omega)
      have hbx := HOK.out.beat hlt
      have hbz := HOK.out.beat (i := 0) (by omega)
      obtain ⟨x, hx⟩ : ∃ x, bs.getD k 0 = x := ⟨_, rfl⟩
      obtain ⟨z, hz0⟩ : ∃ z, bs.getD 0 0 = z := ⟨_, rfl⟩
      rw [hx] at hcell hbx
      rw [hz0] at hcell0 hbz
      have hcell' : wr.cell? ⟨b, off + k, none⟩ = some (.int .i64 x) := by
        rw [hcb b _ (by omega), World.cell?_alloc_lt w _ _ hB]; exact hcell
      have hcell0' : wr.cell? ⟨b, off, none⟩ = some (.int .i64 z) := by
        rw [hcb b _ (by omega), World.cell?_alloc_lt w _ _ hB]; exact hcell0
      have HX := Lib.hid hx
      have HZ := Lib.hid hz0
      have hs := stepsK_succ n bs k
      have HS := Lib.hid hs
      clear hx hz0 hs
      by_cases hmore : k + 1 < bs.length
      · have hcell1 := hc (k + 1) hmore
        have hby := HOK.out.beat hmore
        obtain ⟨y, hy⟩ : ∃ y, bs.getD (k + 1) 0 = y := ⟨_, rfl⟩
        rw [hy] at hcell1 hby
        have hcell1' : wr.cell? ⟨b, off + (k + 1), none⟩ = some (.int .i64 y) := by
          rw [hcb b _ (by omega), World.cell?_alloc_lt w _ _ hB]; exact hcell1
        have hst := stepAt_more (n := n) hmore HX.out hy
        have HY := Lib.hid hy
        have HST := Lib.hid hst
        clear hy hst hc
        go_wp2_with (at_builtin; refine wpList_append_int rfl _ _ rfl (w.heap.size + 1) _ (stepsK n bs k) rfl (hown.alloc _) _ _ rfl (cell_new1 _ _ _) (by first | omega | (simp only [stepsK_len]; omega)) (by first | exact Nat.le_refl _ | (simp; done) | (simp; omega) | omega) ?_; intro v' w1 hown1 hg1)
        go_roundw
        case rel => exact ⟨k + 1, by omega, by go_num, by rw [HS.out, HST.out]; exact hown1, (hbel.alloc hz _).trans hg1⟩
        case measure => simp [intOf]; omega
      · clear hc
        have hst := stepAt_last (n := n) hmore HX.out HZ.out
        have HST := Lib.hid hst
        clear hst
        go_wp2_with fail
        have hbx0 : wr.cell? ⟨w.heap.size, 0, none⟩ = some (.int .i64 n) := by rw [hcb _ _ (by omega)]; simp [go_sem]
        have hbx1 : wr.cell? ⟨w.heap.size, 1, none⟩ = some (.slice (some ⟨b, off, none⟩) bs.length cap) := by rw [hcb _ _ (by omega)]; simp [go_sem]
        have hl0 : (0 : Int) < (bs.length : Int) := by omega
        have hl1 : 0 < bs.length := by omega
        go_region_held3 (fun w' => w'.cell? ⟨w.heap.size, 0, none⟩ = some (.int .i64 n) ∧ w'.cell? ⟨w.heap.size, 1, none⟩ = some (.slice (some ⟨b, off, none⟩) bs.length cap) ∧ w'.cell? ⟨b, off, none⟩ = some (.int .i64 z))
          (first
            | go_keep
            | (obtain ⟨hcc, _⟩ := bcellB hg1
               refine ⟨?_, ?_, ?_⟩ <;> (rw [hcc _ _ (by omega)]; simp [go_sem, *])))
          ((refine step_append_int (by rfl) _ _ (by rfl) (w.heap.size + 1) _ (stepsK n bs k) (by rfl) ((hown.alloc _).drew) _ _ (by rfl) (cell_new1 _ _ _) (by simp only [stepsK_len]; omega) (by first | exact Nat.le_refl _ | (simp; done) | (simp; omega) | omega) ?_; intro v' w1 hown1 hg1))
        go_wp2_with fail
        go_roundw
        case rel => exact ⟨k + 1, by omega, by go_num, by rw [HS.out, HST.out]; rw [i64w (x := n + z) (by omega), i64w (x := n + z - x) (by omega)] at hown1; exact hown1, ((hbel.alloc hz _).drew).trans hg1⟩
        case measure => simp [intOf]; omega
    · have hf := stepsK_fit HOK.out k hk
      have hke : k = bs.length := by omega
      have HOWN := Lib.hid hown
      clear hown
      subst hke
      go_wp2
      go_ret
      have hl : (stepsK n bs bs.length).length = bs.length := stepsK_len _ _ _
      exact ⟨A1, c1, rfl, HOWN.out.ints (fun x hx => by have := hf x hx; exact ⟨by omega, by omega⟩), ((Below.refl _ _).alloc (Nat.le_refl _) _).trans (hbel.mono (by omega))⟩

end Go.Proofs.YthookknmeajojaaGreatDoor

namespace Go.Proofs.YthookknmeajojaaGreatDoor
open Go.RowKit
set_option linter.unusedVariables false
set_option linter.unusedSimpArgs false

set_option maxHeartbeats 400000 in
theorem spec_RhythmOk_any (n : Int) (A : Option Addr) (cap : Nat) (bs : List Int) (w : World) (hA : Ints w w.heap.size A bs) :
    Calls Tryz.prog 47 #[.agg #[.int .i64 n, .slice A bs.length cap]] w fun e w' => e = .returned (.bool (rhB n bs)) ∧ Below w.heap.size w w' := by
  obtain ⟨hlen, hfit, hcells⟩ := hA
  unfold maxLen at hlen
  have HF := Lib.hid hfit
  have HC := Lib.hid hcells
  clear hfit hcells
  by_cases hsz : 1 ≤ n ∧ n ≤ 24
  · obtain ⟨h1, h24⟩ := hsz
    have hin := inB_true ⟨h1, h24⟩
    go_enter Tryz.func47, Tryz.ntmps47
    go_wp2_with (go_at_call 48; refine (l01In_any _ _ _ _).mono ?_; rintro e w' ⟨rfl, rfl⟩)
    clear hin
    go_loop [12] (fun i => ∃ k : Nat, RhPre n bs k ∧ i = .int .i64 k) (fun i => bs.length - (intOf i).toNat)
    case atStart => exact ⟨0, RhPre.zero _ _, rfl⟩
    case round =>
      obtain ⟨k, hpre, rfl⟩ := hrel
      have hk := hpre.1
      have HP := Lib.hid hpre
      clear hpre
      by_cases hlt : k < bs.length
      · obtain ⟨b, off, rfl, hB, hc⟩ := HC.out (by omega)
        have hcell := hc k hlt
        have hcell1 := hc (k - 1) (by omega)
        obtain ⟨x, hx⟩ : ∃ x, bs.getD k 0 = x := ⟨_, rfl⟩
        obtain ⟨y, hy⟩ : ∃ y, bs.getD (k - 1) 0 = y := ⟨_, rfl⟩
        rw [hx] at hcell
        rw [hy] at hcell1
        have HX := Lib.hid hx
        have HY := Lib.hid hy
        clear hx hy hc
        go_wp2_with (go_at_call 48; refine (l01In_any _ _ _ _).mono ?_; rintro e w' ⟨rfl, rfl⟩)
        all_goals first
          | (go_ret; exact ⟨ret_bool (rh_fail1 hlt HX.out ‹_›).symm, (by repeat (first | exact Below.refl _ _ | assumption | (refine Below.alloc ?_ (by first | exact Nat.le_refl _ | (simp; done) | (simp; omega) | omega) _) | (refine Below.drew ?_) | (refine Below.setCell ?_ (by first | exact Nat.le_refl _ | (simp; done) | (simp; omega) | omega) _)))⟩)
          | (go_ret; exact ⟨ret_bool (rh_fail2 hlt HX.out HY.out ‹_› ‹_›).symm, (by repeat (first | exact Below.refl _ _ | assumption | (refine Below.alloc ?_ (by first | exact Nat.le_refl _ | (simp; done) | (simp; omega) | omega) _) | (refine Below.drew ?_) | (refine Below.setCell ?_ (by first | exact Nat.le_refl _ | (simp; done) | (simp; omega) | omega) _)))⟩)
          | (go_round
             case rel => exact ⟨k + 1, HP.out.step hlt HX.out HY.out ‹_› (fun _ => by first | assumption | omega), by go_num⟩
             case measure => simp [intOf]; omega)
      · have hke : k = bs.length := by omega
        subst hke
        have HR := Lib.hid (HP.out.done h1 h24)
        go_wp2
        go_ret
        exact ⟨ret_bool HR.out.symm, (by repeat (first | exact Below.refl _ _ | assumption | (refine Below.alloc ?_ (by first | exact Nat.le_refl _ | (simp; done) | (simp; omega) | omega) _) | (refine Below.drew ?_) | (refine Below.setCell ?_ (by first | exact Nat.le_refl _ | (simp; done) | (simp; omega) | omega) _)))⟩
  · have hin := inB_false hsz
    have HR := Lib.hid (rhB_bad (bs := bs) hsz)
    clear hsz
    go_enter Tryz.func47, Tryz.ntmps47
    go_wp2_with (go_at_call 48; refine (l01In_any _ _ _ _).mono ?_; rintro e w' ⟨rfl, rfl⟩)
    go_ret
    exact ⟨ret_bool HR.out.symm, (by repeat (first | exact Below.refl _ _ | assumption | (refine Below.alloc ?_ (by first | exact Nat.le_refl _ | (simp; done) | (simp; omega) | omega) _) | (refine Below.drew ?_) | (refine Below.setCell ?_ (by first | exact Nat.le_refl _ | (simp; done) | (simp; omega) | omega) _)))⟩

end Go.Proofs.YthookknmeajojaaGreatDoor

namespace Go.Proofs.YthookknmeajojaaGreatDoor
open Go.RowKit
set_option linter.unusedVariables false
set_option linter.unusedSimpArgs false

noncomputable def stepsOf (n : Int) (bs : List Int) : List Int := if rhB n bs = true then stepsL n bs else []
theorem stepsOf_ok {n : Int} {bs : List Int} (h : rhB n bs = true) : stepsOf n bs = stepsL n bs := if_pos h
theorem stepsOf_no {n : Int} {bs : List Int} (h : rhB n bs = false) : stepsOf n bs = [] := if_neg (by rw [h]; decide)
theorem stepsOf_fit (n : Int) (bs : List Int) : (stepsOf n bs).length ≤ 24 ∧ ∀ x ∈ stepsOf n bs, 1 ≤ x ∧ x ≤ 24 := by
  cases h : rhB n bs
  · rw [stepsOf_no h]; exact ⟨Nat.zero_le _, fun x hx => by cases hx⟩
  · rw [stepsOf_ok h]
    have hok := rhB_iff.1 h
    refine ⟨?_, stepsK_fit hok _ (Nat.le_refl _)⟩
    have := hok.len
    have := hok.2.1
    rw [stepsL_len]; omega
theorem Ints.nil_ (w : World) (B : Nat) (A : Option Addr) : Ints w B A [] := ⟨Nat.zero_le _, ⟨fun x hx => (List.not_mem_nil hx).elim, fun h => absurd h (Nat.lt_irrefl 0)⟩⟩

set_option maxHeartbeats 400000 in
theorem impl_StepsOf_any (n : Int) (A : Option Addr) (cap : Nat) (bs : List Int) (w : World) (hn : Fits n) (hA : Ints w w.heap.size A bs) :
    Calls Tryz.prog 78 #[.agg #[.int .i64 n, .slice A bs.length cap]] w (RetInts w (stepsOf n bs)) := by
  have HA := Lib.hid hA
  have HN := Lib.hid hn
  clear hA hn
  cases hr : rhB n bs
  · have HS := Lib.hid (stepsOf_no hr)
    go_enter Tryz.func78, Tryz.ntmps78
    go_wp2_with (go_at_call 41; refine (impl_RhythmOk_any n A cap bs _ HN.out (HA.out.lift (by repeat (first | exact Below.refl _ _ | assumption | (refine Below.alloc ?_ (by first | exact Nat.le_refl _ | (simp; done) | (simp; omega) | omega) _) | (refine Below.drew ?_) | (refine Below.setCell ?_ (by first | exact Nat.le_refl _ | (simp; done) | (simp; omega) | omega) _))))).mono ?_; rintro e w1 ⟨rfl, hb⟩)
    go_ret
    have hb' := ((Below.refl w.heap.size w).alloc (by first | exact Nat.le_refl _ | (simp; done) | (simp; omega) | omega) _).trans (hb.mono (by first | exact Nat.le_refl _ | (simp; done) | (simp; omega) | omega))
    rw [HS.out]
    exact ⟨none, 0, rfl, Ints.nil_ _ _ _, hb'⟩
  · have HS := Lib.hid (stepsOf_ok hr)
    have HR := Lib.hid (rhB_iff.1 hr)
    go_enter Tryz.func78, Tryz.ntmps78
    go_wp2_with (first
      | (go_at_call 41; refine (impl_RhythmOk_any n A cap bs _ HN.out (HA.out.lift (by repeat (first | exact Below.refl _ _ | assumption | (refine Below.alloc ?_ (by first | exact Nat.le_refl _ | (simp; done) | (simp; omega) | omega) _) | (refine Below.drew ?_) | (refine Below.setCell ?_ (by first | exact Nat.le_refl _ | (simp; done) | (simp; omega) | omega) _))))).mono ?_; rintro e w1 ⟨rfl, hb⟩; have hb' := ((Below.refl w.heap.size w).alloc (by first | exact Nat.le_refl _ | (simp; done) | (simp; omega) | omega) _).trans (hb.mono (by first | exact Nat.le_refl _ | (simp; done) | (simp; omega) | omega)); obtain ⟨hc, hf⟩ := bcell hb)
      | (go_at_call 122; refine (impl_steps_any n A cap bs _ (HA.out.lift hb') HR.out).mono ?_; rintro e w2 ⟨A2, c2, rfl, hi2, hb2⟩))
    go_ret
    rw [HS.out]
    exact ⟨A2, c2, rfl, hi2, hb'.trans (hb2.mono hb'.size)⟩

end Go.Proofs.YthookknmeajojaaGreatDoor

namespace Go.Proofs.YthookknmeajojaaGreatDoor
open Go.RowKit
set_option linter.unusedVariables false
set_option linter.unusedSimpArgs false

def spanV (xs : List Int) (i : Nat) : Nat → Int
  | 0 => 0
  | j + 1 => spanV xs i j + xs.getD ((i + j) % xs.length) 0
theorem spanV_bnd {xs : List Int} (h : ∀ i, i < xs.length → 0 ≤ xs.getD i 0 ∧ xs.getD i 0 ≤ 24) (hl : 1 ≤ xs.length) (i : Nat) : ∀ j, 0 ≤ spanV xs i j ∧ spanV xs i j ≤ j * 24
  | 0 => ⟨Int.le_refl _, by simp [spanV]⟩
  | j + 1 => by
    have ih := spanV_bnd h hl i j
    have := h ((i + j) % xs.length) (Nat.mod_lt _ (by omega))
    unfold spanV
    omega

set_option maxRecDepth 100000 in
set_option maxHeartbeats 1000000 in
theorem impl_spanOf_any (A : Option Addr) (cap : Nat) (xs : List Int) (i k : Nat) (w : World) (hA : Ints w w.heap.size A xs) (hl : 1 ≤ xs.length) (hl2 : xs.length ≤ 24) (hx : ∀ i, i < xs.length → 0 ≤ xs.getD i 0 ∧ xs.getD i 0 ≤ 24) (hi : i ≤ 24) (hk : k ≤ 24) :
    Calls Tryz.prog 79 #[.slice A xs.length cap, .int .i64 i, .int .i64 k] w fun e w' => e = .returned (.int .i64 (spanV xs i k)) ∧ Below w.heap.size w w' := by
  obtain ⟨bA, oA, rfl, hAB, hac⟩ := hA.2.2 (by omega)
  have HAC := Lib.hid hac
  have HX := Lib.hid hx
  have HBD := Lib.hid (spanV_bnd hx hl i)
  clear hA hac hx
  have hz : ((xs.length : Int) = 0) = False := eq_false (by omega)
  have hz2 : (xs.length = 0) = False := eq_false (by omega)
  go_enter Tryz.func79, Tryz.ntmps79
  go_wp2_with fail
  go_loopw [7, 10] (fun so ii wr => ∃ j : Nat, j ≤ k ∧ ii = .int .i64 j ∧ so = .int .i64 (spanV xs i j) ∧ Below w.heap.size w wr) (fun _ ii _ => k - (intOf ii).toNat)
  case atStart => exact ⟨0, Nat.zero_le _, rfl, rfl, Below.refl _ _⟩
  case round =>
    obtain ⟨j, hj, rfl, rfl, hbel⟩ := hrel
    obtain ⟨wo, rfl⟩ : ∃ wo : World, wo = wr := ⟨_, rfl⟩
    have HBE := Lib.hid hbel
    have hbd := HBD.out j
    by_cases hlt : j < k
    · have hcell := (hbel.cell (p := ⟨bA, oA + (i + j) % xs.length, none⟩) hAB).trans (HAC.out ((i + j) % xs.length) (Nat.mod_lt _ (by omega)))
      have hxb := HX.out ((i + j) % xs.length) (Nat.mod_lt _ (by omega))
      have hml : (i + j) % xs.length < xs.length := Nat.mod_lt _ (by omega)
      have HSU := Lib.hid (show spanV xs i (j + 1) = spanV xs i j + xs.getD ((i + j) % xs.length) 0 from rfl)
      have hmod : Int.tmod ((i : Int) + j) xs.length = (((i + j) % xs.length : Nat) : Int) := by
        rw [Int.tmod_eq_emod_of_nonneg (by omega), Int.natCast_emod, Int.natCast_add]
      have hmod2 : ((i : Int) + j) % xs.length = (((i + j) % xs.length : Nat) : Int) := by rw [Int.natCast_emod, Int.natCast_add]
      obtain ⟨m, hm⟩ : ∃ m, (i + j) % xs.length = m := ⟨_, rfl⟩
      obtain ⟨x, hxx⟩ : ∃ x, xs.getD ((i + j) % xs.length) 0 = x := ⟨_, rfl⟩
      rw [hxx] at hcell hxb HSU
      rw [hm] at hcell hml hmod hmod2
      obtain ⟨S, hS⟩ : ∃ S, spanV xs i j = S := ⟨_, rfl⟩
      rw [hS] at hbd HSU ⊢
      have hw1 : IntKind.i64.wrap ((i : Int) + j) = (i : Int) + j := i64w (by omega)
      have hw2 : IntKind.i64.wrap (S + x) = S + x := i64w (by omega)
      have hw3 : IntKind.i64.wrap (m : Int) = (m : Int) := i64w (by omega)
      have hm0 : (0 : Int) ≤ (m : Int) := Int.natCast_nonneg _
      have hm1 : (m : Int) < (xs.length : Int) := by omega
      clear hm hxx hS hbel
      go_wp2_with fail
      try go_quiet (fail)
      try go_wp2_with fail
      go_roundw
      case rel => exact ⟨j + 1, by omega, by go_num, by rw [HSU.out], by first | exact HBE.out | exact Below.drewN_ HBE.out _⟩
      case measure => simp [intOf]; omega
    · have hje : j = k := by omega
      subst hje
      obtain ⟨S, hS⟩ : ∃ S, spanV xs i j = S := ⟨_, rfl⟩
      have HSS := Lib.hid hS
      rw [hS]
      clear hS
      go_wp2_with fail
      go_ret
      exact ⟨ret_int HSS.out.symm, HBE.out⟩

end Go.Proofs.YthookknmeajojaaGreatDoor

namespace Go.Proofs.YthookknmeajojaaGreatDoor
open Go.RowKit
set_option linter.unusedVariables false
set_option linter.unusedSimpArgs false

def posI (out : List Int) (x : Int) : Nat := (out.takeWhile fun y => decide (y < x)).length
def insI (out : List Int) (x : Int) : List Int := if out[posI out x]? = some x then out else out.take (posI out x) ++ (x :: out.drop (posI out x))
def szsN (xs : List Int) : Nat → List Int
  | 0 => []
  | m + 1 => insI (szsN xs m) (xs.getD m 0)
theorem posI_le (out : List Int) (x : Int) : posI out x ≤ out.length := by
  unfold posI
  exact List.Sublist.length_le (List.takeWhile_sublist _)
theorem posI_before : ∀ {out : List Int} {x : Int} {i : Nat} (h : i < out.length), i < posI out x → out[i] < x
  | [], x, i, h, _ => by simp at h
  | y :: out, x, i, h, hi => by
    unfold posI at hi
    rw [List.takeWhile_cons] at hi
    by_cases hy : y < x
    · rw [if_pos (by simpa using hy)] at hi
      match i, h, hi with
      | 0, _, _ => exact hy
      | i + 1, h, hi =>
        have := posI_before (out := out) (x := x) (i := i) (by simpa using h) (by unfold posI; simpa using hi)
        simpa using this
    · rw [if_neg (by simpa using hy)] at hi
      simp at hi
theorem posI_at : ∀ {out : List Int} {x : Int} (h : posI out x < out.length), ¬ out[posI out x] < x
  | [], x, h => by simp at h
  | y :: out, x, h => by
    by_cases hy : y < x
    · have e : posI (y :: out) x = posI out x + 1 := by
        unfold posI
        rw [List.takeWhile_cons, if_pos (by simpa using hy)]; rfl
      have h2 : posI out x < out.length := by rw [e] at h; simpa using h
      have := posI_at h2
      simp only [e, List.getElem_cons_succ]
      exact this
    · have e : posI (y :: out) x = 0 := by
        unfold posI
        rw [List.takeWhile_cons, if_neg (by simpa using hy)]; rfl
      simp only [e, List.getElem_cons_zero]
      exact hy
theorem insI_len (out : List Int) (x : Int) : (insI out x).length ≤ out.length + 1 := by
  unfold insI
  split
  · omega
  · rw [List.length_append, List.length_cons, List.length_take, List.length_drop]; omega
theorem szsN_len (xs : List Int) : ∀ m, (szsN xs m).length ≤ m
  | 0 => Nat.le_refl _
  | m + 1 => by
    have := szsN_len xs m
    have := insI_len (szsN xs m) (xs.getD m 0)
    show (insI _ _).length ≤ _
    omega
theorem insI_asc {out : List Int} {x : Int} (h : out.Pairwise (fun a b => a < b)) : (insI out x).Pairwise (fun a b => a < b) ∧ ∀ y, y ∈ insI out x ↔ y ∈ out ∨ y = x := by
  have hle := posI_le out x
  unfold insI
  split
  · rename_i he
    refine ⟨h, fun y => ⟨fun hy => .inl hy, ?_⟩⟩
    rintro (hy | rfl)
    · exact hy
    · exact List.mem_of_getElem? he
  · rename_i he
    have hb : ∀ a ∈ out.take (posI out x), a < x := fun a ha => by
      obtain ⟨i, hi, rfl⟩ := List.getElem_of_mem ha
      rw [List.length_take] at hi
      rw [List.getElem_take]
      exact posI_before (by omega) (by omega)
    have hd : ∀ a ∈ out.drop (posI out x), x < a := fun a ha => by
      obtain ⟨i, hi, rfl⟩ := List.getElem_of_mem ha
      rw [List.length_drop] at hi
      rw [List.getElem_drop]
      have hp : posI out x < out.length := by omega
      have h1 := posI_at hp
      have h2 : out[posI out x] ≠ x := fun e => he (by rw [List.getElem?_eq_getElem hp, e])
      by_cases h0 : i = 0
      · subst h0
        simp only [Nat.add_zero]
        omega
      · have := List.pairwise_iff_getElem.1 h (posI out x) (posI out x + i) hp (by omega) (by omega)
        omega
    refine ⟨?_, fun y => ?_⟩
    · rw [List.pairwise_append]
      refine ⟨h.sublist (List.take_sublist _ _), ?_, fun a ha b hb' => ?_⟩
      · rw [List.pairwise_cons]
        exact ⟨hd, h.sublist (List.drop_sublist _ _)⟩
      · rcases List.mem_cons.1 hb' with rfl | h3
        · exact hb a ha
        · have := hb a ha; have := hd b h3; omega
    · rw [List.mem_append, List.mem_cons]
      conv => rhs; rw [← List.take_append_drop (posI out x) out, List.mem_append]
      constructor
      · rintro (h1 | rfl | h1)
        · exact .inl (.inl h1)
        · exact .inr rfl
        · exact .inl (.inr h1)
      · rintro ((h1 | h1) | rfl)
        · exact .inl h1
        · exact .inr (.inr h1)
        · exact .inr (.inl rfl)
theorem szsN_asc (xs : List Int) : ∀ m, m ≤ xs.length → (szsN xs m).Pairwise (fun a b => a < b) ∧ ∀ y, y ∈ szsN xs m ↔ y ∈ xs.take m
  | 0, _ => ⟨List.Pairwise.nil, fun y => by simp [szsN]⟩
  | m + 1, h => by
    obtain ⟨a, b⟩ := szsN_asc xs m (by omega)
    obtain ⟨c, d⟩ := insI_asc (x := xs.getD m 0) a
    refine ⟨c, fun y => ?_⟩
    rw [show szsN xs (m + 1) = insI (szsN xs m) (xs.getD m 0) from rfl, d, b, List.take_succ_eq_append_getElem (by omega), List.mem_append, List.mem_singleton, List.getD_eq_getElem?_getD, List.getElem?_eq_getElem (by omega : m < xs.length)]
    rfl
/-- By insertion, or by sorting: the same. -/
theorem szs_eq (xs : List Int) : szsN xs xs.length = collL xs := by
  obtain ⟨a, b⟩ := szsN_asc xs xs.length (Nat.le_refl _)
  obtain ⟨c, d⟩ := collL_asc xs
  exact asc_unique a c fun y => by rw [b, d, List.take_length]

end Go.Proofs.YthookknmeajojaaGreatDoor

namespace Go.Proofs.YthookknmeajojaaGreatDoor
open Go.RowKit
set_option linter.unusedVariables false
set_option linter.unusedSimpArgs false

/-- Old blocks outside S are as they were. -/
structure Frm (S : Nat → Prop) (w w' : World) : Prop where
  os : w'.os = w.os
  tape : w'.tape = w.tape
  output : w'.output = w.output
  size : w.heap.size ≤ w'.heap.size
  block : ∀ c, c < w.heap.size → ¬ S c → w'.heap[c]? = w.heap[c]?

def Rng (a b : Nat) (c : Nat) : Prop := a ≤ c ∧ c < b

section
variable {S T : Nat → Prop} {w w' w1 w2 : World}
theorem Frm.refl (S : Nat → Prop) (w : World) : Frm S w w := ⟨rfl, rfl, rfl, Nat.le_refl _, fun _ _ _ => rfl⟩
theorem Frm.trans (h : Frm S w w1) (k : Frm S w1 w2) : Frm S w w2 :=
  ⟨k.os.trans h.os, k.tape.trans h.tape, k.output.trans h.output, Nat.le_trans h.size k.size, fun c hc hS => (k.block c (Nat.lt_of_lt_of_le hc h.size) hS).trans (h.block c hc hS)⟩
theorem Frm.mono (h : Frm S w w') (hS : ∀ c, S c → T c) : Frm T w w' := ⟨h.os, h.tape, h.output, h.size, fun c hc hT => h.block c hc (fun hs => hT (hS c hs))⟩
theorem Frm.of_below {B : Nat} (h : Below B w w') (hS : ∀ c, c < w.heap.size → B ≤ c → S c) : Frm S w w' :=
  ⟨h.os, h.tape, h.output, h.size, fun c hc hn => h.block c (by
    apply Classical.byContradiction
    intro hh
    exact hn (hS c hc (by omega)))⟩
theorem Frm.pure (h : Below w.heap.size w w') (S : Nat → Prop) : Frm S w w' := Frm.of_below h (fun c h1 h2 => by omega)
theorem Frm.below {B : Nat} (h : Frm S w w') (hS : ∀ c, S c → B ≤ c) (hB : B ≤ w.heap.size) : Below B w w' :=
  ⟨h.os, h.tape, h.output, h.size, fun c hc => h.block c (by omega) (fun hs => by have := hS c hs; omega)⟩
theorem Frm.setCell (h : Frm S w w') {p : Addr} (hp : S p.block) (u : Value) : Frm S w (w'.setCell p u) :=
  ⟨h.os, h.tape, h.output, by simpa [World.setCell] using h.size, fun c hc hS => (Below.heap_setCell w' p u c (fun e => by subst e; exact hS hp)).trans (h.block c hc hS)⟩
theorem Below.drew5_ {B : Nat} {a w : World} (h : Below B a w) : Below B a w.drew := ⟨h.os, h.tape, h.output, h.size, h.block⟩
theorem Frm.alloc (h : Frm S w w') (o : Obj) : Frm S w (w'.alloc o) := h.trans (Frm.pure ((Below.refl _ _).alloc (Nat.le_refl _) o) S)
theorem Frm.drew (h : Frm S w w') : Frm S w w'.drew := ⟨h.os, h.tape, h.output, h.size, h.block⟩
theorem Frm.drewN (h : Frm S w w') (n : Nat) : Frm S w (w'.drewN n) := ⟨h.os, h.tape, h.output, h.size, h.block⟩
theorem Frm.cell (h : Frm S w w') {c o : Nat} (hc : c < w.heap.size) (hS : ¬ S c) : w'.cell? ⟨c, o, none⟩ = w.cell? ⟨c, o, none⟩ := World.cell?_of_block (a := ⟨c, o, none⟩) (h.block c hc hS)
theorem Frm.frozen (h : Frm S w w') {c o : Nat} (hc : c < w.heap.size) (hS : ¬ S c) : w'.frozen? ⟨c, o, none⟩ = w.frozen? ⟨c, o, none⟩ := World.frozen?_of_block (a := ⟨c, o, none⟩) (h.block c hc hS)
end

/-- Cells 0 .. N-1 of block b hold f, and may be written. -/
def TabV (w : World) (b N : Nat) (f : Nat → Value) : Prop := b < w.heap.size ∧ ∀ t, t < N → w.cell? ⟨b, t, none⟩ = some (f t) ∧ w.frozen? ⟨b, t, none⟩ = false
section
variable {w w' : World} {b N : Nat} {f g : Nat → Value} {S : Nat → Prop}
theorem TabV.frm (h : TabV w b N f) (hf : Frm S w w') (hb : ¬ S b) : TabV w' b N f :=
  ⟨Nat.lt_of_lt_of_le h.1 hf.size, fun t ht => ⟨(hf.cell h.1 hb).trans (h.2 t ht).1, (hf.frozen h.1 hb).trans (h.2 t ht).2⟩⟩
theorem TabV.get (h : TabV w b N f) {t : Nat} (ht : t < N) {v : Value} (hv : f t = v) : w.cell? ⟨b, t, none⟩ = some v := by rw [← hv]; exact (h.2 t ht).1
theorem TabV.congr (h : TabV w b N f) (hfg : ∀ t, t < N → f t = g t) : TabV w b N g := ⟨h.1, fun t ht => ⟨by rw [← hfg t ht]; exact (h.2 t ht).1, (h.2 t ht).2⟩⟩
theorem TabV.set_ (h : TabV w b N f) (j : Nat) (u : Value) (hj : j < N) (hu : g j = u) (hg : ∀ t, t < N → t ≠ j → g t = f t) : TabV (w.setCell ⟨b, j, none⟩ u) b N g := by
  refine ⟨by simpa [World.setCell] using h.1, fun t ht => ⟨?_, ?_⟩⟩
  · by_cases e : t = j
    · subst e
      rw [World.cell?_setCell_same w _ _ (h.2 t ht).1, hu]
    · rw [World.cell?_setCell_other w _ _ _ (fun q => e (by injection q; omega)), (h.2 t ht).1, hg t ht e]
  · rw [World.frozen?_setCell]; exact (h.2 t ht).2
theorem Tab.tabV {f : Nat → Int} (h : Tab w b N f) : TabV w b N (fun t => .int .i64 (f t)) := h
end

/-- A list's block, if it has one, lies between base and top. -/
def HeldV (w : World) (A : Option Addr) (N : Nat) (f : Nat → Value) (base top : Nat) : Prop :=
  0 < N → ∃ b, A = some ⟨b, 0, none⟩ ∧ base ≤ b ∧ b < top ∧ TabV w b N f
theorem HeldV.frm {w w' : World} {A : Option Addr} {N base top : Nat} {f : Nat → Value} {S : Nat → Prop} (h : HeldV w A N f base top) (hf : Frm S w w') (hS : ∀ c, base ≤ c → c < top → ¬ S c) : HeldV w' A N f base top := by
  intro hn
  obtain ⟨b, e, h1, h2, h3⟩ := h hn
  exact ⟨b, e, h1, h2, h3.frm hf (hS b h1 h2)⟩
theorem HeldV.congr {w : World} {A : Option Addr} {N base top : Nat} {f g : Nat → Value} (h : HeldV w A N f base top) (hfg : ∀ t, t < N → f t = g t) : HeldV w A N g base top := by
  intro hn
  obtain ⟨b, e, h1, h2, h3⟩ := h hn
  exact ⟨b, e, h1, h2, h3.congr hfg⟩

end Go.Proofs.YthookknmeajojaaGreatDoor

namespace Go.Proofs.YthookknmeajojaaGreatDoor
open Go.RowKit
set_option linter.unusedVariables false
set_option linter.unusedSimpArgs false

theorem OwnI.cellz {w : World} {base g c : Nat} {xs : List Int} (h : OwnI w base (.slice (some ⟨g, 0, none⟩) xs.length c) xs) : g < w.heap.size ∧ xs.length ≤ c ∧ ∀ i, i < xs.length → w.cell? ⟨g, i, none⟩ = some (.int .i64 (xs.getD i 0)) := by
  refine ⟨(h.lt g rfl).2, ?_, fun i hi => ?_⟩
  · rcases h.2 with ⟨hv, _⟩ | ⟨g', cap', cur, hv, hg, hh, hnc, _⟩
    · cases hv
    · injection hv with _ _ h3; omega
  · have := World.ownsRow.cells h (g := g) rfl i (.int .i64 (xs.getD i 0)) (by
      rw [List.getElem?_map, List.getD_eq_getElem?_getD, List.getElem?_eq_getElem hi]; rfl)
    rwa [Go.WideShapes.add_plain, Nat.zero_add] at this
theorem OwnI.monoB {w : World} {base base' : Nat} {v : Value} {xs : List Int} (h : OwnI w base v xs) (hb : base' ≤ base) : OwnI w base' v xs :=
  ⟨h.1, by
    rcases h.2 with h0 | ⟨g, cap, cur, e, hg, rest⟩
    · exact .inl h0
    · exact .inr ⟨g, cap, cur, e, by omega, rest⟩⟩
theorem OwnI.posz {w : World} {base : Nat} {v : Value} {xs : List Int} (h : OwnI w base v xs) (hp : 0 < xs.length) : ∃ g c, v = .slice (some ⟨g, 0, none⟩) xs.length c := by
  rcases h.2 with ⟨rfl, h0⟩ | ⟨g, cap, cur, rfl, _⟩
  · omega
  · exact ⟨g, cap, rfl⟩

end Go.Proofs.YthookknmeajojaaGreatDoor

namespace Go.Proofs.YthookknmeajojaaGreatDoor
open Go.RowKit
set_option linter.unusedVariables false
set_option linter.unusedSimpArgs false

def spnS (S : List Int) (k m : Nat) : List Int := (List.range m).map fun i => spanV S i k
theorem spnS_len (S : List Int) (k m : Nat) : (spnS S k m).length = m := by simp [spnS]
theorem spnS_succ (S : List Int) (k m : Nat) : spnS S k (m + 1) = spnS S k m ++ [spanV S m k] := by simp [spnS, List.range_succ]

set_option maxRecDepth 100000 in
set_option maxHeartbeats 1000000 in
theorem impl_SpanSizes_any (N : Nat) (A : Option Addr) (cap : Nat) (bs : List Int) (k : Nat) (w : World) (hA : Ints w w.heap.size A bs) (hok : RhOk N bs) (hp : 1 ≤ bs.length) (hk : k ≤ bs.length) :
    Calls Tryz.prog 42 #[.agg #[.int .i64 N, .slice A bs.length cap], .int .i64 k] w fun e w' => ∃ v, e = .returned v ∧ OwnI w' w.heap.size v (collL (spnS (stepsL N bs) k (stepsL N bs).length)) ∧ Below w.heap.size w w' := by
  have hn1 : 1 ≤ (N : Int) := hok.1
  have hn2 : (N : Int) ≤ 24 := hok.2.1
  have HS := Lib.hid (fun V h => impl_StepsOf_any N A cap bs V (by unfold Fits; omega) h)
  have hbl : bs.length ≤ 24 := by have := hok.len; omega
  have hsl := stepsL_len N bs
  have hsf : ∀ i, i < (stepsL N bs).length → 0 ≤ (stepsL N bs).getD i 0 ∧ (stepsL N bs).getD i 0 ≤ 24 := fun i hi => by
    have := stepsK_fit hok _ (Nat.le_refl _) ((stepsL N bs).getD i 0) (by
      rw [List.getD_eq_getElem?_getD, List.getElem?_eq_getElem hi]; exact List.getElem_mem hi)
    omega
  rw [stepsOf_ok (rhB_iff.2 hok)] at HS
  generalize stepsL N bs = S at *
  have hs1 : 1 ≤ S.length := by omega
  have hs2 : S.length ≤ 24 := by omega
  have HSF := Lib.hid hsf
  have HSP := Lib.hid (fun i j => spanV_bnd hsf hs1 i j)
  have hz : ((S.length : Int) == 0) = false := beq_eq_false_iff_ne.2 (by omega)
  have hin : inB k 0 S.length = true := by unfold inB; simp; omega
  have HA := Lib.hid hA
  have HK := Lib.hid hk
  have hks : k ≤ 24 := by omega
  clear hA hsf hok hk
  go_enter Tryz.func42, Tryz.ntmps42
  go_wp2_with fail
  refine (HS.out _ (HA.out.lift (by repeat (first | exact Below.refl _ _ | assumption | (refine Below.alloc ?_ (by first | exact Nat.le_refl _ | (simp; done) | (simp; omega) | omega) _) | (refine Below.drew ?_) | (refine Below.setCell ?_ (by first | exact Nat.le_refl _ | (simp; done) | (simp; omega) | omega) _))))).mono ?_
  rintro e w1 ⟨A1, c1, rfl, hI1, hb1⟩
  have HB1 := Lib.hid (((Below.refl w.heap.size w).alloc (Nat.le_refl _) (.cells #[.int .i64 N, .slice A bs.length cap] 26)).trans (hb1.mono (by simp)))
  have HI1 := Lib.hid hI1
  have HO0 := Lib.hid (OwnI.nil w1 w1.heap.size)
  have HB0 := Lib.hid (Below.refl w1.heap.size w1)
  clear hI1 hb1 hsl
  go_wp2_with (go_at_call 39; refine (within_any _ _ _ _).mono ?_; rintro e w' ⟨rfl, rfl⟩)
  go_loopw [6, 22] (fun v i wr => ∃ m : Nat, m ≤ S.length ∧ i = .int .i64 m ∧ OwnI wr w1.heap.size v (spnS S k m) ∧ Below w1.heap.size w1 wr) (fun _ i _ => S.length - (intOf i).toNat)
  case atStart => exact ⟨0, Nat.zero_le _, rfl, HO0.out, HB0.out⟩
  case round =>
    obtain ⟨m, hm, rfl, hown, hbel⟩ := hrel
    obtain ⟨wo, rfl⟩ : ∃ wo : World, wo = wr := ⟨_, rfl⟩
    obtain ⟨Av, cv, rfl⟩ := hown.form
    have HO := Lib.hid hown
    have HBE := Lib.hid hbel
    have HLM := Lib.hid (spnS_len S k m)
    clear hown hbel
    by_cases hlt : m < S.length
    · have hmi : (m : Int) < (S.length : Int) := by omega
      have hm24 : m ≤ 24 := by omega
      have HIO := Lib.hid (HI1.out.lift HBE.out)
      have HSU := Lib.hid (spnS_succ S k m)
      obtain ⟨Q, hQ⟩ : ∃ Q, spnS S k m = Q := ⟨_, rfl⟩
      rw [hQ] at HSU HO HLM ⊢
      have HQ := Lib.hid hQ
      clear hQ
      go_wp2_with (first
        | (go_at_call 79; refine (impl_spanOf_any A1 c1 S m k _ HIO.out hs1 hs2 HSF.out hm24 hks).mono ?_; rintro e w2 ⟨rfl, hb2⟩; have HB2 := Lib.hid hb2; have HO2 := Lib.hid (HO.out.grown hb2); obtain ⟨x, hx⟩ : ∃ x, spanV S m k = x := ⟨_, rfl⟩; rw [hx] at HSU ⊢; clear hb2 hx)
        | (at_builtin; refine wpList_append_int rfl _ _ rfl w1.heap.size _ Q rfl (HO2.out.alloc _) _ _ rfl (cell_new1 _ _ _) (by have := HLM.out; omega) (by have := HB2.out.size; have := HBE.out.size; simp only [World.size_alloc]; omega) ?_; intro v3 w3 hown3 hb3; have HO3 := Lib.hid hown3; have HB3 := Lib.hid (HBE.out.trans ((HB2.out.mono HBE.out.size).trans (((Below.refl w2.heap.size w2).alloc (Nat.le_refl _) (.cells #[.int .i64 x] 3)).mono (by have := HB2.out.size; have := HBE.out.size; omega) |>.trans hb3))); clear hown3 hb3))
      go_roundw
      case rel => exact ⟨m + 1, by omega, by go_num, by rw [HSU.out]; exact HO3.out, HB3.out⟩
      case measure => simp [intOf]; omega
    · have hme : m = S.length := by omega
      have HME := Lib.hid hme
      have hmi : ¬ (m : Int) < (S.length : Int) := by omega
      have HIV := Lib.hid (HO.out.ints (fun x hx => by
        obtain ⟨i, hi, rfl⟩ := List.mem_map.1 hx
        have := HSP.out i k
        have := hks
        unfold Fits; omega))
      obtain ⟨Q, hQ⟩ : ∃ Q, spnS S k m = Q := ⟨_, rfl⟩
      rw [hQ] at HIV HO HLM ⊢
      have HQ := Lib.hid hQ
      clear hQ hme
      go_wp2_with fail
      refine (impl_collected_any Av cv Q _ HIV.out (by have := HLM.out; omega)).mono ?_
      rintro e w4 ⟨v4, rfl, ho4, hb4⟩
      have HO4 := Lib.hid ho4
      have HB4 := Lib.hid (HB1.out.trans ((HBE.out.trans (hb4.mono HBE.out.size)).mono HB1.out.size))
      clear ho4 hb4
      go_wp2_with fail
      go_ret
      have := HB1.out.size
      have := HBE.out.size
      refine ⟨_, rfl, ?_, HB4.out⟩
      rw [← HME.out, HQ.out]
      exact HO4.out.monoB (by omega)

end Go.Proofs.YthookknmeajojaaGreatDoor

namespace Go.Proofs.YthookknmeajojaaGreatDoor
open Go.RowKit
set_option linter.unusedVariables false
set_option linter.unusedSimpArgs false

def evT (S : List Int) (k : Nat) : Bool := decide ((collL (spnS S k S.length)).getD ((collL (spnS S k S.length)).length - 1) 0 - (collL (spnS S k S.length)).getD 0 0 ≤ 1)
def evnB (S : List Int) : Bool := (List.range S.length).all fun k => decide (k = 0) || evT S k
theorem evnB_def (S : List Int) : evnB S = true ↔ ∀ j, 1 ≤ j → j < S.length → evT S j = true := by
  unfold evnB
  rw [List.all_eq_true]
  constructor
  · intro h j h1 h2
    have := h j (List.mem_range.2 h2)
    rw [Bool.or_eq_true, decide_eq_true_eq] at this
    rcases this with h3 | h3
    · omega
    · exact h3
  · intro h j hj
    rw [Bool.or_eq_true, decide_eq_true_eq]
    by_cases e : j = 0
    · exact .inl e
    · exact .inr (h j (by omega) (List.mem_range.1 hj))
theorem getE_mem {L : List Int} {i : Nat} (h : i < L.length) : L.getD i 0 ∈ L := by
  rw [List.getD_eq_getElem?_getD, List.getElem?_eq_getElem h]; exact List.getElem_mem h
theorem asc_len_ : ∀ (L : List Int) (lo hi : Int), L.Pairwise (fun a b => a < b) → (∀ x ∈ L, lo ≤ x ∧ x ≤ hi) → lo ≤ hi + 1 → (L.length : Int) ≤ hi + 1 - lo
  | [], lo, hi, _, _, h => by simp; omega
  | a :: L, lo, hi, hp, hb, h => by
    rw [List.pairwise_cons] at hp
    have ha := hb a List.mem_cons_self
    have := asc_len_ L (a + 1) hi hp.2 (fun x hx => ⟨by have := hp.1 x hx; omega, (hb x (List.mem_cons_of_mem _ hx)).2⟩) (by omega)
    rw [List.length_cons]; omega
theorem asc_len {L : List Int} (hp : L.Pairwise (fun a b => a < b)) (hb : ∀ x ∈ L, 0 ≤ x ∧ x ≤ 576) : L.length ≤ 577 := by
  have := asc_len_ L 0 576 hp hb (by omega); omega
theorem spnS_fit {S : List Int} (h1 : 1 ≤ S.length) (h : ∀ i, i < S.length → 0 ≤ S.getD i 0 ∧ S.getD i 0 ≤ 24) (k : Nat) (hk : k ≤ 24) :
    0 < (collL (spnS S k S.length)).length ∧ (collL (spnS S k S.length)).length ≤ 1000000 ∧ ∀ x ∈ collL (spnS S k S.length), 0 ≤ x ∧ x ≤ 576 := by
  have hm : ∀ x, x ∈ collL (spnS S k S.length) ↔ x ∈ spnS S k S.length := (collL_asc _).2
  have hx : ∀ x ∈ collL (spnS S k S.length), 0 ≤ x ∧ x ≤ 576 := fun x hx => by
    obtain ⟨i, _, rfl⟩ := List.mem_map.1 ((hm x).1 hx)
    have := spanV_bnd h h1 i k
    omega
  refine ⟨?_, ?_, hx⟩
  · have : spanV S 0 k ∈ collL (spnS S k S.length) := (hm _).2 (List.mem_map.2 ⟨0, List.mem_range.2 (by omega), rfl⟩)
    exact List.length_pos_of_mem this
  · have := asc_len (collL_asc (spnS S k S.length)).1 hx
    omega

set_option maxRecDepth 100000 in
set_option maxHeartbeats 1000000 in
theorem impl_IsEven_any (N : Nat) (A : Option Addr) (cap : Nat) (bs : List Int) (w : World) (hA : Ints w w.heap.size A bs) (hok : RhOk N bs) :
    Calls Tryz.prog 10 #[.agg #[.int .i64 N, .slice A bs.length cap]] w fun e w' => e = .returned (.bool (evnB (stepsL N bs))) ∧ Below w.heap.size w w' := by
  have hn1 : 1 ≤ (N : Int) := hok.1
  have hn2 : (N : Int) ≤ 24 := hok.2.1
  have hr : rhB N bs = true := rhB_iff.2 hok
  have HR := Lib.hid (fun V h => impl_RhythmOk_any N A cap bs V (by unfold Fits; omega) h)
  have HS := Lib.hid (fun V h k (hp : 1 ≤ bs.length) (hk : k ≤ bs.length) => impl_SpanSizes_any N A cap bs k V h hok hp hk)
  have hbl : bs.length ≤ 24 := by have := hok.len; omega
  have hsl := stepsL_len N bs
  have HSB := Lib.hid (fun (hp : 1 ≤ bs.length) k (hk : k ≤ 24) => spnS_fit (S := stepsL N bs) (by omega) (fun i hi => by
    have := stepsK_fit hok _ (Nat.le_refl _) ((stepsL N bs).getD i 0) (by
      rw [List.getD_eq_getElem?_getD, List.getElem?_eq_getElem hi]; exact List.getElem_mem hi)
    omega) k hk)
  have HE := Lib.hid (evnB_def (stepsL N bs))
  rw [hr] at HR
  have HA := Lib.hid hA
  have hal := (Below.refl w.heap.size w).alloc (Nat.le_refl _) (.cells #[.int .i64 N, .slice A bs.length cap] 26)
  have HC0 := Lib.hid (Cells2.new w (.int .i64 N) (.slice A bs.length cap) 26)
  have HB0 := Lib.hid hal
  clear hA hok hr hal
  generalize stepsL N bs = S at *
  go_enter Tryz.func10, Tryz.ntmps10
  go_wp2_with fail
  generalize w.alloc (.cells #[.int .i64 N, .slice A bs.length cap] 26) = w0 at *
  obtain ⟨c0, c1, _, _, _⟩ := HC0.out
  refine (HR.out _ (HA.out.lift HB0.out)).mono ?_
  rintro e w1 ⟨rfl, hb1⟩
  have HB1 := Lib.hid (HB0.out.trans (hb1.mono HB0.out.size))
  have HC1 := Lib.hid (HC0.out.below hb1 HC0.out.2.2.2.2)
  clear c0 c1 hb1
  obtain ⟨c0, c1, _, _, _⟩ := HC1.out
  obtain ⟨q, hq⟩ : ∃ q, w.heap.size = q := ⟨_, rfl⟩
  rw [hq] at HC1 c0 c1
  have HQ := Lib.hid hq
  go_wp2_with fail
  try rw [hq]
  clear hq
  go_loopw [3] (fun i wr => ∃ k : Nat, 1 ≤ k ∧ (k = 1 ∨ k ≤ bs.length) ∧ i = .int .i64 k ∧ (∀ j, 1 ≤ j → j < k → evT S j = true) ∧ Cells2 wr q (.int .i64 N) (.slice A bs.length cap) ∧ Below w.heap.size w wr) (fun i _ => bs.length - (intOf i).toNat)
  case atStart => exact ⟨1, Nat.le_refl _, .inl rfl, rfl, fun j h1 h2 => by omega, HC1.out, HB1.out⟩
  case round =>
    obtain ⟨k, hk1, hk2, rfl, hall, hcel, hbel⟩ := hrel
    obtain ⟨wo, rfl⟩ : ∃ wo : World, wo = wr := ⟨_, rfl⟩
    have HALL := Lib.hid hall
    have HC := Lib.hid hcel
    have HB := Lib.hid hbel
    clear c0 c1 hall hcel hbel
    obtain ⟨c0, c1, _, _, _⟩ := HC.out
    by_cases hlt : k < bs.length
    · have hki : (k : Int) < (bs.length : Int) := by omega
      have HIA := Lib.hid (HA.out.lift HB.out)
      have hwk : IntKind.i64.wrap ((k : Int) + 1) = (k : Int) + 1 := i64w (by omega)
      go_wp2_with fail
      refine (HS.out _ HIA.out k (by omega) (by omega)).mono ?_
      rintro e w2 ⟨v, rfl, ho, hb2⟩
      obtain ⟨A2, c2, rfl⟩ := ho.form
      obtain ⟨hf1, hf2, hf3⟩ := HSB.out (by omega) k (by omega)
      have HI2 := Lib.hid (ho.ints (fun x hx => by have := hf3 x hx; unfold Fits; omega))
      have HC2 := Lib.hid (HC.out.below hb2 HC.out.2.2.2.2)
      have HB2 := Lib.hid (HB.out.trans (hb2.mono HB.out.size))
      have HET := Lib.hid (show evT S k = decide ((collL (spnS S k S.length)).getD ((collL (spnS S k S.length)).length - 1) 0 - (collL (spnS S k S.length)).getD 0 0 ≤ 1) from rfl)
      have hg1 := hf3 ((collL (spnS S k S.length)).getD ((collL (spnS S k S.length)).length - 1) 0) (getE_mem (by omega))
      have hg2 := hf3 ((collL (spnS S k S.length)).getD 0 0) (getE_mem (by omega))
      clear ho hb2 c0 c1 hf3
      obtain ⟨c0, c1, _, _, _⟩ := HC2.out
      obtain ⟨L, hL⟩ : ∃ L, collL (spnS S k S.length) = L := ⟨_, rfl⟩
      rw [hL] at hf1 hf2 HI2 HET hg1 hg2 ⊢
      clear hL
      obtain ⟨bL, oL, rfl, hbL, hcL⟩ := HI2.out.2.2 hf1
      have hx := hcL (L.length - 1) (by omega)
      have hy := hcL 0 hf1
      obtain ⟨x, hx'⟩ : ∃ x, L.getD (L.length - 1) 0 = x := ⟨_, rfl⟩
      obtain ⟨y, hy'⟩ : ∃ y, L.getD 0 0 = y := ⟨_, rfl⟩
      rw [hx'] at hx HET hg1
      rw [hy'] at hy HET hg2
      rw [Nat.add_zero] at hy
      have hw1 : IntKind.i64.wrap ((L.length : Int) - 1) = ((L.length - 1 : Nat) : Int) := by rw [Int.natCast_sub (by omega)]; exact i64w (by omega)
      have hw2 : IntKind.i64.wrap (x - y) = x - y := i64w (by omega)
      have hi1 : ((L.length - 1 : Nat) : Int) < (L.length : Int) := by omega
      have hi0 : (0 : Int) ≤ ((L.length - 1 : Nat) : Int) := Int.natCast_nonneg _
      have hi2 : (0 : Int) < (L.length : Int) := by omega
      clear hx' hy' hcL
      by_cases hle : x - y ≤ 1
      · have hgt : ¬ 1 < x - y := by omega
        have hgd : decide (1 < x - y) = false := decide_eq_false hgt
        have HT := Lib.hid (show evT S k = true by rw [HET.out]; exact decide_eq_true hle)
        go_wp2_with fail
        try go_quiet (fail)
        try go_wp2_with fail
        go_roundw
        case rel => exact ⟨k + 1, by omega, by omega, by go_num, fun j h1 h2 => by
          by_cases e : j = k
          · rw [e]; exact HT.out
          · exact HALL.out j h1 (by omega), by first | exact HC2.out | exact HC2.out.drewN_ _, by first | exact HB2.out | exact Below.drewN_ HB2.out _⟩
        case measure => simp [intOf]; omega
      · have hgt : 1 < x - y := by omega
        have hgd : decide (1 < x - y) = true := decide_eq_true hgt
        have HT := Lib.hid (show evT S k = false by rw [HET.out]; exact decide_eq_false hle)
        have HF := Lib.hid (show evnB S = false from Bool.eq_false_iff.2 fun h => by
          have := HE.out.1 h k hk1 (by omega)
          rw [HT.out] at this; cases this)
        go_wp2_with fail
        try go_quiet (fail)
        try go_wp2_with fail
        go_ret
        exact ⟨ret_bool HF.out.symm, by first | exact HB2.out | exact Below.drewN_ HB2.out _⟩
    · have hki : ¬ (k : Int) < (bs.length : Int) := by omega
      have HT := Lib.hid (show evnB S = true from HE.out.2 fun j h1 h2 => HALL.out j h1 (by omega))
      go_wp2_with fail
      go_ret
      exact ⟨ret_bool HT.out.symm, HB.out⟩

end Go.Proofs.YthookknmeajojaaGreatDoor

