/-
  The steps of a rhythm: the plain list, the program's and the reference's.
-/
import Derived.Test.YtjoeglekcnaebaaDoorOwn
namespace Go.Proofs.YtjoeglekcnaebaaDoor
open Go.RowKit
set_option linter.unusedVariables false
set_option linter.unusedSimpArgs false

def stepAt (n : Int) (bs : List Int) (i : Nat) : Int := if i + 1 < bs.length then bs.getD (i + 1) 0 - bs.getD i 0 else n + bs.getD 0 0 - bs.getD i 0
/-- The first k steps. -/
def stepsK (n : Int) (bs : List Int) (k : Nat) : List Int := (List.range k).map (stepAt n bs)
def stepsL (n : Int) (bs : List Int) : List Int := stepsK n bs bs.length
theorem stepsK_zero (n : Int) (bs : List Int) : stepsK n bs 0 = [] := rfl
theorem stepsK_succ (n : Int) (bs : List Int) (k : Nat) : stepsK n bs (k + 1) = stepsK n bs k ++ [stepAt n bs k] := by simp [stepsK, List.range_succ]
theorem stepsK_len (n : Int) (bs : List Int) (k : Nat) : (stepsK n bs k).length = k := by simp [stepsK]
theorem stepsL_len (n : Int) (bs : List Int) : (stepsL n bs).length = bs.length := stepsK_len _ _ _
theorem stepAt_more {n : Int} {bs : List Int} {k : Nat} {x y : Int} (h : k + 1 < bs.length) (hx : bs.getD k 0 = x) (hy : bs.getD (k + 1) 0 = y) : stepAt n bs k = y - x := by
  unfold stepAt; rw [if_pos h, hx, hy]
theorem stepAt_last {n : Int} {bs : List Int} {k : Nat} {x z : Int} (h : ¬ k + 1 < bs.length) (hx : bs.getD k 0 = x) (hz : bs.getD 0 0 = z) : stepAt n bs k = n + z - x := by
  unfold stepAt; rw [if_neg h, hx, hz]

theorem RhOk.beat {n : Int} {bs : List Int} (h : RhOk n bs) {i : Nat} (hi : i < bs.length) : 0 ≤ bs.getD i 0 ∧ bs.getD i 0 < n := h.2.2.1 i hi
theorem RhOk.mono {n : Int} {bs : List Int} (h : RhOk n bs) : ∀ (j i : Nat), i < j → j < bs.length → bs.getD i 0 + (j - i : Int) ≤ bs.getD j 0
  | 0, i, hi, _ => by omega
  | j + 1, i, hi, hj => by
    have h1 := h.2.2.2 j hj
    by_cases e : i = j
    · subst e; omega
    · have := RhOk.mono h j i (by omega) (by omega)
      omega
theorem RhOk.len {n : Int} {bs : List Int} (h : RhOk n bs) : (bs.length : Int) ≤ n := by
  by_cases h0 : bs.length = 0
  · have := h.1; omega
  · have h1 := h.beat (i := bs.length - 1) (by omega)
    by_cases h2 : bs.length = 1
    · have := h.1; omega
    · have h3 := h.mono (bs.length - 1) 0 (by omega) (by omega)
      have h4 := h.beat (i := 0) (by omega)
      omega
theorem stepAt_pos {n : Int} {bs : List Int} (h : RhOk n bs) {i : Nat} (hi : i < bs.length) : 1 ≤ stepAt n bs i ∧ stepAt n bs i ≤ n := by
  unfold stepAt
  split
  · rename_i h1
    have a := h.beat h1
    have b := h.beat hi
    have c := h.2.2.2 i h1
    omega
  · have b := h.beat hi
    have a := h.beat (i := 0) (by omega)
    by_cases e : i = 0
    · subst e; have := h.1; omega
    · have c := h.mono i 0 (by omega) hi
      omega
theorem stepsK_fit {n : Int} {bs : List Int} (h : RhOk n bs) (k : Nat) (hk : k ≤ bs.length) : ∀ x ∈ stepsK n bs k, 1 ≤ x ∧ x ≤ 24 := by
  intro x hx
  obtain ⟨i, hi, rfl⟩ := List.mem_map.1 hx
  have hi := List.mem_range.1 hi
  have := stepAt_pos h (i := i) (by omega)
  have := h.2.1
  omega

/-- A list of ints in new memory: what a call hands back. -/
def RetInts (w : World) (xs : List Int) (e : Ending) (w' : World) : Prop := ∃ A cap, e = .returned (.slice A xs.length cap) ∧ Ints w' w'.heap.size A xs ∧ Below w.heap.size w w'

set_option maxRecDepth 100000 in
set_option maxHeartbeats 1000000 in
theorem impl_steps_any (n : Int) (A : Option Addr) (cap : Nat) (bs : List Int) (w : World) (hA : Ints w w.heap.size A bs) (hok : RhOk n bs) :
    Calls Tryd.prog 49 #[.agg #[.int .i64 n, .slice A bs.length cap]] w (RetInts w (stepsL n bs)) := by
  have hn1 := hok.1
  have hn2 := hok.2.1
  have hlen := hok.len
  have HC := Lib.hid hA.2.2
  have HOK := Lib.hid hok
  clear hA hok
  go_enter Tryd.func49, Tryd.ntmps49
  go_wp2
  go_loopw [3, 9] (fun v i wr => ∃ k : Nat, k ≤ bs.length ∧ i = .int .i64 k ∧ OwnI wr (w.heap.size + 1) v (stepsK n bs k) ∧ Below (w.heap.size + 1) (w.alloc (.cells #[.int .i64 n, .slice A bs.length cap] 27)) wr) (fun _ i _ => bs.length - (intOf i).toNat)
  case atStart => exact ⟨0, Nat.zero_le _, rfl, OwnI.nil _ _, Below.refl _ _⟩
  case round =>
    obtain ⟨k, hk, rfl, hown, hbel⟩ := hrel
    have hz := hbel.size
    simp only [World.size_alloc] at hz
    obtain ⟨A1, c1, rfl⟩ := hown.form
    obtain ⟨hcb, hfb⟩ := bcellB hbel
    by_cases hlt : k < bs.length
    · obtain ⟨b, off, rfl, hB, hc⟩ := HC.out (by omega)
      have hcell := hc k hlt
      have hcell0 := hc 0 (by omega)
      have hbx := HOK.out.beat hlt
      have hbz := HOK.out.beat (i := 0) (by omega)
      obtain ⟨x, hx⟩ : ∃ x, bs.getD k 0 = x := ⟨_, rfl⟩
      obtain ⟨z, hz0⟩ : ∃ z, bs.getD 0 0 = z := ⟨_, rfl⟩
      rw [hx] at hcell hbx
      rw [hz0] at hcell0 hbz
      have hcell' : wr.cell? ⟨b, off + k, none⟩ = some (.int .i64 x) := by
        rw [hcb b _ (by omega), World.cell?_alloc_lt w _ _ hB]; exact hcell
      have hcell0' : wr.cell? ⟨b, off, none⟩ = some (.int .i64 z) := by
        rw [hcb b _ (by omega), World.cell?_alloc_lt w _ _ hB]; exact hcell0
      have HX := Lib.hid hx
      have HZ := Lib.hid hz0
      have hs := stepsK_succ n bs k
      have HS := Lib.hid hs
      clear hx hz0 hs
      by_cases hmore : k + 1 < bs.length
      · have hcell1 := hc (k + 1) hmore
        have hby := HOK.out.beat hmore
        obtain ⟨y, hy⟩ : ∃ y, bs.getD (k + 1) 0 = y := ⟨_, rfl⟩
        rw [hy] at hcell1 hby
        have hcell1' : wr.cell? ⟨b, off + (k + 1), none⟩ = some (.int .i64 y) := by
          rw [hcb b _ (by omega), World.cell?_alloc_lt w _ _ hB]; exact hcell1
        have hst := stepAt_more (n := n) hmore HX.out hy
        have HY := Lib.hid hy
        have HST := Lib.hid hst
        clear hy hst hc
        go_wp2_with (at_builtin; refine wpList_append_int rfl _ _ rfl (w.heap.size + 1) _ (stepsK n bs k) rfl (hown.alloc _) _ _ rfl (cell_new1 _ _ _) (by first | omega | (simp only [stepsK_len]; omega)) (by first | exact Nat.le_refl _ | (simp; done) | (simp; omega) | omega) ?_; intro v' w1 hown1 hg1)
        go_roundw
        case rel => exact ⟨k + 1, by omega, by go_num, by rw [HS.out, HST.out]; exact hown1, (hbel.alloc hz _).trans hg1⟩
        case measure => simp [intOf]; omega
      · clear hc
        have hst := stepAt_last (n := n) hmore HX.out HZ.out
        have HST := Lib.hid hst
        clear hst
        go_wp2_with fail
        have hbx0 : wr.cell? ⟨w.heap.size, 0, none⟩ = some (.int .i64 n) := by rw [hcb _ _ (by omega)]; simp [go_sem]
        have hbx1 : wr.cell? ⟨w.heap.size, 1, none⟩ = some (.slice (some ⟨b, off, none⟩) bs.length cap) := by rw [hcb _ _ (by omega)]; simp [go_sem]
        have hl0 : (0 : Int) < (bs.length : Int) := by omega
        have hl1 : 0 < bs.length := by omega
        go_region_held3 (fun w' => w'.cell? ⟨w.heap.size, 0, none⟩ = some (.int .i64 n) ∧ w'.cell? ⟨w.heap.size, 1, none⟩ = some (.slice (some ⟨b, off, none⟩) bs.length cap) ∧ w'.cell? ⟨b, off, none⟩ = some (.int .i64 z))
          (first
            | go_keep
            | (obtain ⟨hcc, _⟩ := bcellB hg1
               refine ⟨?_, ?_, ?_⟩ <;> (rw [hcc _ _ (by omega)]; simp [go_sem, *])))
          ((refine step_append_int (by rfl) _ _ (by rfl) (w.heap.size + 1) _ (stepsK n bs k) (by rfl) ((hown.alloc _).drew) _ _ (by rfl) (cell_new1 _ _ _) (by simp only [stepsK_len]; omega) (by first | exact Nat.le_refl _ | (simp; done) | (simp; omega) | omega) ?_; intro v' w1 hown1 hg1))
        go_wp2_with fail
        go_roundw
        case rel => exact ⟨k + 1, by omega, by go_num, by rw [HS.out, HST.out]; rw [i64w (x := n + z) (by omega), i64w (x := n + z - x) (by omega)] at hown1; exact hown1, ((hbel.alloc hz _).drew).trans hg1⟩
        case measure => simp [intOf]; omega
    · have hf := stepsK_fit HOK.out k hk
      have hke : k = bs.length := by omega
      have HOWN := Lib.hid hown
      clear hown
      subst hke
      go_wp2
      go_ret
      have hl : (stepsK n bs bs.length).length = bs.length := stepsK_len _ _ _
      exact ⟨A1, c1, rfl, HOWN.out.ints (fun x hx => by have := hf x hx; exact ⟨by omega, by omega⟩), ((Below.refl _ _).alloc (Nat.le_refl _) _).trans (hbel.mono (by omega))⟩

set_option maxRecDepth 100000 in
set_option maxHeartbeats 1000000 in
theorem spec_l03Steps_any (n : Int) (A : Option Addr) (cap : Nat) (bs : List Int) (w : World) (hA : Ints w w.heap.size A bs) (hok : RhOk n bs) :
    Calls Tryd.prog 40 #[.agg #[.int .i64 n, .slice A bs.length cap]] w (RetInts w (stepsL n bs)) := by
  have hn1 := hok.1
  have hn2 := hok.2.1
  have hlen := hok.len
  have HC := Lib.hid hA.2.2
  have HOK := Lib.hid hok
  clear hA hok
  go_enter Tryd.func40, Tryd.ntmps40
  go_wp2
  go_loopw [3, 11] (fun v i wr => ∃ k : Nat, k ≤ bs.length ∧ i = .int .i64 k ∧ OwnI wr (w.heap.size + 1) v (stepsK n bs k) ∧ Below (w.heap.size + 1) (w.alloc (.cells #[.int .i64 n, .slice A bs.length cap] 27)) wr) (fun _ i _ => bs.length - (intOf i).toNat)
  case atStart => exact ⟨0, Nat.zero_le _, rfl, OwnI.empty_at _ _ _ (by simp) (by simp), (Below.refl _ _).alloc (by simp) _⟩
  case round =>
    obtain ⟨k, hk, rfl, hown, hbel⟩ := hrel
    have hz := hbel.size
    simp only [World.size_alloc] at hz
    obtain ⟨A1, c1, rfl⟩ := hown.form
    obtain ⟨hcb, hfb⟩ := bcellB hbel
    by_cases hlt : k < bs.length
    · obtain ⟨b, off, rfl, hB, hc⟩ := HC.out (by omega)
      have hcell := hc k hlt
      have hcell0 := hc 0 (by omega)
      have hbx := HOK.out.beat hlt
      have hbz := HOK.out.beat (i := 0) (by omega)
      obtain ⟨x, hx⟩ : ∃ x, bs.getD k 0 = x := ⟨_, rfl⟩
      obtain ⟨z, hz0⟩ : ∃ z, bs.getD 0 0 = z := ⟨_, rfl⟩
      rw [hx] at hcell hbx
      rw [hz0] at hcell0 hbz
      have hcell' : wr.cell? ⟨b, off + k, none⟩ = some (.int .i64 x) := by
        rw [hcb b _ (by omega), World.cell?_alloc_lt w _ _ hB]; exact hcell
      have hcell0' : wr.cell? ⟨b, off, none⟩ = some (.int .i64 z) := by
        rw [hcb b _ (by omega), World.cell?_alloc_lt w _ _ hB]; exact hcell0
      have hbx0 : wr.cell? ⟨w.heap.size, 0, none⟩ = some (.int .i64 n) := by rw [hcb _ _ (by omega)]; simp [go_sem]
      have hbx1 : wr.cell? ⟨w.heap.size, 1, none⟩ = some (.slice (some ⟨b, off, none⟩) bs.length cap) := by rw [hcb _ _ (by omega)]; simp [go_sem]
      have hl0 : (0 : Int) < (bs.length : Int) := by omega
      have hl1 : 0 < bs.length := by omega
      have HX := Lib.hid hx
      have HZ := Lib.hid hz0
      have hs := stepsK_succ n bs k
      have HS := Lib.hid hs
      clear hx hz0 hs
      have hsum : IntKind.i64.wrap (z + n) = z + n := i64w (by omega)
      by_cases hmore : k + 1 < bs.length
      · have hcell1 := hc (k + 1) hmore
        have hby := HOK.out.beat hmore
        obtain ⟨y, hy⟩ : ∃ y, bs.getD (k + 1) 0 = y := ⟨_, rfl⟩
        rw [hy] at hcell1 hby
        have hcell1' : wr.cell? ⟨b, off + (k + 1), none⟩ = some (.int .i64 y) := by
          rw [hcb b _ (by omega), World.cell?_alloc_lt w _ _ hB]; exact hcell1
        have hst := stepAt_more (n := n) hmore HX.out hy
        have HY := Lib.hid hy
        have HST := Lib.hid hst
        clear hy hst hc hcb hfb
        go_wp2_with fail
        go_quiet (fail)
        clear hsum
        go_wp2_with (at_builtin; refine wpList_append_int rfl _ _ rfl (w.heap.size + 1) _ (stepsK n bs k) rfl ((hown.alloc _).drewN _) _ _ rfl (cell_new1 _ _ _) (by simp only [stepsK_len]; omega) (by first | exact Nat.le_refl _ | (simp; done) | (simp; omega) | omega) ?_; intro v' w1 hown1 hg1)
        go_roundw
        case rel => exact ⟨k + 1, by omega, by go_num, by rw [HS.out, HST.out]; exact hown1, (Below.drewN_ (hbel.alloc hz _) _).trans hg1⟩
        case measure => simp [intOf]; omega
      · clear hc hcb hfb
        have hst := stepAt_last (n := n) hmore HX.out HZ.out
        have HST := Lib.hid hst
        clear hst
        go_wp2_with fail
        go_quiet (fail)
        clear hsum
        go_wp2_with (at_builtin; refine wpList_append_int rfl _ _ rfl (w.heap.size + 1) _ (stepsK n bs k) rfl ((hown.alloc _).drewN _) _ _ rfl (cell_new1 _ _ _) (by simp only [stepsK_len]; omega) (by first | exact Nat.le_refl _ | (simp; done) | (simp; omega) | omega) ?_; intro v' w1 hown1 hg1)
        go_roundw
        case rel => exact ⟨k + 1, by omega, by go_num, by rw [HS.out, HST.out, Int.add_comm n z]; exact hown1, (Below.drewN_ (hbel.alloc hz _) _).trans hg1⟩
        case measure => simp [intOf]; omega
    · have hf := stepsK_fit HOK.out k hk
      have hke : k = bs.length := by omega
      have HOWN := Lib.hid hown
      clear hown
      subst hke
      go_wp2
      go_ret
      have hl : (stepsK n bs bs.length).length = bs.length := stepsK_len _ _ _
      exact ⟨A1, c1, rfl, HOWN.out.ints (fun x hx => by have := hf x hx; exact ⟨by omega, by omega⟩), ((Below.refl _ _).alloc (Nat.le_refl _) _).trans (hbel.mono (by omega))⟩

end Go.Proofs.YtjoeglekcnaebaaDoor
