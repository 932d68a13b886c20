/-
  The law FnExactWindowsOf: WindowsOf of both; the walk.
-/
import Derived.Test.YtlejlcnemibgiaaGreatWdws
import Derived.Test.YtlejlcnemibgiaaGreatMarkS
namespace Go.Proofs.YtlejlcnemibgiaaGreat
open Go.RowKit
set_option linter.unusedVariables false
set_option linter.unusedSimpArgs false

noncomputable def winsV (n : Int) (bs : List Int) (k : Int) : List Txt := if rhB n bs = true ∧ inB k 0 48 = true then allD n bs k.toNat n.toNat else []
theorem winsV_yes {n : Int} {bs : List Int} {k : Int} (h1 : rhB n bs = true) (h3 : inB k 0 48 = true) : winsV n bs k = allD n bs k.toNat n.toNat := by unfold winsV; rw [if_pos ⟨h1, h3⟩]
theorem winsV_no {n : Int} {bs : List Int} {k : Int} (h : ¬ (rhB n bs = true ∧ inB k 0 48 = true)) : winsV n bs k = [] := by unfold winsV; rw [if_neg h]
theorem winsV_len (n : Int) (bs : List Int) (k : Int) : (winsV n bs k).length ≤ 1000 := by
  unfold winsV
  split
  · rename_i h
    have := (rhB_iff.1 h.1).2.1
    have := allD_len n bs k.toNat n.toNat
    omega
  · simp

set_option maxRecDepth 100000 in
set_option maxHeartbeats 1000000 in
theorem impl_WindowsOf_any (n : Int) (A : Option Addr) (cap : Nat) (bs : List Int) (k : Int) (w : World)(hn : Fits n) (hA : Ints w w.heap.size A bs) :
    Calls Tryz.prog 8 #[.agg #[.int .i64 n, .slice A bs.length cap], .int .i64 k] w (RetStr w (winsV n bs k)) := by
  have HA := Lib.hid hA
  have hro := fun (V : World) (hV : Ints V V.heap.size A bs) => impl_RhythmOk_any n A cap bs V hn hV
  have HW := Lib.hid ((Below.refl w.heap.size w).alloc (Nat.le_refl _) (.cells #[.int .i64 n, .slice A bs.length cap] 25))
  obtain ⟨c0, c1⟩ := box2 (Below.refl (w.heap.size + 1) (w.alloc (.cells #[.int .i64 n, .slice A bs.length cap] 25)))
  clear hA
  cases h1 : rhB n bs
  · rw [winsV_no (fun h => by rw [h1] at h; cases h.1)]
    rw [h1] at hro
    have HRO := Lib.hid hro
    clear hro
    go_enter Tryz.func8, Tryz.ntmps8
    go_wp2_with fail
    refine (HRO.out _ (HA.out.lift HW.out)).mono ?_
    rintro e w1 ⟨rfl, hb⟩
    go_wp2_with fail
    go_ret
    exact ⟨_, rfl, OwnS.nil _ _, HW.out.trans (hb.mono (by first | exact Nat.le_refl _ | (simp; done) | (simp; omega) | omega))⟩
  have hok := rhB_iff.1 h1
  have hn1 := hok.1
  have hn2 := hok.2.1
  have HOK := Lib.hid hok
  rw [h1] at hro
  have HRO := Lib.hid hro
  have H1 := Lib.hid h1
  clear hro hok h1
  cases h3 : inB k 0 48
  · rw [winsV_no (fun h => by rw [h3] at h; cases h.2)]
    go_enter Tryz.func8, Tryz.ntmps8
    go_wp2_with fail
    refine (HRO.out _ (HA.out.lift HW.out)).mono ?_
    rintro e w1 ⟨rfl, hb⟩
    have hcc := (bcellB hb).1
    have d0 := (hcc w.heap.size 0 (by first | exact Nat.le_refl _ | (simp; done) | (simp; omega) | omega)).trans c0
    have d1 := (hcc w.heap.size 1 (by first | exact Nat.le_refl _ | (simp; done) | (simp; omega) | omega)).trans c1
    clear hcc c0 c1
    go_wp2_with (go_at_call 26; refine (within_any _ _ _ _).mono ?_; rintro e w' ⟨rfl, rfl⟩)
    go_ret
    exact ⟨_, rfl, OwnS.nil _ _, HW.out.trans (hb.mono (by first | exact Nat.le_refl _ | (simp; done) | (simp; omega) | omega))⟩
  rw [winsV_yes H1.out h3]
  obtain ⟨hk0, hk1⟩ := inB_iff.1 h3
  obtain ⟨N, rfl⟩ := Int.eq_ofNat_of_zero_le (show 0 ≤ n by omega)
  obtain ⟨k, rfl⟩ := Int.eq_ofNat_of_zero_le hk0
  rw [Int.toNat_natCast, Int.toNat_natCast]
  have hll := allD_len (N : Int) bs k N
  go_enter Tryz.func8, Tryz.ntmps8
  go_wp2_with fail
  refine (HRO.out _ (HA.out.lift HW.out)).mono ?_
  rintro e w1 ⟨rfl, hb⟩
  have hcc := (bcellB hb).1
  have d0 := (hcc w.heap.size 0 (by first | exact Nat.le_refl _ | (simp; done) | (simp; omega) | omega)).trans c0
  have d1 := (hcc w.heap.size 1 (by first | exact Nat.le_refl _ | (simp; done) | (simp; omega) | omega)).trans c1
  have HW1 := Lib.hid (HW.out.trans (hb.mono (by first | exact Nat.le_refl _ | (simp; done) | (simp; omega) | omega)))
  clear hcc c0 c1 hb
  go_wp2_with (go_at_call 26; refine (within_any _ _ _ _).mono ?_; rintro e w' ⟨rfl, rfl⟩)
  refine (impl_windows_any N A cap bs k _ (HA.out.lift HW1.out) HOK.out (by omega)).mono ?_
  rintro e w2 ⟨v, rfl, hown, hb2⟩
  obtain ⟨A2, c2, rfl, _⟩ := hown.form
  have HO := Lib.hid hown
  clear hown
  go_wp2_with fail
  go_ret
  exact ⟨_, rfl, HO.out.mono HW1.out.size, HW1.out.trans (hb2.mono HW1.out.size)⟩

end Go.Proofs.YtlejlcnemibgiaaGreat
