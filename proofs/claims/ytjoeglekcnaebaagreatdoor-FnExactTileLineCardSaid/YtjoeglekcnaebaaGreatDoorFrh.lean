/-
  FormatRhythm of the reference.
-/
import Derived.Test.YtjoeglekcnaebaaGreatDoorText
namespace Go.Proofs.YtjoeglekcnaebaaGreatDoor
open Go.RowKit Go.Shelf
set_option linter.unusedVariables false
set_option linter.unusedSimpArgs false

set_option maxRecDepth 100000 in
set_option maxHeartbeats 1000000 in
theorem spec_FormatRhythm_ok (N : Nat) (A : Option Addr) (cap : Nat) (bs : List Int) (w : World) (hA : Ints w w.heap.size A bs) (hok : RhOk N bs) :
    Calls Tryz.prog 16 #[.agg #[.int .i64 N, .slice A bs.length cap]] w fun e w' => e = .returned (.string (mkS (textF N bs (fun _ => 120)))) ∧ Below w.heap.size w w' := by
  have hlen := hA.1
  unfold maxLen at hlen
  have hn1 : 1 ≤ N := by have := hok.1; omega
  have hn2 : N ≤ 24 := by have := hok.2.1; omega
  have hro := fun (V : World) (hV : Ints V V.heap.size A bs) => spec_RhythmOk_any N A cap bs V hV
  rw [rhB_iff.2 hok] at hro
  have HRO := Lib.hid hro
  have HA := Lib.hid hA
  clear hA hok hro
  have HW := Lib.hid ((Below.refl w.heap.size w).alloc (Nat.le_refl _) (.cells #[.int .i64 N, .slice A bs.length cap] 27))
  obtain ⟨c0, c1⟩ := box2 (Below.refl (w.heap.size + 1) (w.alloc (.cells #[.int .i64 N, .slice A bs.length cap] 27)))
  go_enter Tryz.func16, Tryz.ntmps16
  go_wp2_with fail
  refine (HRO.out _ (HA.out.lift HW.out)).mono ?_
  rintro e w0 ⟨rfl, hb0⟩
  have hb0' := (bcellB hb0).1
  have e0 := (hb0' w.heap.size 0 (by first | exact Nat.le_refl _ | (simp; done) | (simp; omega) | omega)).trans c0
  have e1 := (hb0' w.heap.size 1 (by first | exact Nat.le_refl _ | (simp; done) | (simp; omega) | omega)).trans c1
  have HW1 := Lib.hid (HW.out.trans (hb0.mono (by first | exact Nat.le_refl _ | (simp; done) | (simp; omega) | omega)))
  have HI := Lib.hid (HA.out.lift HW1.out)
  clear c0 c1 hb0 hb0'
  go_wp2_with fail
  go_loop [3, 4] (fun s p => ∃ (q : Nat) (u : ByteArray), q ≤ N ∧ p = .int .i64 q ∧ s = .string u ∧ Str u (tabL q (txF bs (fun _ => 120)))) (fun _ p => N - (intOf p).toNat)
  case atStart => exact ⟨0, _, Nat.zero_le _, rfl, rfl, str_nil⟩
  case round =>
    obtain ⟨q, u, hq, rfl, rfl, hu⟩ := hrel
    by_cases hlt : q < N
    · have hsz := hu.size
      rw [tabL_len] at hsz
      have hsz' : u.size ≤ 1000 := by omega
      clear hsz
      have hs := tabL_succ q (txF bs (fun _ => 120))
      have HH := fun V hV => spec_l02Has_any A cap bs (q : Int) V V.heap.size hV
      cases hh : hasB bs (q : Int)
      · rw [show txF bs (fun _ => 120) q = 46 by unfold txF; rw [hh]; rfl] at hs
        rw [hh] at HH
        have HS := Lib.hid hs
        have HHH := Lib.hid HH
        clear hs HH hh
        go_wp2_with fail
        refine (HHH.out _ HI.out).mono ?_
        rintro e w' ⟨rfl, rfl⟩
        go_wp2_with fail
        go_round
        case rel => exact ⟨q + 1, _, by omega, by go_num, rfl, by rw [HS.out]; exact hu.app (str_one _)⟩
        case measure => simp [intOf]; omega
      · rw [show txF bs (fun _ => 120) q = 120 by unfold txF; rw [hh]; rfl] at hs
        rw [hh] at HH
        have HS := Lib.hid hs
        have HHH := Lib.hid HH
        clear hs HH hh
        go_wp2_with fail
        refine (HHH.out _ HI.out).mono ?_
        rintro e w' ⟨rfl, rfl⟩
        go_wp2_with fail
        go_round
        case rel => exact ⟨q + 1, _, by omega, by go_num, rfl, by rw [HS.out]; exact hu.app (str_one _)⟩
        case measure => simp [intOf]; omega
    · have hqe : q = N := by omega
      subst hqe
      have HU := Lib.hid hu.eq
      clear hu
      go_wp2_with fail
      go_ret
      exact ⟨ret_str HU.out, HW1.out⟩

end Go.Proofs.YtjoeglekcnaebaaGreatDoor
