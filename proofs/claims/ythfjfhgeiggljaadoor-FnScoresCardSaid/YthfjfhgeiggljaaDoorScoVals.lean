/-
  CountPlayed, PlaceAt of both.
-/
import Derived.Test.YthfjfhgeiggljaaDoorScore
namespace Go.Proofs.YthfjfhgeiggljaaDoor
open Go.RowKit
set_option linter.unusedVariables false
set_option linter.unusedSimpArgs false

def cntP (s : ByteArray) : Int := match scoreR s with
  | none => -1
  | some r => r.1.length

set_option maxHeartbeats 400000 in
theorem impl_CountPlayed_any (s : ByteArray) (w : World) (hs : s.size ≤ maxLen) :
    Calls Tryd.prog 9 #[.string s] w fun e w' => e = .returned (.int .i64 (cntP s)) ∧ Below w.heap.size w w' := by
  have HRS := Lib.hid (fun V => impl_readScore_any s V hs)
  have HV := Lib.hid (show cntP s = match scoreR s with | none => (-1 : Int) | some r => (r.1.length : Int) from rfl)
  generalize cntP s = n at HV ⊢
  generalize scoreR s = R at HRS HV
  go_enter Tryd.func9, Tryd.ntmps9
  go_wp2_with fail
  refine (HRS.out _).mono ?_
  rintro e w1 ⟨A, c, p, dd, ok, rfl, hI, hb, hok, hno⟩
  cases ok
  · have HF := Lib.hid (show n = -1 by rw [HV.out, (hno rfl).1])
    clear hok hno hI
    go_wp2_with fail
    go_ret
    exact ⟨ret_int HF.out.symm, hb.alloc hb.size _⟩
  · have HF := Lib.hid (show n = p.length by rw [HV.out, hok rfl])
    clear hok hno hI
    go_wp2_with fail
    go_ret
    exact ⟨ret_int HF.out.symm, hb.alloc hb.size _⟩

def plcV (s : ByteArray) (i : Int) : Int := match scoreR s with
  | none => -1
  | some r => if inB i 0 ((r.1.length : Int) - 1) then r.1.getD i.toNat 0 else -1

set_option maxRecDepth 100000 in
set_option maxHeartbeats 400000 in
theorem impl_PlaceAt_any (s : ByteArray) (i : Int) (w : World) (hs : s.size ≤ maxLen) :
    Calls Tryd.prog 12 #[.string s, .int .i64 i] w fun e w' => e = .returned (.int .i64 (plcV s i)) ∧ Below w.heap.size w w' := by
  have HRS := Lib.hid (fun V => impl_readScore_any s V hs)
  have HV := Lib.hid (show plcV s i = match scoreR s with | none => (-1 : Int) | some r => if inB i 0 ((r.1.length : Int) - 1) then r.1.getD i.toNat 0 else -1 from rfl)
  generalize plcV s i = n at HV ⊢
  generalize scoreR s = R at HRS HV
  go_enter Tryd.func12, Tryd.ntmps12
  go_wp2_with fail
  refine (HRS.out _).mono ?_
  rintro e w1 ⟨A, c, p, dd, ok, rfl, hI, hb, hok, hno⟩
  have hpl := hI.1
  unfold maxLen at hpl
  have hv : n = if inB i 0 ((p.length : Int) - 1) then p.getD i.toNat 0 else -1 := by
    cases ok
    · obtain ⟨h1, h2, _⟩ := hno rfl
      rw [HV.out, h1, h2, inB_false (by simp; omega)]
      rfl
    · rw [HV.out, hok rfl]
  have HV2 := Lib.hid hv
  have HB := Lib.hid (hb.alloc hb.size (.cells #[.slice A p.length c, .int .i64 dd] 44))
  have HI := Lib.hid (hI.alloc (Nat.le_refl _) (.cells #[.slice A p.length c, .int .i64 dd] 44))
  clear hok hno hv hb
  cases hin : inB i 0 ((p.length : Int) - 1)
  · have HF := Lib.hid (show n = -1 by rw [HV2.out, hin]; rfl)
    clear hI
    go_wp2_with (go_at_call 30; refine (within_any _ _ _ _).mono ?_; rintro e w' ⟨rfl, rfl⟩)
    go_ret
    exact ⟨ret_int HF.out.symm, HB.out⟩
  · obtain ⟨hi0, hi1⟩ := inB_iff.1 hin
    obtain ⟨j, rfl⟩ := Int.eq_ofNat_of_zero_le hi0
    obtain ⟨b, off, rfl, hB, hc⟩ := HI.out.2.2 (by omega)
    have hcell := hc j (by omega)
    obtain ⟨x, hx⟩ : ∃ x, p.getD j 0 = x := ⟨_, rfl⟩
    rw [hx] at hcell
    have HF := Lib.hid (show n = x by rw [HV2.out, hin, Int.toNat_natCast]; exact hx)
    clear hc hI hx
    go_wp2_with (go_at_call 30; refine (within_any _ _ _ _).mono ?_; rintro e w' ⟨rfl, rfl⟩)
    go_ret
    exact ⟨ret_int HF.out.symm, HB.out⟩

end Go.Proofs.YthfjfhgeiggljaaDoor
