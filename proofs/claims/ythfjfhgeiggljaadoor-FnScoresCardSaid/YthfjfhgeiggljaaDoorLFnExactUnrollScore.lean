/-
  The law FnExactUnrollScore: UnrollScore of both; the walk.
-/
import Derived.Test.YthfjfhgeiggljaaDoorScoW
namespace Go.Proofs.YthfjfhgeiggljaaDoor
open Go.RowKit
set_option linter.unusedVariables false
set_option linter.unusedSimpArgs false

set_option maxRecDepth 100000 in
set_option maxHeartbeats 400000 in
theorem impl_UnrollScore_any (s : ByteArray) (w : World) (hs : s.size ≤ maxLen) :
    Calls Tryd.prog 16 #[.string s] w fun e w' => e = .returned (.tuple #[.string (mkS (plaV s)), .bool (scoreR s).isSome]) ∧ Below w.heap.size w w' := by
  have HRS := Lib.hid (fun V => impl_readScore_any s V hs)
  have HV := Lib.hid (show plaV s = match scoreR s with | none => [] | some r => letL s r.1 from rfl)
  have HPL := Lib.hid (fun p d (h : scoreR s = some (p, d)) => scoreR_places h)
  generalize plaV s = n at HV ⊢
  generalize scoreR s = R at HRS HV HPL ⊢
  go_enter Tryd.func16, Tryd.ntmps16
  go_wp2_with fail
  refine (HRS.out _).mono ?_
  rintro e w1 ⟨A, c, p, dd, ok, rfl, hI, hb, hok, hno⟩
  have hv : n = letL s p ∧ (s.size ≤ 60 ∨ p = []) ∧ p.length ≤ 500 ∧ (∀ x ∈ p, 0 ≤ x ∧ x < s.size) ∧ R.isSome = ok := by
    cases ok
    · obtain ⟨h1, h2, _⟩ := hno rfl
      rw [HV.out, h1, h2]
      exact ⟨rfl, .inr rfl, by simp, (fun x hx => by cases hx), rfl⟩
    · have h1 := hok rfl
      obtain ⟨h2, h3, h4⟩ := HPL.out p dd h1
      rw [HV.out, h1]
      exact ⟨rfl, .inl h2, h3, h4, rfl⟩
  have HVV := Lib.hid hv
  have HB := Lib.hid (hb.alloc hb.size (.cells #[.slice A p.length c, .int .i64 dd] 44))
  have HI := Lib.hid ((hI.alloc (Nat.le_refl _) (.cells #[.slice A p.length c, .int .i64 dd] 44)).mono (B' := (w1.alloc (.cells #[.slice A p.length c, .int .i64 dd] 44)).heap.size) (by simp))
  clear hok hno hv hb hI
  go_wp2_with fail
  refine (impl_letters_any s A c p dd _ HVV.out.2.1 HI.out HVV.out.2.2.1 HVV.out.2.2.2.1).mono ?_
  rintro e w2 ⟨rfl, hb2⟩
  go_wp2_with fail
  go_ret2
  exact ⟨by rw [HVV.out.1, HVV.out.2.2.2.2]; rfl, HB.out.trans (hb2.mono HB.out.size)⟩

end Go.Proofs.YthfjfhgeiggljaaDoor
