/-
  slices.Sort on bytes.
-/
import Derived.Test.YthfjfhgeiggljaaDoorSrK
namespace Go.Proofs.YthfjfhgeiggljaaDoor
open Go.RowKit
set_option linter.unusedVariables false
set_option linter.unusedSimpArgs false

theorem len_byte (n : Nat) (hn : n < 1000000) (w : World) : ∃ l : Nat, l ≤ 1000 ∧ ∀ w, Calls Tryd.prog 59 #[.int .u64 n] w fun e w' => e = .returned (.int .i64 l) ∧ w' = w := by
  refine ⟨Go.Sort.bitsLen n, ?_, fun w => ?_⟩
  · exact Nat.le_trans ((Go.Sort.bitsLen_le_iff n 20).2 (by omega)) (by decide)
  · have h := calls_of_every_depth fun D => AnyS.bits_LenIn Tryd.lays125 D (n : Int) w (by omega) (by omega)
    rwa [Int.toNat_natCast, bitLen_eq _ (by omega)] at h

set_option maxRecDepth 100000 in
set_option maxHeartbeats 2000000 in
theorem sort_byte (g off cap n : Nat) (d : Array Int) (w : World) (hH : AD w g off d) (hn : d.size = n) (hsz : n < 1000000) :
    Calls Tryd.prog 32 #[.slice (some ⟨g, off, none⟩) n cap] w (PdqR g off n 0 n d w) := by
  obtain ⟨l, hl, hL⟩ := len_byte n hsz w
  have HL := Lib.hid hL
  have hwn : IntKind.u64.wrap (n : Int) = (n : Int) := by rw [IntKind.wrap_u64]; omega
  have HP := Lib.hid (fun V hV => pdq_byte g off cap n hsz n 0 n l d V (by omega) hV (Nat.zero_le _) (Nat.le_refl _) hn hl (.inl rfl))
  have HH := Lib.hid hH
  clear hH hL
  go_enter Tryd.func32, Tryd.ntmps32
  go_wp2_with (go_at_call 59; refine (HL.out _).mono ?_; rintro e w' ⟨rfl, rfl⟩)
  refine (HP.out _ HH.out).mono ?_
  rintro e w1 ⟨rfl, hR⟩
  have HR := Lib.hid hR
  clear hR
  go_wp2
  go_end0
  exact ⟨rfl, HR.out⟩

end Go.Proofs.YthfjfhgeiggljaaDoor
