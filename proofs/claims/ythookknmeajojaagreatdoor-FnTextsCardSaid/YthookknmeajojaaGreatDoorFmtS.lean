/-
  FormatInt of both at a single digit.
-/
import Derived.Test.YthookknmeajojaaGreatDoorShF
import Derived.Test.YthookknmeajojaaGreatDoorTabU
import Derived.Test.YthookknmeajojaaGreatDoorOwn
namespace Go.Proofs.YthookknmeajojaaGreatDoor
open Go.RowKit Go.Shelf
set_option linter.unusedVariables false
set_option linter.unusedSimpArgs false

def digT (r : Nat) : List UInt8 := [UInt8.ofNat (48 + r)]

theorem impl_FormatInt_dig (r : Nat) (hr : r < 10) (w : World) :
    Calls Tryz.prog 111 #[.int .i64 r] w fun e w' => e = .returned (.string (mkS (digT r))) ∧ w = w' := by
  have HI := Lib.hid (Any.strconv_Itoa_small Tryz.lays171 r (by omega) w)
  have he : (⟨(Lib.decDigits r).toArray⟩ : ByteArray) = mkS (digT r) := by
    rw [Lib.decDigits, dif_pos hr]; rfl
  rw [he] at HI
  clear he
  generalize mkS (digT r) = X at HI ⊢
  go_enter Tryz.func111, Tryz.ntmps111
  go_wp2_with fail
  refine HI.out.mono ?_
  rintro e w' ⟨rfl, rfl⟩
  go_wp2_with fail
  go_ret
  exact ⟨rfl, rfl⟩

end Go.Proofs.YthookknmeajojaaGreatDoor
