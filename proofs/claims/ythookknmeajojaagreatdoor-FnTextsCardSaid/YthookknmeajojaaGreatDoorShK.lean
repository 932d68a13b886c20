/-
  The table of slices.Clone lies in another text.
-/
import Derived.Test.YthookknmeajojaaGreatDoorShI
namespace Go.Proofs.YthookknmeajojaaGreatDoor
end Go.Proofs.YthookknmeajojaaGreatDoor
