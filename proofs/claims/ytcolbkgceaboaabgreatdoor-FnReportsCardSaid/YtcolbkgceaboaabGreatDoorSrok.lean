/-
  RhythmOk of the reference; StepsOf of both.
-/
import Derived.Test.YtcolbkgceaboaabGreatDoorRok
namespace Go.Proofs.YtcolbkgceaboaabGreatDoor
open Go.RowKit
set_option linter.unusedVariables false
set_option linter.unusedSimpArgs false

end Go.Proofs.YtcolbkgceaboaabGreatDoor
