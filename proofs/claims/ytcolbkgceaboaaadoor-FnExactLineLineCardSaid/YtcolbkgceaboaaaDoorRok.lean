/-
  RhythmOk of the program and of the reference.
-/
import Derived.Test.YtcolbkgceaboaaaDoorIntW
namespace Go.Proofs.YtcolbkgceaboaaaDoor
open Go.RowKit
set_option linter.unusedVariables false
set_option linter.unusedSimpArgs false

end Go.Proofs.YtcolbkgceaboaaaDoor
