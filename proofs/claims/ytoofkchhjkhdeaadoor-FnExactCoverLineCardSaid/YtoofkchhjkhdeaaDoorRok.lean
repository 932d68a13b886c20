/-
  RhythmOk of the program and of the reference.
-/
import Derived.Test.YtoofkchhjkhdeaaDoorIntW
namespace Go.Proofs.YtoofkchhjkhdeaaDoor
open Go.RowKit
set_option linter.unusedVariables false
set_option linter.unusedSimpArgs false

end Go.Proofs.YtoofkchhjkhdeaaDoor
