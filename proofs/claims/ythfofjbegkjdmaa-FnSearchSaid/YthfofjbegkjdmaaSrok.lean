/-
  RhythmOk of the reference; StepsOf of both.
-/
import Derived.Test.YthfofjbegkjdmaaRok
namespace Go.Proofs.Ythfofjbegkjdmaa
open Go.RowKit
set_option linter.unusedVariables false
set_option linter.unusedSimpArgs false

end Go.Proofs.Ythfofjbegkjdmaa
