/-
  RhythmOk of the reference; StepsOf of both.
-/
import Derived.Test.YtlejlcnemibgiaaGreatWzB
namespace Go.Proofs.YtlejlcnemibgiaaGreat
open Go.RowKit
set_option linter.unusedVariables false
set_option linter.unusedSimpArgs false

end Go.Proofs.YtlejlcnemibgiaaGreat
