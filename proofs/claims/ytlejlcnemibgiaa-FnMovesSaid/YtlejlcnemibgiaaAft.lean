/-
  The order of rhythms by their texts, of the reference; code and rhythmAt of the program at every size.
-/
import Derived.Test.YtlejlcnemibgiaaMovT
import Derived.Test.YtlejlcnemibgiaaRw
namespace Go.Proofs.Ytlejlcnemibgiaa
open Go.RowKit
set_option linter.unusedVariables false
set_option linter.unusedSimpArgs false

end Go.Proofs.Ytlejlcnemibgiaa
