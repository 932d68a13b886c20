/- Parts of the proof of the card of the law FnConfirms. -/
import Derived.Test.YtjgbidnebnggoaaGreatDoorShF
import Derived.Test.YtjgbidnebnggoaaGreatDoorTabU
import Derived.Test.YtjgbidnebnggoaaGreatDoorOwn
set_option linter.unusedVariables false
set_option linter.unusedSimpArgs false
namespace Go.Proofs.YtjgbidnebnggoaaGreatDoor
open Go.RowKit Go.Shelf
end Go.Proofs.YtjgbidnebnggoaaGreatDoor
