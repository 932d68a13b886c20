/- Parts of the proof of the card of the law FnConsole. -/
import Derived.Test.YtjpnjchpdkogbaaGreatDoorShF
import Derived.Test.YtjpnjchpdkogbaaGreatDoorTabU
import Derived.Test.YtjpnjchpdkogbaaGreatDoorOwn
set_option linter.unusedVariables false
set_option linter.unusedSimpArgs false
namespace Go.Proofs.YtjpnjchpdkogbaaGreatDoor
open Go.RowKit Go.Shelf
end Go.Proofs.YtjpnjchpdkogbaaGreatDoor
