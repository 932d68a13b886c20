/-
  DERIVED. GIVEN WITH THE SEED: THE CARDS: each row of YtcolbkgceaboaaaDoorRows.lean that lists a variable, with what it lists TIED to the program's text (the seventh form; the later family's looks); each row that meets fmt, with fmt's text TOLD by the authors' own Lean function (tested against real Go, not proved from fmt's source: count such statements apart). THE CARD IS WHAT COUNTS. Prove the row's statement (the work); the ties are given (YtcolbkgceaboaaaDoorTie.lean); close each card by the builder's one call (the guide's Derived/Test/ToyasCard.lean, 'card_holds'). Laid BY PROGRAM, IN A SANDBOX (cutbox-door.mjs). By AI agents, Wed Nov 11 2026. No macro, syntax, notation, axiom, sorry.
-/
import Derived.Test.YtcolbkgceaboaaaDoorRows
import GoSem.ClaimSeven
namespace Go.Proofs.YtcolbkgceaboaaaDoor
namespace Rows

/-- THE TIED CARD OF 'laws.FnExactLineLine'. -/
def fnExactLineLineCard : Claim7 := { stood := { row := fnExactLineLineRow, standIns := [], harness := (true, "bccbc828d729fec19c4cba6ffcb7612c64c6ff3c60bb3810d9eb9a92d60c935a"), looks := false }, kinds := [], alts := [], laidByText := true, laidKinds := [.data, .data, .data], laidTests := true, laidLooks := .later }
def FnExactLineLineCardSaid : Prop := Claim7.holds Tryd.pinned (.plain (OpenSpec.ofChange fnExactLineLineSpec)) fnExactLineLineCard

/-- THE SECOND FORM's CARD OF 'laws.FnExactLineLine'. -/
def fnExactLineLineUptoCard : Claim7 := { stood := { row := fnExactLineLineUptoRow, standIns := [], harness := (true, "bccbc828d729fec19c4cba6ffcb7612c64c6ff3c60bb3810d9eb9a92d60c935a"), looks := false }, kinds := [], alts := [], laidByText := true, laidKinds := [.data, .data, .data], laidTests := true, laidLooks := .later }
def FnExactLineLineUptoCardSaid : Prop := Claim7.holds Tryd.pinned (.plain (OpenSpec.upto fnExactLineLineSpec)) fnExactLineLineUptoCard
end Rows
end Go.Proofs.YtcolbkgceaboaaaDoor
