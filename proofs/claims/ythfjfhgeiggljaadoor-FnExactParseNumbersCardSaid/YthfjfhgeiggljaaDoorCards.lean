/-
  DERIVED. GIVEN WITH THE SEED: THE CARDS: each row of YthfjfhgeiggljaaDoorRows.lean that lists a variable, with what it lists TIED to the program's text (the seventh form; the later family's looks); each row that meets fmt, with fmt's text TOLD by the authors' own Lean function (tested against real Go, not proved from fmt's source: count such statements apart). THE CARD IS WHAT COUNTS. Prove the row's statement (the work); the ties are given (YthfjfhgeiggljaaDoorTie.lean); close each card by the builder's one call (the guide's Derived/Test/ToyasCard.lean, 'card_holds'). Laid BY PROGRAM, IN A SANDBOX (cutbox-door.mjs). By AI agents, Wed Nov 11 2026. No macro, syntax, notation, axiom, sorry.
-/
import Derived.Test.YthfjfhgeiggljaaDoorRows
import GoSem.ClaimSeven
namespace Go.Proofs.YthfjfhgeiggljaaDoor
namespace Rows

/-- THE TIED CARD OF 'laws.FnScores'. -/
def fnScoresCard : Claim7 := { stood := { row := fnScoresRow, standIns := [], harness := (true, "201c08663d72a97623a4702e8527607760bba40d6e5a7ed1626da453692c6077"), looks := true }, kinds := [], alts := [], laidByText := true, laidKinds := [.data, .data, .data, .data, .pinned], laidTests := true, laidLooks := .later }
def FnScoresCardSaid : Prop := Claim7.holds Tryd.pinned (.plain (OpenSpec.ofChange fnScoresSpec)) fnScoresCard

/-- THE TIED CARD OF 'laws.FnExactCoverLine'. -/
def fnExactCoverLineCard : Claim7 := { stood := { row := fnExactCoverLineRow, standIns := [], harness := (true, "201c08663d72a97623a4702e8527607760bba40d6e5a7ed1626da453692c6077"), looks := true }, kinds := [], alts := [], laidByText := true, laidKinds := [.data, .data, .data], laidTests := true, laidLooks := .later }
def FnExactCoverLineCardSaid : Prop := Claim7.holds Tryd.pinned (.plain (OpenSpec.ofChange fnExactCoverLineSpec)) fnExactCoverLineCard

/-- THE TIED CARD OF 'laws.FnExactParseNumbers'. -/
def fnExactParseNumbersCard : Claim7 := { stood := { row := fnExactParseNumbersRow, standIns := [], harness := (true, "201c08663d72a97623a4702e8527607760bba40d6e5a7ed1626da453692c6077"), looks := true }, kinds := [], alts := [], laidByText := true, laidKinds := [.data, .data, .data, .data, .sentinel, .sentinel, .pinned], laidTests := true, laidLooks := .later }
def FnExactParseNumbersCardSaid : Prop := Claim7.holds Tryd.pinned (.plain (OpenSpec.ofChange fnExactParseNumbersSpec)) fnExactParseNumbersCard

/-- THE SECOND FORM's CARD OF 'laws.FnScores'. -/
def fnScoresUptoCard : Claim7 := { stood := { row := fnScoresUptoRow, standIns := [], harness := (true, "201c08663d72a97623a4702e8527607760bba40d6e5a7ed1626da453692c6077"), looks := true }, kinds := [], alts := [], laidByText := true, laidKinds := [.data, .data, .data, .data, .pinned], laidTests := true, laidLooks := .later }
def FnScoresUptoCardSaid : Prop := Claim7.holds Tryd.pinned (.plain (OpenSpec.upto fnScoresSpec)) fnScoresUptoCard

/-- THE SECOND FORM's CARD OF 'laws.FnExactCoverLine'. -/
def fnExactCoverLineUptoCard : Claim7 := { stood := { row := fnExactCoverLineUptoRow, standIns := [], harness := (true, "201c08663d72a97623a4702e8527607760bba40d6e5a7ed1626da453692c6077"), looks := true }, kinds := [], alts := [], laidByText := true, laidKinds := [.data, .data, .data], laidTests := true, laidLooks := .later }
def FnExactCoverLineUptoCardSaid : Prop := Claim7.holds Tryd.pinned (.plain (OpenSpec.upto fnExactCoverLineSpec)) fnExactCoverLineUptoCard

/-- THE SECOND FORM's CARD OF 'laws.FnExactParseNumbers'. -/
def fnExactParseNumbersUptoCard : Claim7 := { stood := { row := fnExactParseNumbersUptoRow, standIns := [], harness := (true, "201c08663d72a97623a4702e8527607760bba40d6e5a7ed1626da453692c6077"), looks := true }, kinds := [], alts := [], laidByText := true, laidKinds := [.data, .data, .data, .data, .sentinel, .sentinel, .pinned], laidTests := true, laidLooks := .later }
def FnExactParseNumbersUptoCardSaid : Prop := Claim7.holds Tryd.pinned (.plain (OpenSpec.upto fnExactParseNumbersSpec)) fnExactParseNumbersUptoCard
end Rows
end Go.Proofs.YthfjfhgeiggljaaDoor
