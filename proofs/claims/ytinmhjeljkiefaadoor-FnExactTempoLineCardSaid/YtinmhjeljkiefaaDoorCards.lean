/-
  DERIVED. GIVEN WITH THE SEED: THE CARDS: each row of YtinmhjeljkiefaaDoorRows.lean that lists a variable, with what it lists TIED to the program's text (the seventh form; the later family's looks); each row that meets fmt, with fmt's text TOLD by the authors' own Lean function (tested against real Go, not proved from fmt's source: count such statements apart). THE CARD IS WHAT COUNTS. Prove the row's statement (the work); the ties are given (YtinmhjeljkiefaaDoorTie.lean); close each card by the builder's one call (the guide's Derived/Test/ToyasCard.lean, 'card_holds'). Laid BY PROGRAM, IN A SANDBOX (cutbox-door.mjs). By AI agents, Wed Nov 11 2026. No macro, syntax, notation, axiom, sorry.
-/
import Derived.Test.YtinmhjeljkiefaaDoorRows
import GoSem.ClaimSeven
namespace Go.Proofs.YtinmhjeljkiefaaDoor
namespace Rows

/-- THE TIED CARD OF 'laws.FnExactRenameBar'. -/
def fnExactRenameBarCard : Claim7 := { stood := { row := fnExactRenameBarRow, standIns := [], harness := (true, "2779f6483447631c05e09136bfcd283516499d5c0550dd6b99f3aeb818c85aa2"), looks := false }, kinds := [], alts := [], laidByText := true, laidKinds := [.data, .pinned], laidTests := true, laidLooks := .later }
def FnExactRenameBarCardSaid : Prop := Claim7.holds Tryd.pinned (.plain (OpenSpec.ofChange fnExactRenameBarSpec)) fnExactRenameBarCard

/-- THE TIED CARD OF 'laws.FnExactFoldRuns'. -/
def fnExactFoldRunsCard : Claim7 := { stood := { row := fnExactFoldRunsRow, standIns := [], harness := (true, "2779f6483447631c05e09136bfcd283516499d5c0550dd6b99f3aeb818c85aa2"), looks := false }, kinds := [], alts := [], laidByText := true, laidKinds := [.data, .data, .data], laidTests := true, laidLooks := .later }
def FnExactFoldRunsCardSaid : Prop := Claim7.holds Tryd.pinned (.plain (OpenSpec.ofChange fnExactFoldRunsSpec)) fnExactFoldRunsCard

/-- THE TIED CARD OF 'laws.FnExactNewConsole'. -/
def fnExactNewConsoleCard : Claim7 := { stood := { row := fnExactNewConsoleRow, standIns := [], harness := (true, "2779f6483447631c05e09136bfcd283516499d5c0550dd6b99f3aeb818c85aa2"), looks := false }, kinds := [], alts := [], laidByText := true, laidKinds := [.data, .pinned], laidTests := true, laidLooks := .later }
def FnExactNewConsoleCardSaid : Prop := Claim7.holds Tryd.pinned (.plain (OpenSpec.ofChange fnExactNewConsoleSpec)) fnExactNewConsoleCard

/-- THE TIED CARD OF 'laws.FnExactFormatNumbers'. -/
def fnExactFormatNumbersCard : Claim7 := { stood := { row := fnExactFormatNumbersRow, standIns := [], harness := (true, "2779f6483447631c05e09136bfcd283516499d5c0550dd6b99f3aeb818c85aa2"), looks := false }, kinds := [], alts := [], laidByText := true, laidKinds := [.data, .data, .data], laidTests := true, laidLooks := .later }
def FnExactFormatNumbersCardSaid : Prop := Claim7.holds Tryd.pinned (.plain (OpenSpec.ofChange fnExactFormatNumbersSpec)) fnExactFormatNumbersCard

/-- THE TIED CARD OF 'laws.FnExactTempoLine'. -/
def fnExactTempoLineCard : Claim7 := { stood := { row := fnExactTempoLineRow, standIns := [], harness := (true, "2779f6483447631c05e09136bfcd283516499d5c0550dd6b99f3aeb818c85aa2"), looks := false }, kinds := [], alts := [], laidByText := true, laidKinds := [.data, .data, .data], laidTests := true, laidLooks := .later }
def FnExactTempoLineCardSaid : Prop := Claim7.holds Tryd.pinned (.plain (OpenSpec.ofChange fnExactTempoLineSpec)) fnExactTempoLineCard

/-- THE SECOND FORM's CARD OF 'laws.FnExactRenameBar'. -/
def fnExactRenameBarUptoCard : Claim7 := { stood := { row := fnExactRenameBarUptoRow, standIns := [], harness := (true, "2779f6483447631c05e09136bfcd283516499d5c0550dd6b99f3aeb818c85aa2"), looks := false }, kinds := [], alts := [], laidByText := true, laidKinds := [.data, .pinned], laidTests := true, laidLooks := .later }
def FnExactRenameBarUptoCardSaid : Prop := Claim7.holds Tryd.pinned (.plain (OpenSpec.upto fnExactRenameBarSpec)) fnExactRenameBarUptoCard

/-- THE SECOND FORM's CARD OF 'laws.FnExactFoldRuns'. -/
def fnExactFoldRunsUptoCard : Claim7 := { stood := { row := fnExactFoldRunsUptoRow, standIns := [], harness := (true, "2779f6483447631c05e09136bfcd283516499d5c0550dd6b99f3aeb818c85aa2"), looks := false }, kinds := [], alts := [], laidByText := true, laidKinds := [.data, .data, .data], laidTests := true, laidLooks := .later }
def FnExactFoldRunsUptoCardSaid : Prop := Claim7.holds Tryd.pinned (.plain (OpenSpec.upto fnExactFoldRunsSpec)) fnExactFoldRunsUptoCard

/-- THE SECOND FORM's CARD OF 'laws.FnExactNewConsole'. -/
def fnExactNewConsoleUptoCard : Claim7 := { stood := { row := fnExactNewConsoleUptoRow, standIns := [], harness := (true, "2779f6483447631c05e09136bfcd283516499d5c0550dd6b99f3aeb818c85aa2"), looks := false }, kinds := [], alts := [], laidByText := true, laidKinds := [.data, .pinned], laidTests := true, laidLooks := .later }
def FnExactNewConsoleUptoCardSaid : Prop := Claim7.holds Tryd.pinned (.plain (OpenSpec.upto fnExactNewConsoleSpec)) fnExactNewConsoleUptoCard

/-- THE SECOND FORM's CARD OF 'laws.FnExactFormatNumbers'. -/
def fnExactFormatNumbersUptoCard : Claim7 := { stood := { row := fnExactFormatNumbersUptoRow, standIns := [], harness := (true, "2779f6483447631c05e09136bfcd283516499d5c0550dd6b99f3aeb818c85aa2"), looks := false }, kinds := [], alts := [], laidByText := true, laidKinds := [.data, .data, .data], laidTests := true, laidLooks := .later }
def FnExactFormatNumbersUptoCardSaid : Prop := Claim7.holds Tryd.pinned (.plain (OpenSpec.upto fnExactFormatNumbersSpec)) fnExactFormatNumbersUptoCard

/-- THE SECOND FORM's CARD OF 'laws.FnExactTempoLine'. -/
def fnExactTempoLineUptoCard : Claim7 := { stood := { row := fnExactTempoLineUptoRow, standIns := [], harness := (true, "2779f6483447631c05e09136bfcd283516499d5c0550dd6b99f3aeb818c85aa2"), looks := false }, kinds := [], alts := [], laidByText := true, laidKinds := [.data, .data, .data], laidTests := true, laidLooks := .later }
def FnExactTempoLineUptoCardSaid : Prop := Claim7.holds Tryd.pinned (.plain (OpenSpec.upto fnExactTempoLineSpec)) fnExactTempoLineUptoCard
end Rows
end Go.Proofs.YtinmhjeljkiefaaDoor
