/-
  DERIVED. GIVEN WITH THE SEED: THE CARDS: each row of YthookknmeajojaaGreatDoorRows.lean that lists a variable, with what it lists TIED to the program's text (the seventh form; the later family's looks); each row that meets fmt, with fmt's text TOLD by the authors' own Lean function (tested against real Go, not proved from fmt's source: count such statements apart). THE CARD IS WHAT COUNTS. Prove the row's statement (the work); the ties are given (YthookknmeajojaaGreatDoorTie.lean); close each card by the builder's one call (the guide's Derived/Test/ToyasCard.lean, 'card_holds'). Laid BY PROGRAM, IN A SANDBOX (cutbox-door.mjs). By AI agents, Wed Nov 11 2026. No macro, syntax, notation, axiom, sorry.
-/
import Derived.Test.YthookknmeajojaaGreatDoorRows
import GoSem.ClaimSeven
namespace Go.Proofs.YthookknmeajojaaGreatDoor
namespace Rows

/-- THE TIED CARD OF 'laws.FnEven'. -/
def fnEvenCard : Claim7 := { stood := { row := fnEvenRow, standIns := [], harness := (true, "979f3c3e7e8d660334c5ffdf384ed35700178d299dbf42c61909f45da8d70d69"), looks := true }, kinds := [], alts := [], laidByText := true, laidKinds := [.data, .pinned], laidTests := true, laidLooks := .later }
def FnEvenCardSaid : Prop := Claim7.holds Tryz.pinned (.plain (OpenSpec.ofChange fnEvenSpec)) fnEvenCard

/-- THE TIED CARD OF 'laws.FnTexts'. -/
def fnTextsCard : Claim7 := { stood := { row := fnTextsRow, standIns := [], harness := (true, "979f3c3e7e8d660334c5ffdf384ed35700178d299dbf42c61909f45da8d70d69"), looks := true }, kinds := [], alts := [], laidByText := true, laidKinds := [.data, .data, .data, .data, .sentinel, .sentinel, .pinned], laidTests := true, laidLooks := .later }
def FnTextsCardSaid : Prop := Claim7.holds Tryz.pinned (.plain (OpenSpec.ofChange fnTextsSpec)) fnTextsCard

/-- THE SECOND FORM's CARD OF 'laws.FnEven'. -/
def fnEvenUptoCard : Claim7 := { stood := { row := fnEvenUptoRow, standIns := [], harness := (true, "979f3c3e7e8d660334c5ffdf384ed35700178d299dbf42c61909f45da8d70d69"), looks := true }, kinds := [], alts := [], laidByText := true, laidKinds := [.data, .pinned], laidTests := true, laidLooks := .later }
def FnEvenUptoCardSaid : Prop := Claim7.holds Tryz.pinned (.plain (OpenSpec.upto fnEvenSpec)) fnEvenUptoCard

/-- THE SECOND FORM's CARD OF 'laws.FnTexts'. -/
def fnTextsUptoCard : Claim7 := { stood := { row := fnTextsUptoRow, standIns := [], harness := (true, "979f3c3e7e8d660334c5ffdf384ed35700178d299dbf42c61909f45da8d70d69"), looks := true }, kinds := [], alts := [], laidByText := true, laidKinds := [.data, .data, .data, .data, .sentinel, .sentinel, .pinned], laidTests := true, laidLooks := .later }
def FnTextsUptoCardSaid : Prop := Claim7.holds Tryz.pinned (.plain (OpenSpec.upto fnTextsSpec)) fnTextsUptoCard
end Rows
end Go.Proofs.YthookknmeajojaaGreatDoor
