/-
  DERIVED. GIVEN WITH THE SEED: THE CARDS: each row of YtjgbidnebnggoaaGreatDoorRows.lean that lists a variable, with what it lists TIED to the program's text (the seventh form; the later family's looks); each row that meets fmt, with fmt's text TOLD by the authors' own Lean function (tested against real Go, not proved from fmt's source: count such statements apart). THE CARD IS WHAT COUNTS. Prove the row's statement (the work); the ties are given (YtjgbidnebnggoaaGreatDoorTie.lean); close each card by the builder's one call (the guide's Derived/Test/ToyasCard.lean, 'card_holds'). Laid BY PROGRAM, IN A SANDBOX (cutbox-door.mjs). By AI agents, Wed Nov 11 2026. No macro, syntax, notation, axiom, sorry.
-/
import Derived.Test.YtjgbidnebnggoaaGreatDoorRows
import GoSem.ClaimSeven
namespace Go.Proofs.YtjgbidnebnggoaaGreatDoor
namespace Rows

/-- THE TIED CARD OF 'laws.FnConfirms'. -/
def fnConfirmsCard : Claim7 := { stood := { row := fnConfirmsRow, standIns := [], harness := (true, "1b2ef14b0c9a02d581ce0576c0f1836063503ac3ebf4283827de1a2da736b8e8"), looks := true }, kinds := [], alts := [], laidByText := true, laidKinds := [.data, .data, .data, .data, .sentinel, .sentinel, .pinned], laidTests := true, laidLooks := .later }
def FnConfirmsCardSaid : Prop := Claim7.holds Tryz.pinned (.plain (OpenSpec.ofChange fnConfirmsSpec)) fnConfirmsCard

/-- THE SECOND FORM's CARD OF 'laws.FnConfirms'. -/
def fnConfirmsUptoCard : Claim7 := { stood := { row := fnConfirmsUptoRow, standIns := [], harness := (true, "1b2ef14b0c9a02d581ce0576c0f1836063503ac3ebf4283827de1a2da736b8e8"), looks := true }, kinds := [], alts := [], laidByText := true, laidKinds := [.data, .data, .data, .data, .sentinel, .sentinel, .pinned], laidTests := true, laidLooks := .later }
def FnConfirmsUptoCardSaid : Prop := Claim7.holds Tryz.pinned (.plain (OpenSpec.upto fnConfirmsSpec)) fnConfirmsUptoCard
end Rows
end Go.Proofs.YtjgbidnebnggoaaGreatDoor
