/-
  DERIVED. GIVEN WITH THE SEED: THE CARDS: each row of YtabjklhnghdfoaaGreatDoorRows.lean that lists a variable, with what it lists TIED to the program's text (the seventh form; the later family's looks); each row that meets fmt, with fmt's text TOLD by the authors' own Lean function (tested against real Go, not proved from fmt's source: count such statements apart). THE CARD IS WHAT COUNTS. Prove the row's statement (the work); the ties are given (YtabjklhnghdfoaaGreatDoorTie.lean); close each card by the builder's one call (the guide's Derived/Test/ToyasCard.lean, 'card_holds'). Laid BY PROGRAM, IN A SANDBOX (cutbox-door.mjs). By AI agents, Wed Nov 11 2026. No macro, syntax, notation, axiom, sorry.
-/
import Derived.Test.YtabjklhnghdfoaaGreatDoorRows
import GoSem.ClaimSeven
namespace Go.Proofs.YtabjklhnghdfoaaGreatDoor
namespace Rows

/-- THE TIED CARD OF 'laws.FnExactEvenLine'. -/
def fnExactEvenLineCard : Claim7 := { stood := { row := fnExactEvenLineRow, standIns := [], harness := (true, "c2d43c359c0f380d5cf68c244764d05c213344468de4d1aaefb08d75cf0502c5"), looks := false }, kinds := [], alts := [], laidByText := true, laidKinds := [.data, .data, .data], laidTests := true, laidLooks := .later }
def FnExactEvenLineCardSaid : Prop := Claim7.holds Tryz.pinned (.plain (OpenSpec.ofChange fnExactEvenLineSpec)) fnExactEvenLineCard

/-- THE SECOND FORM's CARD OF 'laws.FnExactEvenLine'. -/
def fnExactEvenLineUptoCard : Claim7 := { stood := { row := fnExactEvenLineUptoRow, standIns := [], harness := (true, "c2d43c359c0f380d5cf68c244764d05c213344468de4d1aaefb08d75cf0502c5"), looks := false }, kinds := [], alts := [], laidByText := true, laidKinds := [.data, .data, .data], laidTests := true, laidLooks := .later }
def FnExactEvenLineUptoCardSaid : Prop := Claim7.holds Tryz.pinned (.plain (OpenSpec.upto fnExactEvenLineSpec)) fnExactEvenLineUptoCard
end Rows
end Go.Proofs.YtabjklhnghdfoaaGreatDoor
