/-
  DERIVED. GIVEN WITH THE SEED: THE CARDS: each row of YtbmnebmlnmccpaaGreatDoorRows.lean that lists a variable, with what it lists TIED to the program's text (the seventh form; the later family's looks); each row that meets fmt, with fmt's text TOLD by the authors' own Lean function (tested against real Go, not proved from fmt's source: count such statements apart). THE CARD IS WHAT COUNTS. Prove the row's statement (the work); the ties are given (YtbmnebmlnmccpaaGreatDoorTie.lean); close each card by the builder's one call (the guide's Derived/Test/ToyasCard.lean, 'card_holds'). Laid BY PROGRAM, IN A SANDBOX (cutbox-door.mjs). By AI agents, Wed Nov 11 2026. No macro, syntax, notation, axiom, sorry.
-/
import Derived.Test.YtbmnebmlnmccpaaGreatDoorRows
import GoSem.ClaimSeven
namespace Go.Proofs.YtbmnebmlnmccpaaGreatDoor
namespace Rows

/-- THE TIED CARD OF 'laws.FnExactRhythmLine'. -/
def fnExactRhythmLineCard : Claim7 := { stood := { row := fnExactRhythmLineRow, standIns := [], harness := (true, "40e72512fec8da5e1fc398df3fddb66cb208823efb717bc85772cd6b7e7d818f"), looks := false }, kinds := [], alts := [], laidByText := true, laidKinds := [.data, .data, .data, .data, .pinned], laidTests := true, laidLooks := .later }
def FnExactRhythmLineCardSaid : Prop := Claim7.holds Tryz.pinned (.plain (OpenSpec.ofChange fnExactRhythmLineSpec)) fnExactRhythmLineCard

/-- THE SECOND FORM's CARD OF 'laws.FnExactRhythmLine'. -/
def fnExactRhythmLineUptoCard : Claim7 := { stood := { row := fnExactRhythmLineUptoRow, standIns := [], harness := (true, "40e72512fec8da5e1fc398df3fddb66cb208823efb717bc85772cd6b7e7d818f"), looks := false }, kinds := [], alts := [], laidByText := true, laidKinds := [.data, .data, .data, .data, .pinned], laidTests := true, laidLooks := .later }
def FnExactRhythmLineUptoCardSaid : Prop := Claim7.holds Tryz.pinned (.plain (OpenSpec.upto fnExactRhythmLineSpec)) fnExactRhythmLineUptoCard
end Rows
end Go.Proofs.YtbmnebmlnmccpaaGreatDoor
