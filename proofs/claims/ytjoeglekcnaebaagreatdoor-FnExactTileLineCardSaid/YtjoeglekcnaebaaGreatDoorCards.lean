/-
  DERIVED. GIVEN WITH THE SEED: THE CARDS: each row of YtjoeglekcnaebaaGreatDoorRows.lean that lists a variable, with what it lists TIED to the program's text (the seventh form; the later family's looks); each row that meets fmt, with fmt's text TOLD by the authors' own Lean function (tested against real Go, not proved from fmt's source: count such statements apart). THE CARD IS WHAT COUNTS. Prove the row's statement (the work); the ties are given (YtjoeglekcnaebaaGreatDoorTie.lean); close each card by the builder's one call (the guide's Derived/Test/ToyasCard.lean, 'card_holds'). Laid BY PROGRAM, IN A SANDBOX (cutbox-door.mjs). By AI agents, Wed Nov 11 2026. No macro, syntax, notation, axiom, sorry.
-/
import Derived.Test.YtjoeglekcnaebaaGreatDoorRows
import GoSem.ClaimSeven
namespace Go.Proofs.YtjoeglekcnaebaaGreatDoor
namespace Rows

/-- THE TIED CARD OF 'laws.FnExactClassLine'. -/
def fnExactClassLineCard : Claim7 := { stood := { row := fnExactClassLineRow, standIns := [], harness := (true, "ce13970e1cf541695fbacda2027e7eb067a4fc4acc602e1e8dc356ff961c4dbe"), looks := false }, kinds := [], alts := [], laidByText := true, laidKinds := [.data, .data, .data], laidTests := true, laidLooks := .later }
def FnExactClassLineCardSaid : Prop := Claim7.holds Tryz.pinned (.plain (OpenSpec.ofChange fnExactClassLineSpec)) fnExactClassLineCard

/-- THE TIED CARD OF 'laws.FnExactTileLine'. -/
def fnExactTileLineCard : Claim7 := { stood := { row := fnExactTileLineRow, standIns := [], harness := (true, "ce13970e1cf541695fbacda2027e7eb067a4fc4acc602e1e8dc356ff961c4dbe"), looks := false }, kinds := [], alts := [], laidByText := true, laidKinds := [.data, .data, .data], laidTests := true, laidLooks := .later }
def FnExactTileLineCardSaid : Prop := Claim7.holds Tryz.pinned (.plain (OpenSpec.ofChange fnExactTileLineSpec)) fnExactTileLineCard

/-- THE SECOND FORM's CARD OF 'laws.FnExactClassLine'. -/
def fnExactClassLineUptoCard : Claim7 := { stood := { row := fnExactClassLineUptoRow, standIns := [], harness := (true, "ce13970e1cf541695fbacda2027e7eb067a4fc4acc602e1e8dc356ff961c4dbe"), looks := false }, kinds := [], alts := [], laidByText := true, laidKinds := [.data, .data, .data], laidTests := true, laidLooks := .later }
def FnExactClassLineUptoCardSaid : Prop := Claim7.holds Tryz.pinned (.plain (OpenSpec.upto fnExactClassLineSpec)) fnExactClassLineUptoCard

/-- THE SECOND FORM's CARD OF 'laws.FnExactTileLine'. -/
def fnExactTileLineUptoCard : Claim7 := { stood := { row := fnExactTileLineUptoRow, standIns := [], harness := (true, "ce13970e1cf541695fbacda2027e7eb067a4fc4acc602e1e8dc356ff961c4dbe"), looks := false }, kinds := [], alts := [], laidByText := true, laidKinds := [.data, .data, .data], laidTests := true, laidLooks := .later }
def FnExactTileLineUptoCardSaid : Prop := Claim7.holds Tryz.pinned (.plain (OpenSpec.upto fnExactTileLineSpec)) fnExactTileLineUptoCard
end Rows
end Go.Proofs.YtjoeglekcnaebaaGreatDoor
