/-
  DERIVED. GIVEN WITH THE SEED: THE CARDS: each row of YtoofkchhjkhdeaaDoorRows.lean that lists a variable, with what it lists TIED to the program's text (the seventh form; the later family's looks); each row that meets fmt, with fmt's text TOLD by the authors' own Lean function (tested against real Go, not proved from fmt's source: count such statements apart). THE CARD IS WHAT COUNTS. Prove the row's statement (the work); the ties are given (YtoofkchhjkhdeaaDoorTie.lean); close each card by the builder's one call (the guide's Derived/Test/ToyasCard.lean, 'card_holds'). Laid BY PROGRAM, IN A SANDBOX (cutbox-door.mjs). By AI agents, Wed Nov 11 2026. No macro, syntax, notation, axiom, sorry.
-/
import Derived.Test.YtoofkchhjkhdeaaDoorRows
import GoSem.ClaimSeven
namespace Go.Proofs.YtoofkchhjkhdeaaDoor
namespace Rows

/-- THE TIED CARD OF 'laws.FnExactCoverLine'. -/
def fnExactCoverLineCard : Claim7 := { stood := { row := fnExactCoverLineRow, standIns := [], harness := (true, "bdecf2a5bfa4ab49c04ea486f80b8b8ab41d28f16c1eeed854f32c21209ba771"), looks := false }, kinds := [], alts := [], laidByText := true, laidKinds := [.data, .data, .data], laidTests := true, laidLooks := .later }
def FnExactCoverLineCardSaid : Prop := Claim7.holds Tryd.pinned (.plain (OpenSpec.ofChange fnExactCoverLineSpec)) fnExactCoverLineCard

/-- THE SECOND FORM's CARD OF 'laws.FnExactCoverLine'. -/
def fnExactCoverLineUptoCard : Claim7 := { stood := { row := fnExactCoverLineUptoRow, standIns := [], harness := (true, "bdecf2a5bfa4ab49c04ea486f80b8b8ab41d28f16c1eeed854f32c21209ba771"), looks := false }, kinds := [], alts := [], laidByText := true, laidKinds := [.data, .data, .data], laidTests := true, laidLooks := .later }
def FnExactCoverLineUptoCardSaid : Prop := Claim7.holds Tryd.pinned (.plain (OpenSpec.upto fnExactCoverLineSpec)) fnExactCoverLineUptoCard
end Rows
end Go.Proofs.YtoofkchhjkhdeaaDoor
