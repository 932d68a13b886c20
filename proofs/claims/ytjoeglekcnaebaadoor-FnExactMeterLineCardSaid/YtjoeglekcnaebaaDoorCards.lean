/-
  DERIVED. GIVEN WITH THE SEED: THE CARDS: each row of YtjoeglekcnaebaaDoorRows.lean that lists a variable, with what it lists TIED to the program's text (the seventh form; the later family's looks); each row that meets fmt, with fmt's text TOLD by the authors' own Lean function (tested against real Go, not proved from fmt's source: count such statements apart). THE CARD IS WHAT COUNTS. Prove the row's statement (the work); the ties are given (YtjoeglekcnaebaaDoorTie.lean); close each card by the builder's one call (the guide's Derived/Test/ToyasCard.lean, 'card_holds'). Laid BY PROGRAM, IN A SANDBOX (cutbox-door.mjs). By AI agents, Wed Nov 11 2026. No macro, syntax, notation, axiom, sorry.
-/
import Derived.Test.YtjoeglekcnaebaaDoorRows
import GoSem.ClaimSeven
namespace Go.Proofs.YtjoeglekcnaebaaDoor
namespace Rows

/-- THE TIED CARD OF 'laws.FnExactMeterLine'. -/
def fnExactMeterLineCard : Claim7 := { stood := { row := fnExactMeterLineRow, standIns := [], harness := (true, "b4a496eb3545c9201e837cc9b3d2bc849276b50b80f8a07dd48e2bd2acffc44f"), looks := false }, kinds := [], alts := [], laidByText := true, laidKinds := [.data, .data, .data, .data, .pinned], laidTests := true, laidLooks := .later }
def FnExactMeterLineCardSaid : Prop := Claim7.holds Tryd.pinned (.plain (OpenSpec.ofChange fnExactMeterLineSpec)) fnExactMeterLineCard

/-- THE SECOND FORM's CARD OF 'laws.FnExactMeterLine'. -/
def fnExactMeterLineUptoCard : Claim7 := { stood := { row := fnExactMeterLineUptoRow, standIns := [], harness := (true, "b4a496eb3545c9201e837cc9b3d2bc849276b50b80f8a07dd48e2bd2acffc44f"), looks := false }, kinds := [], alts := [], laidByText := true, laidKinds := [.data, .data, .data, .data, .pinned], laidTests := true, laidLooks := .later }
def FnExactMeterLineUptoCardSaid : Prop := Claim7.holds Tryd.pinned (.plain (OpenSpec.upto fnExactMeterLineSpec)) fnExactMeterLineUptoCard
end Rows
end Go.Proofs.YtjoeglekcnaebaaDoor
