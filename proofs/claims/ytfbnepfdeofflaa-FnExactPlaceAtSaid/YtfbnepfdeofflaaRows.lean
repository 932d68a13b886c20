/-
  No cell of these rows narrows 'for every input' (looked for: loops, veiled, ifaces, maps, wideKeys, modest, calm, conditions, laid).
  DERIVED. THE GIVEN ROWS OF THIS SEAT. 21 by the template 'for every input the law returns true; each argument reads behind the call as it read before'; 0 by the template 'total and deterministic' (their statements: YtfbnepfdeofflaaTotals.lean).
  GIVEN WITH THE SEED: the statements are not yours to turn. If you find one false, say at which input.
  Laid BY PROGRAM, IN A SANDBOX (cutbox-rows.mjs): the forced cells as the released guide's own fill.sh prints them over the translation 19112c8613c0acc1… (all of the seat's roots in one cut). By AI agents, Wed Nov 11 2026. No macro, syntax, notation, axiom, sorry.
-/
import Derived.Test.YtfbnepfdeofflaaChecked
import GoSem.Claim
import GoSem.ClaimJoined
import GoSem.ClaimMapViews
import Derived.JoinedTies
import Derived.KernelRfl
namespace Go.Proofs.Ytfbnepfdeofflaa
/- THE CELL 'sum', in the pinned program and in every row, IS THE sha256 OF THE DUMP (.gsa) THAT YtfbnepfdeofflaaProg.lean LOADS. Nothing in Lean hashes anything: it is a label: what it is worth is what the hold of that sum in a sandbox is worth. -/
noncomputable def Try.pinned : Pinned := { name := "ytfbnepfdeofflaa", sum := "19112c8613c0acc1860d32dba82700b0984d6ef2f873786238975a8fe2fb5732", checked := Try.checked }
namespace Rows
def none {H : Type} : Left H := { results := [], args := [] }

/-- 'laws.FnExactIsFor': WHATEVER THE INPUT: true; the input reads as it did. -/
def fnExactIsForSpec : ChangeSpec := { name := "fnExactIsFor", fn := fun _ => fun
  | [d1, d2, d3, d4, d5] => { results := [.lit (.bool true)], args := [d1, d2, d3, d4, d5] }
  | _ => none }
def fnExactIsForRow : OpenClaim := { program := "ytfbnepfdeofflaa", sum := "19112c8613c0acc1860d32dba82700b0984d6ef2f873786238975a8fe2fb5732", func := "loop.example/g03204/laws.FnExactIsFor", spec := "fnExactIsFor", unfollowed := true, recurses := true, apart := false }
def FnExactIsForSaid : Prop := fnExactIsForRow.holds Try.pinned (OpenSpec.ofChange fnExactIsForSpec)

/-- ITS FALSE NEIGHBOUR: 'it returns false'. Refute it at one input. -/
def fnExactIsForWrong : ChangeSpec := { name := "fnExactIsFor", fn := fun _ => fun
  | [d1, d2, d3, d4, d5] => { results := [.lit (.bool false)], args := [d1, d2, d3, d4, d5] }
  | _ => none }
def FnExactIsForWrongFalsely : Prop := fnExactIsForRow.holds Try.pinned (OpenSpec.ofChange fnExactIsForWrong)

/-- 'laws.FnExactLeastSpan': WHATEVER THE INPUT: true; the input reads as it did. -/
def fnExactLeastSpanSpec : ChangeSpec := { name := "fnExactLeastSpan", fn := fun _ => fun
  | [d1, d2] => { results := [.lit (.bool true)], args := [d1, d2] }
  | _ => none }
def fnExactLeastSpanRow : OpenClaim := { program := "ytfbnepfdeofflaa", sum := "19112c8613c0acc1860d32dba82700b0984d6ef2f873786238975a8fe2fb5732", func := "loop.example/g03204/laws.FnExactLeastSpan", spec := "fnExactLeastSpan", apart := false }
def FnExactLeastSpanSaid : Prop := fnExactLeastSpanRow.holds Try.pinned (OpenSpec.ofChange fnExactLeastSpanSpec)

/-- ITS FALSE NEIGHBOUR: 'it returns false'. Refute it at one input. -/
def fnExactLeastSpanWrong : ChangeSpec := { name := "fnExactLeastSpan", fn := fun _ => fun
  | [d1, d2] => { results := [.lit (.bool false)], args := [d1, d2] }
  | _ => none }
def FnExactLeastSpanWrongFalsely : Prop := fnExactLeastSpanRow.holds Try.pinned (OpenSpec.ofChange fnExactLeastSpanWrong)

/-- 'laws.FnExactCountPlayed': WHATEVER THE INPUT: true; the input reads as it did. -/
def fnExactCountPlayedSpec : ChangeSpec := { name := "fnExactCountPlayed", fn := fun _ => fun
  | [d] => { results := [.lit (.bool true)], args := [d] }
  | _ => none }
def fnExactCountPlayedRow : OpenClaim := { program := "ytfbnepfdeofflaa", sum := "19112c8613c0acc1860d32dba82700b0984d6ef2f873786238975a8fe2fb5732", func := "loop.example/g03204/laws.FnExactCountPlayed", spec := "fnExactCountPlayed", recurses := true, apart := false }
def FnExactCountPlayedSaid : Prop := fnExactCountPlayedRow.holds Try.pinned (OpenSpec.ofChange fnExactCountPlayedSpec)

/-- ITS FALSE NEIGHBOUR: 'it returns false'. Refute it at one input. -/
def fnExactCountPlayedWrong : ChangeSpec := { name := "fnExactCountPlayed", fn := fun _ => fun
  | [d] => { results := [.lit (.bool false)], args := [d] }
  | _ => none }
def FnExactCountPlayedWrongFalsely : Prop := fnExactCountPlayedRow.holds Try.pinned (OpenSpec.ofChange fnExactCountPlayedWrong)

/-- 'laws.FnExactRhythmFor': WHATEVER THE INPUT: true; the input reads as it did. -/
def fnExactRhythmForSpec : ChangeSpec := { name := "fnExactRhythmFor", fn := fun _ => fun
  | [d1, d2, d3, d4, d5] => { results := [.lit (.bool true)], args := [d1, d2, d3, d4, d5] }
  | _ => none }
def fnExactRhythmForRow : OpenClaim := { program := "ytfbnepfdeofflaa", sum := "19112c8613c0acc1860d32dba82700b0984d6ef2f873786238975a8fe2fb5732", func := "loop.example/g03204/laws.FnExactRhythmFor", spec := "fnExactRhythmFor", recurses := true, apart := false }
def FnExactRhythmForSaid : Prop := fnExactRhythmForRow.holds Try.pinned (OpenSpec.ofChange fnExactRhythmForSpec)

/-- ITS FALSE NEIGHBOUR: 'it returns false'. Refute it at one input. -/
def fnExactRhythmForWrong : ChangeSpec := { name := "fnExactRhythmFor", fn := fun _ => fun
  | [d1, d2, d3, d4, d5] => { results := [.lit (.bool false)], args := [d1, d2, d3, d4, d5] }
  | _ => none }
def FnExactRhythmForWrongFalsely : Prop := fnExactRhythmForRow.holds Try.pinned (OpenSpec.ofChange fnExactRhythmForWrong)

/-- 'laws.FnExactPlaceAt': WHATEVER THE INPUT: true; the input reads as it did. -/
def fnExactPlaceAtSpec : ChangeSpec := { name := "fnExactPlaceAt", fn := fun _ => fun
  | [d1, d2] => { results := [.lit (.bool true)], args := [d1, d2] }
  | _ => none }
def fnExactPlaceAtRow : OpenClaim := { program := "ytfbnepfdeofflaa", sum := "19112c8613c0acc1860d32dba82700b0984d6ef2f873786238975a8fe2fb5732", func := "loop.example/g03204/laws.FnExactPlaceAt", spec := "fnExactPlaceAt", recurses := true, apart := false }
def FnExactPlaceAtSaid : Prop := fnExactPlaceAtRow.holds Try.pinned (OpenSpec.ofChange fnExactPlaceAtSpec)

/-- ITS FALSE NEIGHBOUR: 'it returns false'. Refute it at one input. -/
def fnExactPlaceAtWrong : ChangeSpec := { name := "fnExactPlaceAt", fn := fun _ => fun
  | [d1, d2] => { results := [.lit (.bool false)], args := [d1, d2] }
  | _ => none }
def FnExactPlaceAtWrongFalsely : Prop := fnExactPlaceAtRow.holds Try.pinned (OpenSpec.ofChange fnExactPlaceAtWrong)

/-- 'laws.FnExactIsPlayable': WHATEVER THE INPUT: true; the input reads as it did. -/
def fnExactIsPlayableSpec : ChangeSpec := { name := "fnExactIsPlayable", fn := fun _ => fun
  | [d1, d2, d3] => { results := [.lit (.bool true)], args := [d1, d2, d3] }
  | _ => none }
def fnExactIsPlayableRow : OpenClaim := { program := "ytfbnepfdeofflaa", sum := "19112c8613c0acc1860d32dba82700b0984d6ef2f873786238975a8fe2fb5732", func := "loop.example/g03204/laws.FnExactIsPlayable", spec := "fnExactIsPlayable", apart := false }
def FnExactIsPlayableSaid : Prop := fnExactIsPlayableRow.holds Try.pinned (OpenSpec.ofChange fnExactIsPlayableSpec)

/-- ITS FALSE NEIGHBOUR: 'it returns false'. Refute it at one input. -/
def fnExactIsPlayableWrong : ChangeSpec := { name := "fnExactIsPlayable", fn := fun _ => fun
  | [d1, d2, d3] => { results := [.lit (.bool false)], args := [d1, d2, d3] }
  | _ => none }
def FnExactIsPlayableWrongFalsely : Prop := fnExactIsPlayableRow.holds Try.pinned (OpenSpec.ofChange fnExactIsPlayableWrong)

/-- 'laws.FnExactFirstFull': WHATEVER THE INPUT: true; the input reads as it did. -/
def fnExactFirstFullSpec : ChangeSpec := { name := "fnExactFirstFull", fn := fun _ => fun
  | [d] => { results := [.lit (.bool true)], args := [d] }
  | _ => none }
def fnExactFirstFullRow : OpenClaim := { program := "ytfbnepfdeofflaa", sum := "19112c8613c0acc1860d32dba82700b0984d6ef2f873786238975a8fe2fb5732", func := "loop.example/g03204/laws.FnExactFirstFull", spec := "fnExactFirstFull", apart := false }
def FnExactFirstFullSaid : Prop := fnExactFirstFullRow.holds Try.pinned (OpenSpec.ofChange fnExactFirstFullSpec)

/-- ITS FALSE NEIGHBOUR: 'it returns false'. Refute it at one input. -/
def fnExactFirstFullWrong : ChangeSpec := { name := "fnExactFirstFull", fn := fun _ => fun
  | [d] => { results := [.lit (.bool false)], args := [d] }
  | _ => none }
def FnExactFirstFullWrongFalsely : Prop := fnExactFirstFullRow.holds Try.pinned (OpenSpec.ofChange fnExactFirstFullWrong)

/-- 'laws.FnExactPlayScore': WHATEVER THE INPUT: true; the input reads as it did. -/
def fnExactPlayScoreSpec : ChangeSpec := { name := "fnExactPlayScore", fn := fun _ => fun
  | [d] => { results := [.lit (.bool true)], args := [d] }
  | _ => none }
def fnExactPlayScoreRow : OpenClaim := { program := "ytfbnepfdeofflaa", sum := "19112c8613c0acc1860d32dba82700b0984d6ef2f873786238975a8fe2fb5732", func := "loop.example/g03204/laws.FnExactPlayScore", spec := "fnExactPlayScore", recurses := true, apart := false }
def FnExactPlayScoreSaid : Prop := fnExactPlayScoreRow.holds Try.pinned (OpenSpec.ofChange fnExactPlayScoreSpec)

/-- ITS FALSE NEIGHBOUR: 'it returns false'. Refute it at one input. -/
def fnExactPlayScoreWrong : ChangeSpec := { name := "fnExactPlayScore", fn := fun _ => fun
  | [d] => { results := [.lit (.bool false)], args := [d] }
  | _ => none }
def FnExactPlayScoreWrongFalsely : Prop := fnExactPlayScoreRow.holds Try.pinned (OpenSpec.ofChange fnExactPlayScoreWrong)

/-- 'laws.FnExactFirstFor': WHATEVER THE INPUT: true; the input reads as it did. -/
def fnExactFirstForSpec : ChangeSpec := { name := "fnExactFirstFor", fn := fun _ => fun
  | [d1, d2, d3, d4] => { results := [.lit (.bool true)], args := [d1, d2, d3, d4] }
  | _ => none }
def fnExactFirstForRow : OpenClaim := { program := "ytfbnepfdeofflaa", sum := "19112c8613c0acc1860d32dba82700b0984d6ef2f873786238975a8fe2fb5732", func := "loop.example/g03204/laws.FnExactFirstFor", spec := "fnExactFirstFor", recurses := true, apart := false }
def FnExactFirstForSaid : Prop := fnExactFirstForRow.holds Try.pinned (OpenSpec.ofChange fnExactFirstForSpec)

/-- ITS FALSE NEIGHBOUR: 'it returns false'. Refute it at one input. -/
def fnExactFirstForWrong : ChangeSpec := { name := "fnExactFirstFor", fn := fun _ => fun
  | [d1, d2, d3, d4] => { results := [.lit (.bool false)], args := [d1, d2, d3, d4] }
  | _ => none }
def FnExactFirstForWrongFalsely : Prop := fnExactFirstForRow.holds Try.pinned (OpenSpec.ofChange fnExactFirstForWrong)

/-- 'laws.FnExactHandAt': WHATEVER THE INPUT: true; the input reads as it did. -/
def fnExactHandAtSpec : ChangeSpec := { name := "fnExactHandAt", fn := fun _ => fun
  | [d1, d2, d3] => { results := [.lit (.bool true)], args := [d1, d2, d3] }
  | _ => none }
def fnExactHandAtRow : OpenClaim := { program := "ytfbnepfdeofflaa", sum := "19112c8613c0acc1860d32dba82700b0984d6ef2f873786238975a8fe2fb5732", func := "loop.example/g03204/laws.FnExactHandAt", spec := "fnExactHandAt", apart := false }
def FnExactHandAtSaid : Prop := fnExactHandAtRow.holds Try.pinned (OpenSpec.ofChange fnExactHandAtSpec)

/-- ITS FALSE NEIGHBOUR: 'it returns false'. Refute it at one input. -/
def fnExactHandAtWrong : ChangeSpec := { name := "fnExactHandAt", fn := fun _ => fun
  | [d1, d2, d3] => { results := [.lit (.bool false)], args := [d1, d2, d3] }
  | _ => none }
def FnExactHandAtWrongFalsely : Prop := fnExactHandAtRow.holds Try.pinned (OpenSpec.ofChange fnExactHandAtWrong)

/-- 'laws.FnExactDepthOf': WHATEVER THE INPUT: true; the input reads as it did. -/
def fnExactDepthOfSpec : ChangeSpec := { name := "fnExactDepthOf", fn := fun _ => fun
  | [d] => { results := [.lit (.bool true)], args := [d] }
  | _ => none }
def fnExactDepthOfRow : OpenClaim := { program := "ytfbnepfdeofflaa", sum := "19112c8613c0acc1860d32dba82700b0984d6ef2f873786238975a8fe2fb5732", func := "loop.example/g03204/laws.FnExactDepthOf", spec := "fnExactDepthOf", recurses := true, apart := false }
def FnExactDepthOfSaid : Prop := fnExactDepthOfRow.holds Try.pinned (OpenSpec.ofChange fnExactDepthOfSpec)

/-- ITS FALSE NEIGHBOUR: 'it returns false'. Refute it at one input. -/
def fnExactDepthOfWrong : ChangeSpec := { name := "fnExactDepthOf", fn := fun _ => fun
  | [d] => { results := [.lit (.bool false)], args := [d] }
  | _ => none }
def FnExactDepthOfWrongFalsely : Prop := fnExactDepthOfRow.holds Try.pinned (OpenSpec.ofChange fnExactDepthOfWrong)

/-- 'laws.FnExactUnrollScore': WHATEVER THE INPUT: true; the input reads as it did. -/
def fnExactUnrollScoreSpec : ChangeSpec := { name := "fnExactUnrollScore", fn := fun _ => fun
  | [d] => { results := [.lit (.bool true)], args := [d] }
  | _ => none }
def fnExactUnrollScoreRow : OpenClaim := { program := "ytfbnepfdeofflaa", sum := "19112c8613c0acc1860d32dba82700b0984d6ef2f873786238975a8fe2fb5732", func := "loop.example/g03204/laws.FnExactUnrollScore", spec := "fnExactUnrollScore", recurses := true, apart := false }
def FnExactUnrollScoreSaid : Prop := fnExactUnrollScoreRow.holds Try.pinned (OpenSpec.ofChange fnExactUnrollScoreSpec)

/-- ITS FALSE NEIGHBOUR: 'it returns false'. Refute it at one input. -/
def fnExactUnrollScoreWrong : ChangeSpec := { name := "fnExactUnrollScore", fn := fun _ => fun
  | [d] => { results := [.lit (.bool false)], args := [d] }
  | _ => none }
def FnExactUnrollScoreWrongFalsely : Prop := fnExactUnrollScoreRow.holds Try.pinned (OpenSpec.ofChange fnExactUnrollScoreWrong)

/-- 'laws.FnExactLastFor': WHATEVER THE INPUT: true; the input reads as it did. -/
def fnExactLastForSpec : ChangeSpec := { name := "fnExactLastFor", fn := fun _ => fun
  | [d1, d2, d3, d4] => { results := [.lit (.bool true)], args := [d1, d2, d3, d4] }
  | _ => none }
def fnExactLastForRow : OpenClaim := { program := "ytfbnepfdeofflaa", sum := "19112c8613c0acc1860d32dba82700b0984d6ef2f873786238975a8fe2fb5732", func := "loop.example/g03204/laws.FnExactLastFor", spec := "fnExactLastFor", recurses := true, apart := false }
def FnExactLastForSaid : Prop := fnExactLastForRow.holds Try.pinned (OpenSpec.ofChange fnExactLastForSpec)

/-- ITS FALSE NEIGHBOUR: 'it returns false'. Refute it at one input. -/
def fnExactLastForWrong : ChangeSpec := { name := "fnExactLastFor", fn := fun _ => fun
  | [d1, d2, d3, d4] => { results := [.lit (.bool false)], args := [d1, d2, d3, d4] }
  | _ => none }
def FnExactLastForWrongFalsely : Prop := fnExactLastForRow.holds Try.pinned (OpenSpec.ofChange fnExactLastForWrong)

/-- 'laws.FnExactFewestHands': WHATEVER THE INPUT: true; the input reads as it did. -/
def fnExactFewestHandsSpec : ChangeSpec := { name := "fnExactFewestHands", fn := fun _ => fun
  | [d1, d2] => { results := [.lit (.bool true)], args := [d1, d2] }
  | _ => none }
def fnExactFewestHandsRow : OpenClaim := { program := "ytfbnepfdeofflaa", sum := "19112c8613c0acc1860d32dba82700b0984d6ef2f873786238975a8fe2fb5732", func := "loop.example/g03204/laws.FnExactFewestHands", spec := "fnExactFewestHands", apart := false }
def FnExactFewestHandsSaid : Prop := fnExactFewestHandsRow.holds Try.pinned (OpenSpec.ofChange fnExactFewestHandsSpec)

/-- ITS FALSE NEIGHBOUR: 'it returns false'. Refute it at one input. -/
def fnExactFewestHandsWrong : ChangeSpec := { name := "fnExactFewestHands", fn := fun _ => fun
  | [d1, d2] => { results := [.lit (.bool false)], args := [d1, d2] }
  | _ => none }
def FnExactFewestHandsWrongFalsely : Prop := fnExactFewestHandsRow.holds Try.pinned (OpenSpec.ofChange fnExactFewestHandsWrong)

/-- 'laws.FnExactHandBars': WHATEVER THE INPUT: true; the input reads as it did. -/
def fnExactHandBarsSpec : ChangeSpec := { name := "fnExactHandBars", fn := fun _ => fun
  | [d1, d2] => { results := [.lit (.bool true)], args := [d1, d2] }
  | _ => none }
def fnExactHandBarsRow : OpenClaim := { program := "ytfbnepfdeofflaa", sum := "19112c8613c0acc1860d32dba82700b0984d6ef2f873786238975a8fe2fb5732", func := "loop.example/g03204/laws.FnExactHandBars", spec := "fnExactHandBars", apart := false }
def FnExactHandBarsSaid : Prop := fnExactHandBarsRow.holds Try.pinned (OpenSpec.ofChange fnExactHandBarsSpec)

/-- ITS FALSE NEIGHBOUR: 'it returns false'. Refute it at one input. -/
def fnExactHandBarsWrong : ChangeSpec := { name := "fnExactHandBars", fn := fun _ => fun
  | [d1, d2] => { results := [.lit (.bool false)], args := [d1, d2] }
  | _ => none }
def FnExactHandBarsWrongFalsely : Prop := fnExactHandBarsRow.holds Try.pinned (OpenSpec.ofChange fnExactHandBarsWrong)

/-- 'laws.FnExactNaturalText': WHATEVER THE INPUT: true; the input reads as it did. -/
def fnExactNaturalTextSpec : ChangeSpec := { name := "fnExactNaturalText", fn := fun _ => fun
  | [d] => { results := [.lit (.bool true)], args := [d] }
  | _ => none }
def fnExactNaturalTextRow : OpenClaim := { program := "ytfbnepfdeofflaa", sum := "19112c8613c0acc1860d32dba82700b0984d6ef2f873786238975a8fe2fb5732", func := "loop.example/g03204/laws.FnExactNaturalText", spec := "fnExactNaturalText", inPlace := ["internal/bytealg.MakeNoZero"], apart := false }
def FnExactNaturalTextSaid : Prop := fnExactNaturalTextRow.holds Try.pinned (OpenSpec.ofChange fnExactNaturalTextSpec)

/-- ITS FALSE NEIGHBOUR: 'it returns false'. Refute it at one input. -/
def fnExactNaturalTextWrong : ChangeSpec := { name := "fnExactNaturalText", fn := fun _ => fun
  | [d] => { results := [.lit (.bool false)], args := [d] }
  | _ => none }
def FnExactNaturalTextWrongFalsely : Prop := fnExactNaturalTextRow.holds Try.pinned (OpenSpec.ofChange fnExactNaturalTextWrong)

/-- 'laws.FnExactRhythmsFor': WHATEVER THE INPUT: true; the input reads as it did. -/
def fnExactRhythmsForSpec : ChangeSpec := { name := "fnExactRhythmsFor", fn := fun _ => fun
  | [d1, d2, d3, d4] => { results := [.lit (.bool true)], args := [d1, d2, d3, d4] }
  | _ => none }
def fnExactRhythmsForRow : OpenClaim := { program := "ytfbnepfdeofflaa", sum := "19112c8613c0acc1860d32dba82700b0984d6ef2f873786238975a8fe2fb5732", func := "loop.example/g03204/laws.FnExactRhythmsFor", spec := "fnExactRhythmsFor", recurses := true, apart := false }
def FnExactRhythmsForSaid : Prop := fnExactRhythmsForRow.holds Try.pinned (OpenSpec.ofChange fnExactRhythmsForSpec)

/-- ITS FALSE NEIGHBOUR: 'it returns false'. Refute it at one input. -/
def fnExactRhythmsForWrong : ChangeSpec := { name := "fnExactRhythmsFor", fn := fun _ => fun
  | [d1, d2, d3, d4] => { results := [.lit (.bool false)], args := [d1, d2, d3, d4] }
  | _ => none }
def FnExactRhythmsForWrongFalsely : Prop := fnExactRhythmsForRow.holds Try.pinned (OpenSpec.ofChange fnExactRhythmsForWrong)

/-- 'laws.FnExactAlternateText': WHATEVER THE INPUT: true; the input reads as it did. -/
def fnExactAlternateTextSpec : ChangeSpec := { name := "fnExactAlternateText", fn := fun _ => fun
  | [d] => { results := [.lit (.bool true)], args := [d] }
  | _ => none }
def fnExactAlternateTextRow : OpenClaim := { program := "ytfbnepfdeofflaa", sum := "19112c8613c0acc1860d32dba82700b0984d6ef2f873786238975a8fe2fb5732", func := "loop.example/g03204/laws.FnExactAlternateText", spec := "fnExactAlternateText", inPlace := ["internal/bytealg.MakeNoZero"], apart := false }
def FnExactAlternateTextSaid : Prop := fnExactAlternateTextRow.holds Try.pinned (OpenSpec.ofChange fnExactAlternateTextSpec)

/-- ITS FALSE NEIGHBOUR: 'it returns false'. Refute it at one input. -/
def fnExactAlternateTextWrong : ChangeSpec := { name := "fnExactAlternateText", fn := fun _ => fun
  | [d] => { results := [.lit (.bool false)], args := [d] }
  | _ => none }
def FnExactAlternateTextWrongFalsely : Prop := fnExactAlternateTextRow.holds Try.pinned (OpenSpec.ofChange fnExactAlternateTextWrong)

/-- 'laws.FnExactIndexFor': WHATEVER THE INPUT: true; the input reads as it did. -/
def fnExactIndexForSpec : ChangeSpec := { name := "fnExactIndexFor", fn := fun _ => fun
  | [d1, d2, d3] => { results := [.lit (.bool true)], args := [d1, d2, d3] }
  | _ => none }
def fnExactIndexForRow : OpenClaim := { program := "ytfbnepfdeofflaa", sum := "19112c8613c0acc1860d32dba82700b0984d6ef2f873786238975a8fe2fb5732", func := "loop.example/g03204/laws.FnExactIndexFor", spec := "fnExactIndexFor", unfollowed := true, recurses := true, apart := false }
def FnExactIndexForSaid : Prop := fnExactIndexForRow.holds Try.pinned (OpenSpec.ofChange fnExactIndexForSpec)

/-- ITS FALSE NEIGHBOUR: 'it returns false'. Refute it at one input. -/
def fnExactIndexForWrong : ChangeSpec := { name := "fnExactIndexFor", fn := fun _ => fun
  | [d1, d2, d3] => { results := [.lit (.bool false)], args := [d1, d2, d3] }
  | _ => none }
def FnExactIndexForWrongFalsely : Prop := fnExactIndexForRow.holds Try.pinned (OpenSpec.ofChange fnExactIndexForWrong)

/-- 'laws.FnExactWindowAt': WHATEVER THE INPUT: true; the input reads as it did. -/
def fnExactWindowAtSpec : ChangeSpec := { name := "fnExactWindowAt", fn := fun _ => fun
  | [d1, d2, d3] => { results := [.lit (.bool true)], args := [d1, d2, d3] }
  | _ => none }
def fnExactWindowAtRow : OpenClaim := { program := "ytfbnepfdeofflaa", sum := "19112c8613c0acc1860d32dba82700b0984d6ef2f873786238975a8fe2fb5732", func := "loop.example/g03204/laws.FnExactWindowAt", spec := "fnExactWindowAt", inPlace := ["internal/bytealg.MakeNoZero", "internal/abi.NoEscape"], apart := false }
def FnExactWindowAtSaid : Prop := fnExactWindowAtRow.holds Try.pinned (OpenSpec.ofChange fnExactWindowAtSpec)

/-- ITS FALSE NEIGHBOUR: 'it returns false'. Refute it at one input. -/
def fnExactWindowAtWrong : ChangeSpec := { name := "fnExactWindowAt", fn := fun _ => fun
  | [d1, d2, d3] => { results := [.lit (.bool false)], args := [d1, d2, d3] }
  | _ => none }
def FnExactWindowAtWrongFalsely : Prop := fnExactWindowAtRow.holds Try.pinned (OpenSpec.ofChange fnExactWindowAtWrong)

/-- 'laws.FnExactBarsUsed': WHATEVER THE INPUT: true; the input reads as it did. -/
def fnExactBarsUsedSpec : ChangeSpec := { name := "fnExactBarsUsed", fn := fun _ => fun
  | [d] => { results := [.lit (.bool true)], args := [d] }
  | _ => none }
def fnExactBarsUsedRow : OpenClaim := { program := "ytfbnepfdeofflaa", sum := "19112c8613c0acc1860d32dba82700b0984d6ef2f873786238975a8fe2fb5732", func := "loop.example/g03204/laws.FnExactBarsUsed", spec := "fnExactBarsUsed", recurses := true, apart := false }
def FnExactBarsUsedSaid : Prop := fnExactBarsUsedRow.holds Try.pinned (OpenSpec.ofChange fnExactBarsUsedSpec)

/-- ITS FALSE NEIGHBOUR: 'it returns false'. Refute it at one input. -/
def fnExactBarsUsedWrong : ChangeSpec := { name := "fnExactBarsUsed", fn := fun _ => fun
  | [d] => { results := [.lit (.bool false)], args := [d] }
  | _ => none }
def FnExactBarsUsedWrongFalsely : Prop := fnExactBarsUsedRow.holds Try.pinned (OpenSpec.ofChange fnExactBarsUsedWrong)

/- THE SECOND FORM. 'bulk': how many values and letters a reading holds, each counted each time it is reached (what is shared counts as often as it is met; a slice's spare places count too). A statement '..UptoSaid' is the law's where the arguments, and the package variables that the reading takes, are together of bulk at most 1048576: NARROWER than '..Said'. Prove '..Said' where nothing that the law and all that it calls make is longer than what came in: it says more and counts as full. Else prove '..UptoSaid'. A law counts once. -/
mutual
def uptoBulk {H : Type} : DataW H → Nat
  | .lit (.string bytes) => bytes.length + 1
  | .lit _ => 1
  | .nil => 1
  | .ptr d => uptoBulk d + 1
  | .slice elems spare => uptoBulkAll elems + uptoBulkAll spare + 1
  | .agg parts => uptoBulkAll parts + 1
  | .iface _ d => uptoBulk d + 1
  | .map entries => uptoBulkEntries entries + 1
  | .held _ => 1
def uptoBulkAll {H : Type} : List (DataW H) → Nat
  | [] => 0
  | d :: r => uptoBulk d + uptoBulkAll r
def uptoBulkEntries {H : Type} : List (Lit × DataW H) → Nat
  | [] => 0
  | x :: r => uptoBulkEntry x + uptoBulkEntries r
def uptoBulkEntry {H : Type} : Lit × DataW H → Nat
  | (.string bytes, d) => bytes.length + uptoBulk d + 1
  | (_, d) => uptoBulk d + 1
 end
def uptoSmall : (H : Type) → List (DataW H) → Bool := fun _ ds => decide (uptoBulkAll ds ≤ 1048576)
def OpenSpec.upto (s : _root_.Go.ChangeSpec) : _root_.Go.OpenSpec := { _root_.Go.OpenSpec.ofChange s with cond := some uptoSmall }

/-- 'laws.FnExactIsFor', WHERE WHAT IT READS IS OF BULK AT MOST 1048576: true; the input reads as it did. -/
def fnExactIsForUptoRow : OpenClaim := { program := "ytfbnepfdeofflaa", sum := "19112c8613c0acc1860d32dba82700b0984d6ef2f873786238975a8fe2fb5732", func := "loop.example/g03204/laws.FnExactIsFor", spec := "fnExactIsFor", unfollowed := true, recurses := true, apart := false, narrowed := true }
def FnExactIsForUptoSaid : Prop := fnExactIsForUptoRow.holds Try.pinned (OpenSpec.upto fnExactIsForSpec)

/-- 'laws.FnExactLeastSpan', WHERE WHAT IT READS IS OF BULK AT MOST 1048576: true; the input reads as it did. -/
def fnExactLeastSpanUptoRow : OpenClaim := { program := "ytfbnepfdeofflaa", sum := "19112c8613c0acc1860d32dba82700b0984d6ef2f873786238975a8fe2fb5732", func := "loop.example/g03204/laws.FnExactLeastSpan", spec := "fnExactLeastSpan", apart := false, narrowed := true }
def FnExactLeastSpanUptoSaid : Prop := fnExactLeastSpanUptoRow.holds Try.pinned (OpenSpec.upto fnExactLeastSpanSpec)

/-- 'laws.FnExactCountPlayed', WHERE WHAT IT READS IS OF BULK AT MOST 1048576: true; the input reads as it did. -/
def fnExactCountPlayedUptoRow : OpenClaim := { program := "ytfbnepfdeofflaa", sum := "19112c8613c0acc1860d32dba82700b0984d6ef2f873786238975a8fe2fb5732", func := "loop.example/g03204/laws.FnExactCountPlayed", spec := "fnExactCountPlayed", recurses := true, apart := false, narrowed := true }
def FnExactCountPlayedUptoSaid : Prop := fnExactCountPlayedUptoRow.holds Try.pinned (OpenSpec.upto fnExactCountPlayedSpec)

/-- 'laws.FnExactRhythmFor', WHERE WHAT IT READS IS OF BULK AT MOST 1048576: true; the input reads as it did. -/
def fnExactRhythmForUptoRow : OpenClaim := { program := "ytfbnepfdeofflaa", sum := "19112c8613c0acc1860d32dba82700b0984d6ef2f873786238975a8fe2fb5732", func := "loop.example/g03204/laws.FnExactRhythmFor", spec := "fnExactRhythmFor", recurses := true, apart := false, narrowed := true }
def FnExactRhythmForUptoSaid : Prop := fnExactRhythmForUptoRow.holds Try.pinned (OpenSpec.upto fnExactRhythmForSpec)

/-- 'laws.FnExactPlaceAt', WHERE WHAT IT READS IS OF BULK AT MOST 1048576: true; the input reads as it did. -/
def fnExactPlaceAtUptoRow : OpenClaim := { program := "ytfbnepfdeofflaa", sum := "19112c8613c0acc1860d32dba82700b0984d6ef2f873786238975a8fe2fb5732", func := "loop.example/g03204/laws.FnExactPlaceAt", spec := "fnExactPlaceAt", recurses := true, apart := false, narrowed := true }
def FnExactPlaceAtUptoSaid : Prop := fnExactPlaceAtUptoRow.holds Try.pinned (OpenSpec.upto fnExactPlaceAtSpec)

/-- 'laws.FnExactIsPlayable', WHERE WHAT IT READS IS OF BULK AT MOST 1048576: true; the input reads as it did. -/
def fnExactIsPlayableUptoRow : OpenClaim := { program := "ytfbnepfdeofflaa", sum := "19112c8613c0acc1860d32dba82700b0984d6ef2f873786238975a8fe2fb5732", func := "loop.example/g03204/laws.FnExactIsPlayable", spec := "fnExactIsPlayable", apart := false, narrowed := true }
def FnExactIsPlayableUptoSaid : Prop := fnExactIsPlayableUptoRow.holds Try.pinned (OpenSpec.upto fnExactIsPlayableSpec)

/-- 'laws.FnExactFirstFull', WHERE WHAT IT READS IS OF BULK AT MOST 1048576: true; the input reads as it did. -/
def fnExactFirstFullUptoRow : OpenClaim := { program := "ytfbnepfdeofflaa", sum := "19112c8613c0acc1860d32dba82700b0984d6ef2f873786238975a8fe2fb5732", func := "loop.example/g03204/laws.FnExactFirstFull", spec := "fnExactFirstFull", apart := false, narrowed := true }
def FnExactFirstFullUptoSaid : Prop := fnExactFirstFullUptoRow.holds Try.pinned (OpenSpec.upto fnExactFirstFullSpec)

/-- 'laws.FnExactPlayScore', WHERE WHAT IT READS IS OF BULK AT MOST 1048576: true; the input reads as it did. -/
def fnExactPlayScoreUptoRow : OpenClaim := { program := "ytfbnepfdeofflaa", sum := "19112c8613c0acc1860d32dba82700b0984d6ef2f873786238975a8fe2fb5732", func := "loop.example/g03204/laws.FnExactPlayScore", spec := "fnExactPlayScore", recurses := true, apart := false, narrowed := true }
def FnExactPlayScoreUptoSaid : Prop := fnExactPlayScoreUptoRow.holds Try.pinned (OpenSpec.upto fnExactPlayScoreSpec)

/-- 'laws.FnExactFirstFor', WHERE WHAT IT READS IS OF BULK AT MOST 1048576: true; the input reads as it did. -/
def fnExactFirstForUptoRow : OpenClaim := { program := "ytfbnepfdeofflaa", sum := "19112c8613c0acc1860d32dba82700b0984d6ef2f873786238975a8fe2fb5732", func := "loop.example/g03204/laws.FnExactFirstFor", spec := "fnExactFirstFor", recurses := true, apart := false, narrowed := true }
def FnExactFirstForUptoSaid : Prop := fnExactFirstForUptoRow.holds Try.pinned (OpenSpec.upto fnExactFirstForSpec)

/-- 'laws.FnExactHandAt', WHERE WHAT IT READS IS OF BULK AT MOST 1048576: true; the input reads as it did. -/
def fnExactHandAtUptoRow : OpenClaim := { program := "ytfbnepfdeofflaa", sum := "19112c8613c0acc1860d32dba82700b0984d6ef2f873786238975a8fe2fb5732", func := "loop.example/g03204/laws.FnExactHandAt", spec := "fnExactHandAt", apart := false, narrowed := true }
def FnExactHandAtUptoSaid : Prop := fnExactHandAtUptoRow.holds Try.pinned (OpenSpec.upto fnExactHandAtSpec)

/-- 'laws.FnExactDepthOf', WHERE WHAT IT READS IS OF BULK AT MOST 1048576: true; the input reads as it did. -/
def fnExactDepthOfUptoRow : OpenClaim := { program := "ytfbnepfdeofflaa", sum := "19112c8613c0acc1860d32dba82700b0984d6ef2f873786238975a8fe2fb5732", func := "loop.example/g03204/laws.FnExactDepthOf", spec := "fnExactDepthOf", recurses := true, apart := false, narrowed := true }
def FnExactDepthOfUptoSaid : Prop := fnExactDepthOfUptoRow.holds Try.pinned (OpenSpec.upto fnExactDepthOfSpec)

/-- 'laws.FnExactUnrollScore', WHERE WHAT IT READS IS OF BULK AT MOST 1048576: true; the input reads as it did. -/
def fnExactUnrollScoreUptoRow : OpenClaim := { program := "ytfbnepfdeofflaa", sum := "19112c8613c0acc1860d32dba82700b0984d6ef2f873786238975a8fe2fb5732", func := "loop.example/g03204/laws.FnExactUnrollScore", spec := "fnExactUnrollScore", recurses := true, apart := false, narrowed := true }
def FnExactUnrollScoreUptoSaid : Prop := fnExactUnrollScoreUptoRow.holds Try.pinned (OpenSpec.upto fnExactUnrollScoreSpec)

/-- 'laws.FnExactLastFor', WHERE WHAT IT READS IS OF BULK AT MOST 1048576: true; the input reads as it did. -/
def fnExactLastForUptoRow : OpenClaim := { program := "ytfbnepfdeofflaa", sum := "19112c8613c0acc1860d32dba82700b0984d6ef2f873786238975a8fe2fb5732", func := "loop.example/g03204/laws.FnExactLastFor", spec := "fnExactLastFor", recurses := true, apart := false, narrowed := true }
def FnExactLastForUptoSaid : Prop := fnExactLastForUptoRow.holds Try.pinned (OpenSpec.upto fnExactLastForSpec)

/-- 'laws.FnExactFewestHands', WHERE WHAT IT READS IS OF BULK AT MOST 1048576: true; the input reads as it did. -/
def fnExactFewestHandsUptoRow : OpenClaim := { program := "ytfbnepfdeofflaa", sum := "19112c8613c0acc1860d32dba82700b0984d6ef2f873786238975a8fe2fb5732", func := "loop.example/g03204/laws.FnExactFewestHands", spec := "fnExactFewestHands", apart := false, narrowed := true }
def FnExactFewestHandsUptoSaid : Prop := fnExactFewestHandsUptoRow.holds Try.pinned (OpenSpec.upto fnExactFewestHandsSpec)

/-- 'laws.FnExactHandBars', WHERE WHAT IT READS IS OF BULK AT MOST 1048576: true; the input reads as it did. -/
def fnExactHandBarsUptoRow : OpenClaim := { program := "ytfbnepfdeofflaa", sum := "19112c8613c0acc1860d32dba82700b0984d6ef2f873786238975a8fe2fb5732", func := "loop.example/g03204/laws.FnExactHandBars", spec := "fnExactHandBars", apart := false, narrowed := true }
def FnExactHandBarsUptoSaid : Prop := fnExactHandBarsUptoRow.holds Try.pinned (OpenSpec.upto fnExactHandBarsSpec)

/-- 'laws.FnExactNaturalText', WHERE WHAT IT READS IS OF BULK AT MOST 1048576: true; the input reads as it did. -/
def fnExactNaturalTextUptoRow : OpenClaim := { program := "ytfbnepfdeofflaa", sum := "19112c8613c0acc1860d32dba82700b0984d6ef2f873786238975a8fe2fb5732", func := "loop.example/g03204/laws.FnExactNaturalText", spec := "fnExactNaturalText", inPlace := ["internal/bytealg.MakeNoZero"], apart := false, narrowed := true }
def FnExactNaturalTextUptoSaid : Prop := fnExactNaturalTextUptoRow.holds Try.pinned (OpenSpec.upto fnExactNaturalTextSpec)

/-- 'laws.FnExactRhythmsFor', WHERE WHAT IT READS IS OF BULK AT MOST 1048576: true; the input reads as it did. -/
def fnExactRhythmsForUptoRow : OpenClaim := { program := "ytfbnepfdeofflaa", sum := "19112c8613c0acc1860d32dba82700b0984d6ef2f873786238975a8fe2fb5732", func := "loop.example/g03204/laws.FnExactRhythmsFor", spec := "fnExactRhythmsFor", recurses := true, apart := false, narrowed := true }
def FnExactRhythmsForUptoSaid : Prop := fnExactRhythmsForUptoRow.holds Try.pinned (OpenSpec.upto fnExactRhythmsForSpec)

/-- 'laws.FnExactAlternateText', WHERE WHAT IT READS IS OF BULK AT MOST 1048576: true; the input reads as it did. -/
def fnExactAlternateTextUptoRow : OpenClaim := { program := "ytfbnepfdeofflaa", sum := "19112c8613c0acc1860d32dba82700b0984d6ef2f873786238975a8fe2fb5732", func := "loop.example/g03204/laws.FnExactAlternateText", spec := "fnExactAlternateText", inPlace := ["internal/bytealg.MakeNoZero"], apart := false, narrowed := true }
def FnExactAlternateTextUptoSaid : Prop := fnExactAlternateTextUptoRow.holds Try.pinned (OpenSpec.upto fnExactAlternateTextSpec)

/-- 'laws.FnExactIndexFor', WHERE WHAT IT READS IS OF BULK AT MOST 1048576: true; the input reads as it did. -/
def fnExactIndexForUptoRow : OpenClaim := { program := "ytfbnepfdeofflaa", sum := "19112c8613c0acc1860d32dba82700b0984d6ef2f873786238975a8fe2fb5732", func := "loop.example/g03204/laws.FnExactIndexFor", spec := "fnExactIndexFor", unfollowed := true, recurses := true, apart := false, narrowed := true }
def FnExactIndexForUptoSaid : Prop := fnExactIndexForUptoRow.holds Try.pinned (OpenSpec.upto fnExactIndexForSpec)

/-- 'laws.FnExactWindowAt', WHERE WHAT IT READS IS OF BULK AT MOST 1048576: true; the input reads as it did. -/
def fnExactWindowAtUptoRow : OpenClaim := { program := "ytfbnepfdeofflaa", sum := "19112c8613c0acc1860d32dba82700b0984d6ef2f873786238975a8fe2fb5732", func := "loop.example/g03204/laws.FnExactWindowAt", spec := "fnExactWindowAt", inPlace := ["internal/bytealg.MakeNoZero", "internal/abi.NoEscape"], apart := false, narrowed := true }
def FnExactWindowAtUptoSaid : Prop := fnExactWindowAtUptoRow.holds Try.pinned (OpenSpec.upto fnExactWindowAtSpec)

/-- 'laws.FnExactBarsUsed', WHERE WHAT IT READS IS OF BULK AT MOST 1048576: true; the input reads as it did. -/
def fnExactBarsUsedUptoRow : OpenClaim := { program := "ytfbnepfdeofflaa", sum := "19112c8613c0acc1860d32dba82700b0984d6ef2f873786238975a8fe2fb5732", func := "loop.example/g03204/laws.FnExactBarsUsed", spec := "fnExactBarsUsed", recurses := true, apart := false, narrowed := true }
def FnExactBarsUsedUptoSaid : Prop := fnExactBarsUsedUptoRow.holds Try.pinned (OpenSpec.upto fnExactBarsUsedSpec)

end Rows
end Go.Proofs.Ytfbnepfdeofflaa
