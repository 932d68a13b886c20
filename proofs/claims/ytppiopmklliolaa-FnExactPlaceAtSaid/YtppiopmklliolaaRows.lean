/-
  No cell of these rows narrows 'for every input' (looked for: loops, veiled, ifaces, maps, wideKeys, modest, calm, conditions, laid).
  DERIVED. THE GIVEN ROWS OF THIS SEAT. 6 by the template 'for every input the law returns true; each argument reads behind the call as it read before'; 0 by the template 'total and deterministic' (their statements: YtppiopmklliolaaTotals.lean).
  GIVEN WITH THE SEED: the statements are not yours to turn. If you find one false, say at which input.
  Laid BY PROGRAM, IN A SANDBOX (cutbox-rows.mjs): the forced cells as the released guide's own fill.sh prints them over the translation 9499adb4c3997bf9… (all of the seat's roots in one cut). By AI agents, Wed Nov 11 2026. No macro, syntax, notation, axiom, sorry.
-/
import Derived.Test.YtppiopmklliolaaChecked
import GoSem.Claim
import GoSem.ClaimJoined
import GoSem.ClaimMapViews
import Derived.JoinedTies
import Derived.KernelRfl
namespace Go.Proofs.Ytppiopmklliolaa
/- THE CELL 'sum', in the pinned program and in every row, IS THE sha256 OF THE DUMP (.gsa) THAT YtppiopmklliolaaProg.lean LOADS. Nothing in Lean hashes anything: it is a label: what it is worth is what the hold of that sum in a sandbox is worth. -/
noncomputable def Try.pinned : Pinned := { name := "ytppiopmklliolaa", sum := "9499adb4c3997bf9dd7ab633ad59ef261115ead0792773a3c9bf5c17e3a41929", checked := Try.checked }
namespace Rows
def none {H : Type} : Left H := { results := [], args := [] }

/-- 'laws.FnExactScoreOk': WHATEVER THE INPUT: true; the input reads as it did. -/
def fnExactScoreOkSpec : ChangeSpec := { name := "fnExactScoreOk", fn := fun _ => fun
  | [d] => { results := [.lit (.bool true)], args := [d] }
  | _ => none }
def fnExactScoreOkRow : OpenClaim := { program := "ytppiopmklliolaa", sum := "9499adb4c3997bf9dd7ab633ad59ef261115ead0792773a3c9bf5c17e3a41929", func := "loop.example/g03204/laws.FnExactScoreOk", spec := "fnExactScoreOk", recurses := true, apart := false }
def FnExactScoreOkSaid : Prop := fnExactScoreOkRow.holds Try.pinned (OpenSpec.ofChange fnExactScoreOkSpec)

/-- ITS FALSE NEIGHBOUR: 'it returns false'. Refute it at one input. -/
def fnExactScoreOkWrong : ChangeSpec := { name := "fnExactScoreOk", fn := fun _ => fun
  | [d] => { results := [.lit (.bool false)], args := [d] }
  | _ => none }
def FnExactScoreOkWrongFalsely : Prop := fnExactScoreOkRow.holds Try.pinned (OpenSpec.ofChange fnExactScoreOkWrong)

/-- 'laws.FnExactCountPlayed': WHATEVER THE INPUT: true; the input reads as it did. -/
def fnExactCountPlayedSpec : ChangeSpec := { name := "fnExactCountPlayed", fn := fun _ => fun
  | [d] => { results := [.lit (.bool true)], args := [d] }
  | _ => none }
def fnExactCountPlayedRow : OpenClaim := { program := "ytppiopmklliolaa", sum := "9499adb4c3997bf9dd7ab633ad59ef261115ead0792773a3c9bf5c17e3a41929", func := "loop.example/g03204/laws.FnExactCountPlayed", spec := "fnExactCountPlayed", recurses := true, apart := false }
def FnExactCountPlayedSaid : Prop := fnExactCountPlayedRow.holds Try.pinned (OpenSpec.ofChange fnExactCountPlayedSpec)

/-- ITS FALSE NEIGHBOUR: 'it returns false'. Refute it at one input. -/
def fnExactCountPlayedWrong : ChangeSpec := { name := "fnExactCountPlayed", fn := fun _ => fun
  | [d] => { results := [.lit (.bool false)], args := [d] }
  | _ => none }
def FnExactCountPlayedWrongFalsely : Prop := fnExactCountPlayedRow.holds Try.pinned (OpenSpec.ofChange fnExactCountPlayedWrong)

/-- 'laws.FnExactPlaceAt': WHATEVER THE INPUT: true; the input reads as it did. -/
def fnExactPlaceAtSpec : ChangeSpec := { name := "fnExactPlaceAt", fn := fun _ => fun
  | [d1, d2] => { results := [.lit (.bool true)], args := [d1, d2] }
  | _ => none }
def fnExactPlaceAtRow : OpenClaim := { program := "ytppiopmklliolaa", sum := "9499adb4c3997bf9dd7ab633ad59ef261115ead0792773a3c9bf5c17e3a41929", func := "loop.example/g03204/laws.FnExactPlaceAt", spec := "fnExactPlaceAt", recurses := true, apart := false }
def FnExactPlaceAtSaid : Prop := fnExactPlaceAtRow.holds Try.pinned (OpenSpec.ofChange fnExactPlaceAtSpec)

/-- ITS FALSE NEIGHBOUR: 'it returns false'. Refute it at one input. -/
def fnExactPlaceAtWrong : ChangeSpec := { name := "fnExactPlaceAt", fn := fun _ => fun
  | [d1, d2] => { results := [.lit (.bool false)], args := [d1, d2] }
  | _ => none }
def FnExactPlaceAtWrongFalsely : Prop := fnExactPlaceAtRow.holds Try.pinned (OpenSpec.ofChange fnExactPlaceAtWrong)

/-- 'laws.FnExactPlayScore': WHATEVER THE INPUT: true; the input reads as it did. -/
def fnExactPlayScoreSpec : ChangeSpec := { name := "fnExactPlayScore", fn := fun _ => fun
  | [d] => { results := [.lit (.bool true)], args := [d] }
  | _ => none }
def fnExactPlayScoreRow : OpenClaim := { program := "ytppiopmklliolaa", sum := "9499adb4c3997bf9dd7ab633ad59ef261115ead0792773a3c9bf5c17e3a41929", func := "loop.example/g03204/laws.FnExactPlayScore", spec := "fnExactPlayScore", recurses := true, apart := false }
def FnExactPlayScoreSaid : Prop := fnExactPlayScoreRow.holds Try.pinned (OpenSpec.ofChange fnExactPlayScoreSpec)

/-- ITS FALSE NEIGHBOUR: 'it returns false'. Refute it at one input. -/
def fnExactPlayScoreWrong : ChangeSpec := { name := "fnExactPlayScore", fn := fun _ => fun
  | [d] => { results := [.lit (.bool false)], args := [d] }
  | _ => none }
def FnExactPlayScoreWrongFalsely : Prop := fnExactPlayScoreRow.holds Try.pinned (OpenSpec.ofChange fnExactPlayScoreWrong)

/-- 'laws.FnExactDepthOf': WHATEVER THE INPUT: true; the input reads as it did. -/
def fnExactDepthOfSpec : ChangeSpec := { name := "fnExactDepthOf", fn := fun _ => fun
  | [d] => { results := [.lit (.bool true)], args := [d] }
  | _ => none }
def fnExactDepthOfRow : OpenClaim := { program := "ytppiopmklliolaa", sum := "9499adb4c3997bf9dd7ab633ad59ef261115ead0792773a3c9bf5c17e3a41929", func := "loop.example/g03204/laws.FnExactDepthOf", spec := "fnExactDepthOf", recurses := true, apart := false }
def FnExactDepthOfSaid : Prop := fnExactDepthOfRow.holds Try.pinned (OpenSpec.ofChange fnExactDepthOfSpec)

/-- ITS FALSE NEIGHBOUR: 'it returns false'. Refute it at one input. -/
def fnExactDepthOfWrong : ChangeSpec := { name := "fnExactDepthOf", fn := fun _ => fun
  | [d] => { results := [.lit (.bool false)], args := [d] }
  | _ => none }
def FnExactDepthOfWrongFalsely : Prop := fnExactDepthOfRow.holds Try.pinned (OpenSpec.ofChange fnExactDepthOfWrong)

/-- 'laws.FnExactUnrollScore': WHATEVER THE INPUT: true; the input reads as it did. -/
def fnExactUnrollScoreSpec : ChangeSpec := { name := "fnExactUnrollScore", fn := fun _ => fun
  | [d] => { results := [.lit (.bool true)], args := [d] }
  | _ => none }
def fnExactUnrollScoreRow : OpenClaim := { program := "ytppiopmklliolaa", sum := "9499adb4c3997bf9dd7ab633ad59ef261115ead0792773a3c9bf5c17e3a41929", func := "loop.example/g03204/laws.FnExactUnrollScore", spec := "fnExactUnrollScore", recurses := true, apart := false }
def FnExactUnrollScoreSaid : Prop := fnExactUnrollScoreRow.holds Try.pinned (OpenSpec.ofChange fnExactUnrollScoreSpec)

/-- ITS FALSE NEIGHBOUR: 'it returns false'. Refute it at one input. -/
def fnExactUnrollScoreWrong : ChangeSpec := { name := "fnExactUnrollScore", fn := fun _ => fun
  | [d] => { results := [.lit (.bool false)], args := [d] }
  | _ => none }
def FnExactUnrollScoreWrongFalsely : Prop := fnExactUnrollScoreRow.holds Try.pinned (OpenSpec.ofChange fnExactUnrollScoreWrong)

/- THE SECOND FORM. 'bulk': how many values and letters a reading holds, each counted each time it is reached (what is shared counts as often as it is met; a slice's spare places count too). A statement '..UptoSaid' is the law's where the arguments, and the package variables that the reading takes, are together of bulk at most 1048576: NARROWER than '..Said'. Prove '..Said' where nothing that the law and all that it calls make is longer than what came in: it says more and counts as full. Else prove '..UptoSaid'. A law counts once. -/
mutual
def uptoBulk {H : Type} : DataW H → Nat
  | .lit (.string bytes) => bytes.length + 1
  | .lit _ => 1
  | .nil => 1
  | .ptr d => uptoBulk d + 1
  | .slice elems spare => uptoBulkAll elems + uptoBulkAll spare + 1
  | .agg parts => uptoBulkAll parts + 1
  | .iface _ d => uptoBulk d + 1
  | .map entries => uptoBulkEntries entries + 1
  | .held _ => 1
def uptoBulkAll {H : Type} : List (DataW H) → Nat
  | [] => 0
  | d :: r => uptoBulk d + uptoBulkAll r
def uptoBulkEntries {H : Type} : List (Lit × DataW H) → Nat
  | [] => 0
  | x :: r => uptoBulkEntry x + uptoBulkEntries r
def uptoBulkEntry {H : Type} : Lit × DataW H → Nat
  | (.string bytes, d) => bytes.length + uptoBulk d + 1
  | (_, d) => uptoBulk d + 1
 end
def uptoSmall : (H : Type) → List (DataW H) → Bool := fun _ ds => decide (uptoBulkAll ds ≤ 1048576)
def OpenSpec.upto (s : _root_.Go.ChangeSpec) : _root_.Go.OpenSpec := { _root_.Go.OpenSpec.ofChange s with cond := some uptoSmall }

/-- 'laws.FnExactScoreOk', WHERE WHAT IT READS IS OF BULK AT MOST 1048576: true; the input reads as it did. -/
def fnExactScoreOkUptoRow : OpenClaim := { program := "ytppiopmklliolaa", sum := "9499adb4c3997bf9dd7ab633ad59ef261115ead0792773a3c9bf5c17e3a41929", func := "loop.example/g03204/laws.FnExactScoreOk", spec := "fnExactScoreOk", recurses := true, apart := false, narrowed := true }
def FnExactScoreOkUptoSaid : Prop := fnExactScoreOkUptoRow.holds Try.pinned (OpenSpec.upto fnExactScoreOkSpec)

/-- 'laws.FnExactCountPlayed', WHERE WHAT IT READS IS OF BULK AT MOST 1048576: true; the input reads as it did. -/
def fnExactCountPlayedUptoRow : OpenClaim := { program := "ytppiopmklliolaa", sum := "9499adb4c3997bf9dd7ab633ad59ef261115ead0792773a3c9bf5c17e3a41929", func := "loop.example/g03204/laws.FnExactCountPlayed", spec := "fnExactCountPlayed", recurses := true, apart := false, narrowed := true }
def FnExactCountPlayedUptoSaid : Prop := fnExactCountPlayedUptoRow.holds Try.pinned (OpenSpec.upto fnExactCountPlayedSpec)

/-- 'laws.FnExactPlaceAt', WHERE WHAT IT READS IS OF BULK AT MOST 1048576: true; the input reads as it did. -/
def fnExactPlaceAtUptoRow : OpenClaim := { program := "ytppiopmklliolaa", sum := "9499adb4c3997bf9dd7ab633ad59ef261115ead0792773a3c9bf5c17e3a41929", func := "loop.example/g03204/laws.FnExactPlaceAt", spec := "fnExactPlaceAt", recurses := true, apart := false, narrowed := true }
def FnExactPlaceAtUptoSaid : Prop := fnExactPlaceAtUptoRow.holds Try.pinned (OpenSpec.upto fnExactPlaceAtSpec)

/-- 'laws.FnExactPlayScore', WHERE WHAT IT READS IS OF BULK AT MOST 1048576: true; the input reads as it did. -/
def fnExactPlayScoreUptoRow : OpenClaim := { program := "ytppiopmklliolaa", sum := "9499adb4c3997bf9dd7ab633ad59ef261115ead0792773a3c9bf5c17e3a41929", func := "loop.example/g03204/laws.FnExactPlayScore", spec := "fnExactPlayScore", recurses := true, apart := false, narrowed := true }
def FnExactPlayScoreUptoSaid : Prop := fnExactPlayScoreUptoRow.holds Try.pinned (OpenSpec.upto fnExactPlayScoreSpec)

/-- 'laws.FnExactDepthOf', WHERE WHAT IT READS IS OF BULK AT MOST 1048576: true; the input reads as it did. -/
def fnExactDepthOfUptoRow : OpenClaim := { program := "ytppiopmklliolaa", sum := "9499adb4c3997bf9dd7ab633ad59ef261115ead0792773a3c9bf5c17e3a41929", func := "loop.example/g03204/laws.FnExactDepthOf", spec := "fnExactDepthOf", recurses := true, apart := false, narrowed := true }
def FnExactDepthOfUptoSaid : Prop := fnExactDepthOfUptoRow.holds Try.pinned (OpenSpec.upto fnExactDepthOfSpec)

/-- 'laws.FnExactUnrollScore', WHERE WHAT IT READS IS OF BULK AT MOST 1048576: true; the input reads as it did. -/
def fnExactUnrollScoreUptoRow : OpenClaim := { program := "ytppiopmklliolaa", sum := "9499adb4c3997bf9dd7ab633ad59ef261115ead0792773a3c9bf5c17e3a41929", func := "loop.example/g03204/laws.FnExactUnrollScore", spec := "fnExactUnrollScore", recurses := true, apart := false, narrowed := true }
def FnExactUnrollScoreUptoSaid : Prop := fnExactUnrollScoreUptoRow.holds Try.pinned (OpenSpec.upto fnExactUnrollScoreSpec)

end Rows
end Go.Proofs.Ytppiopmklliolaa
