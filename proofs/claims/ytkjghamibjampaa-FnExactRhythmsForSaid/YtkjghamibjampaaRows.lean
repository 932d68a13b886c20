/-
  No cell of these rows narrows 'for every input' (looked for: loops, veiled, ifaces, maps, wideKeys, modest, calm, conditions, laid).
  DERIVED. THE GIVEN ROWS OF THIS SEAT. 6 by the template 'for every input the law returns true; each argument reads behind the call as it read before'; 0 by the template 'total and deterministic' (their statements: YtkjghamibjampaaTotals.lean).
  GIVEN WITH THE SEED: the statements are not yours to turn. If you find one false, say at which input.
  Laid BY PROGRAM, IN A SANDBOX (cutbox-rows.mjs): the forced cells as the released guide's own fill.sh prints them over the translation 5e979bb72bcc80c5… (all of the seat's roots in one cut). By AI agents, Wed Nov 11 2026. No macro, syntax, notation, axiom, sorry.
-/
import Derived.Test.YtkjghamibjampaaChecked
import GoSem.Claim
import GoSem.ClaimJoined
import GoSem.ClaimMapViews
import Derived.JoinedTies
import Derived.KernelRfl
namespace Go.Proofs.Ytkjghamibjampaa
/- THE CELL 'sum', in the pinned program and in every row, IS THE sha256 OF THE DUMP (.gsa) THAT YtkjghamibjampaaProg.lean LOADS. Nothing in Lean hashes anything: it is a label: what it is worth is what the hold of that sum in a sandbox is worth. -/
noncomputable def Try.pinned : Pinned := { name := "ytkjghamibjampaa", sum := "5e979bb72bcc80c5581daaf9f32ba3d5de2df479d99c1db04cf1ebedb42f94ef", checked := Try.checked }
namespace Rows
def none {H : Type} : Left H := { results := [], args := [] }

/-- 'laws.FnExactIsFull': WHATEVER THE INPUT: true; the input reads as it did. -/
def fnExactIsFullSpec : ChangeSpec := { name := "fnExactIsFull", fn := fun _ => fun
  | [d1, d2] => { results := [.lit (.bool true)], args := [d1, d2] }
  | _ => none }
def fnExactIsFullRow : OpenClaim := { program := "ytkjghamibjampaa", sum := "5e979bb72bcc80c5581daaf9f32ba3d5de2df479d99c1db04cf1ebedb42f94ef", func := "loop.example/g03204/laws.FnExactIsFull", spec := "fnExactIsFull", apart := false }
def FnExactIsFullSaid : Prop := fnExactIsFullRow.holds Try.pinned (OpenSpec.ofChange fnExactIsFullSpec)

/-- ITS FALSE NEIGHBOUR: 'it returns false'. Refute it at one input. -/
def fnExactIsFullWrong : ChangeSpec := { name := "fnExactIsFull", fn := fun _ => fun
  | [d1, d2] => { results := [.lit (.bool false)], args := [d1, d2] }
  | _ => none }
def FnExactIsFullWrongFalsely : Prop := fnExactIsFullRow.holds Try.pinned (OpenSpec.ofChange fnExactIsFullWrong)

/-- 'laws.FnExactFirstFull': WHATEVER THE INPUT: true; the input reads as it did. -/
def fnExactFirstFullSpec : ChangeSpec := { name := "fnExactFirstFull", fn := fun _ => fun
  | [d] => { results := [.lit (.bool true)], args := [d] }
  | _ => none }
def fnExactFirstFullRow : OpenClaim := { program := "ytkjghamibjampaa", sum := "5e979bb72bcc80c5581daaf9f32ba3d5de2df479d99c1db04cf1ebedb42f94ef", func := "loop.example/g03204/laws.FnExactFirstFull", spec := "fnExactFirstFull", apart := false }
def FnExactFirstFullSaid : Prop := fnExactFirstFullRow.holds Try.pinned (OpenSpec.ofChange fnExactFirstFullSpec)

/-- ITS FALSE NEIGHBOUR: 'it returns false'. Refute it at one input. -/
def fnExactFirstFullWrong : ChangeSpec := { name := "fnExactFirstFull", fn := fun _ => fun
  | [d] => { results := [.lit (.bool false)], args := [d] }
  | _ => none }
def FnExactFirstFullWrongFalsely : Prop := fnExactFirstFullRow.holds Try.pinned (OpenSpec.ofChange fnExactFirstFullWrong)

/-- 'laws.FnExactNaturalText': WHATEVER THE INPUT: true; the input reads as it did. -/
def fnExactNaturalTextSpec : ChangeSpec := { name := "fnExactNaturalText", fn := fun _ => fun
  | [d] => { results := [.lit (.bool true)], args := [d] }
  | _ => none }
def fnExactNaturalTextRow : OpenClaim := { program := "ytkjghamibjampaa", sum := "5e979bb72bcc80c5581daaf9f32ba3d5de2df479d99c1db04cf1ebedb42f94ef", func := "loop.example/g03204/laws.FnExactNaturalText", spec := "fnExactNaturalText", inPlace := ["internal/bytealg.MakeNoZero"], apart := false }
def FnExactNaturalTextSaid : Prop := fnExactNaturalTextRow.holds Try.pinned (OpenSpec.ofChange fnExactNaturalTextSpec)

/-- ITS FALSE NEIGHBOUR: 'it returns false'. Refute it at one input. -/
def fnExactNaturalTextWrong : ChangeSpec := { name := "fnExactNaturalText", fn := fun _ => fun
  | [d] => { results := [.lit (.bool false)], args := [d] }
  | _ => none }
def FnExactNaturalTextWrongFalsely : Prop := fnExactNaturalTextRow.holds Try.pinned (OpenSpec.ofChange fnExactNaturalTextWrong)

/-- 'laws.FnExactAlternateText': WHATEVER THE INPUT: true; the input reads as it did. -/
def fnExactAlternateTextSpec : ChangeSpec := { name := "fnExactAlternateText", fn := fun _ => fun
  | [d] => { results := [.lit (.bool true)], args := [d] }
  | _ => none }
def fnExactAlternateTextRow : OpenClaim := { program := "ytkjghamibjampaa", sum := "5e979bb72bcc80c5581daaf9f32ba3d5de2df479d99c1db04cf1ebedb42f94ef", func := "loop.example/g03204/laws.FnExactAlternateText", spec := "fnExactAlternateText", inPlace := ["internal/bytealg.MakeNoZero"], apart := false }
def FnExactAlternateTextSaid : Prop := fnExactAlternateTextRow.holds Try.pinned (OpenSpec.ofChange fnExactAlternateTextSpec)

/-- ITS FALSE NEIGHBOUR: 'it returns false'. Refute it at one input. -/
def fnExactAlternateTextWrong : ChangeSpec := { name := "fnExactAlternateText", fn := fun _ => fun
  | [d] => { results := [.lit (.bool false)], args := [d] }
  | _ => none }
def FnExactAlternateTextWrongFalsely : Prop := fnExactAlternateTextRow.holds Try.pinned (OpenSpec.ofChange fnExactAlternateTextWrong)

/-- 'laws.FnExactWindowAt': WHATEVER THE INPUT: true; the input reads as it did. -/
def fnExactWindowAtSpec : ChangeSpec := { name := "fnExactWindowAt", fn := fun _ => fun
  | [d1, d2, d3] => { results := [.lit (.bool true)], args := [d1, d2, d3] }
  | _ => none }
def fnExactWindowAtRow : OpenClaim := { program := "ytkjghamibjampaa", sum := "5e979bb72bcc80c5581daaf9f32ba3d5de2df479d99c1db04cf1ebedb42f94ef", func := "loop.example/g03204/laws.FnExactWindowAt", spec := "fnExactWindowAt", inPlace := ["internal/bytealg.MakeNoZero", "internal/abi.NoEscape"], apart := false }
def FnExactWindowAtSaid : Prop := fnExactWindowAtRow.holds Try.pinned (OpenSpec.ofChange fnExactWindowAtSpec)

/-- ITS FALSE NEIGHBOUR: 'it returns false'. Refute it at one input. -/
def fnExactWindowAtWrong : ChangeSpec := { name := "fnExactWindowAt", fn := fun _ => fun
  | [d1, d2, d3] => { results := [.lit (.bool false)], args := [d1, d2, d3] }
  | _ => none }
def FnExactWindowAtWrongFalsely : Prop := fnExactWindowAtRow.holds Try.pinned (OpenSpec.ofChange fnExactWindowAtWrong)

/-- 'laws.FnExactRhythmsFor': WHATEVER THE INPUT: true; the input reads as it did. -/
def fnExactRhythmsForSpec : ChangeSpec := { name := "fnExactRhythmsFor", fn := fun _ => fun
  | [d1, d2, d3, d4] => { results := [.lit (.bool true)], args := [d1, d2, d3, d4] }
  | _ => none }
def fnExactRhythmsForRow : OpenClaim := { program := "ytkjghamibjampaa", sum := "5e979bb72bcc80c5581daaf9f32ba3d5de2df479d99c1db04cf1ebedb42f94ef", func := "loop.example/g03204/laws.FnExactRhythmsFor", spec := "fnExactRhythmsFor", recurses := true, apart := false }
def FnExactRhythmsForSaid : Prop := fnExactRhythmsForRow.holds Try.pinned (OpenSpec.ofChange fnExactRhythmsForSpec)

/-- ITS FALSE NEIGHBOUR: 'it returns false'. Refute it at one input. -/
def fnExactRhythmsForWrong : ChangeSpec := { name := "fnExactRhythmsFor", fn := fun _ => fun
  | [d1, d2, d3, d4] => { results := [.lit (.bool false)], args := [d1, d2, d3, d4] }
  | _ => none }
def FnExactRhythmsForWrongFalsely : Prop := fnExactRhythmsForRow.holds Try.pinned (OpenSpec.ofChange fnExactRhythmsForWrong)

/- THE SECOND FORM. 'bulk': how many values and letters a reading holds, each counted each time it is reached (what is shared counts as often as it is met; a slice's spare places count too). A statement '..UptoSaid' is the law's where the arguments, and the package variables that the reading takes, are together of bulk at most 1048576: NARROWER than '..Said'. Prove '..Said' where nothing that the law and all that it calls make is longer than what came in: it says more and counts as full. Else prove '..UptoSaid'. A law counts once. -/
mutual
def uptoBulk {H : Type} : DataW H → Nat
  | .lit (.string bytes) => bytes.length + 1
  | .lit _ => 1
  | .nil => 1
  | .ptr d => uptoBulk d + 1
  | .slice elems spare => uptoBulkAll elems + uptoBulkAll spare + 1
  | .agg parts => uptoBulkAll parts + 1
  | .iface _ d => uptoBulk d + 1
  | .map entries => uptoBulkEntries entries + 1
  | .held _ => 1
def uptoBulkAll {H : Type} : List (DataW H) → Nat
  | [] => 0
  | d :: r => uptoBulk d + uptoBulkAll r
def uptoBulkEntries {H : Type} : List (Lit × DataW H) → Nat
  | [] => 0
  | x :: r => uptoBulkEntry x + uptoBulkEntries r
def uptoBulkEntry {H : Type} : Lit × DataW H → Nat
  | (.string bytes, d) => bytes.length + uptoBulk d + 1
  | (_, d) => uptoBulk d + 1
 end
def uptoSmall : (H : Type) → List (DataW H) → Bool := fun _ ds => decide (uptoBulkAll ds ≤ 1048576)
def OpenSpec.upto (s : _root_.Go.ChangeSpec) : _root_.Go.OpenSpec := { _root_.Go.OpenSpec.ofChange s with cond := some uptoSmall }

/-- 'laws.FnExactIsFull', WHERE WHAT IT READS IS OF BULK AT MOST 1048576: true; the input reads as it did. -/
def fnExactIsFullUptoRow : OpenClaim := { program := "ytkjghamibjampaa", sum := "5e979bb72bcc80c5581daaf9f32ba3d5de2df479d99c1db04cf1ebedb42f94ef", func := "loop.example/g03204/laws.FnExactIsFull", spec := "fnExactIsFull", apart := false, narrowed := true }
def FnExactIsFullUptoSaid : Prop := fnExactIsFullUptoRow.holds Try.pinned (OpenSpec.upto fnExactIsFullSpec)

/-- 'laws.FnExactFirstFull', WHERE WHAT IT READS IS OF BULK AT MOST 1048576: true; the input reads as it did. -/
def fnExactFirstFullUptoRow : OpenClaim := { program := "ytkjghamibjampaa", sum := "5e979bb72bcc80c5581daaf9f32ba3d5de2df479d99c1db04cf1ebedb42f94ef", func := "loop.example/g03204/laws.FnExactFirstFull", spec := "fnExactFirstFull", apart := false, narrowed := true }
def FnExactFirstFullUptoSaid : Prop := fnExactFirstFullUptoRow.holds Try.pinned (OpenSpec.upto fnExactFirstFullSpec)

/-- 'laws.FnExactNaturalText', WHERE WHAT IT READS IS OF BULK AT MOST 1048576: true; the input reads as it did. -/
def fnExactNaturalTextUptoRow : OpenClaim := { program := "ytkjghamibjampaa", sum := "5e979bb72bcc80c5581daaf9f32ba3d5de2df479d99c1db04cf1ebedb42f94ef", func := "loop.example/g03204/laws.FnExactNaturalText", spec := "fnExactNaturalText", inPlace := ["internal/bytealg.MakeNoZero"], apart := false, narrowed := true }
def FnExactNaturalTextUptoSaid : Prop := fnExactNaturalTextUptoRow.holds Try.pinned (OpenSpec.upto fnExactNaturalTextSpec)

/-- 'laws.FnExactAlternateText', WHERE WHAT IT READS IS OF BULK AT MOST 1048576: true; the input reads as it did. -/
def fnExactAlternateTextUptoRow : OpenClaim := { program := "ytkjghamibjampaa", sum := "5e979bb72bcc80c5581daaf9f32ba3d5de2df479d99c1db04cf1ebedb42f94ef", func := "loop.example/g03204/laws.FnExactAlternateText", spec := "fnExactAlternateText", inPlace := ["internal/bytealg.MakeNoZero"], apart := false, narrowed := true }
def FnExactAlternateTextUptoSaid : Prop := fnExactAlternateTextUptoRow.holds Try.pinned (OpenSpec.upto fnExactAlternateTextSpec)

/-- 'laws.FnExactWindowAt', WHERE WHAT IT READS IS OF BULK AT MOST 1048576: true; the input reads as it did. -/
def fnExactWindowAtUptoRow : OpenClaim := { program := "ytkjghamibjampaa", sum := "5e979bb72bcc80c5581daaf9f32ba3d5de2df479d99c1db04cf1ebedb42f94ef", func := "loop.example/g03204/laws.FnExactWindowAt", spec := "fnExactWindowAt", inPlace := ["internal/bytealg.MakeNoZero", "internal/abi.NoEscape"], apart := false, narrowed := true }
def FnExactWindowAtUptoSaid : Prop := fnExactWindowAtUptoRow.holds Try.pinned (OpenSpec.upto fnExactWindowAtSpec)

/-- 'laws.FnExactRhythmsFor', WHERE WHAT IT READS IS OF BULK AT MOST 1048576: true; the input reads as it did. -/
def fnExactRhythmsForUptoRow : OpenClaim := { program := "ytkjghamibjampaa", sum := "5e979bb72bcc80c5581daaf9f32ba3d5de2df479d99c1db04cf1ebedb42f94ef", func := "loop.example/g03204/laws.FnExactRhythmsFor", spec := "fnExactRhythmsFor", recurses := true, apart := false, narrowed := true }
def FnExactRhythmsForUptoSaid : Prop := fnExactRhythmsForUptoRow.holds Try.pinned (OpenSpec.upto fnExactRhythmsForSpec)

end Rows
end Go.Proofs.Ytkjghamibjampaa
