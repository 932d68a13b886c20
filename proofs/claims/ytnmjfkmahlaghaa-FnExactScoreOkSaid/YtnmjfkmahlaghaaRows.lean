/-
  No cell of these rows narrows 'for every input' (looked for: loops, veiled, ifaces, maps, wideKeys, modest, calm, conditions, laid).
  DERIVED. THE GIVEN ROWS OF THIS SEAT. 7 by the template 'for every input the law returns true; each argument reads behind the call as it read before'; 0 by the template 'total and deterministic' (their statements: YtnmjfkmahlaghaaTotals.lean).
  GIVEN WITH THE SEED: the statements are not yours to turn. If you find one false, say at which input.
  Laid BY PROGRAM, IN A SANDBOX (cutbox-rows.mjs): the forced cells as the released guide's own fill.sh prints them over the translation 27121d7ed1768a66… (all of the seat's roots in one cut). By AI agents, Wed Nov 11 2026. No macro, syntax, notation, axiom, sorry.
-/
import Derived.Test.YtnmjfkmahlaghaaChecked
import GoSem.Claim
import GoSem.ClaimJoined
import GoSem.ClaimMapViews
import Derived.JoinedTies
import Derived.KernelRfl
namespace Go.Proofs.Ytnmjfkmahlaghaa
/- THE CELL 'sum', in the pinned program and in every row, IS THE sha256 OF THE DUMP (.gsa) THAT YtnmjfkmahlaghaaProg.lean LOADS. Nothing in Lean hashes anything: it is a label: what it is worth is what the hold of that sum in a sandbox is worth. -/
noncomputable def Try.pinned : Pinned := { name := "ytnmjfkmahlaghaa", sum := "27121d7ed1768a66377673102788ae4824e2a287f1d1e1544ba200e7b281ff2f", checked := Try.checked }
namespace Rows
def none {H : Type} : Left H := { results := [], args := [] }

/-- 'laws.FnExactWishOk': WHATEVER THE INPUT: true; the input reads as it did. -/
def fnExactWishOkSpec : ChangeSpec := { name := "fnExactWishOk", fn := fun _ => fun
  | [d1, d2, d3, d4] => { results := [.lit (.bool true)], args := [d1, d2, d3, d4] }
  | _ => none }
def fnExactWishOkRow : OpenClaim := { program := "ytnmjfkmahlaghaa", sum := "27121d7ed1768a66377673102788ae4824e2a287f1d1e1544ba200e7b281ff2f", func := "loop.example/g03204/laws.FnExactWishOk", spec := "fnExactWishOk", apart := false }
def FnExactWishOkSaid : Prop := fnExactWishOkRow.holds Try.pinned (OpenSpec.ofChange fnExactWishOkSpec)

/-- ITS FALSE NEIGHBOUR: 'it returns false'. Refute it at one input. -/
def fnExactWishOkWrong : ChangeSpec := { name := "fnExactWishOk", fn := fun _ => fun
  | [d1, d2, d3, d4] => { results := [.lit (.bool false)], args := [d1, d2, d3, d4] }
  | _ => none }
def FnExactWishOkWrongFalsely : Prop := fnExactWishOkRow.holds Try.pinned (OpenSpec.ofChange fnExactWishOkWrong)

/-- 'laws.FnExactSwapHands': WHATEVER THE INPUT: true; the input reads as it did. -/
def fnExactSwapHandsSpec : ChangeSpec := { name := "fnExactSwapHands", fn := fun _ => fun
  | [d] => { results := [.lit (.bool true)], args := [d] }
  | _ => none }
def fnExactSwapHandsRow : OpenClaim := { program := "ytnmjfkmahlaghaa", sum := "27121d7ed1768a66377673102788ae4824e2a287f1d1e1544ba200e7b281ff2f", func := "loop.example/g03204/laws.FnExactSwapHands", spec := "fnExactSwapHands", apart := false }
def FnExactSwapHandsSaid : Prop := fnExactSwapHandsRow.holds Try.pinned (OpenSpec.ofChange fnExactSwapHandsSpec)

/-- ITS FALSE NEIGHBOUR: 'it returns false'. Refute it at one input. -/
def fnExactSwapHandsWrong : ChangeSpec := { name := "fnExactSwapHands", fn := fun _ => fun
  | [d] => { results := [.lit (.bool false)], args := [d] }
  | _ => none }
def FnExactSwapHandsWrongFalsely : Prop := fnExactSwapHandsRow.holds Try.pinned (OpenSpec.ofChange fnExactSwapHandsWrong)

/-- 'laws.FnExactLongestRun': WHATEVER THE INPUT: true; the input reads as it did. -/
def fnExactLongestRunSpec : ChangeSpec := { name := "fnExactLongestRun", fn := fun _ => fun
  | [d] => { results := [.lit (.bool true)], args := [d] }
  | _ => none }
def fnExactLongestRunRow : OpenClaim := { program := "ytnmjfkmahlaghaa", sum := "27121d7ed1768a66377673102788ae4824e2a287f1d1e1544ba200e7b281ff2f", func := "loop.example/g03204/laws.FnExactLongestRun", spec := "fnExactLongestRun", apart := false }
def FnExactLongestRunSaid : Prop := fnExactLongestRunRow.holds Try.pinned (OpenSpec.ofChange fnExactLongestRunSpec)

/-- ITS FALSE NEIGHBOUR: 'it returns false'. Refute it at one input. -/
def fnExactLongestRunWrong : ChangeSpec := { name := "fnExactLongestRun", fn := fun _ => fun
  | [d] => { results := [.lit (.bool false)], args := [d] }
  | _ => none }
def FnExactLongestRunWrongFalsely : Prop := fnExactLongestRunRow.holds Try.pinned (OpenSpec.ofChange fnExactLongestRunWrong)

/-- 'laws.FnExactCountFull': WHATEVER THE INPUT: true; the input reads as it did. -/
def fnExactCountFullSpec : ChangeSpec := { name := "fnExactCountFull", fn := fun _ => fun
  | [d] => { results := [.lit (.bool true)], args := [d] }
  | _ => none }
def fnExactCountFullRow : OpenClaim := { program := "ytnmjfkmahlaghaa", sum := "27121d7ed1768a66377673102788ae4824e2a287f1d1e1544ba200e7b281ff2f", func := "loop.example/g03204/laws.FnExactCountFull", spec := "fnExactCountFull", apart := false }
def FnExactCountFullSaid : Prop := fnExactCountFullRow.holds Try.pinned (OpenSpec.ofChange fnExactCountFullSpec)

/-- ITS FALSE NEIGHBOUR: 'it returns false'. Refute it at one input. -/
def fnExactCountFullWrong : ChangeSpec := { name := "fnExactCountFull", fn := fun _ => fun
  | [d] => { results := [.lit (.bool false)], args := [d] }
  | _ => none }
def FnExactCountFullWrongFalsely : Prop := fnExactCountFullRow.holds Try.pinned (OpenSpec.ofChange fnExactCountFullWrong)

/-- 'laws.FnExactCountFor': WHATEVER THE INPUT: true; the input reads as it did. -/
def fnExactCountForSpec : ChangeSpec := { name := "fnExactCountFor", fn := fun _ => fun
  | [d1, d2, d3, d4] => { results := [.lit (.bool true)], args := [d1, d2, d3, d4] }
  | _ => none }
def fnExactCountForRow : OpenClaim := { program := "ytnmjfkmahlaghaa", sum := "27121d7ed1768a66377673102788ae4824e2a287f1d1e1544ba200e7b281ff2f", func := "loop.example/g03204/laws.FnExactCountFor", spec := "fnExactCountFor", recurses := true, apart := false }
def FnExactCountForSaid : Prop := fnExactCountForRow.holds Try.pinned (OpenSpec.ofChange fnExactCountForSpec)

/-- ITS FALSE NEIGHBOUR: 'it returns false'. Refute it at one input. -/
def fnExactCountForWrong : ChangeSpec := { name := "fnExactCountFor", fn := fun _ => fun
  | [d1, d2, d3, d4] => { results := [.lit (.bool false)], args := [d1, d2, d3, d4] }
  | _ => none }
def FnExactCountForWrongFalsely : Prop := fnExactCountForRow.holds Try.pinned (OpenSpec.ofChange fnExactCountForWrong)

/-- 'laws.FnExactIsFull': WHATEVER THE INPUT: true; the input reads as it did. -/
def fnExactIsFullSpec : ChangeSpec := { name := "fnExactIsFull", fn := fun _ => fun
  | [d1, d2] => { results := [.lit (.bool true)], args := [d1, d2] }
  | _ => none }
def fnExactIsFullRow : OpenClaim := { program := "ytnmjfkmahlaghaa", sum := "27121d7ed1768a66377673102788ae4824e2a287f1d1e1544ba200e7b281ff2f", func := "loop.example/g03204/laws.FnExactIsFull", spec := "fnExactIsFull", apart := false }
def FnExactIsFullSaid : Prop := fnExactIsFullRow.holds Try.pinned (OpenSpec.ofChange fnExactIsFullSpec)

/-- ITS FALSE NEIGHBOUR: 'it returns false'. Refute it at one input. -/
def fnExactIsFullWrong : ChangeSpec := { name := "fnExactIsFull", fn := fun _ => fun
  | [d1, d2] => { results := [.lit (.bool false)], args := [d1, d2] }
  | _ => none }
def FnExactIsFullWrongFalsely : Prop := fnExactIsFullRow.holds Try.pinned (OpenSpec.ofChange fnExactIsFullWrong)

/-- 'laws.FnExactScoreOk': WHATEVER THE INPUT: true; the input reads as it did. -/
def fnExactScoreOkSpec : ChangeSpec := { name := "fnExactScoreOk", fn := fun _ => fun
  | [d] => { results := [.lit (.bool true)], args := [d] }
  | _ => none }
def fnExactScoreOkRow : OpenClaim := { program := "ytnmjfkmahlaghaa", sum := "27121d7ed1768a66377673102788ae4824e2a287f1d1e1544ba200e7b281ff2f", func := "loop.example/g03204/laws.FnExactScoreOk", spec := "fnExactScoreOk", recurses := true, apart := false }
def FnExactScoreOkSaid : Prop := fnExactScoreOkRow.holds Try.pinned (OpenSpec.ofChange fnExactScoreOkSpec)

/-- ITS FALSE NEIGHBOUR: 'it returns false'. Refute it at one input. -/
def fnExactScoreOkWrong : ChangeSpec := { name := "fnExactScoreOk", fn := fun _ => fun
  | [d] => { results := [.lit (.bool false)], args := [d] }
  | _ => none }
def FnExactScoreOkWrongFalsely : Prop := fnExactScoreOkRow.holds Try.pinned (OpenSpec.ofChange fnExactScoreOkWrong)

/- THE SECOND FORM. 'bulk': how many values and letters a reading holds, each counted each time it is reached (what is shared counts as often as it is met; a slice's spare places count too). A statement '..UptoSaid' is the law's where the arguments, and the package variables that the reading takes, are together of bulk at most 1048576: NARROWER than '..Said'. Prove '..Said' where nothing that the law and all that it calls make is longer than what came in: it says more and counts as full. Else prove '..UptoSaid'. A law counts once. -/
mutual
def uptoBulk {H : Type} : DataW H → Nat
  | .lit (.string bytes) => bytes.length + 1
  | .lit _ => 1
  | .nil => 1
  | .ptr d => uptoBulk d + 1
  | .slice elems spare => uptoBulkAll elems + uptoBulkAll spare + 1
  | .agg parts => uptoBulkAll parts + 1
  | .iface _ d => uptoBulk d + 1
  | .map entries => uptoBulkEntries entries + 1
  | .held _ => 1
def uptoBulkAll {H : Type} : List (DataW H) → Nat
  | [] => 0
  | d :: r => uptoBulk d + uptoBulkAll r
def uptoBulkEntries {H : Type} : List (Lit × DataW H) → Nat
  | [] => 0
  | x :: r => uptoBulkEntry x + uptoBulkEntries r
def uptoBulkEntry {H : Type} : Lit × DataW H → Nat
  | (.string bytes, d) => bytes.length + uptoBulk d + 1
  | (_, d) => uptoBulk d + 1
 end
def uptoSmall : (H : Type) → List (DataW H) → Bool := fun _ ds => decide (uptoBulkAll ds ≤ 1048576)
def OpenSpec.upto (s : _root_.Go.ChangeSpec) : _root_.Go.OpenSpec := { _root_.Go.OpenSpec.ofChange s with cond := some uptoSmall }

/-- 'laws.FnExactWishOk', WHERE WHAT IT READS IS OF BULK AT MOST 1048576: true; the input reads as it did. -/
def fnExactWishOkUptoRow : OpenClaim := { program := "ytnmjfkmahlaghaa", sum := "27121d7ed1768a66377673102788ae4824e2a287f1d1e1544ba200e7b281ff2f", func := "loop.example/g03204/laws.FnExactWishOk", spec := "fnExactWishOk", apart := false, narrowed := true }
def FnExactWishOkUptoSaid : Prop := fnExactWishOkUptoRow.holds Try.pinned (OpenSpec.upto fnExactWishOkSpec)

/-- 'laws.FnExactSwapHands', WHERE WHAT IT READS IS OF BULK AT MOST 1048576: true; the input reads as it did. -/
def fnExactSwapHandsUptoRow : OpenClaim := { program := "ytnmjfkmahlaghaa", sum := "27121d7ed1768a66377673102788ae4824e2a287f1d1e1544ba200e7b281ff2f", func := "loop.example/g03204/laws.FnExactSwapHands", spec := "fnExactSwapHands", apart := false, narrowed := true }
def FnExactSwapHandsUptoSaid : Prop := fnExactSwapHandsUptoRow.holds Try.pinned (OpenSpec.upto fnExactSwapHandsSpec)

/-- 'laws.FnExactLongestRun', WHERE WHAT IT READS IS OF BULK AT MOST 1048576: true; the input reads as it did. -/
def fnExactLongestRunUptoRow : OpenClaim := { program := "ytnmjfkmahlaghaa", sum := "27121d7ed1768a66377673102788ae4824e2a287f1d1e1544ba200e7b281ff2f", func := "loop.example/g03204/laws.FnExactLongestRun", spec := "fnExactLongestRun", apart := false, narrowed := true }
def FnExactLongestRunUptoSaid : Prop := fnExactLongestRunUptoRow.holds Try.pinned (OpenSpec.upto fnExactLongestRunSpec)

/-- 'laws.FnExactCountFull', WHERE WHAT IT READS IS OF BULK AT MOST 1048576: true; the input reads as it did. -/
def fnExactCountFullUptoRow : OpenClaim := { program := "ytnmjfkmahlaghaa", sum := "27121d7ed1768a66377673102788ae4824e2a287f1d1e1544ba200e7b281ff2f", func := "loop.example/g03204/laws.FnExactCountFull", spec := "fnExactCountFull", apart := false, narrowed := true }
def FnExactCountFullUptoSaid : Prop := fnExactCountFullUptoRow.holds Try.pinned (OpenSpec.upto fnExactCountFullSpec)

/-- 'laws.FnExactCountFor', WHERE WHAT IT READS IS OF BULK AT MOST 1048576: true; the input reads as it did. -/
def fnExactCountForUptoRow : OpenClaim := { program := "ytnmjfkmahlaghaa", sum := "27121d7ed1768a66377673102788ae4824e2a287f1d1e1544ba200e7b281ff2f", func := "loop.example/g03204/laws.FnExactCountFor", spec := "fnExactCountFor", recurses := true, apart := false, narrowed := true }
def FnExactCountForUptoSaid : Prop := fnExactCountForUptoRow.holds Try.pinned (OpenSpec.upto fnExactCountForSpec)

/-- 'laws.FnExactIsFull', WHERE WHAT IT READS IS OF BULK AT MOST 1048576: true; the input reads as it did. -/
def fnExactIsFullUptoRow : OpenClaim := { program := "ytnmjfkmahlaghaa", sum := "27121d7ed1768a66377673102788ae4824e2a287f1d1e1544ba200e7b281ff2f", func := "loop.example/g03204/laws.FnExactIsFull", spec := "fnExactIsFull", apart := false, narrowed := true }
def FnExactIsFullUptoSaid : Prop := fnExactIsFullUptoRow.holds Try.pinned (OpenSpec.upto fnExactIsFullSpec)

/-- 'laws.FnExactScoreOk', WHERE WHAT IT READS IS OF BULK AT MOST 1048576: true; the input reads as it did. -/
def fnExactScoreOkUptoRow : OpenClaim := { program := "ytnmjfkmahlaghaa", sum := "27121d7ed1768a66377673102788ae4824e2a287f1d1e1544ba200e7b281ff2f", func := "loop.example/g03204/laws.FnExactScoreOk", spec := "fnExactScoreOk", recurses := true, apart := false, narrowed := true }
def FnExactScoreOkUptoSaid : Prop := fnExactScoreOkUptoRow.holds Try.pinned (OpenSpec.upto fnExactScoreOkSpec)

end Rows
end Go.Proofs.Ytnmjfkmahlaghaa
