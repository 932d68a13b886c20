/-
  No cell of these rows narrows 'for every input' (looked for: loops, veiled, ifaces, maps, wideKeys, modest, calm, conditions, laid).
  DERIVED. THE GIVEN ROWS OF THIS SEAT. 5 by the template 'for every input the law returns true; each argument reads behind the call as it read before'; 0 by the template 'total and deterministic' (their statements: YtjgbnmljbgadjaaTotals.lean).
  GIVEN WITH THE SEED: the statements are not yours to turn. If you find one false, say at which input.
  Laid BY PROGRAM, IN A SANDBOX (cutbox-rows.mjs): the forced cells as the released guide's own fill.sh prints them over the translation 5ad144d25c01f88b… (all of the seat's roots in one cut). By AI agents, Wed Nov 11 2026. No macro, syntax, notation, axiom, sorry.
-/
import Derived.Test.YtjgbnmljbgadjaaChecked
import GoSem.Claim
import GoSem.ClaimJoined
import GoSem.ClaimMapViews
import Derived.JoinedTies
import Derived.KernelRfl
namespace Go.Proofs.Ytjgbnmljbgadjaa
/- THE CELL 'sum', in the pinned program and in every row, IS THE sha256 OF THE DUMP (.gsa) THAT YtjgbnmljbgadjaaProg.lean LOADS. Nothing in Lean hashes anything: it is a label: what it is worth is what the hold of that sum in a sandbox is worth. -/
noncomputable def Try.pinned : Pinned := { name := "ytjgbnmljbgadjaa", sum := "5ad144d25c01f88b1e9abe1775c697c9c946cc649446339fad813cf5828c1e40", checked := Try.checked }
namespace Rows
def none {H : Type} : Left H := { results := [], args := [] }

/-- 'laws.FnExactHasWindow': WHATEVER THE INPUT: true; the input reads as it did. -/
def fnExactHasWindowSpec : ChangeSpec := { name := "fnExactHasWindow", fn := fun _ => fun
  | [d1, d2] => { results := [.lit (.bool true)], args := [d1, d2] }
  | _ => none }
def fnExactHasWindowRow : OpenClaim := { program := "ytjgbnmljbgadjaa", sum := "5ad144d25c01f88b1e9abe1775c697c9c946cc649446339fad813cf5828c1e40", func := "loop.example/g03204/laws.FnExactHasWindow", spec := "fnExactHasWindow", inPlace := ["internal/bytealg.MakeNoZero", "internal/abi.NoEscape"], recurses := true, apart := false }
def FnExactHasWindowSaid : Prop := fnExactHasWindowRow.holds Try.pinned (OpenSpec.ofChange fnExactHasWindowSpec)

/-- ITS FALSE NEIGHBOUR: 'it returns false'. Refute it at one input. -/
def fnExactHasWindowWrong : ChangeSpec := { name := "fnExactHasWindow", fn := fun _ => fun
  | [d1, d2] => { results := [.lit (.bool false)], args := [d1, d2] }
  | _ => none }
def FnExactHasWindowWrongFalsely : Prop := fnExactHasWindowRow.holds Try.pinned (OpenSpec.ofChange fnExactHasWindowWrong)

/-- 'laws.FnExactCountWindows': WHATEVER THE INPUT: true; the input reads as it did. -/
def fnExactCountWindowsSpec : ChangeSpec := { name := "fnExactCountWindows", fn := fun _ => fun
  | [d1, d2] => { results := [.lit (.bool true)], args := [d1, d2] }
  | _ => none }
def fnExactCountWindowsRow : OpenClaim := { program := "ytjgbnmljbgadjaa", sum := "5ad144d25c01f88b1e9abe1775c697c9c946cc649446339fad813cf5828c1e40", func := "loop.example/g03204/laws.FnExactCountWindows", spec := "fnExactCountWindows", inPlace := ["internal/bytealg.MakeNoZero", "internal/abi.NoEscape"], recurses := true, apart := false }
def FnExactCountWindowsSaid : Prop := fnExactCountWindowsRow.holds Try.pinned (OpenSpec.ofChange fnExactCountWindowsSpec)

/-- ITS FALSE NEIGHBOUR: 'it returns false'. Refute it at one input. -/
def fnExactCountWindowsWrong : ChangeSpec := { name := "fnExactCountWindows", fn := fun _ => fun
  | [d1, d2] => { results := [.lit (.bool false)], args := [d1, d2] }
  | _ => none }
def FnExactCountWindowsWrongFalsely : Prop := fnExactCountWindowsRow.holds Try.pinned (OpenSpec.ofChange fnExactCountWindowsWrong)

/-- 'laws.FnExactWindowsOf': WHATEVER THE INPUT: true; the input reads as it did. -/
def fnExactWindowsOfSpec : ChangeSpec := { name := "fnExactWindowsOf", fn := fun _ => fun
  | [d1, d2] => { results := [.lit (.bool true)], args := [d1, d2] }
  | _ => none }
def fnExactWindowsOfRow : OpenClaim := { program := "ytjgbnmljbgadjaa", sum := "5ad144d25c01f88b1e9abe1775c697c9c946cc649446339fad813cf5828c1e40", func := "loop.example/g03204/laws.FnExactWindowsOf", spec := "fnExactWindowsOf", inPlace := ["internal/bytealg.MakeNoZero", "internal/abi.NoEscape"], recurses := true, apart := false }
def FnExactWindowsOfSaid : Prop := fnExactWindowsOfRow.holds Try.pinned (OpenSpec.ofChange fnExactWindowsOfSpec)

/-- ITS FALSE NEIGHBOUR: 'it returns false'. Refute it at one input. -/
def fnExactWindowsOfWrong : ChangeSpec := { name := "fnExactWindowsOf", fn := fun _ => fun
  | [d1, d2] => { results := [.lit (.bool false)], args := [d1, d2] }
  | _ => none }
def FnExactWindowsOfWrongFalsely : Prop := fnExactWindowsOfRow.holds Try.pinned (OpenSpec.ofChange fnExactWindowsOfWrong)

/-- 'laws.FnExactLeastWindow': WHATEVER THE INPUT: true; the input reads as it did. -/
def fnExactLeastWindowSpec : ChangeSpec := { name := "fnExactLeastWindow", fn := fun _ => fun
  | [d] => { results := [.lit (.bool true)], args := [d] }
  | _ => none }
def fnExactLeastWindowRow : OpenClaim := { program := "ytjgbnmljbgadjaa", sum := "5ad144d25c01f88b1e9abe1775c697c9c946cc649446339fad813cf5828c1e40", func := "loop.example/g03204/laws.FnExactLeastWindow", spec := "fnExactLeastWindow", inPlace := ["internal/bytealg.MakeNoZero", "internal/abi.NoEscape"], unfollowed := true, recurses := true, apart := false }
def FnExactLeastWindowSaid : Prop := fnExactLeastWindowRow.holds Try.pinned (OpenSpec.ofChange fnExactLeastWindowSpec)

/-- ITS FALSE NEIGHBOUR: 'it returns false'. Refute it at one input. -/
def fnExactLeastWindowWrong : ChangeSpec := { name := "fnExactLeastWindow", fn := fun _ => fun
  | [d] => { results := [.lit (.bool false)], args := [d] }
  | _ => none }
def FnExactLeastWindowWrongFalsely : Prop := fnExactLeastWindowRow.holds Try.pinned (OpenSpec.ofChange fnExactLeastWindowWrong)

/-- 'laws.FnExactIsBalanced': WHATEVER THE INPUT: true; the input reads as it did. -/
def fnExactIsBalancedSpec : ChangeSpec := { name := "fnExactIsBalanced", fn := fun _ => fun
  | [d] => { results := [.lit (.bool true)], args := [d] }
  | _ => none }
def fnExactIsBalancedRow : OpenClaim := { program := "ytjgbnmljbgadjaa", sum := "5ad144d25c01f88b1e9abe1775c697c9c946cc649446339fad813cf5828c1e40", func := "loop.example/g03204/laws.FnExactIsBalanced", spec := "fnExactIsBalanced", inPlace := ["internal/bytealg.MakeNoZero", "internal/abi.NoEscape", "internal/bytealg.CountString", "internal/bytealg.IndexByteString", "internal/bytealg.IndexString"], recurses := true, named := ["internal/bytealg.MaxLen"], apart := false }
def FnExactIsBalancedSaid : Prop := fnExactIsBalancedRow.holds Try.pinned (OpenSpec.ofChange fnExactIsBalancedSpec)

/-- ITS FALSE NEIGHBOUR: 'it returns false'. Refute it at one input. -/
def fnExactIsBalancedWrong : ChangeSpec := { name := "fnExactIsBalanced", fn := fun _ => fun
  | [d] => { results := [.lit (.bool false)], args := [d] }
  | _ => none }
def FnExactIsBalancedWrongFalsely : Prop := fnExactIsBalancedRow.holds Try.pinned (OpenSpec.ofChange fnExactIsBalancedWrong)

/- THE SECOND FORM. 'bulk': how many values and letters a reading holds, each counted each time it is reached (what is shared counts as often as it is met; a slice's spare places count too). A statement '..UptoSaid' is the law's where the arguments, and the package variables that the reading takes, are together of bulk at most 1048576: NARROWER than '..Said'. Prove '..Said' where nothing that the law and all that it calls make is longer than what came in: it says more and counts as full. Else prove '..UptoSaid'. A law counts once. -/
mutual
def uptoBulk {H : Type} : DataW H → Nat
  | .lit (.string bytes) => bytes.length + 1
  | .lit _ => 1
  | .nil => 1
  | .ptr d => uptoBulk d + 1
  | .slice elems spare => uptoBulkAll elems + uptoBulkAll spare + 1
  | .agg parts => uptoBulkAll parts + 1
  | .iface _ d => uptoBulk d + 1
  | .map entries => uptoBulkEntries entries + 1
  | .held _ => 1
def uptoBulkAll {H : Type} : List (DataW H) → Nat
  | [] => 0
  | d :: r => uptoBulk d + uptoBulkAll r
def uptoBulkEntries {H : Type} : List (Lit × DataW H) → Nat
  | [] => 0
  | x :: r => uptoBulkEntry x + uptoBulkEntries r
def uptoBulkEntry {H : Type} : Lit × DataW H → Nat
  | (.string bytes, d) => bytes.length + uptoBulk d + 1
  | (_, d) => uptoBulk d + 1
 end
def uptoSmall : (H : Type) → List (DataW H) → Bool := fun _ ds => decide (uptoBulkAll ds ≤ 1048576)
def OpenSpec.upto (s : _root_.Go.ChangeSpec) : _root_.Go.OpenSpec := { _root_.Go.OpenSpec.ofChange s with cond := some uptoSmall }

/-- 'laws.FnExactHasWindow', WHERE WHAT IT READS IS OF BULK AT MOST 1048576: true; the input reads as it did. -/
def fnExactHasWindowUptoRow : OpenClaim := { program := "ytjgbnmljbgadjaa", sum := "5ad144d25c01f88b1e9abe1775c697c9c946cc649446339fad813cf5828c1e40", func := "loop.example/g03204/laws.FnExactHasWindow", spec := "fnExactHasWindow", inPlace := ["internal/bytealg.MakeNoZero", "internal/abi.NoEscape"], recurses := true, apart := false, narrowed := true }
def FnExactHasWindowUptoSaid : Prop := fnExactHasWindowUptoRow.holds Try.pinned (OpenSpec.upto fnExactHasWindowSpec)

/-- 'laws.FnExactCountWindows', WHERE WHAT IT READS IS OF BULK AT MOST 1048576: true; the input reads as it did. -/
def fnExactCountWindowsUptoRow : OpenClaim := { program := "ytjgbnmljbgadjaa", sum := "5ad144d25c01f88b1e9abe1775c697c9c946cc649446339fad813cf5828c1e40", func := "loop.example/g03204/laws.FnExactCountWindows", spec := "fnExactCountWindows", inPlace := ["internal/bytealg.MakeNoZero", "internal/abi.NoEscape"], recurses := true, apart := false, narrowed := true }
def FnExactCountWindowsUptoSaid : Prop := fnExactCountWindowsUptoRow.holds Try.pinned (OpenSpec.upto fnExactCountWindowsSpec)

/-- 'laws.FnExactWindowsOf', WHERE WHAT IT READS IS OF BULK AT MOST 1048576: true; the input reads as it did. -/
def fnExactWindowsOfUptoRow : OpenClaim := { program := "ytjgbnmljbgadjaa", sum := "5ad144d25c01f88b1e9abe1775c697c9c946cc649446339fad813cf5828c1e40", func := "loop.example/g03204/laws.FnExactWindowsOf", spec := "fnExactWindowsOf", inPlace := ["internal/bytealg.MakeNoZero", "internal/abi.NoEscape"], recurses := true, apart := false, narrowed := true }
def FnExactWindowsOfUptoSaid : Prop := fnExactWindowsOfUptoRow.holds Try.pinned (OpenSpec.upto fnExactWindowsOfSpec)

/-- 'laws.FnExactLeastWindow', WHERE WHAT IT READS IS OF BULK AT MOST 1048576: true; the input reads as it did. -/
def fnExactLeastWindowUptoRow : OpenClaim := { program := "ytjgbnmljbgadjaa", sum := "5ad144d25c01f88b1e9abe1775c697c9c946cc649446339fad813cf5828c1e40", func := "loop.example/g03204/laws.FnExactLeastWindow", spec := "fnExactLeastWindow", inPlace := ["internal/bytealg.MakeNoZero", "internal/abi.NoEscape"], unfollowed := true, recurses := true, apart := false, narrowed := true }
def FnExactLeastWindowUptoSaid : Prop := fnExactLeastWindowUptoRow.holds Try.pinned (OpenSpec.upto fnExactLeastWindowSpec)

/-- 'laws.FnExactIsBalanced', WHERE WHAT IT READS IS OF BULK AT MOST 1048576: true; the input reads as it did. -/
def fnExactIsBalancedUptoRow : OpenClaim := { program := "ytjgbnmljbgadjaa", sum := "5ad144d25c01f88b1e9abe1775c697c9c946cc649446339fad813cf5828c1e40", func := "loop.example/g03204/laws.FnExactIsBalanced", spec := "fnExactIsBalanced", inPlace := ["internal/bytealg.MakeNoZero", "internal/abi.NoEscape", "internal/bytealg.CountString", "internal/bytealg.IndexByteString", "internal/bytealg.IndexString"], recurses := true, named := ["internal/bytealg.MaxLen"], apart := false, narrowed := true }
def FnExactIsBalancedUptoSaid : Prop := fnExactIsBalancedUptoRow.holds Try.pinned (OpenSpec.upto fnExactIsBalancedSpec)

end Rows
end Go.Proofs.Ytjgbnmljbgadjaa
