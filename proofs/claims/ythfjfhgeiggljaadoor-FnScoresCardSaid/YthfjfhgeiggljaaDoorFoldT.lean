/-
  Runs of letters, folded: the text that both make.
-/
import Derived.Test.YthfjfhgeiggljaaDoorRead
import Derived.Test.YthfjfhgeiggljaaDoorFmtS
import Derived.Test.YthfjfhgeiggljaaDoorScoW
namespace Go.Proofs.YthfjfhgeiggljaaDoor
open Go.RowKit
set_option linter.unusedVariables false
set_option linter.unusedSimpArgs false

def contB (s : ByteArray) (i r : Nat) : Bool := decide (r < 9 ∧ i + r < s.size ∧ chr s (i + r) = chr s i)
def runF (s : ByteArray) (i : Nat) : Nat → Nat → Nat
  | 0, r => r
  | f + 1, r => if contB s i r then runF s i f (r + 1) else r
def runN (s : ByteArray) (i : Nat) : Nat := runF s i 9 1
theorem runF_stop {s : ByteArray} {i r f : Nat} (h : contB s i r = false) : runF s i f r = r := by
  cases f with
  | zero => rfl
  | succ f => show (if contB s i r then _ else r) = r; rw [h]; rfl
theorem runF_go {s : ByteArray} {i r f : Nat} (h : contB s i r = true) : runF s i (f + 1) r = runF s i f (r + 1) := by
  show (if contB s i r then _ else r) = _; rw [h]; rfl
def bytD (s : ByteArray) (i : Nat) : UInt8 := if h : i < s.size then s[i]'h else 0
theorem bytD_at {s : ByteArray} {i : Nat} (h : i < s.size) : Str (s.extract i (i + 1)) [bytD s i] := by
  unfold bytD; rw [dif_pos h]; exact str_at s i h
def pieT (c : UInt8) (r : Nat) : List UInt8 := if r = 1 then [c] else 91 :: c :: 93 :: digT r
theorem pieT_len (c : UInt8) (r : Nat) : (pieT c r).length ≤ 4 := by unfold pieT digT; split <;> simp
def foldT (s : ByteArray) : Nat → Nat → List UInt8
  | 0, _ => []
  | f + 1, i => if i < s.size then pieT (bytD s i) (runN s i) ++ foldT s f (i + runN s i) else []
theorem foldT_go {s : ByteArray} {f i : Nat} (h : i < s.size) : foldT s (f + 1) i = pieT (bytD s i) (runN s i) ++ foldT s f (i + runN s i) := by
  show (if i < s.size then _ else _) = _; rw [if_pos h]
theorem foldT_end {s : ByteArray} {f i : Nat} (h : ¬ i < s.size) : foldT s f i = [] := by
  cases f with
  | zero => rfl
  | succ f => show (if i < s.size then _ else _) = _; rw [if_neg h]

noncomputable def foldW (s : ByteArray) (T : List UInt8) : List UInt8 := if plaV (mkS T) = s.data.toList then T else []
noncomputable def foldV (s : ByteArray) : List UInt8 := if s.size ≤ 500 then foldW s (foldT s 501 0) else []
theorem Below.drew7_ {B : Nat} {a w : World} (h : Below B a w) : Below B a w.drew := ⟨h.os, h.tape, h.output, h.size, h.block⟩
theorem ne_text {P : List UInt8} {s : ByteArray} (h : ¬ P = s.data.toList) : ((mkS P).toList == s.toList) = false ∧ (s.toList == (mkS P).toList) = false := by
  rw [Lib.toList_data, Lib.toList_data, show (mkS P).data.toList = P from str_mk P]
  exact ⟨beq_eq_false_iff_ne.2 h, beq_eq_false_iff_ne.2 (fun e => h e.symm)⟩
theorem pieT_one (c : UInt8) : pieT c 1 = [c] := rfl
theorem pieT_more {c : UInt8} {r : Nat} (h : ¬ r = 1) : pieT c r = 91 :: c :: 93 :: digT r := by unfold pieT; rw [if_neg h]

end Go.Proofs.YthfjfhgeiggljaaDoor
