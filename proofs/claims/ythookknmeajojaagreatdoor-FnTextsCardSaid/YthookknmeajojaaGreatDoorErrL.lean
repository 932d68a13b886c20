/-
  From a row's list of laid variables to the cells of strconv's two errors.
-/
import Derived.Test.YthookknmeajojaaGreatDoorTyG
import Derived.Stop.LaidErr
import Derived.MakeChecks
namespace Go.Proofs.YthookknmeajojaaGreatDoor
open Go.RowKit
set_option linter.unusedVariables false
set_option linter.unusedSimpArgs false

theorem starErr : "*" ++ "errors.errorString" = "*errors.errorString" := by decide
theorem rowErr (u : TypeId) (h : Tryz.prog.typeName? 3 u = some "*errors.errorString") : u = 200 :=
  typeName_ptr_named (nm := "errors.errorString") (by rw [starErr]; kernel_rfl) (by kernel_rfl) (by decide) u (by rw [starErr]; exact h)

theorem errAt_of_laid {W : World} {n : String} {text : List UInt8} {g : Nat} (hg : Tryz.prog.globalNamed n = some g) (ht : (Tryz.prog.globals[g]?).map (·.type) = some 89) : ∀ (laid : List (String × DataW Unit)) (i : Nat), laidMet Tryz.prog laid W → laid[i]? = some (n, .iface "*errors.errorString" (.ptr (.agg [.lit (.string text)]))) → ErrAt W g
  | [], i, _, h => by simp at h
  | x :: r, 0, h, hi => by
    obtain rfl : x = _ := by simpa using hi
    obtain ⟨a, s, hv, _⟩ := laid_sentinel h hg ht Tryz.underlying89 rowErr Tryz.underlying200 Tryz.underlying202 rfl rfl Tryz.underlying9 (by kernel_rfl) (by kernel_rfl)
    exact ⟨_, by simpa using World.var?_cell hg hv 0, .inr ⟨_, _, rfl⟩⟩
  | x :: r, i + 1, h, hi => errAt_of_laid hg ht r i h.tail (by simpa using hi)

theorem errs_row {W : World} {laid : List (String × DataW Unit)} {t1 t2 : List UInt8} (i j : Nat) (h : laidMetH Tryz.prog laid W) (hp : (laid.all fun x => x.2.handleName?.isNone) = true)
    (hi : laid[i]? = some ("strconv.ErrSyntax", .iface "*errors.errorString" (.ptr (.agg [.lit (.string t1)])))) (hj : laid[j]? = some ("strconv.ErrRange", .iface "*errors.errorString" (.ptr (.agg [.lit (.string t2)])))) : Errs W := by
  rw [MakeChecks.laidMetH_plain _ _ _ hp] at h
  exact ⟨errAt_of_laid (by kernel_rfl) (by kernel_rfl) laid i h hi, errAt_of_laid (by kernel_rfl) (by kernel_rfl) laid j h hj⟩

end Go.Proofs.YthookknmeajojaaGreatDoor
