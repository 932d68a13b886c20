/-
  The statement of the law FnWindows: for every input it returns true, and what was in memory stays as it was. The walk is the text before this one; here the arguments are opened and shut.
-/
import Derived.Test.YtlejlcnemibgiaaGreatLFnWindows
import Derived.Test.YtlejlcnemibgiaaGreatRows
import Derived.Test.YtlejlcnemibgiaaGreatOpen
import Derived.Test.YtlejlcnemibgiaaGreatHead
import Derived.Test.YtlejlcnemibgiaaGreatOpB
namespace Go.Proofs.YtlejlcnemibgiaaGreat.fnWindows
open Go.ChangeShapes Go.WideShapes Go.ChangeAt Go.RowKit Go.Joins
open Go.ChangeMaps (open_string shut_string)
set_option linter.unusedVariables false

set_option maxRecDepth 100000 in
theorem lifted (os : Os) (started : os.Started) (H : Type) (enc : TypeId × Value → H) :
    ReturnsInHanded {} Tryz.checked os 3 .any (Rows.fnWindowsSpec.pre6 enc Tryz.prog Tryz.f3 Rows.fnWindowsRow.domain false) (Rows.fnWindowsSpec.post enc Tryz.prog Tryz.f3 false true false false) := by
  refine returnsInHanded_of_change (C := Tryz.checked) own started (by kernel_rfl) Tryz.func3
    (ChangeSpec.witness6 (enc := enc) (C := Tryz.checked) false ⟨#[], #[.slice none 0 0], []⟩ 8 (by kernel_rfl) (by kernel_rfl) (by kernel_rfl) (by kernel_rfl)) ?_
  intro W base args ds gs before hval0 hW hcnd _
  have hval : ∀ (j : Nat) t v, Tryz.f3.params[j]? = some t → args[j]? = some v → Value.okWide Tryz.prog W .any base t v := hval0
  have hW' := hW
  obtain ⟨p, q, hA0, hV, rfl, hfz, hnd⟩ := hW
  have hA : DataW.TrodAll enc Tryz.prog W 0 (fun _ => true) true Tryz.f3.params.toList args.toList ds p := hA0
  rw [Tryz.params3] at hA hval
  obtain ⟨v0, vs0, d0, ds0, p0, q0, hargs, rfl, rfl, h0, r0⟩ := trodAll_cons hA
  obtain ⟨rfl, rfl, rfl⟩ := trodAll_nil r0
  obtain rfl : args = #[v0] := by cases args; simp_all
  obtain ⟨rfl, rfl⟩ := trodVars_none hV
  have k0 := h0
  have lt0 : ∀ x ∈ p0, x.block < W.heap.size := by obtain ⟨m, hm⟩ := k0; exact DataW.trod_lt m _ _ _ hm
  obtain ⟨A0, cap0, bs0, rfl, w0⟩ := open_bytelist (hval 0 22 v0 rfl rfl) h0
  clear hA0 hval0
  refine (law_FnWindows (w := W) A0 cap0 bs0 w0).mono fun e W' ⟨he, bel⟩ => ?_
  subst he
  exact ⟨_, rfl, _, _, _, [], _, [], hW', trodAll_mk1 (shut_bool Tryz.underlying4 _), (trodAll_cons_mk (Below.trod laidOut (by kernel_rfl) (of_decide_eq_true (by kernel_rfl)) k0 bel lt0) trodAll_mk0), rfl, bel.frame _, fun h => by cases h⟩

set_option maxHeartbeats 4000000 in
theorem closed : joinedFacts Tryz.prog 3 Tryz.f3 Rows.fnWindowsSpec Rows.fnWindowsRow = true := by
  unfold joinedFacts
  simp only [Bool.and_eq_true]
  repeat' apply And.intro
  all_goals first
    | with_reducible exact head_enter
    | ((with_reducible refine head_final _ ?_); rfl)
    | ((with_reducible refine head_make _ ?_); rfl)
    | with_reducible exact laidOut
    | with_reducible exact head_maps
    | with_reducible exact head_stops
    | with_reducible exact head_knobs
    | ((with_reducible refine head_keys _ ?_); rfl)
    | with_reducible exact head_heard
    | (as_aux_lemma => kernel_rfl)

set_option maxHeartbeats 4000000 in
theorem over : Rows.fnWindowsRow.holds Tryz.pinned (OpenSpec.ofChange Rows.fnWindowsSpec) :=
  OpenClaim.holds_of_wide 3 Tryz.f3 rfl rfl rfl rfl rfl rfl rfl ⟨rfl, rfl, rfl, rfl, rfl⟩ rfl rfl rfl rfl rfl (by as_aux_lemma => kernel_rfl) Tryz.func3 closed
    (of_decide_eq_true (by as_aux_lemma => kernel_rfl)) (by as_aux_lemma => unfold Func.isWrapper; rw [if_neg (by decide +kernel)]; exact ⟨rfl, rfl⟩)
    (fun os started H enc _ => lifted os started H enc)

/-- The statement: the law FnWindows returns true for every input. -/
theorem proved : Rows.FnWindowsSaid := over
#print axioms proved
end Go.Proofs.YtlejlcnemibgiaaGreat.fnWindows
