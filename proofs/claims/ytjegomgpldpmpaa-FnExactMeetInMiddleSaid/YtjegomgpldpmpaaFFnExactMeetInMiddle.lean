/-
  The statement of the law FnExactMeetInMiddle: for every input it returns true, and what was in memory stays as it was. The walk is the text before this one; here the arguments are opened and shut.
-/
import Derived.Test.YtjegomgpldpmpaaLFnExactMeetInMiddle
import Derived.Test.YtjegomgpldpmpaaRows
import Derived.Test.YtjegomgpldpmpaaOpen
import Derived.Test.YtjegomgpldpmpaaHead
namespace Go.Proofs.Ytjegomgpldpmpaa.fnExactMeetInMiddle
open Go.ChangeShapes Go.WideShapes Go.ChangeAt Go.RowKit Go.Joins
open Go.ChangeMaps (open_string shut_string)
set_option linter.unusedVariables false

set_option maxRecDepth 100000 in
theorem lifted (os : Os) (started : os.Started) (H : Type) (enc : TypeId × Value → H) :
    ReturnsInHanded {} Try.checked os 4 .any (Rows.fnExactMeetInMiddleSpec.pre6 enc Try.prog Try.f4 Rows.fnExactMeetInMiddleRow.domain false) (Rows.fnExactMeetInMiddleSpec.post enc Try.prog Try.f4 false true false false) := by
  refine returnsInHanded_of_change (C := Try.checked) own started (by kernel_rfl) Try.func4
    (ChangeSpec.witness6 (enc := enc) (C := Try.checked) false ⟨#[], #[.agg #[.int .i64 0, .slice none 0 0], .agg #[.int .i64 0, .slice none 0 0]], []⟩ 8 (by kernel_rfl) (by kernel_rfl) (by kernel_rfl) (by kernel_rfl)) ?_
  intro W base args ds gs before hval0 hW hcnd _
  have hval : ∀ (j : Nat) t v, Try.f4.params[j]? = some t → args[j]? = some v → Value.okWide Try.prog W .any base t v := hval0
  have hW' := hW
  obtain ⟨p, q, hA0, hV, rfl, hfz, hnd⟩ := hW
  have hA : DataW.TrodAll enc Try.prog W 0 (fun _ => true) true Try.f4.params.toList args.toList ds p := hA0
  rw [Try.params4] at hA hval
  obtain ⟨v0, vs0, d0, ds0, p0, q0, hargs, rfl, rfl, h0, r0⟩ := trodAll_cons hA
  obtain ⟨v1, vs1, d1, ds1, p1, q1, rfl, rfl, rfl, h1, r1⟩ := trodAll_cons r0
  obtain ⟨rfl, rfl, rfl⟩ := trodAll_nil r1
  obtain rfl : args = #[v0, v1] := by cases args; simp_all
  obtain ⟨rfl, rfl⟩ := trodVars_none hV
  have k0 := h0
  have lt0 : ∀ x ∈ p0, x.block < W.heap.size := by obtain ⟨m, hm⟩ := k0; exact DataW.trod_lt m _ _ _ hm
  obtain ⟨n0, A0, cap0, bs0, rfl, f0, w0⟩ := open_rhythm (hval 0 24 v0 rfl rfl) h0
  have k1 := h1
  have lt1 : ∀ x ∈ p1, x.block < W.heap.size := by obtain ⟨m, hm⟩ := k1; exact DataW.trod_lt m _ _ _ hm
  obtain ⟨n1, A1, cap1, bs1, rfl, f1, w1⟩ := open_rhythm (hval 1 24 v1 rfl rfl) h1
  clear hA0 hval0
  refine (law_FnExactMeetInMiddle (w := W) n0 A0 cap0 bs0 f0 w0 n1 A1 cap1 bs1 f1 w1).mono fun e W' ⟨he, bel⟩ => ?_
  subst he
  exact ⟨_, rfl, _, _, _, [], _, [], hW', trodAll_mk1 (shut_bool Try.underlying4 _), (trodAll_cons_mk (Below.trod laidOut (by kernel_rfl) (of_decide_eq_true (by kernel_rfl)) k0 bel lt0) (trodAll_cons_mk (Below.trod laidOut (by kernel_rfl) (of_decide_eq_true (by kernel_rfl)) k1 bel lt1) trodAll_mk0)), rfl, bel.frame _, fun h => by cases h⟩

set_option maxHeartbeats 4000000 in
theorem closed : joinedFacts Try.prog 4 Try.f4 Rows.fnExactMeetInMiddleSpec Rows.fnExactMeetInMiddleRow = true := by
  unfold joinedFacts
  simp only [Bool.and_eq_true]
  repeat' apply And.intro
  all_goals first
    | with_reducible exact head_enter
    | ((with_reducible refine head_final _ ?_); rfl)
    | ((with_reducible refine head_make _ ?_); rfl)
    | with_reducible exact laidOut
    | with_reducible exact head_maps
    | with_reducible exact head_stops
    | with_reducible exact head_knobs
    | ((with_reducible refine head_keys _ ?_); rfl)
    | with_reducible exact head_heard
    | (as_aux_lemma => kernel_rfl)

set_option maxHeartbeats 4000000 in
theorem over : Rows.fnExactMeetInMiddleRow.holds Try.pinned (OpenSpec.ofChange Rows.fnExactMeetInMiddleSpec) :=
  OpenClaim.holds_of_wide 4 Try.f4 rfl rfl rfl rfl rfl rfl rfl ⟨rfl, rfl, rfl, rfl, rfl⟩ rfl rfl rfl rfl rfl (by as_aux_lemma => kernel_rfl) Try.func4 closed
    (of_decide_eq_true (by as_aux_lemma => kernel_rfl)) (by as_aux_lemma => unfold Func.isWrapper; rw [if_neg (by decide +kernel)]; exact ⟨rfl, rfl⟩)
    (fun os started H enc _ => lifted os started H enc)

/-- The statement: the law FnExactMeetInMiddle returns true for every input. -/
theorem proved : Rows.FnExactMeetInMiddleSaid := over
#print axioms proved
end Go.Proofs.Ytjegomgpldpmpaa.fnExactMeetInMiddle
