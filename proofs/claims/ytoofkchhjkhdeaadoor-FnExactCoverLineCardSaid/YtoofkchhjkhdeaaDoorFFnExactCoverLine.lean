/-
  The statement of the law FnExactCoverLine: for every input it returns true, and what was in memory stays as it was. The walk is the text before this one; here the arguments are opened and shut.
-/
import Derived.Test.YtoofkchhjkhdeaaDoorLFnExactCoverLine
import Derived.Test.YtoofkchhjkhdeaaDoorRows
import Derived.Test.YtoofkchhjkhdeaaDoorOpen
import Derived.Test.YtoofkchhjkhdeaaDoorHead
import Derived.Test.YtoofkchhjkhdeaaDoorCards
import Derived.Test.YtoofkchhjkhdeaaDoorDebL
import Derived.Test.YtoofkchhjkhdeaaDoorPowL
import Derived.Test.YtoofkchhjkhdeaaDoorTie
import Derived.LaidMore
import Derived.Lay
import Derived.SevenTiedAt
import Derived.Stop.Joined
namespace Go.Proofs.YtoofkchhjkhdeaaDoor.fnExactCoverLine
open Go.ChangeShapes Go.WideShapes Go.ChangeAt Go.RowKit Go.Joins
open Go.ChangeMaps (open_string shut_string)
set_option linter.unusedVariables false

set_option maxRecDepth 100000 in
theorem lifted (os : Os) (started : os.Started) (H : Type) (enc : TypeId × Value → H) :
    ReturnsInHanded {} Tryd.checked os 3 .any (fun w args => (Rows.fnExactCoverLineSpec.pre enc Tryd.prog Tryd.f3 Rows.fnExactCoverLineRow.domain false w args ∧ laidMetH Tryd.prog Rows.fnExactCoverLineRow.laid w) ∧ sizedMet enc Tryd.prog Tryd.f3 (OpenSpec.ofChange Rows.fnExactCoverLineSpec) false w args) (Rows.fnExactCoverLineSpec.post enc Tryd.prog Tryd.f3 false true false false) := by
  refine returnsInHanded_of_change_and (C := Tryd.checked) (X := fun w _ => laidMetH Tryd.prog Rows.fnExactCoverLineRow.laid w) (fun _ _ _ hh h => h.of_heap hh) own started (by kernel_rfl) Tryd.func3
    (ChangeSpec.witness_shaped (enc := enc) (C := Tryd.checked) (os := os) (X := fun w _ => laidMetH Tryd.prog Rows.fnExactCoverLineRow.laid w) false (World.laidAll Tryd.prog os Rows.fnExactCoverLineRow.laid) #[.slice none 0 0] 8 (World.laidAll_os _ _ _)
      (World.shaped_of_ZipB (by kernel_rfl) (by kernel_rfl)) (by kernel_rfl) (by kernel_rfl) (by kernel_rfl)
      (by rw [MakeChecks.laidMetH_plain _ _ _ (by kernel_rfl)]; exact laidMet_laidAll _ (by kernel_rfl) (by kernel_rfl))) ?_
  intro W base args ds gs before hval0 hW hcnd _ hL _
  have hval : ∀ (j : Nat) t v, Tryd.f3.params[j]? = some t → args[j]? = some v → Value.okWide Tryd.prog W .any base t v := hval0
  have hW' := hW
  obtain ⟨p, q, hA0, hV, rfl, hfz, hnd⟩ := hW
  have hA : DataW.TrodAll enc Tryd.prog W 0 (fun _ => true) true Tryd.f3.params.toList args.toList ds p := hA0
  rw [Tryd.params3] at hA hval
  obtain ⟨v0, vs0, d0, ds0, p0, q0, hargs, rfl, rfl, h0, r0⟩ := trodAll_cons hA
  obtain ⟨rfl, rfl, rfl⟩ := trodAll_nil r0
  obtain rfl : args = #[v0] := by cases args; simp_all
  obtain ⟨rfl, rfl⟩ := trodVars_none hV
  have k0 := h0
  have lt0 : ∀ x ∈ p0, x.block < W.heap.size := by obtain ⟨m, hm⟩ := k0; exact DataW.trod_lt m _ _ _ hm
  obtain ⟨A0, cap0, bs0, rfl, w0⟩ := open_intlist (hval 0 22 v0 rfl rfl) h0
  clear hA0 hval0
  refine (law_FnExactCoverLine (w := W) A0 cap0 bs0 w0 (pow_row (laid := Rows.fnExactCoverLineRow.laid) 2 hL (by kernel_rfl) rfl) (deb_row (laid := Rows.fnExactCoverLineRow.laid) 1 hL (by kernel_rfl) rfl)).mono fun e W' ⟨he, bel⟩ => ?_
  subst he
  exact ⟨_, rfl, _, _, _, [], _, [], hW', trodAll_mk1 (shut_bool Tryd.underlying4 _), (trodAll_cons_mk (Below.trod laidOut (by kernel_rfl) (of_decide_eq_true (by kernel_rfl)) k0 bel lt0) trodAll_mk0), rfl, bel.frame _, fun h => by cases h⟩

set_option maxHeartbeats 4000000 in
theorem closed : joinedFacts Tryd.prog 3 Tryd.f3 Rows.fnExactCoverLineSpec Rows.fnExactCoverLineRow = true := by
  unfold joinedFacts
  simp only [Bool.and_eq_true]
  repeat' apply And.intro
  all_goals first
    | with_reducible exact head_enter
    | ((with_reducible refine head_final _ ?_); rfl)
    | ((with_reducible refine head_make _ ?_); rfl)
    | with_reducible exact laidOut
    | with_reducible exact head_maps
    | with_reducible exact head_stops
    | with_reducible exact head_knobs
    | ((with_reducible refine head_keys _ ?_); rfl)
    | with_reducible exact head_heard
    | (as_aux_lemma => kernel_rfl)

set_option maxHeartbeats 4000000 in
theorem over : Rows.fnExactCoverLineRow.holds Tryd.pinned (OpenSpec.ofChange Rows.fnExactCoverLineSpec) :=
  OpenClaim.holds_of_wide 3 Tryd.f3 rfl rfl rfl rfl rfl rfl rfl ⟨rfl, rfl, rfl, rfl, rfl⟩ rfl rfl rfl rfl rfl (by as_aux_lemma => kernel_rfl) Tryd.func3 closed
    (of_decide_eq_true (by as_aux_lemma => kernel_rfl)) (by as_aux_lemma => unfold Func.isWrapper; rw [if_neg (by decide +kernel)]; exact ⟨rfl, rfl⟩)
    (fun os started H enc _ => lifted os started H enc)

/-- The statement: the tied card of the law FnExactCoverLine. -/
theorem proved : Rows.FnExactCoverLineCardSaid :=
  Claim7.holds_tied_plain_at .later [] [.data, .data, .data] true (true, "bdecf2a5bfa4ab49c04ea486f80b8b8ab41d28f16c1eeed854f32c21209ba771") false over (fun _ h => by cases h) (by kernel_rfl) (fun _ h => by cases h) fnExactCoverLine_row_tie rfl ⟨rfl, rfl⟩ (by kernel_rfl) rfl
    (fun f fn hf hfn => by
      obtain rfl : f = 3 := Option.some.inj ((show Tryd.prog.funcNamed "loop.example/g03204/laws.FnExactCoverLine" = some 3 by kernel_rfl).symm.trans hf) |>.symm
      obtain rfl : fn = Tryd.f3 := (Option.some.inj (Tryd.func3.symm.trans hfn)).symm
      exact ⟨by kernel_rfl, fun j t ht => by
        rw [Tryd.params3] at ht
        have hm : t ∈ ([22] : List Nat) := by simpa using Array.mem_of_getElem? ht
        have hall : (([22] : List Nat).all fun u => !Tryd.prog.wantsStandIn u) = true := by kernel_rfl
        exact (show Tryd.prog.wantsStandIn t = false by simpa using List.all_eq_true.1 hall t hm)⟩)
    (by kernel_rfl)
#print axioms proved
end Go.Proofs.YtoofkchhjkhdeaaDoor.fnExactCoverLine
