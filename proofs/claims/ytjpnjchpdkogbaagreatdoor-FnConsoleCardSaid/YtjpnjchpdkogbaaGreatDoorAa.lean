/-
  Short words for what the other texts say often.
-/
import Derived.Test.YtjpnjchpdkogbaaGreatDoorChecked
import Derived.WalkKit
import Derived.WalkSpells
import Derived.Lib.Hide
import Derived.Deep.Draws
import Derived.Deep.Light
import Derived.Deep.QuietTactic
import Derived.BigQuiet
import Derived.Deep.RegionHeld3
namespace Go.Proofs.YtjpnjchpdkogbaaGreatDoor
open Go.RowKit
set_option linter.unusedVariables false
set_option linter.unusedSimpArgs false

def Zq (p : Prop) : Prop := p
theorem Zq.o {p : Prop} (h : Zq p) : p := h
theorem Zq.out {p : Prop} (h : Zq p) : p := h
theorem Zh {p : Prop} (h : p) : Zq p := h
theorem Z1 : type_of% @List.getElem_toArray := @List.getElem_toArray
theorem Z2 : type_of% @List.getElem_cons_zero := @List.getElem_cons_zero
theorem Z3 : type_of% @List.getElem_cons_succ := @List.getElem_cons_succ
theorem Z4 : type_of% @List.setIfInBounds_toArray := @List.setIfInBounds_toArray
theorem Z5 : type_of% @List.set_cons_zero := @List.set_cons_zero
theorem Z6 : type_of% @List.set_cons_succ := @List.set_cons_succ
theorem Zz : type_of% (And.intro @Z1.{0} (And.intro @Z2.{0} (And.intro @Z3.{0} (And.intro @Z4.{0} (And.intro @Z5.{0} @Z6.{0}))))) := And.intro @Z1.{0} (And.intro @Z2.{0} (And.intro @Z3.{0} (And.intro @Z4.{0} (And.intro @Z5.{0} @Z6.{0}))))
theorem Zk {P : Program} {ops : Array Oper} {Q : Exit → Act → World → Prop} {md : Region.Mode} {S : World → Prop} {oi : Oper} {fuel : Nat} {listed : Array Bool} {a : Act} {w : World} (i : Nat) {v : Value}
    (h : wpAnyH P md ops Q S fuel (listed.setIfInBounds i true) (a.put oi.dst v) w)
    (hi : ops[i]? = some oi := by rfl) (hs : Region.noSelect ops = true := by kernel_rfl) (hf : Region.free md ops listed i = true := by kernel_rfl) (hr : (Region.ready md ops listed).contains i = true := by kernel_rfl)
    (hw : Region.wanted oi (yielded ops a.tmps) = true := by rfl) (hS : S w := by assumption)
    (hv : ∀ w, S w → (execOp a.eval oi).run P w = .ok (.value v) w := by (intro wS hSw; (try dsimp only at hSw); go_simp; (try with_reducible rfl)))
    (hQ : ∀ c a w, Q (.panic c) (a.put oi.dst v) w → Q (.panic c) a w := by exact fun _ _ _ h => h) :
    wpAnyH P md ops Q S (fuel + 1) listed a w := wpAnyH_take hi hs hf hr hQ (Or.inl ⟨hw, hv⟩) hS h
theorem Zu {P : Program} {ops : Array Oper} {Q : Exit → Act → World → Prop} {md : Region.Mode} {S : World → Prop} {oi : Oper} {fuel : Nat} {listed : Array Bool} {a : Act} {w : World} (i : Nat)
    (h : wpAnyH P md ops Q S fuel (listed.setIfInBounds i true) (a.put oi.dst undef) w)
    (hi : ops[i]? = some oi := by rfl) (hs : Region.noSelect ops = true := by kernel_rfl) (hf : Region.free md ops listed i = true := by kernel_rfl) (hr : (Region.ready md ops listed).contains i = true := by kernel_rfl)
    (hQ : ∀ c a w, Q (.panic c) (a.put oi.dst undef) w → Q (.panic c) a w := by exact fun _ _ _ h => h) (hw : Region.wanted oi (yielded ops a.tmps) = false := by rfl) (hS : S w := by assumption) :
    wpAnyH P md ops Q S (fuel + 1) listed a w := wpAnyH_take hi hs hf hr hQ (Or.inr ⟨hw, rfl⟩) hS h

end Go.Proofs.YtjpnjchpdkogbaaGreatDoor
