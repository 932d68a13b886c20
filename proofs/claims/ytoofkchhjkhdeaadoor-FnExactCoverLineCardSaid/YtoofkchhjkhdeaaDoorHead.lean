/-
  The dump's head as a list of numbers; three closed facts on it. Written by a program.
-/
import Derived.Test.YtoofkchhjkhdeaaDoorChecked
import Derived.ProofKit
import Derived.KernelRfl
namespace Go.Proofs.YtoofkchhjkhdeaaDoor
def headNums : List Nat := [104, 97, 114, 110, 101, 115, 115, 32, 98, 100, 101, 99, 102, 50, 97, 53, 98, 102, 97, 52, 97, 98, 52, 57, 99, 48, 52, 101, 97, 52, 56, 54, 102, 56, 48, 98, 56, 98, 56, 97, 98, 52, 49, 100, 50, 56, 102, 49, 54, 99, 49, 101, 101, 101, 100, 56, 53, 52, 102, 51, 50, 99, 50, 49, 50, 48, 57, 98, 97, 55, 55, 49, 32, 99, 117, 116, 32, 97, 116, 32, 108, 111, 111, 112, 46, 101, 120, 97, 109, 112, 108, 101, 47, 103, 48, 51, 50, 48, 52, 47, 108, 97, 119, 115, 46, 70, 110, 69, 120, 97, 99, 116, 67, 111, 118, 101, 114, 76, 105, 110, 101]
theorem head_str : Tryd.prog.initOrder = String.ofList (headNums.map Char.ofNat) := by kernel_rfl
theorem head_list : Tryd.prog.initOrder.toList = headNums.map Char.ofNat := by rw [head_str, String.toList_ofList]
def wordsN : List Nat → List (List Nat)
  | [] => [[]]
  | x :: r => if x = 32 then [] :: wordsN r else match wordsN r with
    | w :: ws => (x :: w) :: ws
    | [] => [[x]]
theorem blank_not : ∀ x : Nat, x < 128 → x ≠ 32 → Char.ofNat x ≠ Char.ofNat 32 := by decide
theorem words_map : ∀ l : List Nat, (∀ x ∈ l, x < 128) → wordsSigns (l.map Char.ofNat) = (wordsN l).map (List.map Char.ofNat)
  | [], _ => rfl
  | x :: r, h => by
    have ih := words_map r (fun y hy => h y (List.mem_cons_of_mem _ hy))
    unfold wordsN
    by_cases hx : x = 32
    · subst hx
      rw [if_pos rfl, List.map_cons]
      show [] :: wordsSigns (r.map Char.ofNat) = _
      rw [ih]
      rfl
    · rw [if_neg hx, List.map_cons, wordsSigns.eq_3 _ _ (fun e => blank_not x (h x List.mem_cons_self) hx e), ih]
      cases wordsN r <;> rfl
theorem head_small : ∀ x ∈ headNums, x < 128 := by decide +kernel
def headWords : List (List Nat) := wordsN headNums
theorem head_words : wordsSigns (Tryd.prog.initOrder.toList) = headWords.map (List.map Char.ofNat) := by rw [head_list, words_map _ head_small, headWords]
theorem lifts_none (P : Program) (h : wordsSigns P.initOrder.toList = headWords.map (List.map Char.ofNat)) : P.headLifts = [] := by
  unfold Program.headLifts
  rw [h]
  kernel_rfl
theorem make_cut (P : Program) (h : wordsSigns P.initOrder.toList = headWords.map (List.map Char.ofNat)) : P.make = some Make.cut := by
  unfold Program.make
  rw [h]
  kernel_rfl
theorem final_no (P : Program) (h : wordsSigns P.initOrder.toList = headWords.map (List.map Char.ofNat)) : P.liftsFinal = false := by
  unfold Program.liftsFinal
  rw [lifts_none P h, h]
  kernel_rfl
theorem enter_yes (P : Program) (h : wordsSigns P.initOrder.toList = headWords.map (List.map Char.ofNat)) (h1 : P.laysLater = false) (h2 : P.bearsReflect = false) (h3 : P.doorFits [] = true) : P.mayEnter = true := by
  unfold Program.mayEnter
  rw [h, h1, h2]
  exact h3
theorem head_enter : Tryd.prog.mayEnter = true := enter_yes _ head_words (by kernel_rfl) (by kernel_rfl) (by kernel_rfl)
theorem head_final (b : Bool) (h : b = false) : (b == Tryd.prog.liftsFinal) = true := by subst h; rw [final_no _ head_words]; rfl
theorem head_make (m : Make) (h : m = Make.cut) : (Tryd.prog.make == some m) = true := by subst h; rw [make_cut _ head_words]; rfl
theorem own : ownKnob Tryd.prog.godebug = none := by kernel_rfl
theorem laidOut : laidOutB Tryd.prog = true := by kernel_rfl
theorem head_maps : mapsRowed Tryd.prog = true := by kernel_rfl
theorem head_stops : (Tryd.prog.stops == []) = true := by kernel_rfl
theorem head_knobs : (Tryd.prog.stopKnobs == []) = true := by kernel_rfl
theorem head_keys0 : Tryd.prog.plainKeys = true := by kernel_rfl
theorem head_keys (b : Bool) (h : b = true) : (b == Tryd.prog.plainKeys) = true := by subst h; rw [head_keys0]; rfl
theorem head_heard : Tryd.prog.stopsHeard = true := by kernel_rfl
end Go.Proofs.YtoofkchhjkhdeaaDoor
