/-
  slices.Equal on ints; equals and period of the program.
-/
import Derived.Test.YtlejlcnemibgiaaTurn
import Derived.Test.YtlejlcnemibgiaaRok
namespace Go.Proofs.Ytlejlcnemibgiaa
open Go.RowKit Go.Shelf
set_option linter.unusedVariables false
set_option linter.unusedSimpArgs false

theorem Ints.drew3_ {w : World} {B : Nat} {A : Option Addr} {xs : List Int} (h : Ints w B A xs) : Ints w.drew B A xs := h
theorem Below.drew3_ {B : Nat} {a w : World} (h : Below B a w) : Below B a w.drew := ⟨h.os, h.tape, h.output, h.size, h.block⟩
theorem Below.drewL3_ {B : Nat} {a w : World} (h : Below B a w) : Below B a.drew w := ⟨h.os, h.tape, h.output, h.size, h.block⟩
theorem RW.drewN3_ {w : World} {base : Nat} {A : Option Addr} {xs : List Int} (h : RW w base A xs) : RW w.drew base A xs := h

theorem slices_Equal_any (A1 A2 : Option Addr) (c1 c2 : Nat) (xs ys : List Int) (w : World) (B1 B2 : Nat) (h1 : Ints w B1 A1 xs) (h2 : Ints w B2 A2 ys) :
    Calls Try.prog 57 #[.slice A1 xs.length c1, .slice A2 ys.length c2] w fun e w' => e = .returned (.bool (eqB xs ys)) ∧ ∃ q, w' = w.drewN q := by
  have hl1 := h1.1
  have hl2 := h2.1
  unfold maxLen at hl1 hl2
  by_cases hx : xs.length = ys.length
  · by_cases hp : 0 < xs.length
    · obtain ⟨b1, o1, rfl, _, _⟩ := h1.2.2 hp
      obtain ⟨b2, o2, rfl, _, _⟩ := h2.2.2 (by omega)
      refine (Any.slices_Equal_int Try.lays111 b1 o1 xs.length c1 b2 o2 ys.length c2 xs ys w (Nat.le_refl _) (Nat.le_refl _) (by omega) (by omega) (ints_cellsC h1) (ints_cellsC h2)).mono ?_
      rintro e w' ⟨rfl, q, rfl⟩
      rw [List.take_length, List.take_length]
      refine ⟨ret_bool ?_, q, rfl⟩
      unfold eqB
      rw [Bool.eq_iff_iff, beq_iff_eq, decide_eq_true_eq]
    · have e1 : xs = [] := List.eq_nil_of_length_eq_zero (by omega)
      have e2 : ys = [] := List.eq_nil_of_length_eq_zero (by omega)
      subst e1 e2
      refine (Any.slices_Equal_int_empty Try.lays111 A1 A2 c1 0 c2 w (by omega)).mono ?_
      rintro e w' ⟨rfl, rfl⟩
      exact ⟨rfl, 0, rfl⟩
  · refine (Any.slices_Equal_int_lens Try.lays111 A1 A2 xs.length c1 ys.length c2 w hx).mono ?_
    rintro e w' ⟨rfl, rfl⟩
    refine ⟨ret_bool ?_, 0, rfl⟩
    unfold eqB
    rw [eq_comm, decide_eq_false_iff_not]
    intro h
    exact hx (by rw [h])

set_option maxRecDepth 100000 in
set_option maxHeartbeats 400000 in
theorem impl_equals_any (n : Int) (A1 A2 : Option Addr) (c1 c2 : Nat) (xs ys : List Int) (w : World) (h1 : Ints w w.heap.size A1 xs) (h2 : Ints w w.heap.size A2 ys) :
    Calls Try.prog 28 #[.agg #[.int .i64 n, .slice A1 xs.length c1], .agg #[.int .i64 n, .slice A2 ys.length c2]] w fun e w' => e = .returned (.bool (eqB xs ys)) ∧ Below w.heap.size w w' := by
  have hW0 := ((Below.refl w.heap.size w).alloc (Nat.le_refl _) (.cells #[.int .i64 n, .slice A1 xs.length c1] 26)).alloc (by first | exact Nat.le_refl _ | (simp; done) | (simp; omega) | omega) (.cells #[.int .i64 n, .slice A2 ys.length c2] 26)
  have HW := Lib.hid hW0
  have HEQ := Lib.hid (fun (V : World) (hV : Below w.heap.size w V) => slices_Equal_any A1 A2 c1 c2 xs ys V w.heap.size w.heap.size (h1.below hV) (h2.below hV))
  obtain ⟨g0, g1, _, _, _⟩ := ((Cells2.new w (.int .i64 n) (.slice A1 xs.length c1) 26).alloc (.cells #[.int .i64 n, .slice A2 ys.length c2] 26))
  obtain ⟨k0, k1, _, _, _⟩ := (Cells2.new (w.alloc (.cells #[.int .i64 n, .slice A1 xs.length c1] 26)) (.int .i64 n) (.slice A2 ys.length c2) 26)
  simp only [World.size_alloc] at k0 k1
  have hnn : (n == n) = true := by simp
  generalize eqB xs ys = b at HEQ ⊢
  clear h1 h2 hW0
  go_enter Try.func28, Try.ntmps28
  go_wp2_with (go_at_call 57; refine (HEQ.out _ HW.out).mono ?_; rintro e w' ⟨rfl, q, rfl⟩)
  go_ret
  exact ⟨rfl, Below.drewN_ HW.out q⟩

end Go.Proofs.Ytlejlcnemibgiaa
