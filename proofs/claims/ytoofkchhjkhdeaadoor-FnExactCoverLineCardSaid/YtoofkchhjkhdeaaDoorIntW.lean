/-
  A slice of integers that reads as a list; a rhythm that is one.
-/
import Derived.Test.YtoofkchhjkhdeaaDoorBase
namespace Go.Proofs.YtoofkchhjkhdeaaDoor
open Go.RowKit
set_option linter.unusedVariables false
set_option linter.unusedSimpArgs false

/-- v is a slice of ints that lies below block B and reads as the list xs. -/
def Ints (w : World) (B : Nat) (A : Option Addr) (xs : List Int) : Prop :=
  xs.length ≤ maxLen ∧ (∀ x ∈ xs, Fits x) ∧
  (0 < xs.length → ∃ b off, A = some ⟨b, off, none⟩ ∧ b < B ∧ ∀ i, i < xs.length → w.cell? ⟨b, off + i, none⟩ = some (.int .i64 (xs.getD i 0)))

theorem Ints.below {w w' : World} {B : Nat} {A : Option Addr} {xs : List Int} (h : Ints w B A xs) (hb : Below B w w') : Ints w' B A xs := by
  refine ⟨h.1, h.2.1, fun hn => ?_⟩
  obtain ⟨b, off, rfl, hlt, hc⟩ := h.2.2 hn
  exact ⟨b, off, rfl, hlt, fun i hi => (hb.cell (p := ⟨b, off + i, none⟩) hlt).trans (hc i hi)⟩
theorem Ints.mono {w : World} {B B' : Nat} {A : Option Addr} {xs : List Int} (h : Ints w B A xs) (hB : B ≤ B') : Ints w B' A xs := by
  refine ⟨h.1, h.2.1, fun hn => ?_⟩
  obtain ⟨b, off, rfl, hlt, hc⟩ := h.2.2 hn
  exact ⟨b, off, rfl, by omega, hc⟩
theorem Ints.alloc {w : World} {B : Nat} {A : Option Addr} {xs : List Int} (h : Ints w B A xs) (hB : B ≤ w.heap.size) (o : Obj) : Ints (w.alloc o) B A xs :=
  h.below ((Below.refl _ _).alloc hB o)

theorem Ints.lift {w w' : World} {A : Option Addr} {xs : List Int} (h : Ints w w.heap.size A xs) (hb : Below w.heap.size w w') : Ints w' w'.heap.size A xs := (h.below hb).mono hb.size

theorem Below.drewN_ {B : Nat} {a w : World} (h : Below B a w) (n : Nat) : Below B a (w.drewN n) := ⟨h.os, h.tape, h.output, h.size, h.block⟩
theorem bcell {W w1 : World} (hb : Below W.heap.size W w1) : (∀ b o, b < W.heap.size → w1.cell? ⟨b, o, none⟩ = W.cell? ⟨b, o, none⟩) ∧ (∀ b o, b < W.heap.size → w1.frozen? ⟨b, o, none⟩ = W.frozen? ⟨b, o, none⟩) :=
  ⟨fun b o h => hb.cell (p := ⟨b, o, none⟩) h, fun b o h => hb.frozen (p := ⟨b, o, none⟩) h⟩

theorem Ints.drewN_ {w : World} {B : Nat} {A : Option Addr} {xs : List Int} (h : Ints w B A xs) (n : Nat) : Ints (w.drewN n) B A xs := h

/-- A rhythm that is one. -/
def RhOk (n : Int) (bs : List Int) : Prop := 1 ≤ n ∧ n ≤ 24 ∧ (∀ i, i < bs.length → 0 ≤ bs.getD i 0 ∧ bs.getD i 0 < n) ∧ ∀ i, i + 1 < bs.length → bs.getD i 0 < bs.getD (i + 1) 0

theorem RhOk_no_size {n : Int} {bs : List Int} (h : ¬ (1 ≤ n ∧ n ≤ 24)) : ¬ RhOk n bs := fun r => h ⟨r.1, r.2.1⟩

noncomputable def rhB (n : Int) (bs : List Int) : Bool := @decide (RhOk n bs) (Classical.propDecidable _)
theorem rhB_iff {n : Int} {bs : List Int} : rhB n bs = true ↔ RhOk n bs := by unfold rhB; simp
theorem rhB_no {n : Int} {bs : List Int} (h : ¬ RhOk n bs) : rhB n bs = false := by
  rw [← Bool.not_eq_true, rhB_iff]; exact h
theorem rhB_bad {n : Int} {bs : List Int} (h : ¬ (1 ≤ n ∧ n ≤ 24)) : rhB n bs = false := rhB_no fun r => h ⟨r.1, r.2.1⟩

/-- What the loops know after k rounds. -/
def RhPre (n : Int) (bs : List Int) (k : Nat) : Prop := k ≤ bs.length ∧ (∀ i, i < k → 0 ≤ bs.getD i 0 ∧ bs.getD i 0 < n) ∧ ∀ i, i + 1 < k → bs.getD i 0 < bs.getD (i + 1) 0

theorem RhPre.zero (n : Int) (bs : List Int) : RhPre n bs 0 := ⟨Nat.zero_le _, fun i h => by omega, fun i h => by omega⟩
theorem RhPre.step {n : Int} {bs : List Int} {k : Nat} {x y : Int} (h : RhPre n bs k) (hk : k < bs.length) (hx : bs.getD k 0 = x) (hy : bs.getD (k - 1) 0 = y)
    (hin : inB x 0 (n - 1) = true) (hs : 0 < k → y < x) : RhPre n bs (k + 1) := by
  subst hx; subst hy
  have hin := inB_iff.1 hin
  refine ⟨hk, fun i hi => ?_, fun i hi => ?_⟩
  · by_cases e : i = k
    · subst e; exact ⟨hin.1, by omega⟩
    · exact h.2.1 i (by omega)
  · by_cases e : i + 1 = k
    · subst e; exact hs (by omega)
    · exact h.2.2 i (by omega)
theorem RhPre.done {n : Int} {bs : List Int} (h1 : 1 ≤ n) (h2 : n ≤ 24) (h : RhPre n bs bs.length) : rhB n bs = true := rhB_iff.2 ⟨h1, h2, h.2.1, h.2.2⟩
theorem rh_fail1 {n : Int} {bs : List Int} {k : Nat} {x : Int} (hk : k < bs.length) (hx : bs.getD k 0 = x) (hin : ¬ inB x 0 (n - 1) = true) : rhB n bs = false :=
  rhB_no fun r => hin (by subst hx; have := r.2.2.1 k hk; exact inB_true ⟨this.1, by omega⟩)
theorem rh_fail2 {n : Int} {bs : List Int} {k : Nat} {x y : Int} (hk : k < bs.length) (hx : bs.getD k 0 = x) (hy : bs.getD (k - 1) 0 = y) (h0 : 0 < k) (hle : x ≤ y) : rhB n bs = false :=
  rhB_no fun r => by
    subst hx; subst hy
    have := r.2.2.2 (k - 1) (by omega)
    rw [show k - 1 + 1 = k by omega] at this
    omega
theorem ret_bool {a b : Bool} (h : a = b) : Ending.returned (.bool a) = .returned (.bool b) := by rw [h]
theorem ret_int {k : IntKind} {a b : Int} (h : a = b) : Ending.returned (.int k a) = .returned (.int k b) := by rw [h]

end Go.Proofs.YtoofkchhjkhdeaaDoor
