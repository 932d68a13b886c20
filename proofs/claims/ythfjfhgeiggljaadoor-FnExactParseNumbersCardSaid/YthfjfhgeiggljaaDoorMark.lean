/-
  The laws' own marks: a block of ints written with running numbers, and the test that it still holds them.
-/
import Derived.Test.YthfjfhgeiggljaaDoorTab
import Derived.Test.YthfjfhgeiggljaaDoorRlaw
namespace Go.Proofs.YthfjfhgeiggljaaDoor
open Go.RowKit
set_option linter.unusedVariables false
set_option linter.unusedSimpArgs false

/-- A list's block, if it has one, lies between base and top. -/
def Held (w : World) (base top : Nat) (A : Option Addr) (N : Nat) (f : Nat → Int) : Prop :=
  0 < N → ∃ b, A = some ⟨b, 0, none⟩ ∧ base ≤ b ∧ b < top ∧ Tab w b N f

theorem Held.below {w w' : World} {base top : Nat} {A : Option Addr} {N : Nat} {f : Nat → Int} (h : Held w base top A N f) {B : Nat} (hb : Below B w w') (ht : top ≤ B) : Held w' base top A N f := by
  intro hn
  obtain ⟨b, e, h1, h2, h3⟩ := h hn
  exact ⟨b, e, h1, h2, h3.below hb (by omega)⟩

def SameFrom (top : Nat) (w w' : World) : Prop := w.heap.size ≤ w'.heap.size ∧ ∀ c o, top ≤ c → w'.cell? ⟨c, o, none⟩ = w.cell? ⟨c, o, none⟩

theorem sameFrom_set {top : Nat} {w w' : World} (h : SameFrom top w w') (p : Addr) (hp : p.block < top) (u : Value) : SameFrom top w (w'.setCell p u) := by
  refine ⟨by simpa [World.setCell] using h.1, fun c o hc => ?_⟩
  rw [World.cell?_setCell_other _ _ _ _ (fun e => by subst e; simp at hp; omega)]
  exact h.2 c o hc

set_option maxHeartbeats 400000 in
theorem markIntS_any (A : Option Addr) (cap N : Nat) (f : Nat → Int) (k : Int) (base top : Nat) (w : World) (hN : N ≤ 1048576) (hA : Held w base top A N f) (hk0 : 0 ≤ k) (hk1 : k ≤ 1000000000000) :
    Calls Tryd.prog 23 #[.slice A N cap, .int .i64 k] w fun e w' => e = .returned (.int .i64 (k + N)) ∧ Held w' base top A N (fun t => k + t) ∧ Below base w w' ∧ SameFrom top w w' := by
  by_cases h0 : 0 < N
  · obtain ⟨b, rfl, hb0, hb1, ht⟩ := hA h0
    clear hA
    go_enter Tryd.func23, Tryd.ntmps23
    go_wp2
    go_loopw [1, 5] (fun kk i wr => ∃ j : Nat, j ≤ N ∧ i = .int .i64 j ∧ kk = .int .i64 (k + j) ∧ Tab wr b N (fun t => if t < j then k + t else f t) ∧ Below base w wr ∧ SameFrom top w wr) (fun _ i _ => N - (intOf i).toNat)
    case atStart => exact ⟨0, by omega, rfl, by simp, ht.congr (fun t _ => by simp), Below.refl _ _, Nat.le_refl _, fun _ _ _ => rfl⟩
    case round =>
      obtain ⟨j, hj, rfl, rfl, htab, hbel, hsame⟩ := hrel
      by_cases hlt : j < N
      · have hto := htab.get hlt (v := f j) (if_neg (by omega))
        have hfr := htab.frz hlt
        have HS := Lib.hid (sameFrom_set hsame ⟨b, j, none⟩ hb1 (.int .i64 (k + j)))
        clear hsame
        go_wp2
        go_roundw
        case rel =>
          refine ⟨j + 1, by omega, by go_num, by go_num, htab.set_ j _ hlt ?_ ?_, hbel.setCell hb0 _, HS.out⟩
          · rw [if_pos (by omega)]
          · intro t _ ht
            by_cases h : t < j
            · rw [if_pos h, if_pos (by omega)]
            · rw [if_neg h, if_neg (by omega)]
        case measure => simp [intOf]; omega
      · have hjN : j = N := by omega
        subst hjN
        have hend := htab.congr (g := fun t => k + t) (fun t ht => by rw [if_pos (by omega)])
        go_wp2
        go_ret
        exact ⟨rfl, fun _ => ⟨b, rfl, hb0, hb1, hend⟩, hbel, hsame⟩
  · have hN0 : N = 0 := by omega
    subst hN0
    clear hA
    go_enter Tryd.func23, Tryd.ntmps23
    go_wp2
    refine wp_loop_rounds 1 ?_
    iterate 2 (first | (rw [rounds_succ]; go_wp2) | skip)
    go_ret
    exact ⟨by simp, fun h => absurd h (by omega), Below.refl _ _, Nat.le_refl _, fun _ _ _ => rfl⟩

set_option maxHeartbeats 400000 in
theorem heldIntS_any (A : Option Addr) (cap N : Nat) (k : Int) (base top : Nat) (w : World) (hN : N ≤ 1048576) (hA : Held w base top A N (fun t => k + t)) (hk0 : 0 ≤ k) (hk1 : k ≤ 1000000000000) :
    Calls Tryd.prog 24 #[.slice A N cap, .int .i64 k] w fun e w' => e = .returned (.int .i64 (k + N)) ∧ Below w.heap.size w w' := by
  have HA := Lib.hid hA
  clear hA
  go_enter Tryd.func24, Tryd.ntmps24
  go_wp2
  go_loopw [1, 5] (fun kk i wr => ∃ j : Nat, j ≤ N ∧ i = .int .i64 j ∧ kk = .int .i64 (k + j) ∧ Below w.heap.size w wr) (fun _ i _ => N - (intOf i).toNat)
  case atStart => exact ⟨0, by omega, rfl, by simp, Below.refl _ _⟩
  case round =>
    obtain ⟨j, hj, rfl, rfl, hbel⟩ := hrel
    by_cases hlt : j < N
    · obtain ⟨b, rfl, hb0, hb1, ht⟩ := HA.out (by omega)
      have hto := (ht.below hbel ht.1).get hlt (v := k + j) rfl
      clear ht
      go_wp2
      try go_quiet (fail)
      go_wp2
      go_roundw
      case rel => exact ⟨j + 1, by omega, by go_num, by go_num, by first | exact hbel | exact Below.drewN_ hbel _⟩
      case measure => simp [intOf]; omega
    · have hjN : j = N := by omega
      subst hjN
      go_wp2
      go_ret
      exact ⟨rfl, hbel⟩

end Go.Proofs.YthfjfhgeiggljaaDoor
