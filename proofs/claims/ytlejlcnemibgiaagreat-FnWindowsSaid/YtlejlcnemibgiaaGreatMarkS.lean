/-
  The laws' marks on slices of strings; equality of two that hold the same.
-/
import Derived.Test.YtlejlcnemibgiaaGreatFrm
import Derived.Test.YtlejlcnemibgiaaGreatStrs
import Derived.Test.YtlejlcnemibgiaaGreatTabU
namespace Go.Proofs.YtlejlcnemibgiaaGreat
open Go.RowKit
set_option linter.unusedVariables false
set_option linter.unusedSimpArgs false

/-- The digits of k before acc, within f steps. -/
def decT : Nat → Nat → List UInt8 → List UInt8
  | 0, _, acc => acc
  | f + 1, k, acc => if k = 0 then acc else decT f (k / 10) (UInt8.ofNat (48 + k % 10) :: acc)
theorem decT_zero (f : Nat) (acc : List UInt8) : decT f 0 acc = acc := by cases f <;> rfl
theorem decT_step {f k : Nat} {acc : List UInt8} (hk : 0 < k) : decT (f + 1) k acc = decT f (k / 10) (UInt8.ofNat (48 + k % 10) :: acc) := by
  show (if k = 0 then acc else _) = _
  rw [if_neg (by omega)]
def mrkT (k : Nat) : List UInt8 := 109 :: decT 20 k []

theorem OwnS.heldV {w : World} {base cap : Nat} {A : Option Addr} {xs : List Txt} (h : OwnS w base (.slice A xs.length cap) xs) : HeldV w A xs.length (fun t => emS (xs.getD t [])) base w.heap.size := by
  intro hn
  rcases h.2 with ⟨hv, h0⟩ | ⟨g, cap', cur, hv, hge, hh, hnc, hm, hsz, hxs⟩
  · omega
  · have hA : A = some ⟨g, 0, none⟩ := by injection hv
    subst hA
    refine ⟨g, rfl, hge, (h.lt g rfl).2, (h.lt g rfl).2, fun t ht => ⟨?_, frozen_of_row _ _ _ _ _ hh⟩⟩
    have := World.ownsRow.cells h (g := g) rfl t (emS (xs.getD t [])) (by rw [List.getElem?_map, List.getElem?_eq_getElem ht]; simp [List.getD_eq_getElem?_getD, ht])
    rwa [Go.WideShapes.add_plain, Nat.zero_add] at this
theorem HeldV.strs {w : World} {A : Option Addr} {xs : List Txt} {base top : Nat} (h : HeldV w A xs.length (fun t => emS (xs.getD t [])) base top) (_ : top ≤ w.heap.size) (hl : xs.length ≤ 1048576) : Strs w w.heap.size A xs := by
  refine ⟨hl, fun hn => ?_⟩
  obtain ⟨b, e, _, _, ht⟩ := h hn
  exact ⟨b, 0, e, ht.1, fun i hi => by rw [Nat.zero_add]; exact (ht.2 i hi).1⟩

end Go.Proofs.YtlejlcnemibgiaaGreat
