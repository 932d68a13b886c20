/-
  The block of a pattern, of the program; what it says of a pattern.
-/
import Derived.Test.YtoofkchhjkhdeaaDoorBlkI
namespace Go.Proofs.YtoofkchhjkhdeaaDoor
open Go.RowKit
set_option linter.unusedVariables false
set_option linter.unusedSimpArgs false

theorem str_half {z : Nat} (h : z % 2 = 1) (hz : z < 16384) : (strF 14 z).1 < 8192 := by
  rw [strF_odd (f := 13) h]
  have := (strF_lt 13 (z / 2)).1
  show (strF 13 (z / 2)).1 < 8192
  omega
theorem sum_odd {s M : Nat} (h : s &&& M = 0) (hM : M % 2 = 1) : (s + M) % 2 = 1 := by
  by_cases hs : s % 2 = 1
  · exfalso
    have e := Nat.testBit_and s M 0
    rw [h, Nat.testBit_zero, Nat.testBit_zero, Nat.testBit_zero, decide_eq_true hs, decide_eq_true hM] at e
    exact absurd e (by decide)
  · omega
theorem OwnI.frm3 {w w' : World} {base : Nat} {v : Value} {xs : List Int} {S : Nat → Prop} (h : OwnI w base v xs) (hf : Frm S w w') (hS : ∀ c, base ≤ c → ¬ S c) : OwnI w' base v xs := by
  refine ⟨h.1, ?_⟩
  rcases h.2 with h0 | ⟨g, cap, cur, e, hg, hh, rest⟩
  · exact .inl h0
  · have hlt : g < w.heap.size := (Array.getElem?_eq_some_iff.1 hh).1
    exact .inr ⟨g, cap, cur, e, hg, by rw [hf.block g hlt (hS g hg)]; exact hh, rest⟩
def castL (es : List Nat) : List Int := es.map fun (t : Nat) => (t : Int)
theorem castL_len (es : List Nat) : (castL es).length = es.length := by simp [castL]
theorem castL_snoc (es : List Nat) (t : Nat) : castL (es ++ [t]) = castL es ++ [(t : Int)] := by simp [castL]
theorem lentV_fits (xs : List Int) : (∀ x ∈ lentV xs, 0 ≤ x ∧ x < 24) ∧ (lentV xs).length ≤ 13 := by
  unfold lentV
  cases hc : lcanV xs
  · exact ⟨fun x hx => by simp at hx, by simp⟩
  · rw [if_pos rfl]
    unfold lcanV at hc
    rw [Bool.and_eq_true, beq_iff_eq] at hc
    obtain ⟨hpos, hpat⟩ := pat_all hc.1
    rcases blk_cases (mk_small hpat xs.length (Nat.le_refl _)) (mk_odd hpat xs.length hpos (Nat.le_refl _)) with ⟨h, _⟩ | ⟨_, h1, h2, h3, h4, _⟩
    · have := hc.2; unfold patM at this; omega
    · refine ⟨fun x hx => ?_, ?_⟩
      · obtain ⟨t, ht, rfl⟩ := List.mem_map.1 hx
        have := h4 t ht
        unfold patM at *
        omega
      · rw [List.length_map]; exact h3

/-- What the block of a pattern tells. -/
def blkT (xs : List Int) : Nat := if patB xs then (blk (patM xs)).2.1 else 0
theorem blkT_le (xs : List Int) : blkT xs ≤ 24 := by
  unfold blkT
  cases hp : patB xs
  · exact Nat.zero_le _
  · rw [if_pos rfl]
    obtain ⟨hpos, hpat⟩ := pat_all hp
    rcases blk_cases (mk_small hpat xs.length (Nat.le_refl _)) (mk_odd hpat xs.length hpos (Nat.le_refl _)) with ⟨_, h⟩ | ⟨_, _, h, _⟩
    · exact h
    · exact h
def RetBlk (w : World) (t : Int) (es : List Int) (ok : Bool) (e : Ending) (w' : World) : Prop := ∃ A cap, e = .returned (.tuple #[.int .i64 t, .slice A es.length cap, .bool ok]) ∧ Ints w' w'.heap.size A es ∧ Below w.heap.size w w'
theorem ints_none (w : World) (B : Nat) : Ints w B none [] := ⟨Nat.zero_le _, fun x hx => by simp at hx, fun h => by simp at h⟩

end Go.Proofs.YtoofkchhjkhdeaaDoor
