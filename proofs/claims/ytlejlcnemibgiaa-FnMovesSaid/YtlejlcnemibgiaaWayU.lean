/-
  A move changes the distance by one at most, and some move lowers it: in plain words.
-/
import Derived.Test.YtlejlcnemibgiaaWayT
namespace Go.Proofs.Ytlejlcnemibgiaa
open Go.RowKit
set_option linter.unusedVariables false
set_option linter.unusedSimpArgs false

def genL (k : Nat) (f : Nat → Int) : List Int := (List.range k).map f
theorem genL_len (k : Nat) (f : Nat → Int) : (genL k f).length = k := by simp [genL]
theorem genL_at {k : Nat} {f : Nat → Int} {j : Nat} (h : j < k) : (genL k f).getD j 0 = f j := by
  unfold genL
  rw [List.getD_eq_getElem?_getD, List.getElem?_map, List.getElem?_range h]
  rfl
theorem genL_mem {k : Nat} {f : Nat → Int} {x : Int} : x ∈ genL k f ↔ ∃ j, j < k ∧ f j = x := by
  unfold genL
  rw [List.mem_map]
  constructor
  · rintro ⟨j, hj, e⟩; exact ⟨j, List.mem_range.1 hj, e⟩
  · rintro ⟨j, hj, e⟩; exact ⟨j, List.mem_range.2 hj, e⟩
theorem set_mem {a : List Int} {i : Nat} {q x : Int} (hi : i < a.length) : x ∈ a.set i q ↔ ∃ j, j < a.length ∧ (if j = i then q else a.getD j 0) = x := by
  rw [List.mem_iff_getElem?]
  constructor
  · rintro ⟨j, hj⟩
    rw [List.getElem?_set] at hj
    by_cases e : i = j
    · subst e
      rw [if_pos rfl, if_pos hi] at hj
      exact ⟨i, hi, by rw [if_pos rfl]; exact Option.some.inj hj⟩
    · rw [if_neg e] at hj
      have hl : j < a.length := by
        rcases Nat.lt_or_ge j a.length with h | h
        · exact h
        · rw [List.getElem?_eq_none h] at hj; cases hj
      exact ⟨j, hl, by rw [if_neg (fun h => e h.symm), List.getD_eq_getElem?_getD, hj]; rfl⟩
  · rintro ⟨j, hj, e⟩
    refine ⟨j, ?_⟩
    rw [List.getElem?_set]
    by_cases h : i = j
    · subst h
      rw [if_pos rfl, if_pos hi]
      rw [if_pos rfl] at e
      rw [e]
    · rw [if_neg h]
      rw [if_neg (fun x => h x.symm), List.getD_eq_getElem?_getD, List.getElem?_eq_getElem hj] at e
      rw [List.getElem?_eq_getElem hj]
      exact congrArg some e
theorem ofL_gen {N k : Nat} {f : Nat → Int} {xs : List Int} (hr : ∀ j, j < k → 0 ≤ f j ∧ f j < N) (hs : ∀ j, j + 1 < k → f j < f (j + 1)) (h1 : 1 ≤ N) (h2 : N ≤ 24) (hm : ∀ x, x ∈ xs ↔ ∃ j, j < k ∧ f j = x) : ofL xs N = genL k f := by
  have hok : RhOk N (genL k f) := ⟨by omega, by omega, fun i hi => by
    rw [genL_len] at hi; rw [genL_at hi]; exact hr i hi, fun i hi => by
    rw [genL_len] at hi; rw [genL_at hi, genL_at (by omega)]; exact hs i hi⟩
  refine asc_unique (ofL_sorted _ _) (rhok_asc hok) fun x => ?_
  rw [ofL_mem, genL_mem]
  constructor
  · rintro ⟨t, ht, hb, rfl⟩
    unfold hasB at hb
    rw [decide_eq_true_eq] at hb
    exact (hm _).1 hb
  · rintro ⟨j, hj, rfl⟩
    obtain ⟨r0, r1⟩ := hr j hj
    obtain ⟨t, ht⟩ := Int.eq_ofNat_of_zero_le r0
    refine ⟨t, by omega, ?_, ht⟩
    unfold hasB
    rw [decide_eq_true_eq, ← ht]
    exact (hm _).2 ⟨j, hj, rfl⟩

section
variable {N : Nat} {a b : List Int}
/-- The beats with one moved on, read on and on. -/
def mvA (N : Nat) (a : List Int) (i : Nat) (d t : Int) : Int := extB N a t + (if t % (a.length : Int) = i then d else 0)
theorem mvA_perd (i : Nat) (d : Int) (hk : 1 ≤ a.length) : Perd a.length N (mvA N a i d) := by
  intro t
  unfold mvA
  rw [Int.add_emod_right, extB_perd N a hk t]
  omega
theorem ext_gen {k : Nat} {f : Nat → Int} {i : Nat} {d e : Int} (ha : a.length = k) (hk : 1 ≤ k) (h : ∀ j, j < k → f j = mvA N a i d (j + e)) : ∀ t, extB N (genL k f) t = mvA N a i d (t + e) := by
  have hp := extB_perd N (genL k f) (by rw [genL_len]; exact hk)
  rw [genL_len] at hp
  have hq := mvA_perd (N := N) (a := a) i d (by omega)
  rw [ha] at hq
  refine Perd.ext hk hp (B := fun t => mvA N a i d (t + e)) (fun t => ?_) fun j hj => ?_
  · have := hq (t + e)
    rw [show t + e + (k : Int) = t + k + e by omega] at this
    exact this
  · rw [extB_at N _ j (by rw [genL_len]; exact hj), genL_at hj]
    exact h j hj
theorem mvA_at (i : Nat) (d : Int) (j : Nat) (hj : j < a.length) : mvA N a i d j = a.getD j 0 + (if j = i then d else 0) := by
  unfold mvA
  rw [extB_at N a j hj, Int.emod_eq_of_lt (by omega) (by omega)]
  congr 1
  by_cases h : j = i
  · rw [if_pos h, if_pos (by omega)]
  · rw [if_neg h, if_neg (by omega)]
theorem rh_lt (h : RhOk N a) : ∀ {i j : Nat}, i < j → j < a.length → a.getD i 0 < a.getD j 0
  | i, 0, hij, _ => by omega
  | i, j + 1, hij, hj => by
    have := h.2.2.2 j hj
    by_cases e : i = j
    · subst e; exact this
    · have := rh_lt h (i := i) (j := j) (by omega) (by omega); omega
theorem not_at {q : Int} (hq : q ∉ a) {j : Nat} (hj : j < a.length) : a.getD j 0 ≠ q := fun e => hq (by
  rw [← e, List.getD_eq_getElem?_getD, List.getElem?_eq_getElem hj]; exact List.getElem_mem hj)

theorem mv_ext (h : RhOk N a) {i : Nat} (hi : i < a.length) {d : Int} (hd : d = 1 ∨ d = -1) (hq : (a.getD i 0 + d) % N ∉ a) :
    (ofL (a.set i ((a.getD i 0 + d) % N)) N).length = a.length ∧ ∃ e, ∀ t, extB N (ofL (a.set i ((a.getD i 0 + d) % N)) N) t = mvA N a i d (t + e) := by
  have h1 : 1 ≤ N := by have := h.1; omega
  have h2 : N ≤ 24 := by have := h.2.1; omega
  have ri := h.2.2.1 i hi
  have hasc := h.2.2.2
  by_cases hw : 0 ≤ a.getD i 0 + d ∧ a.getD i 0 + d < N
  · rw [Int.emod_eq_of_lt hw.1 hw.2] at hq ⊢
    have e := ofL_gen (N := N) (k := a.length) (f := fun j => if j = i then a.getD i 0 + d else a.getD j 0) (xs := a.set i (a.getD i 0 + d)) (fun j hj => by
      show 0 ≤ (if j = i then _ else _) ∧ (if j = i then _ else _) < _
      split
      · exact hw
      · exact h.2.2.1 j hj) (fun j hj => by
      show (if j = i then _ else _) < (if j + 1 = i then _ else _)
      have := hasc j hj
      have n1 := not_at hq (j := j) (by omega)
      have n2 := not_at hq (j := j + 1) hj
      by_cases e1 : j = i
      · subst e1
        rw [if_pos rfl, if_neg (by omega)]
        rcases hd with rfl | rfl <;> omega
      · rw [if_neg e1]
        by_cases e2 : j + 1 = i
        · subst e2
          rw [if_pos rfl]
          rcases hd with rfl | rfl <;> omega
        · rw [if_neg e2]; exact this) h1 h2 (fun x => set_mem hi)
    rw [e]
    refine ⟨genL_len _ _, 0, ext_gen rfl (by omega) fun j hj => ?_⟩
    rw [show (j : Int) + 0 = j by omega, mvA_at i d j hj]
    split <;> rename_i e1
    · subst e1; rfl
    · omega
  · rcases hd with rfl | rfl
    · have hN : a.getD i 0 = N - 1 := by omega
      have hik : i + 1 = a.length := by
        rcases Nat.lt_or_ge (i + 1) a.length with h' | h'
        · have := hasc i h'; have := h.2.2.1 (i + 1) h'; omega
        · omega
      have hz : (a.getD i 0 + 1) % (N : Int) = 0 := by rw [hN, show (N : Int) - 1 + 1 = N by omega, Int.emod_self]
      rw [hz] at hq ⊢
      have e := ofL_gen (N := N) (k := a.length) (f := fun j => if j = 0 then 0 else a.getD (j - 1) 0) (xs := a.set i 0) (fun j hj => by
        show 0 ≤ (if j = 0 then _ else _) ∧ (if j = 0 then _ else _) < _
        split
        · omega
        · exact h.2.2.1 (j - 1) (by omega)) (fun j hj => by
        show (if j = 0 then _ else _) < (if j + 1 = 0 then _ else _)
        rw [if_neg (by omega : ¬ j + 1 = 0), show j + 1 - 1 = j by omega]
        have n1 := not_at hq (j := j) (by omega)
        have := (h.2.2.1 j (by omega)).1
        split
        · omega
        · have := hasc (j - 1) (by omega); rwa [show j - 1 + 1 = j by omega] at this) h1 h2 (fun x => by
        rw [set_mem hi]
        constructor
        · rintro ⟨j, hj, e⟩
          by_cases e1 : j = i
          · rw [if_pos e1] at e; exact ⟨0, by omega, by simpa using e⟩
          · rw [if_neg e1] at e
            refine ⟨j + 1, by omega, ?_⟩
            show (if j + 1 = 0 then _ else _) = _
            rw [if_neg (by omega), show j + 1 - 1 = j by omega]; exact e
        · rintro ⟨j, hj, e⟩
          by_cases e1 : j = 0
          · subst e1
            refine ⟨i, hi, ?_⟩
            rw [if_pos rfl]; simpa using e
          · refine ⟨j - 1, by omega, ?_⟩
            rw [if_neg (by omega)]
            have e' : (if j = 0 then (0 : Int) else a.getD (j - 1) 0) = x := e
            rwa [if_neg e1] at e')
      rw [e]
      refine ⟨genL_len _ _, -1, ext_gen rfl (by omega) fun j hj => ?_⟩
      by_cases e1 : j = 0
      · subst e1
        rw [if_pos rfl]
        have hp := mvA_perd (N := N) (a := a) i 1 (by omega) (((0 : Nat) : Int) + -1)
        rw [show ((0 : Nat) : Int) + -1 + (a.length : Int) = (i : Nat) by omega, mvA_at i 1 i hi, if_pos rfl, hN] at hp
        omega
      · rw [if_neg e1, show (j : Int) + -1 = ((j - 1 : Nat) : Int) by omega, mvA_at i 1 (j - 1) (by omega), if_neg (by omega)]
        omega
    · have hN : a.getD i 0 = 0 := by omega
      have hik : i = 0 := by
        rcases Nat.eq_zero_or_pos i with h' | h'
        · exact h'
        · have := rh_lt h h' hi; have := h.2.2.1 0 (by omega); omega
      subst hik
      have hz : (a.getD 0 0 + -1) % (N : Int) = N - 1 := by
        rw [hN, show (0 : Int) + -1 = -1 by omega]
        rw [← Int.add_emod_right, Int.emod_eq_of_lt (by omega) (by omega)]; omega
      rw [hz] at hq ⊢
      have e := ofL_gen (N := N) (k := a.length) (f := fun j => if j + 1 = a.length then (N : Int) - 1 else a.getD (j + 1) 0) (xs := a.set 0 ((N : Int) - 1)) (fun j hj => by
        show (0 : Int) ≤ (if j + 1 = a.length then (N : Int) - 1 else a.getD (j + 1) 0) ∧ (if j + 1 = a.length then (N : Int) - 1 else a.getD (j + 1) 0) < _
        split
        · omega
        · exact h.2.2.1 (j + 1) (by omega)) (fun j hj => by
        show (if j + 1 = a.length then (N : Int) - 1 else a.getD (j + 1) 0) < (if j + 1 + 1 = a.length then (N : Int) - 1 else a.getD (j + 1 + 1) 0)
        rw [if_neg (by omega : ¬ j + 1 = a.length)]
        have n1 := not_at hq (j := j + 1) hj
        have := (h.2.2.1 (j + 1) hj).2
        split
        · omega
        · exact hasc (j + 1) (by omega)) h1 h2 (fun x => by
        rw [set_mem hi]
        constructor
        · rintro ⟨j, hj, e⟩
          by_cases e1 : j = 0
          · rw [if_pos e1] at e
            refine ⟨a.length - 1, by omega, ?_⟩
            show (if _ then _ else _) = _
            rw [if_pos (by omega)]; exact e
          · rw [if_neg e1] at e
            refine ⟨j - 1, by omega, ?_⟩
            show (if _ then _ else _) = _
            rw [if_neg (by omega), show j - 1 + 1 = j by omega]; exact e
        · rintro ⟨j, hj, e⟩
          have e' : (if j + 1 = a.length then (N : Int) - 1 else a.getD (j + 1) 0) = x := e
          by_cases e1 : j + 1 = a.length
          · rw [if_pos e1] at e'
            exact ⟨0, hi, by rw [if_pos rfl]; exact e'⟩
          · rw [if_neg e1] at e'
            exact ⟨j + 1, by omega, by rw [if_neg (by omega)]; exact e'⟩)
      rw [e]
      refine ⟨genL_len _ _, 1, ext_gen rfl (by omega) fun j hj => ?_⟩
      by_cases e1 : j + 1 = a.length
      · rw [if_pos e1]
        have hp := mvA_perd (N := N) (a := a) 0 (-1) (by omega) ((0 : Nat) : Int)
        rw [mvA_at 0 (-1) 0 hi, if_pos rfl, hN] at hp
        rw [show (j : Int) + 1 = ((0 : Nat) : Int) + (a.length : Int) by omega, hp]
        omega
      · rw [if_neg e1, show (j : Int) + 1 = ((j + 1 : Nat) : Int) by omega, mvA_at 0 (-1) (j + 1) (by omega), if_neg (by omega)]
        omega

/-- What a move changes in a sum. -/
theorem farG_mv (i : Nat) (d : Int) (hi : i < a.length) (s : Int) :
    farG (mvA N a i d) (extB N b) a.length s - farS N a b s = absI (extB N a i + d - extB N b (i + s)) - absI (extB N a i - extB N b (i + s)) := by
  unfold farS farG
  rw [sigN_one hi (fun j hj hne => by
    show absI (mvA N a i d j - _) = _
    rw [mvA_at i d j hj, if_neg hne, extB_at N a j hj, Int.add_zero])]
  rw [mvA_at i d i hi, if_pos rfl, extB_at N a i hi]
theorem farS_mv (h : RhOk N a) (hl : a.length = b.length) {i : Nat} (hi : i < a.length) {d : Int} (hd : d = 1 ∨ d = -1) (hq : (a.getD i 0 + d) % N ∉ a) :
    ∃ e, ∀ s, farS N (ofL (a.set i ((a.getD i 0 + d) % N)) N) b s = farG (mvA N a i d) (extB N b) a.length (s - e) := by
  obtain ⟨hlen, e, he⟩ := mv_ext h hi hd hq
  refine ⟨e, fun s => ?_⟩
  have hp := mvA_perd (N := N) (a := a) i d (by omega)
  have hb := extB_perd N b (by omega)
  rw [← hl] at hb
  rw [← farG_shift hp hb s e]
  unfold farS
  rw [hlen]
  congr 1
  funext t
  exact he t
theorem mv_lip (ha : RhOk N a) (hb : RhOk N b) (hl : a.length = b.length) {i : Nat} (hi : i < a.length) {d : Int} (hd : d = 1 ∨ d = -1) (hq : (a.getD i 0 + d) % N ∉ a) :
    farV N a b - 1 ≤ farV N (ofL (a.set i ((a.getD i 0 + d) % N)) N) b := by
  obtain ⟨e, he⟩ := farS_mv ha hl hi hd hq
  obtain ⟨s, hs⟩ := farV_ex N (ofL (a.set i ((a.getD i 0 + d) % N)) N) b
  rw [hs, he s]
  have h1 := farV_le ha hb hl (s - e)
  have h2 := farG_mv (N := N) (a := a) (b := b) i d hi (s - e)
  unfold absI at h2
  rcases hd with rfl | rfl
  · split at h2 <;> split at h2 <;> omega
  · split at h2 <;> split at h2 <;> omega
theorem mv_down (ha : RhOk N a) (hb : RhOk N b) (hl : a.length = b.length) {s : Int} (hs : farV N a b = farS N a b s) {i : Nat} (hi : i < a.length) {d : Int} (hq : (a.getD i 0 + d) % N ∉ a)
    (hd : d = 1 ∧ extB N a i < extB N b (i + s) ∨ d = -1 ∧ extB N b (i + s) < extB N a i) :
    farV N (ofL (a.set i ((a.getD i 0 + d) % N)) N) b ≤ farV N a b - 1 := by
  have hd' : d = 1 ∨ d = -1 := by rcases hd with h | h; exact .inl h.1; exact .inr h.1
  obtain ⟨e, he⟩ := farS_mv ha hl hi hd' hq
  have hlen := (mv_ext ha hi hd' hq).1
  have h1 : 1 ≤ N := by have := ha.1; omega
  have h2 : N ≤ 24 := by have := ha.2.1; omega
  have h3 := farV_le (ofL_ok (a.set i ((a.getD i 0 + d) % N)) h1 h2) hb (hlen.trans hl) (s + e)
  rw [he, show s + e - e = s by omega] at h3
  have h4 := farG_mv (N := N) (a := a) (b := b) i d hi s
  unfold absI at h4
  rcases hd with ⟨rfl, hd⟩ | ⟨rfl, hd⟩
  · split at h4 <;> split at h4 <;> omega
  · split at h4 <;> split at h4 <;> omega
end

end Go.Proofs.Ytlejlcnemibgiaa
