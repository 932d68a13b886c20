/-
  The way from a rhythm to another one, in plain words.
-/
import Derived.Test.YtlejlcnemibgiaaWayU
namespace Go.Proofs.Ytlejlcnemibgiaa
open Go.RowKit
set_option linter.unusedVariables false
set_option linter.unusedSimpArgs false

section
variable {N : Nat} {a b : List Int}
theorem ext_ge (h : RhOk N a) (hk : 1 ≤ a.length) {t u : Int} (htu : t ≤ u) : extB N a t + (u - t) ≤ extB N a u := by
  obtain ⟨j, hj⟩ := Int.eq_ofNat_of_zero_le (show 0 ≤ u - t by omega)
  have := ext_mono h hk t j
  rw [show t + (j : Int) = u by omega] at this
  omega
theorem ext_place (hk : 1 ≤ a.length) (t : Int) : ∃ i : Nat, i < a.length ∧ ∃ c : Int, t = i + c * a.length ∧ extB N a t = a.getD i 0 + c * N := by
  have h0 := Int.emod_nonneg t (show (a.length : Int) ≠ 0 by omega)
  have h1 := Int.emod_lt_of_pos t (show (0 : Int) < a.length by omega)
  obtain ⟨i, hi⟩ := Int.eq_ofNat_of_zero_le h0
  have hil : i < a.length := by omega
  refine ⟨i, hil, t / a.length, ?_, ?_⟩
  · have := Int.emod_add_mul_ediv t a.length
    rw [Int.mul_comm] at this; omega
  · have := (extB_perd N a hk).red t
    rw [hi, extB_at N a i hil] at this
    exact this
theorem mem_at {q : Int} (h : q ∈ a) : ∃ j, j < a.length ∧ a.getD j 0 = q := by
  obtain ⟨i, hi, rfl⟩ := List.getElem_of_mem h
  exact ⟨i, hi, by rw [List.getD_eq_getElem?_getD, List.getElem?_eq_getElem hi]; rfl⟩
theorem free_at (h : RhOk N a) (hk : 1 ≤ a.length) {t c d : Int} {i : Nat} (hi : i < a.length) (ht : t = i + c * a.length) (hd : ∀ u, extB N a u ≠ extB N a t + d) : (a.getD i 0 + d) % N ∉ a := by
  intro hm
  obtain ⟨j, hj, e⟩ := mem_at hm
  have hp := extB_perd N a hk
  have e1 := hp.muli j ((a.getD i 0 + d) / N + c)
  have e2 := hp.muli i c
  rw [← ht] at e2
  rw [extB_at N a j hj, e, Int.add_mul] at e1
  rw [extB_at N a i hi] at e2
  have e3 := Int.emod_add_mul_ediv (a.getD i 0 + d) N
  rw [Int.mul_comm] at e3
  have := Int.add_mul ((a.getD i 0 + d) / N) c N
  exact hd (j + ((a.getD i 0 + d) / ↑N + c) * a.length) (by rw [Int.add_mul]; omega)
theorem full_zero (ha : RhOk N a) (hb : RhOk N b) (hl : a.length = b.length) (hf : a.length = N) : farV N a b = 0 := by
  have full : ∀ {a : List Int}, RhOk N a → a.length = N → ∀ i : Nat, i < a.length → extB N a i = i := by
    intro a ha hf i hi
    have h1 := ext_ge (N := N) ha (by omega) (show (0 : Int) ≤ i by omega)
    have h2 := ext_ge (N := N) ha (by omega) (show (i : Int) ≤ ((a.length - 1 : Nat) : Int) by omega)
    have h3 := ext_range ha 0 (by omega)
    have h4 := ext_range ha (a.length - 1) (by omega)
    rw [show ((0 : Nat) : Int) = 0 from rfl] at h3
    omega
  have h1 := farV_le ha hb hl 0
  have h2 : farS N a b 0 = 0 := sigN_zero fun i hi => by
    have e1 := full ha hf i hi
    have e2 := full hb (by omega) i (by omega)
    rw [Int.add_zero, e1, e2]
    unfold absI
    split <;> omega
  have := farV_nonneg N a b
  omega
theorem mv_some (ha : RhOk N a) (hb : RhOk N b) (hl : a.length = b.length) (hpos : 0 < farV N a b) :
    ∃ i d, i < a.length ∧ (d = 1 ∨ d = -1) ∧ (a.getD i 0 + d) % N ∉ a ∧ farV N (ofL (a.set i ((a.getD i 0 + d) % N)) N) b ≤ farV N a b - 1 := by
  obtain ⟨s, hs⟩ := farV_ex N a b
  have hk : 1 ≤ a.length := by
    rcases Nat.eq_zero_or_pos a.length with h0 | h0
    · have : farS N a b s = 0 := by unfold farS farG; rw [h0]; rfl
      omega
    · exact h0
  have hkb : 1 ≤ b.length := by omega
  have hfull : a.length ≠ N := fun h => by have := full_zero ha hb hl h; omega
  have hpa := extB_perd N a hk
  have hpb := extB_perd N b hkb
  rw [← hl] at hpb
  have back : ∀ (t c : Int) (i : Nat), t = i + c * a.length → extB N a t = extB N a i + c * N ∧ extB N b (t + s) = extB N b (i + s) + c * N := fun t c i ht => by
    have e1 := hpa.muli i c
    have e2 := hpb.muli (i + s) c
    rw [← ht] at e1
    rw [show (i : Int) + s + c * a.length = t + s by omega] at e2
    exact ⟨e1, e2⟩
  by_cases hup : ∃ t, extB N a t < extB N b (t + s)
  · obtain ⟨t0, h0⟩ := hup
    have hex : ∃ t, extB N a t < extB N b (t + s) ∧ extB N a (t + 1) ≠ extB N a t + 1 := by
      refine Classical.byContradiction fun hno => ?_
      have hall : ∀ t, extB N a t < extB N b (t + s) → extB N a (t + 1) = extB N a t + 1 := fun t ht =>
        Classical.byContradiction fun h => hno ⟨t, ht, h⟩
      have hind : ∀ j : Nat, extB N a (t0 + j) = extB N a t0 + j ∧ extB N a (t0 + j) < extB N b (t0 + j + s) := by
        intro j
        induction j with
        | zero => simpa using h0
        | succ j ih =>
          have h1 := hall _ ih.2
          have h2 := ext_step hb hkb (t0 + j + s)
          rw [show t0 + ((j + 1 : Nat) : Int) = t0 + j + 1 by omega, show t0 + (j : Int) + 1 + s = t0 + j + s + 1 by omega]
          omega
      have := (hind a.length).1
      have := hpa t0
      omega
    obtain ⟨t, h1, h2⟩ := hex
    obtain ⟨i, hi, c, ht, _⟩ := ext_place (N := N) hk t
    have hfree := free_at ha hk hi ht (d := 1) (fun u e => by
      rcases Int.lt_or_le t u with hu | hu
      · have h3 := ext_ge (N := N) ha hk (show t + 1 ≤ u by omega)
        have h4 := ext_step ha hk t
        by_cases e2 : u = t + 1
        · subst e2; exact h2 e
        · omega
      · have h3 := ext_ge (N := N) ha hk hu
        omega)
    obtain ⟨b1, b2⟩ := back t c i ht
    exact ⟨i, 1, hi, .inl rfl, hfree, mv_down ha hb hl hs hi hfree (.inl ⟨rfl, by omega⟩)⟩
  by_cases hdn : ∃ t, extB N b (t + s) < extB N a t
  · obtain ⟨t0, h0⟩ := hdn
    have hex : ∃ t, extB N b (t + s) < extB N a t ∧ extB N a (t - 1) ≠ extB N a t - 1 := by
      refine Classical.byContradiction fun hno => ?_
      have hall : ∀ t, extB N b (t + s) < extB N a t → extB N a (t - 1) = extB N a t - 1 := fun t ht =>
        Classical.byContradiction fun h => hno ⟨t, ht, h⟩
      have hind : ∀ j : Nat, extB N a (t0 - j) = extB N a t0 - j ∧ extB N b (t0 - j + s) < extB N a (t0 - j) := by
        intro j
        induction j with
        | zero => simpa using h0
        | succ j ih =>
          have h1 := hall _ ih.2
          have h2 := ext_step hb hkb (t0 - (j + 1 : Nat) + s)
          rw [show t0 - (j : Int) - 1 = t0 - ((j + 1 : Nat) : Int) by omega] at h1
          rw [show t0 - ((j + 1 : Nat) : Int) + s + 1 = t0 - j + s by omega] at h2
          omega
      have h5 := (hind a.length).1
      have h6 := hpa (t0 - a.length)
      rw [show t0 - (a.length : Int) + a.length = t0 by omega] at h6
      omega
    obtain ⟨t, h1, h2⟩ := hex
    obtain ⟨i, hi, c, ht, _⟩ := ext_place (N := N) hk t
    have hfree := free_at ha hk hi ht (d := -1) (fun u e => by
      rcases Int.lt_or_le u t with hu | hu
      · have h3 := ext_ge (N := N) ha hk (show u ≤ t - 1 by omega)
        have h4 := ext_step ha hk (t - 1)
        rw [show t - 1 + 1 = t by omega] at h4
        by_cases e2 : u = t - 1
        · subst e2; exact h2 (by omega)
        · omega
      · have h3 := ext_ge (N := N) ha hk hu
        omega)
    obtain ⟨b1, b2⟩ := back t c i ht
    exact ⟨i, -1, hi, .inr rfl, hfree, mv_down ha hb hl hs hi hfree (.inr ⟨rfl, by omega⟩)⟩
  · exfalso
    have : farS N a b s = 0 := sigN_zero fun i hi => by
      have n1 : ¬ extB N a i < extB N b (i + s) := fun h => hup ⟨i, h⟩
      have n2 : ¬ extB N b (i + s) < extB N a i := fun h => hdn ⟨i, h⟩
      unfold absI
      split <;> omega
    omega
theorem mvL_mem {y : List Int} : ∀ {m : Nat}, y ∈ mvL N a m ↔ ∃ j, j < m ∧ hasB a (mvQ N a j) = false ∧ y = mvX N a j
  | 0 => by simp [mvL]
  | m + 1 => by
    have ih := mvL_mem (y := y) (m := m)
    unfold mvL
    cases hb : hasB a (mvQ N a m)
    · rw [if_neg (by decide), List.mem_append, List.mem_singleton, ih]
      constructor
      · rintro (⟨j, h1, h2⟩ | rfl)
        · exact ⟨j, by omega, h2⟩
        · exact ⟨m, by omega, hb, rfl⟩
      · rintro ⟨j, h1, h2, rfl⟩
        by_cases e : j = m
        · subst e; exact .inr rfl
        · exact .inl ⟨j, by omega, h2, rfl⟩
    · rw [if_pos rfl, ih]
      constructor
      · rintro ⟨j, h1, h2⟩; exact ⟨j, by omega, h2⟩
      · rintro ⟨j, h1, h2, rfl⟩
        by_cases e : j = m
        · subst e; rw [hb] at h2; cases h2
        · exact ⟨j, by omega, h2, rfl⟩
theorem mvD_cases (j : Nat) : mvD j = 1 ∨ mvD j = -1 := by unfold mvD; split <;> simp
/-- Each move: as many beats, and no nearer than by one. -/
theorem moves_each (ha : RhOk N a) (hb : RhOk N b) (hl : a.length = b.length) {y : List Int} (hy : y ∈ insL N a (2 * a.length)) : RhOk N y ∧ y.length = a.length ∧ farV N a b - 1 ≤ farV N y b := by
  have h1 : 1 ≤ N := by have := ha.1; omega
  have h2 : N ≤ 24 := by have := ha.2.1; omega
  obtain ⟨hd, hm⟩ := insL_desc a h1 h2 (2 * a.length)
  obtain ⟨j, hj, hb', rfl⟩ := mvL_mem.1 ((hm y).1 hy)
  have hq : (a.getD (j / 2) 0 + mvD j) % N ∉ a := by
    unfold hasB mvQ at hb'
    rwa [decide_eq_false_iff_not] at hb'
  exact ⟨hd.2 _ hy, (mv_ext ha (by omega) (mvD_cases j) hq).1, mv_lip ha hb hl (by omega) (mvD_cases j) hq⟩
theorem moves_some (ha : RhOk N a) (hb : RhOk N b) (hl : a.length = b.length) (hpos : 0 < farV N a b) : ∃ y ∈ insL N a (2 * a.length), farV N y b < farV N a b := by
  have h1 : 1 ≤ N := by have := ha.1; omega
  have h2 : N ≤ 24 := by have := ha.2.1; omega
  obtain ⟨i, d, hi, hd, hq, hf⟩ := mv_some ha hb hl hpos
  refine ⟨ofL (a.set i ((a.getD i 0 + d) % N)) N, ((insL_desc a h1 h2 (2 * a.length)).2 _).2 (mvL_mem.2 ?_), by omega⟩
  rcases hd with rfl | rfl
  · have e : mvQ N a (2 * i) = (a.getD i 0 + 1) % N := by
      unfold mvQ mvD
      rw [show 2 * i / 2 = i by omega, if_pos (by omega)]
    refine ⟨2 * i, by omega, ?_, ?_⟩
    · rw [e]; unfold hasB; rw [decide_eq_false_iff_not]; exact hq
    · unfold mvX; rw [e, show 2 * i / 2 = i by omega]
  · have e : mvQ N a (2 * i + 1) = (a.getD i 0 + -1) % N := by
      unfold mvQ mvD
      rw [show (2 * i + 1) / 2 = i by omega, if_neg (by omega)]
    refine ⟨2 * i + 1, by omega, ?_, ?_⟩
    · rw [e]; unfold hasB; rw [decide_eq_false_iff_not]; exact hq
    · unfold mvX; rw [e, show (2 * i + 1) / 2 = i by omega]

/-- The first move that lies nearer than 'left'. -/
def nxtP (N : Nat) (b : List Int) (left : Int) (L : List (List Int)) : Nat := L.findIdx fun x => decide (farV N x b < left)
def wayAt (N : Nat) (a b : List Int) : Nat → List Int
  | 0 => a
  | j + 1 => (insL N (wayAt N a b j) (2 * (wayAt N a b j).length)).getD (nxtP N b (farV N a b - j) (insL N (wayAt N a b j) (2 * (wayAt N a b j).length))) []
theorem nxtP_spec {left : Int} {L : List (List Int)} (h : ∃ y ∈ L, farV N y b < left) : nxtP N b left L < L.length ∧ farV N (L.getD (nxtP N b left L) []) b < left ∧ ∀ p, p < nxtP N b left L → ¬ farV N (L.getD p []) b < left := by
  have hlt : nxtP N b left L < L.length := by
    unfold nxtP
    rw [List.findIdx_lt_length]
    obtain ⟨y, hy, hf⟩ := h
    exact ⟨y, hy, decide_eq_true hf⟩
  refine ⟨hlt, ?_, fun p hp => ?_⟩
  · have := List.findIdx_getElem (w := hlt)
    rw [decide_eq_true_eq] at this
    rwa [List.getD_eq_getElem?_getD, List.getElem?_eq_getElem hlt]
  · have := List.not_of_lt_findIdx hp
    rw [List.getD_eq_getElem?_getD, List.getElem?_eq_getElem (by omega : p < L.length)]
    simpa using this
theorem wayAt_ok (ha : RhOk N a) (hb : RhOk N b) (hl : a.length = b.length) : ∀ j : Nat, (j : Int) ≤ farV N a b → RhOk N (wayAt N a b j) ∧ (wayAt N a b j).length = a.length ∧ farV N (wayAt N a b j) b = farV N a b - j
  | 0, _ => ⟨ha, rfl, by show farV N a b = _; omega⟩
  | j + 1, h => by
    obtain ⟨i1, i2, i3⟩ := wayAt_ok ha hb hl j (by omega)
    have hs := moves_some i1 hb (i2.trans hl) (by omega)
    rw [i3] at hs
    obtain ⟨s1, s2, _⟩ := nxtP_spec hs
    have hm : wayAt N a b (j + 1) ∈ insL N (wayAt N a b j) (2 * (wayAt N a b j).length) := by
      show List.getD _ _ _ ∈ _
      rw [List.getD_eq_getElem?_getD, List.getElem?_eq_getElem s1]
      exact List.getElem_mem s1
    obtain ⟨e1, e2, e3⟩ := moves_each i1 hb (i2.trans hl) hm
    have s2' : farV N (wayAt N a b (j + 1)) b < farV N a b - j := s2
    exact ⟨e1, e2.trans i2, by omega⟩
theorem sigN_bnd {f : Nat → Int} {B : Int} : ∀ {m : Nat}, (∀ i, i < m → f i ≤ B) → sigN f m ≤ m * B
  | 0, _ => by simp [sigN]
  | m + 1, h => by
    have h1 := sigN_bnd (f := f) (B := B) (m := m) (fun i hi => h i (by omega))
    have h2 := h m (by omega)
    unfold sigN
    rw [Int.natCast_add, Int.add_mul]
    simp only [Int.natCast_one, Int.one_mul]
    omega
theorem farV_small (ha : RhOk N a) (hb : RhOk N b) (hl : a.length = b.length) : farV N a b ≤ 576 := by
  have h1 := farV_le ha hb hl 0
  have h2 : farS N a b 0 ≤ a.length * 24 := sigN_bnd fun i hi => by
    have r := ext_range ha i hi
    have q := ext_range hb i (by omega)
    have := ha.2.1
    rw [Int.add_zero]
    unfold absI
    split <;> omega
  have h3 := rhok_len ha
  have := ha.2.1
  omega
end

/-- The ways, as far as they are laid. -/
def wayP (N : Nat) (a b : List Int) (q : Nat) : List (Int × List Int) := (List.range q).map fun j => ((N : Int), wayAt N a b j)
theorem wayP_succ (N : Nat) (a b : List Int) (q : Nat) : wayP N a b (q + 1) = wayP N a b q ++ [((N : Int), wayAt N a b q)] := by simp [wayP, List.range_succ]
theorem wayP_len (N : Nat) (a b : List Int) (q : Nat) : (wayP N a b q).length = q := by simp [wayP]
noncomputable def movedB (n m : Int) (a b : List Int) : Bool := rhB n a && rhB m b && decide (n = m) && decide (a.length = b.length)
noncomputable def wayV (n m : Int) (a b : List Int) : List (Int × List Int) := if movedB n m a b = true then wayP n.toNat a b ((farV n a b).toNat + 1) else []

end Go.Proofs.Ytlejlcnemibgiaa
