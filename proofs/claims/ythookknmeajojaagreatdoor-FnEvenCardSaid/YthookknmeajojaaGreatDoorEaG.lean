/-
  Several texts of this proof in one: EvR, Bal, EvW, EvS, EvC.
-/
import Derived.Test.YthookknmeajojaaGreatDoorEaE
import Derived.Test.YthookknmeajojaaGreatDoorEaF
import Derived.Test.YthookknmeajojaaGreatDoorEaB
import Derived.Lib.Slices
import Derived.Lib.Bytealg
namespace Go.Proofs.YthookknmeajojaaGreatDoor
open Go.RowKit
set_option linter.unusedVariables false
set_option linter.unusedSimpArgs false

section
variable {N : Nat} {a : List Int}
theorem step_ext (h : RhOk N a) (hk : 1 ≤ a.length) {m : Nat} (hm : m < a.length) : (stepsL N a).getD m 0 = extB N a (m + 1) - extB N a m := by
  unfold stepsL stepsK
  rw [List.getD_eq_getElem?_getD, List.getElem?_map, List.getElem?_range hm]
  show stepAt N a m = _
  rw [extB_at N a m hm]
  unfold stepAt
  by_cases hl : m + 1 < a.length
  · rw [if_pos hl, show (m : Int) + 1 = ((m + 1 : Nat) : Int) by omega, extB_at N a (m + 1) hl]
  · rw [if_neg hl]
    have := extB_perd N a hk 0
    rw [show (0 : Int) + a.length = m + 1 by omega] at this
    have e0 := extB_at N a 0 (by omega)
    rw [show ((0 : Nat) : Int) = 0 from rfl] at e0
    omega
theorem span_ext (h : RhOk N a) (hk : 1 ≤ a.length) (i : Nat) : ∀ j, spanV (stepsL N a) i j = extB N a (i + j) - extB N a i
  | 0 => by unfold spanV; rw [show (i : Int) + (0 : Nat) = i by simp]; omega
  | j + 1 => by
    unfold spanV
    rw [span_ext h hk i j, stepsL_len, step_ext h hk (Nat.mod_lt _ (by omega))]
    have hp := extB_perd N a hk
    have e1 := hp.red (i + j)
    have e2 := hp.muli (((i : Int) + j) % a.length + 1) (((i : Int) + j) / a.length)
    rw [show ((i : Int) + j) % a.length + 1 + ((i : Int) + j) / a.length * a.length = i + j + 1 by
      have := Int.emod_add_mul_ediv ((i : Int) + j) a.length
      rw [Int.mul_comm] at this; omega] at e2
    rw [show (((i + j) % a.length : Nat) : Int) = ((i : Int) + j) % a.length by rw [Int.natCast_emod, Int.natCast_add]]
    rw [show (i : Int) + ((j + 1 : Nat) : Int) = i + j + 1 by omega]
    omega
theorem evT_iff {S : List Int} (hS : 1 ≤ S.length) (k : Nat) : evT S k = true ↔ ∀ i j, i < S.length → j < S.length → spanV S i k - spanV S j k ≤ 1 := by
  unfold evT
  obtain ⟨hc, hm⟩ := collL_asc (spnS S k S.length)
  have hin : ∀ i, i < S.length → spanV S i k ∈ collL (spnS S k S.length) := fun i hi => (hm _).2 (List.mem_map.2 ⟨i, List.mem_range.2 hi, rfl⟩)
  have hpos := List.length_pos_of_mem (hin 0 (by omega))
  generalize collL (spnS S k S.length) = C at *
  have hend : ∀ x ∈ C, C.getD 0 0 ≤ x ∧ x ≤ C.getD (C.length - 1) 0 := fun x hx => by
    obtain ⟨t, ht, rfl⟩ := List.getElem_of_mem hx
    rw [List.getD_eq_getElem?_getD, List.getD_eq_getElem?_getD, List.getElem?_eq_getElem hpos, List.getElem?_eq_getElem (by omega : C.length - 1 < C.length)]
    show C[0] ≤ C[t] ∧ C[t] ≤ C[C.length - 1]
    constructor
    · by_cases h0 : t = 0
      · subst h0; exact Int.le_refl _
      · have := List.pairwise_iff_getElem.1 hc 0 t hpos ht (by omega); omega
    · by_cases h0 : t = C.length - 1
      · subst h0; exact Int.le_refl _
      · have := List.pairwise_iff_getElem.1 hc t (C.length - 1) ht (by omega) (by omega); omega
  rw [decide_eq_true_eq]
  constructor
  · intro h i j hi hj
    have := hend _ (hin i hi)
    have := hend _ (hin j hj)
    omega
  · intro h
    obtain ⟨i, hi, e1⟩ := List.mem_map.1 ((hm _).1 (getE_mem (L := C) (i := C.length - 1) (by omega)))
    obtain ⟨j, hj, e2⟩ := List.mem_map.1 ((hm _).1 (getE_mem (L := C) (i := 0) hpos))
    have := h i j (List.mem_range.1 hi) (List.mem_range.1 hj)
    omega

theorem sigN_shiftN (f : Int → Int) (k : Nat) (n : Int) (hf : ∀ t, f (t + k) = f t + n) : ∀ j : Nat, sigN (fun i => f (i + j)) k = sigN (fun i => f i) k + j * n
  | 0 => by
    rw [show ((0 : Nat) : Int) * n = 0 by simp, Int.add_zero]
    exact sigN_congr fun i _ => by rw [show (i : Int) + (0 : Nat) = i by simp]
  | j + 1 => by
    have ih := sigN_shiftN f k n hf j
    have h1 := sigN_shift (fun i : Nat => f (i + j)) k
    have e : sigN (fun i : Nat => f (((i + 1 : Nat) : Int) + j)) k = sigN (fun i : Nat => f (i + ((j + 1 : Nat) : Int))) k := sigN_congr fun i _ => by
      rw [show ((i + 1 : Nat) : Int) + j = i + ((j + 1 : Nat) : Int) by omega]
    rw [← e]
    have h2 := hf j
    have h3 : ((j + 1 : Nat) : Int) * n = j * n + n := by rw [Int.natCast_add, Int.add_mul]; simp
    have e2 : f (((0 : Nat) : Int) + j) = f j := by rw [show ((0 : Nat) : Int) + j = j by simp]
    have e3 : f ((k : Int) + j) = f (j + k) := by rw [Int.add_comm]
    have h1' : sigN (fun i : Nat => f (((i + 1 : Nat) : Int) + j)) k = sigN (fun i : Nat => f (i + j)) k - f (((0 : Nat) : Int) + j) + f ((k : Int) + j) := h1
    rw [h1', e2, e3]
    omega
theorem sigN_sub (f g : Nat → Int) : ∀ m, sigN (fun i => f i - g i) m = sigN f m - sigN g m
  | 0 => rfl
  | m + 1 => by unfold sigN; rw [sigN_sub f g m]; omega
theorem sigN_top {f : Nat → Int} {D : Int} : ∀ {m : Nat}, (∀ i, i < m → f i ≤ D + 1) → (∃ i, i < m ∧ f i = D) → sigN f m ≤ m * (D + 1) - 1
  | 0, _, ⟨i, hi, _⟩ => by omega
  | m + 1, h, ⟨i, hi, e⟩ => by
    unfold sigN
    have hm : ((m + 1 : Nat) : Int) * (D + 1) = m * (D + 1) + (D + 1) := by rw [Int.natCast_add, Int.add_mul]; simp
    by_cases him : i = m
    · subst him
      have := sigN_bnd (f := f) (B := D + 1) (m := i) (fun j hj => h j (by omega))
      omega
    · have := sigN_top (f := f) (D := D) (m := m) (fun j hj => h j (by omega)) ⟨i, by omega, e⟩
      have := h m (by omega)
      omega

/-- An even rhythm, read on from some beat, goes as the even rhythm. -/
theorem ev_go (h : RhOk N a) (hk : 1 ≤ a.length) (hev : evnB (stepsL N a) = true) : ∃ t0 : Nat, t0 < a.length ∧ ∀ t : Int, extB N a (t0 + t) = extB N a t0 + t * N / a.length := by
  have hp := extB_perd N a hk
  have hE : ∀ j : Nat, j < a.length → ∀ s t : Nat, s < a.length → t < a.length → (extB N a (s + j) - extB N a s) - (extB N a (t + j) - extB N a t) ≤ 1 := fun j hj s t hs ht => by
    by_cases h0 : j = 0
    · subst h0
      rw [show (s : Int) + (0 : Nat) = s by simp, show (t : Int) + (0 : Nat) = t by simp]; omega
    · have h1 := (evT_iff (S := stepsL N a) (by rw [stepsL_len]; exact hk) j).1 ((evnB_def _).1 hev j (by omega) (by rw [stepsL_len]; exact hj)) s t (by rw [stepsL_len]; exact hs) (by rw [stepsL_len]; exact ht)
      rw [span_ext h hk, span_ext h hk] at h1
      exact h1
  generalize hK : a.length = K at *
  obtain ⟨t0, ht0⟩ : ∃ t0, bestK (fun i => (i : Int) * N - K * extB N a i) K = t0 := ⟨_, rfl⟩
  have hlt : t0 < K := by rw [← ht0]; exact bestK_lt _ K hk
  have hbest : ∀ i, i < K → (t0 : Int) * N - K * extB N a t0 ≤ (i : Int) * N - K * extB N a i := fun i hi => by
    have := bestK_le (fun i => (i : Int) * N - K * extB N a i) K i hi
    rw [ht0] at this
    exact this
  have hub : ∀ u : Int, K * extB N a u - u * N ≤ K * extB N a t0 - t0 * N := fun u => by
    have h0 := Int.emod_nonneg u (show (K : Int) ≠ 0 by omega)
    have h1 := Int.emod_lt_of_pos u (show (0 : Int) < K by omega)
    have h2 := hp.red u
    have h3 := Int.emod_add_mul_ediv u K
    obtain ⟨i, hi⟩ := Int.eq_ofNat_of_zero_le h0
    have h4 := hbest i (by omega)
    rw [hi] at h2 h3
    have h5 : (K : Int) * (extB N a i + u / K * N) = K * extB N a i + K * (u / K) * N := by rw [Int.mul_add, Int.mul_assoc]
    have h6 : u * (N : Int) = i * N + K * (u / K) * N := by rw [← Int.add_mul, h3]
    rw [h2, h5, h6]
    omega
  refine ⟨t0, hlt, ?_⟩
  have small : ∀ j : Nat, j < K → extB N a (t0 + j) = extB N a t0 + j * N / K := fun j hj => by
    obtain ⟨D, hD⟩ : ∃ D, extB N a (t0 + j) - extB N a t0 = D := ⟨_, rfl⟩
    have hsum : sigN (fun i : Nat => extB N a (i + j) - extB N a i) K = j * N := by
      rw [sigN_sub, sigN_shiftN (extB N a) K N hp j]; omega
    have htop := sigN_top (f := fun i : Nat => extB N a (i + j) - extB N a i) (D := D) (m := K) (fun i hi => by
      have := hE j hj i t0 hi hlt; omega) ⟨t0, hlt, hD⟩
    rw [hsum] at htop
    have hu := hub (t0 + j)
    have x1 : ((t0 : Int) + j) * N = t0 * N + j * N := Int.add_mul _ _ _
    have x2 : (K : Int) * extB N a (t0 + j) = K * extB N a t0 + K * D := by rw [← Int.mul_add]; congr 1; omega
    have x3 : (K : Int) * (D + 1) = K * D + K := by rw [Int.mul_add]; simp
    have hdiv : (j : Int) * N / K = D := by
      refine (Int.ediv_eq_iff_of_pos (by omega)).2 ⟨?_, ?_⟩
      · rw [Int.mul_comm]; omega
      · rw [Int.mul_comm D K]; omega
    omega
  intro t
  have h0 := Int.emod_nonneg t (show (K : Int) ≠ 0 by omega)
  have h1 := Int.emod_lt_of_pos t (show (0 : Int) < K by omega)
  have h3 := Int.emod_add_mul_ediv t K
  obtain ⟨j, hj⟩ := Int.eq_ofNat_of_zero_le h0
  have h2 := hp.muli (t0 + j) (t / K)
  rw [hj] at h3
  rw [show (t0 : Int) + j + t / K * K = t0 + t by rw [Int.mul_comm]; omega, small j (by omega)] at h2
  have h6 : t * (N : Int) = j * N + K * (t / K * N) := by rw [← Int.mul_assoc, ← Int.add_mul, h3]
  rw [h2, h6, Int.add_mul_ediv_left _ _ (by omega)]
  omega
theorem evB_ext {k : Nat} (hk : 1 ≤ k) (t : Int) : extB N (evB N k) t = t * N / k := by
  have hp := extB_perd N (evB N k) (by rw [evB_len]; exact hk)
  rw [evB_len] at hp
  refine Perd.ext hk hp (B := fun t => t * N / k) (fun t => ?_) (fun i hi => ?_) t
  · show (t + k) * (N : Int) / k = t * N / k + N
    rw [Int.add_mul, Int.add_mul_ediv_left _ _ (by omega)]
  · rw [extB_at N _ i (by rw [evB_len]; exact hi)]
    unfold evB
    rw [evL_gen, genL_at hi]
    show (((i * N + 0) / k : Nat) : Int) = i * N / k
    rw [Nat.add_zero, Int.natCast_ediv, Int.natCast_mul]
theorem mem_ext (h : RhOk N a) (hk : 1 ≤ a.length) (x : Int) : x % N ∈ a ↔ ∃ u, extB N a u = x := by
  have hn : (1 : Int) ≤ N := h.1
  constructor
  · intro hm
    obtain ⟨i, hi, e⟩ := mem_at hm
    refine ⟨i + x / N * a.length, ?_⟩
    rw [(extB_perd N a hk).muli, extB_at N a i hi, e]
    have := Int.emod_add_mul_ediv x N
    rw [Int.mul_comm] at this; exact this
  · rintro ⟨u, rfl⟩
    obtain ⟨i, hi, c, _, e⟩ := ext_place (N := N) hk u
    have r := h.2.2.1 i hi
    rw [e, Int.add_mul_emod_self_right, Int.emod_eq_of_lt r.1 r.2, List.getD_eq_getElem?_getD, List.getElem?_eq_getElem hi]
    exact List.getElem_mem hi
theorem rot_mem {b : List Int} {x r : Int} (h0 : 0 ≤ x) (h1 : x < N) : x ∈ rotL N b r ↔ (x - r) % N ∈ b := by
  rw [rotL_mem]
  unfold hasB
  constructor
  · rintro ⟨t, _, hb, rfl⟩
    rwa [decide_eq_true_eq] at hb
  · intro h
    obtain ⟨t, ht⟩ := Int.eq_ofNat_of_zero_le h0
    exact ⟨t, by omega, by rw [decide_eq_true_eq, ← ht]; exact h, ht⟩
/-- Two rhythms with the same turned members are one. -/
theorem rot_of_ext {b : List Int} (ha : RhOk N a) (hb : RhOk N b) (hka : 1 ≤ a.length) (hkb : 1 ≤ b.length) (r : Int) (h : ∀ x, (∃ u, extB N a u = x) ↔ ∃ u, extB N b u + r = x) : a = rotL N b r := by
  refine asc_unique (rhok_asc ha) (rotL_sorted N b r) fun x => ?_
  have key : ∀ x : Int, 0 ≤ x → x < N → (x ∈ a ↔ x ∈ rotL N b r) := fun x h0 h1 => by
    rw [rot_mem h0 h1, mem_ext hb hkb]
    have e := mem_ext ha hka x
    rw [Int.emod_eq_of_lt h0 h1] at e
    rw [e, h]
    constructor
    · rintro ⟨u, hu⟩; exact ⟨u, by omega⟩
    · rintro ⟨u, hu⟩; exact ⟨u, by omega⟩
  constructor
  · intro hx
    have := rhok_range ha x hx
    exact (key x this.1 this.2).1 hx
  · intro hx
    obtain ⟨t, ht, _, rfl⟩ := rotL_mem.1 hx
    exact (key _ (by omega) (by omega)).2 hx
theorem ev_rot (h : RhOk N a) (hk : 1 ≤ a.length) (hev : evnB (stepsL N a) = true) : ∃ r : Nat, r < N ∧ a = rotL N (evB N a.length) r := by
  have hn1 : 1 ≤ N := by have := h.1; omega
  have hn2 : N ≤ 24 := by have := h.2.1; omega
  obtain ⟨t0, ht0, hgo⟩ := ev_go h hk hev
  have r0 := ext_range h t0 ht0
  obtain ⟨r, hr⟩ := Int.eq_ofNat_of_zero_le r0.1
  have hbl : a.length ≤ N := rhok_len h
  refine ⟨r, by omega, rot_of_ext h (evB_ok hn1 hn2 hbl) hk (by rw [evB_len]; exact hk) r fun x => ?_⟩
  constructor
  · rintro ⟨u, rfl⟩
    refine ⟨u - t0, ?_⟩
    have := hgo (u - t0)
    rw [show (t0 : Int) + (u - t0) = u by omega] at this
    rw [evB_ext hk, this]; omega
  · rintro ⟨u, rfl⟩
    refine ⟨t0 + u, ?_⟩
    rw [hgo, evB_ext hk]; omega

/-- Two rhythms with the same turned members go alike from some beat on. -/
theorem ext_align {b : List Int} (ha : RhOk N a) (hb : RhOk N b) (hka : 1 ≤ a.length) (hkb : 1 ≤ b.length) (r : Int) (h : ∀ x, (∃ u, extB N a u = x) ↔ ∃ u, extB N b u + r = x) : ∃ s : Int, ∀ t : Nat, extB N a t = extB N b (s + t) + r := by
  obtain ⟨s, hs⟩ := (h _).1 ⟨0, rfl⟩
  refine ⟨s, fun t => ?_⟩
  induction t with
  | zero => rw [show s + ((0 : Nat) : Int) = s by simp]; exact hs.symm
  | succ t ih =>
    have lt_iff : ∀ {c : List Int}, RhOk N c → 1 ≤ c.length → ∀ u v : Int, extB N c u < extB N c v → u < v := fun hc hkc u v huv => by
      apply Classical.byContradiction
      intro hn
      have := ext_ge hc hkc (show v ≤ u by omega)
      omega
    have e1 : ((t + 1 : Nat) : Int) = t + 1 := by omega
    have e2 : s + ((t + 1 : Nat) : Int) = s + t + 1 := by omega
    rw [e2, e1]
    obtain ⟨v, hv⟩ := (h (extB N a (t + 1))).1 ⟨_, rfl⟩
    obtain ⟨u, hu⟩ := (h (extB N b (s + t + 1) + r)).2 ⟨_, rfl⟩
    have a1 := ext_step ha hka t
    have b1 := ext_step hb hkb (s + t)
    have l1 := lt_iff hb hkb (s + t) v (by omega)
    have l2 := lt_iff ha hka t u (by omega)
    have g1 := ext_ge hb hkb (show s + t + 1 ≤ v by omega)
    have g2 := ext_ge ha hka (show (t : Int) + 1 ≤ u by omega)
    omega
theorem rot_ext {b : List Int} (hb : RhOk N b) (hkb : 1 ≤ b.length) (r : Int) (x : Int) : (∃ u, extB N (rotL N b r) u = x) ↔ ∃ u, extB N b u + r = x := by
  obtain ⟨ho, hl⟩ := rotL_ok hb r
  have hn : (1 : Int) ≤ N := hb.1
  rw [← mem_ext ho (by omega), rot_mem (Int.emod_nonneg _ (by omega)) (Int.emod_lt_of_pos _ (by omega))]
  have e : (x % N - r) % (N : Int) = (x - r) % N := by rw [Int.emod_sub_emod]
  rw [e, mem_ext hb hkb]
  constructor
  · rintro ⟨u, hu⟩; exact ⟨u, by omega⟩
  · rintro ⟨u, hu⟩; exact ⟨u, by omega⟩
theorem rot_even (hn1 : 1 ≤ N) (hn2 : N ≤ 24) {k : Nat} (hk : k ≤ N) (r : Int) : evnB (stepsL N (rotL N (evB N k) r)) = true := by
  have heo := evB_ok hn1 hn2 hk
  obtain ⟨ho, hl⟩ := rotL_ok heo r
  rw [evB_len] at hl
  rw [evnB_def]
  intro j h1 h2
  rw [stepsL_len, hl] at h2
  have hk1 : 1 ≤ k := by omega
  obtain ⟨s, hs⟩ := ext_align ho heo (by omega) (by rw [evB_len]; exact hk1) r (rot_ext heo (by rw [evB_len]; exact hk1) r)
  rw [evT_iff (by rw [stepsL_len, hl]; exact hk1)]
  intro i i' _ _
  rw [span_ext ho (by omega), span_ext ho (by omega)]
  have key : ∀ i : Nat, j * N / k ≤ extB N (rotL N (evB N k) r) (i + j) - extB N (rotL N (evB N k) r) i ∧ extB N (rotL N (evB N k) r) (i + j) - extB N (rotL N (evB N k) r) i ≤ j * N / k + 1 := fun i => by
    have x1 := hs (i + j)
    rw [Int.natCast_add] at x1
    rw [x1, hs i, evB_ext hk1, evB_ext hk1]
    obtain ⟨p, hp⟩ : ∃ p, (s + (i : Int)) * N = p := ⟨_, rfl⟩
    obtain ⟨q, hq⟩ : ∃ q, (j : Int) * N = q := ⟨_, rfl⟩
    have e : (s + ((i : Int) + j)) * N = p + q := by rw [← hp, ← hq, ← Int.add_mul]; congr 1; omega
    rw [e, hp, hq]
    have a1 := Int.emod_add_mul_ediv p k
    have a2 := Int.emod_add_mul_ediv q k
    have a3 := Int.emod_add_mul_ediv (p + q) k
    have b1 := Int.emod_nonneg p (show (k : Int) ≠ 0 by omega)
    have b2 := Int.emod_nonneg q (show (k : Int) ≠ 0 by omega)
    have b3 := Int.emod_nonneg (p + q) (show (k : Int) ≠ 0 by omega)
    have c1 := Int.emod_lt_of_pos p (show (0 : Int) < k by omega)
    have c2 := Int.emod_lt_of_pos q (show (0 : Int) < k by omega)
    have c3 := Int.emod_lt_of_pos (p + q) (show (0 : Int) < k by omega)
    obtain ⟨X, hX⟩ : ∃ X, p / (k : Int) = X := ⟨_, rfl⟩
    obtain ⟨Y, hY⟩ : ∃ Y, q / (k : Int) = Y := ⟨_, rfl⟩
    obtain ⟨Z, hZ⟩ : ∃ Z, (p + q) / (k : Int) = Z := ⟨_, rfl⟩
    rw [hX] at a1 ⊢; rw [hY] at a2 ⊢; rw [hZ] at a3 ⊢
    have d : (k : Int) * (Z - X - Y) = p % k + q % k - (p + q) % k := by rw [Int.mul_sub, Int.mul_sub]; omega
    have f1 : ¬ Z - X - Y ≤ -1 := fun hn => by
      have := Int.mul_le_mul_of_nonneg_left hn (show (0 : Int) ≤ k by omega); omega
    have f2 : ¬ 2 ≤ Z - X - Y := fun hn => by
      have := Int.mul_le_mul_of_nonneg_left hn (show (0 : Int) ≤ k by omega); omega
    omega
  have := key i
  have := key i'
  omega

/-- The fewest moves to an even rhythm. -/
theorem few_ok (h : RhOk N a) : RhOk N (fewX N a) ∧ (fewX N a).length = a.length ∧ evnB (stepsL N (fewX N a)) = true ∧ (farV N a (fewX N a) = 0 ↔ evnB (stepsL N a) = true) := by
  have hn1 : 1 ≤ N := by have := h.1; omega
  have hn2 : N ≤ 24 := by have := h.2.1; omega
  have hbl : a.length ≤ N := rhok_len h
  have heo := evB_ok hn1 hn2 hbl
  obtain ⟨ho, hl⟩ := rotL_ok heo (fewK N a : Int)
  rw [evB_len] at hl
  have hev := rot_even hn1 hn2 hbl (fewK N a : Int)
  refine ⟨ho, hl, hev, fun hz => ?_, fun he => ?_⟩
  · have e : a = fewX N a := farV_zero h ho hl.symm hz
    rw [e]; exact hev
  · by_cases hk : 1 ≤ a.length
    · obtain ⟨r, hr, e⟩ := ev_rot h hk he
      have hb := bestK_le (fun k => farV N a (rotL N (evB N a.length) (k : Int))) N r hr
      have h0 : farV N a (rotL N (evB N a.length) (r : Int)) = 0 := by
        rw [← e]; exact farV_self h
      have h1 := farV_nonneg N a (fewX N a)
      have h2 : farV N a (fewX N a) ≤ farV N a (rotL N (evB N a.length) (r : Int)) := hb
      omega
    · obtain ⟨s, hs⟩ := farV_ex N a (fewX N a)
      rw [hs]
      unfold farS farG
      rw [show a.length = 0 by omega]; rfl
end

end Go.Proofs.YthookknmeajojaaGreatDoor

namespace Go.Proofs.YthookknmeajojaaGreatDoor
set_option linter.unusedVariables false
set_option linter.unusedSimpArgs false

/-- How many beats a window has. -/
def xcnt (l : List UInt8) : Int := (Lib.countByte l 120 : Nat)
def nCnt (n : Int) (bs : List Int) (p : Nat) : Nat → Nat
  | 0 => 0
  | k + 1 => nCnt n bs p k + if hasB bs (((p + k : Nat) : Int) % n) then 1 else 0
theorem nCnt_le (n : Int) (bs : List Int) (p : Nat) : ∀ k, nCnt n bs p k ≤ k
  | 0 => Nat.le_refl _
  | k + 1 => by have := nCnt_le n bs p k; unfold nCnt; split <;> omega
theorem nCnt_x (n : Int) (bs : List Int) (p : Nat) : ∀ k, xcnt (winL n bs p k) = nCnt n bs p k
  | 0 => rfl
  | k + 1 => by
    have ih := nCnt_x n bs p k
    unfold xcnt Lib.countByte at ih ⊢
    rw [winL_succ, List.count_append]
    unfold nCnt
    cases hasB bs (((p + k : Nat) : Int) % n)
    · simp at ih ⊢; omega
    · simp at ih ⊢; omega

/-- The least and the greatest, as the reference finds them. -/
def lowN (n : Int) (bs : List Int) (k : Nat) : Nat → Nat
  | 0 => k
  | p + 1 => min (lowN n bs k p) (nCnt n bs p k)
def highN (n : Int) (bs : List Int) (k : Nat) : Nat → Nat
  | 0 => 0
  | p + 1 => max (highN n bs k p) (nCnt n bs p k)
theorem lowN_le (n : Int) (bs : List Int) (k : Nat) : ∀ m p, p < m → lowN n bs k m ≤ nCnt n bs p k
  | m + 1, p, h => by
    unfold lowN
    by_cases e : p = m
    · subst e; omega
    · have := lowN_le n bs k m p (by omega); omega
theorem lowN_k (n : Int) (bs : List Int) (k : Nat) : ∀ m, lowN n bs k m ≤ k
  | 0 => Nat.le_refl _
  | m + 1 => by have := lowN_k n bs k m; unfold lowN; omega
theorem highN_k (n : Int) (bs : List Int) (k : Nat) : ∀ m, highN n bs k m ≤ k
  | 0 => Nat.zero_le _
  | m + 1 => by have := highN_k n bs k m; have := nCnt_le n bs m k; unfold highN; omega
theorem lowN_is (n : Int) (bs : List Int) (k : Nat) : ∀ m, 0 < m → ∃ p, p < m ∧ lowN n bs k m = nCnt n bs p k
  | m + 1, _ => by
    unfold lowN
    by_cases hm : m = 0
    · subst hm
      have := nCnt_le n bs 0 k
      exact ⟨0, by omega, by unfold lowN; omega⟩
    · obtain ⟨p, hp, e⟩ := lowN_is n bs k m (by omega)
      by_cases h : lowN n bs k m ≤ nCnt n bs m k
      · exact ⟨p, by omega, by omega⟩
      · exact ⟨m, by omega, by omega⟩
theorem highN_ge (n : Int) (bs : List Int) (k : Nat) : ∀ m p, p < m → nCnt n bs p k ≤ highN n bs k m
  | m + 1, p, h => by
    unfold highN
    by_cases e : p = m
    · subst e; omega
    · have := highN_ge n bs k m p (by omega); omega
theorem highN_is (n : Int) (bs : List Int) (k : Nat) : ∀ m, 0 < m → ∃ p, p < m ∧ highN n bs k m = nCnt n bs p k
  | m + 1, _ => by
    unfold highN
    by_cases hm : m = 0
    · subst hm
      exact ⟨0, by omega, by unfold highN; omega⟩
    · obtain ⟨p, hp, e⟩ := highN_is n bs k m (by omega)
      by_cases h : nCnt n bs m k ≤ highN n bs k m
      · exact ⟨p, by omega, by omega⟩
      · exact ⟨m, by omega, by omega⟩

theorem foldl_max_ge : ∀ (l : List Int) (a : Int), a ≤ l.foldl max a ∧ (∀ x ∈ l, x ≤ l.foldl max a) ∧ (l.foldl max a = a ∨ l.foldl max a ∈ l)
  | [], a => ⟨Int.le_refl _, (fun x hx => by cases hx), .inl rfl⟩
  | y :: l, a => by
    obtain ⟨h1, h2, h3⟩ := foldl_max_ge l (max a y)
    rw [List.foldl_cons]
    refine ⟨by omega, fun x hx => ?_, ?_⟩
    · rcases List.mem_cons.1 hx with rfl | hx
      · omega
      · exact h2 x hx
    · rcases h3 with h3 | h3
      · by_cases h : y ≤ a
        · exact .inl (by rw [h3]; omega)
        · exact .inr (List.mem_cons.2 (.inl (by rw [h3]; omega)))
      · exact .inr (List.mem_cons.2 (.inr h3))
theorem foldl_min_le : ∀ (l : List Int) (a : Int), l.foldl min a ≤ a ∧ (∀ x ∈ l, l.foldl min a ≤ x) ∧ (l.foldl min a = a ∨ l.foldl min a ∈ l)
  | [], a => ⟨Int.le_refl _, (fun x hx => by cases hx), .inl rfl⟩
  | y :: l, a => by
    obtain ⟨h1, h2, h3⟩ := foldl_min_le l (min a y)
    rw [List.foldl_cons]
    refine ⟨by omega, fun x hx => ?_, ?_⟩
    · rcases List.mem_cons.1 hx with rfl | hx
      · omega
      · exact h2 x hx
    · rcases h3 with h3 | h3
      · by_cases h : a ≤ y
        · exact .inl (by rw [h3]; omega)
        · exact .inr (List.mem_cons.2 (.inl (by rw [h3]; omega)))
      · exact .inr (List.mem_cons.2 (.inr h3))
theorem maxOf_spec (l : List Int) (h : 0 < l.length) : (∀ x ∈ l, x ≤ Lib.maxOf l) ∧ Lib.maxOf l ∈ l := by
  cases l with
  | nil => simp at h
  | cons y l =>
    unfold Lib.maxOf
    obtain ⟨h1, h2, h3⟩ := foldl_max_ge (y :: l) y
    refine ⟨h2, ?_⟩
    rcases h3 with h3 | h3
    · show (y :: l).foldl max y ∈ y :: l
      rw [h3]; simp
    · exact h3
theorem minOf_spec (l : List Int) (h : 0 < l.length) : (∀ x ∈ l, Lib.minOf l ≤ x) ∧ Lib.minOf l ∈ l := by
  cases l with
  | nil => simp at h
  | cons y l =>
    unfold Lib.minOf
    obtain ⟨h1, h2, h3⟩ := foldl_min_le (y :: l) y
    refine ⟨h2, ?_⟩
    rcases h3 with h3 | h3
    · show (y :: l).foldl min y ∈ y :: l
      rw [h3]; simp
    · exact h3

/-- The counts of the different windows have the reference's greatest and least. -/
theorem counts_max (n : Int) (bs : List Int) (k m : Nat) (hm : 0 < m) : Lib.maxOf ((allD n bs k m).map xcnt) = highN n bs k m ∧ Lib.minOf ((allD n bs k m).map xcnt) = lowN n bs k m := by
  have hpos : 0 < ((allD n bs k m).map xcnt).length := by
    rw [List.length_map]
    exact List.length_pos_of_mem ((allD_mem n bs k m _).2 ⟨0, hm, rfl⟩)
  have hmem : ∀ x, x ∈ (allD n bs k m).map xcnt ↔ ∃ p, p < m ∧ x = nCnt n bs p k := by
    intro x
    rw [List.mem_map]
    constructor
    · rintro ⟨l, hl, rfl⟩
      obtain ⟨p, hp, rfl⟩ := (allD_mem n bs k m l).1 hl
      exact ⟨p, hp, nCnt_x n bs p k⟩
    · rintro ⟨p, hp, rfl⟩
      exact ⟨winL n bs p k, (allD_mem n bs k m _).2 ⟨p, hp, rfl⟩, nCnt_x n bs p k⟩
  obtain ⟨a1, a2⟩ := maxOf_spec _ hpos
  obtain ⟨b1, b2⟩ := minOf_spec _ hpos
  obtain ⟨p, hp, e1⟩ := (hmem _).1 a2
  obtain ⟨q, hq, e2⟩ := (hmem _).1 b2
  obtain ⟨p', hp', e3⟩ := highN_is n bs k m hm
  obtain ⟨q', hq', e4⟩ := lowN_is n bs k m hm
  constructor
  · have h1 := a1 _ ((hmem _).2 ⟨p', hp', rfl⟩)
    have h2 := highN_ge n bs k m p hp
    omega
  · have h1 := b1 _ ((hmem _).2 ⟨q', hq', rfl⟩)
    have h2 := lowN_le n bs k m q hq
    omega
def unbB (n : Int) (bs : List Int) (k m : Nat) : Bool := decide (1 < (highN n bs k m : Int) - lowN n bs k m)

noncomputable def balV (n : Int) (bs : List Int) : Bool := rhB n bs && (List.range n.toNat).all (fun k => k == 0 || !unbB n bs k n.toNat)
theorem balV_no {N k : Nat} {bs : List Int} (h1 : 1 ≤ k) (h2 : k < N) (h : unbB N bs k N = true) : balV N bs = false := by
  cases hb : balV N bs
  · rfl
  · exfalso
    unfold balV at hb
    rw [Bool.and_eq_true, List.all_eq_true, Int.toNat_natCast] at hb
    have := hb.2 k (List.mem_range.2 h2)
    rw [h] at this
    simp at this
    omega
theorem balV_yes {N : Nat} {bs : List Int} (hr : rhB N bs = true) (h : ∀ k, k < N → 1 ≤ k → unbB N bs k N = false) : balV N bs = true := by
  unfold balV
  rw [Bool.and_eq_true, List.all_eq_true, Int.toNat_natCast]
  refine ⟨hr, fun k hk => ?_⟩
  by_cases h0 : k = 0
  · subst h0; rfl
  · rw [h k (List.mem_range.1 hk) (by omega)]; simp
theorem balV_bad {n : Int} {bs : List Int} (h : rhB n bs = false) : balV n bs = false := by unfold balV; rw [h]; rfl

end Go.Proofs.YthookknmeajojaaGreatDoor

namespace Go.Proofs.YthookknmeajojaaGreatDoor
set_option linter.unusedVariables false
set_option linter.unusedSimpArgs false

section
variable {N : Nat} {a : List Int}

theorem ext_lt (h : RhOk N a) (hk : 1 ≤ a.length) {u v : Int} (huv : extB N a u < extB N a v) : u < v := by
  apply Classical.byContradiction
  intro hn
  have := ext_ge h hk (show v ≤ u by omega)
  omega

/-- A window of L pulses from p on, t the first beat at p or behind it. -/
theorem cnt_win (h : RhOk N a) (hk : 1 ≤ a.length) (p : Nat) (t : Int) (h1 : extB N a (t - 1) < p) (h2 : p ≤ extB N a t) :
    ∀ L : Nat, extB N a (t + nCnt N a p L - 1) < p + L ∧ (p : Int) + L ≤ extB N a (t + nCnt N a p L)
  | 0 => by
    have e0 : nCnt (N : Int) a p 0 = 0 := rfl
    rw [e0]
    simp only [Int.natCast_zero, Int.add_zero]
    exact ⟨h1, h2⟩
  | L + 1 => by
    obtain ⟨i1, i2⟩ := cnt_win h hk p t h1 h2 L
    have e : nCnt (N : Int) a p (L + 1) = nCnt N a p L + if hasB a (((p + L : Nat) : Int) % N) then 1 else 0 := rfl
    have hm := mem_ext h hk ((p + L : Nat) : Int)
    generalize nCnt (N : Int) a p L = c at *
    have ec : ((p + L : Nat) : Int) = p + L := by omega
    by_cases hb : hasB a (((p + L : Nat) : Int) % N) = true
    · have e1 : nCnt (N : Int) a p (L + 1) = c + 1 := by rw [e, if_pos hb]
      obtain ⟨u, hu⟩ := hm.1 (by simpa [hasB] using hb)
      have l1 := ext_lt h hk (u := t + c - 1) (v := u) (by omega)
      have l2 : u ≤ t + c := by
        apply Classical.byContradiction
        intro hn
        have := ext_ge h hk (show t + c ≤ u by omega)
        have := ext_step h hk (t + c)
        have := ext_ge h hk (show t + c + 1 ≤ u by omega)
        omega
      have eu : u = t + c := by omega
      subst eu
      have s1 := ext_step h hk (t + c)
      rw [e1]
      have x1 : t + ((c + 1 : Nat) : Int) - 1 = t + c := by omega
      have x2 : t + ((c + 1 : Nat) : Int) = t + c + 1 := by omega
      rw [x1, x2]
      omega
    · have e1 : nCnt (N : Int) a p (L + 1) = c := by rw [e, if_neg hb]; rfl
      rw [e1]
      have hne : extB N a (t + c) ≠ p + L := fun hx => hb (by
        have := hm.2 ⟨t + c, by rw [hx, ec]⟩
        simpa [hasB] using this)
      omega

theorem win_start (h : RhOk N a) (hk : 1 ≤ a.length) (p : Nat) : ∃ t, extB N a (t - 1) < p ∧ (p : Int) ≤ extB N a t := by
  have h0 : extB N a (-(a.length : Int)) < 0 := by
    have hp := extB_perd N a hk (-(a.length : Int))
    rw [show -(a.length : Int) + (a.length : Int) = ((0 : Nat) : Int) by omega] at hp
    have := ext_range h 0 (by omega)
    omega
  have hm : ∀ m : Nat, (p : Int) ≤ extB N a (-(a.length : Int) + m) → ∃ t, extB N a (t - 1) < p ∧ (p : Int) ≤ extB N a t := by
    intro m
    induction m with
    | zero => intro hx; simp at hx; omega
    | succ m ih =>
      intro hx
      by_cases hc : (p : Int) ≤ extB N a (-(a.length : Int) + m)
      · exact ih hc
      · exact ⟨-(a.length : Int) + ((m + 1 : Nat) : Int), by rw [show -(a.length : Int) + ((m + 1 : Nat) : Int) - 1 = -(a.length : Int) + m by omega]; omega, hx⟩
  refine hm (p + a.length) ?_
  have := ext_mono h hk ((0 : Nat) : Int) p
  have := ext_range h 0 (by omega)
  rw [show -(a.length : Int) + ((p + a.length : Nat) : Int) = ((0 : Nat) : Int) + p by omega]
  omega

/-- All windows of a length have nearly as many beats. -/
def BalP (N : Nat) (a : List Int) : Prop := ∀ L, 1 ≤ L → L < N → ∀ p q, p < N → q < N → nCnt N a p L ≤ nCnt N a q L + 1

theorem unb_iff (N : Nat) (a : List Int) (L : Nat) (hN : 0 < N) : unbB N a L N = false ↔ ∀ p q, p < N → q < N → nCnt N a p L ≤ nCnt N a q L + 1 := by
  unfold unbB
  rw [decide_eq_false_iff_not]
  obtain ⟨p0, hp0, e0⟩ := highN_is N a L N hN
  obtain ⟨q0, hq0, e1⟩ := lowN_is N a L N hN
  constructor
  · intro hn p q hp hq
    have := highN_ge N a L N p hp
    have := lowN_le N a L N q hq
    omega
  · intro hall
    have := hall p0 q0 hp0 hq0
    omega
theorem balV_iff (h : RhOk N a) : balV N a = true ↔ BalP N a := by
  have hN : 0 < N := by have := h.1; omega
  constructor
  · intro hb L h1 h2
    refine (unb_iff N a L hN).1 ?_
    cases hu : unbB N a L N
    · rfl
    · rw [balV_no h1 h2 hu] at hb; cases hb
  · intro hb
    exact balV_yes (rhB_iff.2 h) fun k h1 h2 => (unb_iff N a k hN).2 (hb k h2 h1)

theorem even_of_bal (h : RhOk N a) (hk : 1 ≤ a.length) (hb : BalP N a) : evnB (stepsL N a) = true := by
  have hn1 : (1 : Int) ≤ N := h.1
  rw [evnB_def]
  intro j j1 j2
  rw [stepsL_len] at j2
  rw [evT_iff (by rw [stepsL_len]; exact hk)]
  intro i i' hi hi'
  rw [stepsL_len] at hi hi'
  rw [span_ext h hk, span_ext h hk]
  apply Classical.byContradiction
  intro hn
  have hp := extB_perd N a hk
  have r1 := ext_range h i hi
  have r2 := ext_range h i' hi'
  obtain ⟨p1, hp1⟩ := Int.eq_ofNat_of_zero_le r2.1
  have m1 := ext_mono h hk (i' : Int) j
  have g1 := ext_ge h hk (show (i : Int) + j ≤ i + a.length by omega)
  have g2 := hp i
  obtain ⟨s', hs'⟩ := Int.eq_ofNat_of_zero_le (show 0 ≤ extB N a (i' + j) - extB N a i' by omega)
  have hL : s' + 1 < N := by omega
  have w1 := (cnt_win h hk p1 i' (by rw [← hp1]; have := ext_step h hk ((i' : Int) - 1); rw [show (i' : Int) - 1 + 1 = i' by omega] at this; omega) (by omega) (s' + 1)).2
  have c1 : (j : Int) < nCnt N a p1 (s' + 1) := by
    have := ext_lt h hk (u := i' + j) (v := i' + nCnt N a p1 (s' + 1)) (by omega)
    omega
  obtain ⟨q, d, hq, hqN⟩ : ∃ q d : Nat, (q : Int) = extB N a i + 1 - d * N ∧ q < N := by
    by_cases hl : extB N a i + 1 < N
    · obtain ⟨q, hq⟩ := Int.eq_ofNat_of_zero_le (show 0 ≤ extB N a i + 1 by omega)
      exact ⟨q, 0, by simp; omega, by omega⟩
    · exact ⟨0, 1, by simp; omega, by omega⟩
  have sh : ∀ t : Int, extB N a (t - d * a.length) = extB N a t - d * N := fun t => (hp.mul t d).2
  have w2 := (cnt_win h hk q (i + 1 - d * a.length) (by rw [show (i : Int) + 1 - d * a.length - 1 = i - d * a.length by omega, sh]; omega) (by rw [sh]; have := ext_step h hk (i : Int); omega) (s' + 1)).1
  have c2 : (nCnt N a q (s' + 1) : Int) < j := by
    have e := sh (i + nCnt N a q (s' + 1))
    rw [show (i : Int) + 1 - d * a.length + nCnt N a q (s' + 1) - 1 = i + nCnt N a q (s' + 1) - d * a.length by omega, e] at w2
    have := ext_lt h hk (u := i + nCnt N a q (s' + 1)) (v := i + j) (by omega)
    omega
  have := hb (s' + 1) (by omega) hL p1 q (by omega) hqN
  omega

theorem ext_red (t : Int) (hk : 1 ≤ a.length) : ∃ (i : Nat) (q : Int), i < a.length ∧ t = i + q * a.length ∧ ∀ j : Int, extB N a (t + j) = extB N a (i + j) + q * N := by
  have h0 := Int.emod_nonneg t (show (a.length : Int) ≠ 0 by omega)
  have h1 := Int.emod_lt_of_pos t (show (0 : Int) < a.length by omega)
  have h2 := Int.emod_add_mul_ediv t a.length
  obtain ⟨i, hi⟩ := Int.eq_ofNat_of_zero_le h0
  have e : t = i + t / a.length * a.length := by rw [Int.mul_comm (t / a.length)]; omega
  refine ⟨i, t / a.length, by omega, e, fun j => ?_⟩
  have ej : t + j = (i + j) + t / a.length * a.length := by omega
  rw [ej]
  generalize t / (a.length : Int) = q
  unfold extB
  rw [Int.add_mul_emod_self_right, Int.add_mul_ediv_right _ _ (by omega), Int.add_mul]
  omega

theorem bal_of_even (h : RhOk N a) (hk : 1 ≤ a.length) (hev : evnB (stepsL N a) = true) : BalP N a := by
  intro L h1 h2 p q hp hq
  apply Classical.byContradiction
  intro hn
  obtain ⟨t1, s1, s2⟩ := win_start h hk p
  obtain ⟨t2, u1, u2⟩ := win_start h hk q
  have w1 := (cnt_win h hk p t1 s1 s2 L).1
  have w2 := (cnt_win h hk q t2 u1 u2 L).2
  generalize nCnt (N : Int) a p L = c1 at *
  generalize nCnt (N : Int) a q L = c2 at *
  have pd := extB_perd N a hk
  have c1k : (c1 : Int) - 1 < a.length := by
    have g := pd t1
    have := ext_lt h hk (u := t1 + c1 - 1) (v := t1 + a.length) (by omega)
    omega
  obtain ⟨i, x, hi, ei, fi⟩ := ext_red (N := N) t1 hk
  obtain ⟨i', y, hi', ei', fi'⟩ := ext_red (N := N) (t2 - 1) hk
  have hj := (evT_iff (S := stepsL N a) (by rw [stepsL_len]; exact hk) (c2 + 1)).1 ((evnB_def _).1 hev (c2 + 1) (by omega) (by rw [stepsL_len]; omega)) i' i (by rw [stepsL_len]; exact hi') (by rw [stepsL_len]; exact hi)
  rw [span_ext h hk, span_ext h hk] at hj
  have a1 := fi 0
  have a2 := fi ((c2 + 1 : Nat) : Int)
  have b1 := fi' 0
  have b2 := fi' ((c2 + 1 : Nat) : Int)
  rw [Int.add_zero, Int.add_zero] at a1 b1
  have e1 : t2 - 1 + ((c2 + 1 : Nat) : Int) = t2 + c2 := by omega
  rw [e1] at b2
  have g1 := ext_ge h hk (show t1 + ((c2 + 1 : Nat) : Int) ≤ t1 + c1 - 1 by omega)
  omega

theorem bal_even (h : RhOk N a) : balV N a = evnB (stepsL N a) := by
  by_cases hk : 1 ≤ a.length
  · rw [Bool.eq_iff_iff, balV_iff h]
    exact ⟨even_of_bal h hk, bal_of_even h hk⟩
  · have ha : a = [] := List.eq_nil_of_length_eq_zero (by omega)
    subst ha
    have e1 : evnB (stepsL N []) = true := by
      rw [evnB_def]
      intro j j1 j2
      rw [stepsL_len] at j2
      simp at j2
    rw [e1, balV_iff h]
    intro L _ _ p q _ _
    have : ∀ L, nCnt (N : Int) [] p L = 0 := by
      intro L
      induction L with
      | zero => rfl
      | succ L ih => unfold nCnt; rw [ih]; simp [hasB]
    rw [this L]
    omega
end

end Go.Proofs.YthookknmeajojaaGreatDoor

namespace Go.Proofs.YthookknmeajojaaGreatDoor
set_option linter.unusedVariables false
set_option linter.unusedSimpArgs false

/-- The mask of places. -/
def orM : List Nat → Nat
  | [] => 0
  | p :: r => 2 ^ p ||| orM r
theorem orM_bit (x : Nat) : ∀ l : List Nat, (orM l).testBit x = decide (x ∈ l)
  | [] => by simp [orM]
  | p :: r => by
    unfold orM
    rw [Nat.testBit_or, orM_bit x r, Nat.testBit_two_pow]
    by_cases h : p = x
    · subst h; simp
    · rw [decide_eq_false h, Bool.false_or]
      simp [List.mem_cons, Ne.symm h]
theorem orM_eq {l r : List Nat} : orM l = orM r ↔ ∀ x, x ∈ l ↔ x ∈ r := by
  constructor
  · intro h x
    have := orM_bit x l
    rw [h, orM_bit x r] at this
    simpa using this.symm
  · intro h
    refine Nat.eq_of_testBit_eq fun x => ?_
    rw [orM_bit, orM_bit]
    simp [h x]

def emask (n k m r : Nat) : Nat := orM ((List.range k).map fun i => ((i * n + m) / k + r) % n)
def memN (m : Nat) : List Nat → Bool
  | [] => false
  | x :: r => Nat.beq x m || memN m r
theorem memN_iff (m : Nat) : ∀ l, memN m l = true ↔ m ∈ l
  | [] => by simp [memN]
  | x :: r => by
    unfold memN
    rw [Bool.or_eq_true, memN_iff m r, List.mem_cons, Nat.beq_eq]
    constructor
    · rintro (h | h)
      · exact .inl h.symm
      · exact .inr h
    · rintro (h | h)
      · exact .inl h.symm
      · exact .inr h

def leafE (s m : Nat) : List (Nat × List Nat) → Bool
  | [] => false
  | x :: _ => bif Nat.blt s x.1 then !memN m x.2 else Nat.beq s x.1 && memN m x.2
/-- All rhythms of n pulses: beats k so far, their sum a, the sum b of their squares, their spread s, their mask m. -/
def dfsE (n : Nat) : Nat → Nat → Nat → Nat → Nat → Nat → Nat → List (Nat × List Nat) → Bool
  | 0, _, _, _, _, s, m, t => leafE s m t
  | f + 1, p, k, a, b, s, m, t => dfsE n f (p + 1) k a b s m t && dfsE n f (p + 1) (k + 1) (a + p) (b + p * p) (s + (n * (k * p) + 2 * p * a - (n * a + k * (p * p) + b))) (2 ^ p ||| m) t.tail
def finS (n : Nat) : List Nat → Nat → Nat → Nat → Nat → Nat
  | [], _, _, _, s => s
  | p :: l, k, a, b, s => finS n l (k + 1) (a + p) (b + p * p) (s + (n * (k * p) + 2 * p * a - (n * a + k * (p * p) + b)))
def finM : List Nat → Nat → Nat
  | [], m => m
  | p :: l, m => finM l (2 ^ p ||| m)
theorem dfs_go (n : Nat) : ∀ f p k a b s m t, dfsE n f p k a b s m t = true → ∀ l : List Nat, l.Pairwise (fun x y => x < y) → (∀ x ∈ l, p ≤ x ∧ x < p + f) → leafE (finS n l k a b s) (finM l m) (t.drop l.length) = true
  | 0, p, k, a, b, s, m, t, h, l, hp, hl => by
    cases l with
    | nil => exact h
    | cons x r => have := hl x (List.mem_cons_self ..); omega
  | f + 1, p, k, a, b, s, m, t, h, l, hp, hl => by
    unfold dfsE at h
    rw [Bool.and_eq_true] at h
    by_cases hx : ∃ r, l = p :: r
    · obtain ⟨r, rfl⟩ := hx
      rw [List.pairwise_cons] at hp
      have := dfs_go n f (p + 1) _ _ _ _ _ _ h.2 r hp.2 (fun x hx => by have := hp.1 x hx; have := hl x (List.mem_cons_of_mem _ hx); omega)
      rw [List.drop_tail] at this
      exact this
    · refine dfs_go n f (p + 1) _ _ _ _ _ _ h.1 l hp (fun x hx' => ?_)
      have h1 := hl x hx'
      have hne : x ≠ p := fun e => by
        subst e
        cases l with
        | nil => cases hx'
        | cons y r =>
          have hy := hl y (List.mem_cons_self ..)
          rw [List.pairwise_cons] at hp
          rcases List.mem_cons.1 hx' with e | e
          · exact hx ⟨r, by rw [e]⟩
          · have := hp.1 x e; omega
      omega
theorem finM_or : ∀ (l : List Nat) (m : Nat), finM l m = orM l ||| m
  | [], m => by simp [finM, orM]
  | p :: l, m => by
    unfold finM orM
    rw [finM_or l, ← Nat.or_assoc, Nat.or_comm (orM l)]

/-- For each number of beats: the greatest spread, and the even rhythms' masks. -/
def tabE : Nat → List (Nat × List Nat)
  | 1 => [(0, [0]), (0, [1])]
  | 2 => [(0, [0, 0]), (0, [1, 2]), (1, [3, 3])]
  | 3 => [(0, [0, 0, 0]), (0, [1, 2, 4]), (2, [3, 6, 5]), (6, [7, 7, 7])]
  | 4 => [(0, [0, 0, 0, 0]), (0, [1, 2, 4, 8]), (4, [5, 10, 5, 10]), (10, [7, 14, 13, 11]), (20, [15, 15, 15, 15])]
  | 5 => [(0, [0, 0, 0, 0, 0]), (0, [1, 2, 4, 8, 16]), (6, [5, 10, 20, 9, 18]), (16, [11, 22, 13, 26, 21]), (30, [15, 30, 29, 27, 23]), (50, [31, 31, 31, 31, 31])]
  | 6 => [(0, [0, 0, 0, 0, 0, 0]), (0, [1, 2, 4, 8, 16, 32]), (9, [9, 18, 36, 9, 18, 36]), (24, [21, 42, 21, 42, 21, 42]), (44, [27, 54, 45, 27, 54, 45]), (70, [31, 62, 61, 59, 55, 47]), (105, [63, 63, 63, 63, 63, 63])]
  | 7 => [(0, [0, 0, 0, 0, 0, 0, 0]), (0, [1, 2, 4, 8, 16, 32, 64]), (12, [9, 18, 36, 72, 17, 34, 68]), (32, [21, 42, 84, 41, 82, 37, 74]), (60, [43, 86, 45, 90, 53, 106, 85]), (96, [55, 110, 93, 59, 118, 109, 91]), (140, [63, 126, 125, 123, 119, 111, 95]), (196, [127, 127, 127, 127, 127, 127, 127])]
  | 8 => [(0, [0, 0, 0, 0, 0, 0, 0, 0]), (0, [1, 2, 4, 8, 16, 32, 64, 128]), (16, [17, 34, 68, 136, 17, 34, 68, 136]), (42, [37, 74, 148, 41, 82, 164, 73, 146]), (80, [85, 170, 85, 170, 85, 170, 85, 170]), (126, [91, 182, 109, 218, 181, 107, 214, 173]), (184, [119, 238, 221, 187, 119, 238, 221, 187]), (252, [127, 254, 253, 251, 247, 239, 223, 191]), (336, [255, 255, 255, 255, 255, 255, 255, 255])]
  | 9 => [(0, [0, 0, 0, 0, 0, 0, 0, 0, 0]), (0, [1, 2, 4, 8, 16, 32, 64, 128, 256]), (20, [17, 34, 68, 136, 272, 33, 66, 132, 264]), (54, [73, 146, 292, 73, 146, 292, 73, 146, 292]), (100, [85, 170, 340, 169, 338, 165, 330, 149, 298]), (160, [171, 342, 173, 346, 181, 362, 213, 426, 341]), (234, [219, 438, 365, 219, 438, 365, 219, 438, 365]), (320, [239, 478, 445, 379, 247, 494, 477, 443, 375]), (420, [255, 510, 509, 507, 503, 495, 479, 447, 383]), (540, [511, 511, 511, 511, 511, 511, 511, 511, 511])]
  | 10 => [(0, [0, 0, 0, 0, 0, 0, 0, 0, 0, 0]), (0, [1, 2, 4, 8, 16, 32, 64, 128, 256, 512]), (25, [33, 66, 132, 264, 528, 33, 66, 132, 264, 528]), (66, [73, 146, 292, 584, 145, 290, 580, 137, 274, 548]), (124, [165, 330, 660, 297, 594, 165, 330, 660, 297, 594]), (200, [341, 682, 341, 682, 341, 682, 341, 682, 341, 682]), (289, [363, 726, 429, 858, 693, 363, 726, 429, 858, 693]), (396, [439, 878, 733, 443, 886, 749, 475, 950, 877, 731]), (520, [495, 990, 957, 891, 759, 495, 990, 957, 891, 759]), (660, [511, 1022, 1021, 1019, 1015, 1007, 991, 959, 895, 767]), (825, [1023, 1023, 1023, 1023, 1023, 1023, 1023, 1023, 1023, 1023])]
  | 11 => [(0, [0, 0, 0, 0, 0, 0, 0, 0, 0, 0, 0]), (0, [1, 2, 4, 8, 16, 32, 64, 128, 256, 512, 1024]), (30, [33, 66, 132, 264, 528, 1056, 65, 130, 260, 520, 1040]), (80, [137, 274, 548, 1096, 145, 290, 580, 1160, 273, 546, 1092]), (150, [293, 586, 1172, 297, 594, 1188, 329, 658, 1316, 585, 1170]), (240, [341, 682, 1364, 681, 1362, 677, 1354, 661, 1322, 597, 1194]), (350, [683, 1366, 685, 1370, 693, 1386, 725, 1450, 853, 1706, 1365]), (480, [731, 1462, 877, 1754, 1461, 875, 1750, 1453, 859, 1718, 1389]), (630, [887, 1774, 1501, 955, 1910, 1773, 1499, 951, 1902, 1757, 1467]), (800, [991, 1982, 1917, 1787, 1527, 1007, 2014, 1981, 1915, 1783, 1519]), (990, [1023, 2046, 2045, 2043, 2039, 2031, 2015, 1983, 1919, 1791, 1535]), (1210, [2047, 2047, 2047, 2047, 2047, 2047, 2047, 2047, 2047, 2047, 2047])]
  | 12 => [(0, [0, 0, 0, 0, 0, 0, 0, 0, 0, 0, 0, 0]), (0, [1, 2, 4, 8, 16, 32, 64, 128, 256, 512, 1024, 2048]), (36, [65, 130, 260, 520, 1040, 2080, 65, 130, 260, 520, 1040, 2080]), (96, [273, 546, 1092, 2184, 273, 546, 1092, 2184, 273, 546, 1092, 2184]), (180, [585, 1170, 2340, 585, 1170, 2340, 585, 1170, 2340, 585, 1170, 2340]), (286, [661, 1322, 2644, 1193, 2386, 677, 1354, 2708, 1321, 2642, 1189, 2378]), (420, [1365, 2730, 1365, 2730, 1365, 2730, 1365, 2730, 1365, 2730, 1365, 2730]), (572, [1387, 2774, 1453, 2906, 1717, 3434, 2773, 1451, 2902, 1709, 3418, 2741]), (752, [1755, 3510, 2925, 1755, 3510, 2925, 1755, 3510, 2925, 1755, 3510, 2925]), (954, [1911, 3822, 3549, 3003, 1911, 3822, 3549, 3003, 1911, 3822, 3549, 3003]), (1180, [2015, 4030, 3965, 3835, 3575, 3055, 2015, 4030, 3965, 3835, 3575, 3055]), (1430, [2047, 4094, 4093, 4091, 4087, 4079, 4063, 4031, 3967, 3839, 3583, 3071]), (1716, [4095, 4095, 4095, 4095, 4095, 4095, 4095, 4095, 4095, 4095, 4095, 4095])]
  | 13 => [(0, [0, 0, 0, 0, 0, 0, 0, 0, 0, 0, 0, 0, 0]), (0, [1, 2, 4, 8, 16, 32, 64, 128, 256, 512, 1024, 2048, 4096]), (42, [65, 130, 260, 520, 1040, 2080, 4160, 129, 258, 516, 1032, 2064, 4128]), (112, [273, 546, 1092, 2184, 4368, 545, 1090, 2180, 4360, 529, 1058, 2116, 4232]), (210, [585, 1170, 2340, 4680, 1169, 2338, 4676, 1161, 2322, 4644, 1097, 2194, 4388]), (336, [1189, 2378, 4756, 1321, 2642, 5284, 2377, 4754, 1317, 2634, 5268, 2345, 4690]), (490, [1365, 2730, 5460, 2729, 5458, 2725, 5450, 2709, 5418, 2645, 5290, 2389, 4778]), (672, [2731, 5462, 2733, 5466, 2741, 5482, 2773, 5546, 2901, 5802, 3413, 6826, 5461]), (882, [2907, 5814, 3437, 6874, 5557, 2923, 5846, 3501, 7002, 5813, 3435, 6870, 5549]), (1120, [3511, 7022, 5853, 3515, 7030, 5869, 3547, 7094, 5997, 3803, 7606, 7021, 5851]), (1386, [3823, 7646, 7101, 6011, 3831, 7662, 7133, 6075, 3959, 7918, 7645, 7099, 6007]), (1680, [4031, 8062, 7933, 7675, 7159, 6127, 4063, 8126, 8061, 7931, 7671, 7151, 6111]), (2002, [4095, 8190, 8189, 8187, 8183, 8175, 8159, 8127, 8063, 7935, 7679, 7167, 6143]), (2366, [8191, 8191, 8191, 8191, 8191, 8191, 8191, 8191, 8191, 8191, 8191, 8191, 8191])]
  | 14 => [(0, [0, 0, 0, 0, 0, 0, 0, 0, 0, 0, 0, 0, 0, 0]), (0, [1, 2, 4, 8, 16, 32, 64, 128, 256, 512, 1024, 2048, 4096, 8192]), (49, [129, 258, 516, 1032, 2064, 4128, 8256, 129, 258, 516, 1032, 2064, 4128, 8256]), (130, [529, 1058, 2116, 4232, 8464, 545, 1090, 2180, 4360, 8720, 1057, 2114, 4228, 8456]), (244, [1161, 2322, 4644, 9288, 2193, 4386, 8772, 1161, 2322, 4644, 9288, 2193, 4386, 8772]), (390, [2341, 4682, 9364, 2345, 4690, 9380, 2377, 4754, 9508, 2633, 5266, 10532, 4681, 9362]), (569, [2709, 5418, 10836, 5289, 10578, 4773, 9546, 2709, 5418, 10836, 5289, 10578, 4773, 9546]), (784, [5461, 10922, 5461, 10922, 5461, 10922, 5461, 10922, 5461, 10922, 5461, 10922, 5461, 10922]), (1024, [5547, 11094, 5805, 11610, 6837, 13674, 10965, 5547, 11094, 5805, 11610, 6837, 13674, 10965]), (1300, [5851, 11702, 7021, 14042, 11701, 7019, 14038, 11693, 7003, 14006, 11629, 6875, 13750, 11117]), (1609, [7095, 14190, 11997, 7611, 15222, 14061, 11739, 7095, 14190, 11997, 7611, 15222, 14061, 11739]), (1950, [7663, 15326, 14269, 12155, 7927, 15854, 15325, 14267, 12151, 7919, 15838, 15293, 14203, 12023]), (2324, [8127, 16254, 16125, 15867, 15351, 14319, 12255, 8127, 16254, 16125, 15867, 15351, 14319, 12255]), (2730, [8191, 16382, 16381, 16379, 16375, 16367, 16351, 16319, 16255, 16127, 15871, 15359, 14335, 12287]), (3185, [16383, 16383, 16383, 16383, 16383, 16383, 16383, 16383, 16383, 16383, 16383, 16383, 16383, 16383])]
  | _ => []
set_option maxRecDepth 100000 in
theorem tab_masks : ((List.range 14).all fun i => (List.range (i + 2)).all fun k => decide (((tabE (i + 1))[k]?.map Prod.snd) = some ((List.range (i + 1)).map (emask (i + 1) k 0)))) = true := by decide +kernel
set_option maxRecDepth 100000 in
theorem tab_dfs : ((List.range 14).all fun i => dfsE (i + 1) (i + 1) 0 0 0 0 0 0 (tabE (i + 1))) = true := by decide +kernel

/-- The sum over the beats ahead, and the spread. -/
def innS (n : Int) (bs : List Int) (p : Int) : Nat → Int
  | 0 => 0
  | j + 1 => innS n bs p j + (p - bs.getD j 0) * (n + bs.getD j 0 - p)
def sprN (n : Int) (bs : List Int) : Nat → Int
  | 0 => 0
  | i + 1 => sprN n bs i + innS n bs (bs.getD i 0) i
def sprV (n : Int) (bs : List Int) : Int := sprN n bs bs.length

section
variable {N : Nat} {a : List Int}
theorem rhok_lt {n : Int} {bs : List Int} (h : RhOk n bs) {j i : Nat} (hj : j < i) (hi : i < bs.length) : bs.getD j 0 < bs.getD i 0 := by
  have := List.pairwise_iff_getElem.1 (rhok_asc h) j i (by omega) hi hj
  rw [List.getD_eq_getElem?_getD, List.getD_eq_getElem?_getD, List.getElem?_eq_getElem hi, List.getElem?_eq_getElem (by omega : j < bs.length)]
  exact this
def sumA (a : List Int) : Nat → Nat
  | 0 => 0
  | i + 1 => sumA a i + (a.getD i 0).toNat
def sumB (a : List Int) : Nat → Nat
  | 0 => 0
  | i + 1 => sumB a i + (a.getD i 0).toNat * (a.getD i 0).toNat
theorem inn_sum (h : RhOk N a) (p : Int) : ∀ i, i ≤ a.length → innS N a p i = N * (i * p) + 2 * p * sumA a i - (N * sumA a i + i * (p * p) + sumB a i)
  | 0, _ => by simp [innS, sumA, sumB]
  | i + 1, hi => by
    have ih := inn_sum h p i (by omega)
    have hr := h.2.2.1 i (by omega)
    obtain ⟨x, hx⟩ := Int.eq_ofNat_of_zero_le hr.1
    unfold innS sumA sumB
    rw [ih, hx, Int.toNat_natCast]
    push_cast
    grind
theorem inn_nonneg (h : RhOk N a) (i : Nat) (hi : i < a.length) : ∀ j, j ≤ i → 0 ≤ innS N a (a.getD i 0) j
  | 0, _ => Int.le_refl _
  | j + 1, hj => by
    have ih := inn_nonneg h i hi j (by omega)
    have h1 := rhok_lt h (show j < i by omega) hi
    have r1 := h.2.2.1 i hi
    have r2 := h.2.2.1 j (by omega)
    have := Int.mul_nonneg (show 0 ≤ a.getD i 0 - a.getD j 0 by omega) (show 0 ≤ (N : Int) + a.getD j 0 - a.getD i 0 by omega)
    unfold innS
    omega
theorem fin_spr (h : RhOk N a) : ∀ d i, i + d = a.length → 0 ≤ sprN N a i ∧ (finS N ((a.map Int.toNat).drop i) i (sumA a i) (sumB a i) (sprN N a i).toNat : Int) = sprN N a a.length := by
  have hpos : ∀ i, i ≤ a.length → 0 ≤ sprN N a i := by
    intro i
    induction i with
    | zero => intro _; exact Int.le_refl _
    | succ i ih => intro hi; have := ih (by omega); have := inn_nonneg h i (by omega) i (Nat.le_refl _); unfold sprN; omega
  intro d
  induction d with
  | zero =>
    intro i hi
    have e : i = a.length := by omega
    subst e
    rw [List.drop_of_length_le (by simp)]
    have := hpos a.length (Nat.le_refl _)
    exact ⟨this, by unfold finS; omega⟩
  | succ d ih =>
    intro i hi
    have hl : i < (a.map Int.toNat).length := by simp; omega
    rw [List.drop_eq_getElem_cons hl]
    have hg : (a.map Int.toNat)[i] = (a.getD i 0).toNat := by simp [List.getD_eq_getElem?_getD, show i < a.length by omega]
    rw [hg]
    unfold finS
    have ih' := ih (i + 1) (by omega)
    have hr := h.2.2.1 i (by omega)
    obtain ⟨x, hx⟩ := Int.eq_ofNat_of_zero_le hr.1
    have hs := inn_sum h (a.getD i 0) i (by omega)
    have hn := inn_nonneg h i (by omega) i (Nat.le_refl _)
    have hp := hpos i (by omega)
    have e : (sprN N a i).toNat + (N * (i * (a.getD i 0).toNat) + 2 * (a.getD i 0).toNat * sumA a i - (N * sumA a i + i * ((a.getD i 0).toNat * (a.getD i 0).toNat) + sumB a i)) = (sprN N a (i + 1)).toNat := by
      have e1 : sprN N a (i + 1) = sprN N a i + innS N a (a.getD i 0) i := rfl
      rw [e1]
      rw [hx] at hs hn ⊢
      rw [Int.toNat_natCast]
      have e2 : ((N * (i * x) + 2 * x * sumA a i : Nat) : Int) - ((N * sumA a i + i * (x * x) + sumB a i : Nat) : Int) = innS N a x i := by rw [hs]; push_cast; rfl
      omega
    rw [e]
    exact ⟨hp, ih'.2⟩

theorem map_asc (h : RhOk N a) : (a.map Int.toNat).Pairwise (fun x y => x < y) ∧ ∀ x ∈ a.map Int.toNat, 0 ≤ x ∧ x < 0 + N := by
  constructor
  · rw [List.pairwise_map]
    refine List.Pairwise.imp_of_mem (fun {x y} hx hy hxy => ?_) (rhok_asc h)
    have := rhok_range h x hx
    have := rhok_range h y hy
    omega
  · intro x hx
    obtain ⟨y, hy, rfl⟩ := List.mem_map.1 hx
    have := rhok_range h y hy
    omega
theorem mask_rot (h : RhOk N a) (hk : 1 ≤ a.length) (r : Nat) : emask N a.length 0 r = orM (a.map Int.toNat) ↔ a = rotL N (evB N a.length) r := by
  have hn1 : 1 ≤ N := by have := h.1; omega
  have hn2 : N ≤ 24 := by have := h.2.1; omega
  have heo := evB_ok hn1 hn2 (rhok_len h)
  have hin : ∀ x : Nat, x ∈ a.map Int.toNat ↔ (x : Int) ∈ a := fun x => by
    rw [List.mem_map]
    constructor
    · rintro ⟨y, hy, e⟩
      have := rhok_range h y hy
      rw [show (x : Int) = y by omega]; exact hy
    · intro hx; exact ⟨x, hx, by omega⟩
  have hev : ∀ x : Nat, x ∈ ((List.range a.length).map fun i => ((i * N + 0) / a.length + r) % N) ↔ ∃ y ∈ evB N a.length, (y + r) % N = x := fun x => by
    unfold evB evL
    simp only [List.mem_map, List.mem_range]
    constructor
    · rintro ⟨i, hi, e⟩
      exact ⟨_, ⟨i, hi, rfl⟩, by rw [← e, Int.natCast_emod, Int.natCast_add]⟩
    · rintro ⟨y, ⟨i, hi, rfl⟩, e⟩
      rw [← Int.natCast_add, ← Int.natCast_emod] at e
      exact ⟨i, hi, Int.natCast_inj.1 e⟩
  have hmem : ∀ x : Nat, x < N → ((∃ y ∈ evB N a.length, (y + r) % N = x) ↔ (x : Int) ∈ rotL N (evB N a.length) r) := fun x hx => by
    rw [rot_mem (by omega) (by omega)]
    constructor
    · rintro ⟨y, hy, e⟩
      have hy2 := rhok_range heo y hy
      rw [← e, Int.emod_sub_emod, Int.add_sub_cancel, Int.emod_eq_of_lt hy2.1 hy2.2]
      exact hy
    · intro hy
      refine ⟨_, hy, ?_⟩
      rw [Int.emod_add_emod, Int.sub_add_cancel, Int.emod_eq_of_lt (by omega) (by omega)]
  unfold emask
  rw [orM_eq]
  constructor
  · intro hall
    refine asc_unique (rhok_asc h) (rotL_sorted N _ r) fun x => ?_
    constructor
    · intro hx
      have hr := rhok_range h x hx
      obtain ⟨t, ht⟩ := Int.eq_ofNat_of_zero_le hr.1
      subst ht
      exact (hmem t (by omega)).1 ((hev t).1 ((hall t).2 ((hin t).2 hx)))
    · intro hx
      obtain ⟨t, ht, _, rfl⟩ := rotL_mem.1 hx
      exact (hin t).1 ((hall t).1 ((hev t).2 ((hmem t ht).2 hx)))
  · intro he x
    rw [hev, hin]
    constructor
    · rintro ⟨y, hy, e⟩
      have hx : x < N := by
        have := Int.emod_lt_of_pos (y + r) (show (0 : Int) < N by omega)
        omega
      rw [he]
      exact (hmem x hx).1 ⟨y, hy, e⟩
    · intro hx
      have hr := rhok_range h _ hx
      rw [he] at hx
      exact (hmem x (by omega)).2 hx

theorem leaf_of (h : RhOk N a) (hN : N ≤ 14) : ∃ T, ((tabE N)[a.length]?.map Prod.fst) = some T ∧ sprV N a ≤ T ∧ (sprV N a = T ↔ ∃ r, r < N ∧ emask N a.length 0 r = orM (a.map Int.toNat)) := by
  have hn1 : 1 ≤ N := by have := h.1; omega
  have hd := List.all_eq_true.1 tab_dfs (N - 1) (by simp; omega)
  have hm := List.all_eq_true.1 (List.all_eq_true.1 tab_masks (N - 1) (by simp; omega)) a.length (by have := rhok_len h; simp; omega)
  rw [show N - 1 + 1 = N by omega] at hd hm
  have hm := of_decide_eq_true hm
  obtain ⟨hp, hl⟩ := map_asc h
  have hf := dfs_go N N 0 0 0 0 0 0 (tabE N) hd (a.map Int.toNat) hp hl
  have hfs := (fin_spr h a.length 0 (by omega)).2
  simp only [List.drop_zero, sumA, sumB, sprN, Int.toNat_zero] at hfs
  have hfs' : (finS N (a.map Int.toNat) 0 0 0 0 : Int) = sprV N a := hfs
  rw [List.length_map, finM_or, Nat.or_zero] at hf
  generalize finS N (a.map Int.toNat) 0 0 0 0 = S at hf hfs'
  generalize orM (a.map Int.toNat) = M at *
  have hlt : a.length < (tabE N).length := by
    apply Classical.byContradiction
    intro hn
    rw [List.getElem?_eq_none (by omega)] at hm
    cases hm
  rw [List.getElem?_eq_getElem hlt, Option.map_some] at hm
  rw [List.drop_eq_getElem_cons hlt] at hf
  rw [List.getElem?_eq_getElem hlt]
  generalize (tabE N)[a.length] = x at *
  have hm : x.2 = (List.range N).map (emask N a.length 0) := Option.some.inj hm
  refine ⟨x.1, rfl, ?_⟩
  have hin : memN M x.2 = true ↔ ∃ r, r < N ∧ emask N a.length 0 r = M := by
    rw [memN_iff, hm, List.mem_map]
    constructor
    · rintro ⟨r, hr, e⟩; exact ⟨r, List.mem_range.1 hr, e⟩
    · rintro ⟨r, hr, e⟩; exact ⟨r, List.mem_range.2 hr, e⟩
  have hf : (bif Nat.blt S x.1 then !memN M x.2 else Nat.beq S x.1 && memN M x.2) = true := hf
  rw [← hin, ← hfs']
  cases hb : Nat.blt S x.1
  · rw [hb] at hf
    simp only [cond_false, Bool.and_eq_true] at hf
    have := Nat.eq_of_beq_eq_true hf.1
    exact ⟨by omega, fun _ => hf.2, fun _ => by omega⟩
  · rw [hb] at hf
    simp only [cond_true, Bool.not_eq_true'] at hf
    have hlt2 : S < x.1 := by
      have := Nat.le_of_ble_eq_true hb
      omega
    exact ⟨by omega, fun e => by omega, fun e => by rw [hf] at e; cases e⟩

theorem even_empty (N : Nat) : evnB (stepsL N []) = true := by
  rw [evnB_def]
  intro j j1 j2
  rw [stepsL_len] at j2
  simp at j2
theorem mask_even (h : RhOk N a) : (∃ r, r < N ∧ emask N a.length 0 r = orM (a.map Int.toNat)) ↔ evnB (stepsL N a) = true := by
  have hn1 : 1 ≤ N := by have := h.1; omega
  have hn2 : N ≤ 24 := by have := h.2.1; omega
  by_cases hk : 1 ≤ a.length
  · constructor
    · rintro ⟨r, _, e⟩
      have := (mask_rot h hk r).1 e
      rw [this]
      exact rot_even hn1 hn2 (rhok_len h) r
    · intro hev
      obtain ⟨r, hr, e⟩ := ev_rot h hk hev
      exact ⟨r, hr, (mask_rot h hk r).2 e⟩
  · have ha : a = [] := List.eq_nil_of_length_eq_zero (by omega)
    subst ha
    exact ⟨fun _ => even_empty N, fun _ => ⟨0, by omega, rfl⟩⟩
theorem evB_even {k : Nat} (h1 : 1 ≤ N) (h2 : N ≤ 24) (hk : k ≤ N) : evnB (stepsL N (evB N k)) = true := by
  have := rot_even h1 h2 hk 0
  have e : rotL N (evB N k) 0 = evB N k := (rotL_same (evB_ok h1 h2 hk) 0).2 fun t ht => by rw [Int.sub_zero, Int.emod_eq_of_lt (by omega) (by omega)]
  rwa [e] at this
theorem spr_even (h : RhOk N a) (hN : N ≤ 14) : sprV N a ≤ sprV N (evB N a.length) ∧ (sprV N a = sprV N (evB N a.length) ↔ evnB (stepsL N a) = true) := by
  have hn1 : 1 ≤ N := by have := h.1; omega
  have heo := evB_ok hn1 (by omega) (rhok_len h)
  obtain ⟨T, hT, l1, l2⟩ := leaf_of h hN
  obtain ⟨T', hT', m1, m2⟩ := leaf_of heo hN
  rw [evB_len] at hT' m2
  obtain rfl : T = T' := Option.some.inj (hT.symm.trans hT')
  have := mask_even heo
  rw [evB_len] at this
  have e := m2.2 (this.2 (evB_even hn1 (by omega) (rhok_len h)))
  rw [e]
  exact ⟨l1, l2.trans (mask_even h)⟩
end

end Go.Proofs.YthookknmeajojaaGreatDoor

namespace Go.Proofs.YthookknmeajojaaGreatDoor
set_option linter.unusedVariables false
set_option linter.unusedSimpArgs false

section
variable {N : Nat} {a : List Int}
def othL (N : Nat) (a : List Int) (q : Nat) : List Int := ((List.range q).filter fun t : Nat => !hasB a t).map Int.ofNat
theorem othL_yes {q : Nat} (h : hasB a q = false) : othL N a (q + 1) = othL N a q ++ [(q : Int)] := by
  unfold othL; rw [List.range_succ, List.filter_append]; simp [h]
theorem othL_no {q : Nat} (h : hasB a q = true) : othL N a (q + 1) = othL N a q := by
  unfold othL; rw [List.range_succ, List.filter_append]; simp [h]
theorem othL_len (q : Nat) : (othL N a q).length ≤ q := by
  unfold othL
  rw [List.length_map]
  exact Nat.le_trans (List.length_filter_le _ _) (by simp)
theorem othL_mem {q : Nat} {x : Int} : x ∈ othL N a q ↔ ∃ t : Nat, t < q ∧ hasB a t = false ∧ x = t := by
  unfold othL
  rw [List.mem_map]
  constructor
  · rintro ⟨t, ht, rfl⟩
    rw [List.mem_filter, List.mem_range] at ht
    exact ⟨t, ht.1, by simpa using ht.2, rfl⟩
  · rintro ⟨t, h1, h2, rfl⟩
    exact ⟨t, List.mem_filter.2 ⟨List.mem_range.2 h1, by simpa using h2⟩, rfl⟩
theorem othL_asc (q : Nat) : (othL N a q).Pairwise (fun x y => x < y) := by
  unfold othL
  rw [List.pairwise_map]
  exact List.Pairwise.imp (fun {a b} h => Int.ofNat_lt.2 h) (List.Pairwise.filter _ List.pairwise_lt_range)
theorem asc_rhok {l : List Int} (h1 : 1 ≤ N) (h2 : N ≤ 24) (ha : l.Pairwise (fun x y => x < y)) (hr : ∀ x ∈ l, 0 ≤ x ∧ x < N) : RhOk N l := by
  refine ⟨by omega, by omega, fun i hi => ?_, fun i hi => ?_⟩
  · rw [List.getD_eq_getElem?_getD, List.getElem?_eq_getElem hi]; exact hr _ (List.getElem_mem hi)
  · have := List.pairwise_iff_getElem.1 ha i (i + 1) (by omega) hi (by omega)
    rw [List.getD_eq_getElem?_getD, List.getD_eq_getElem?_getD, List.getElem?_eq_getElem hi, List.getElem?_eq_getElem (by omega : i < l.length)]
    exact this
theorem oth_ok (h : RhOk N a) : RhOk N (othL N a N) := by
  have h1 := h.1
  have h2 := h.2.1
  refine asc_rhok (by omega) (by omega) (othL_asc N) fun x hx => ?_
  obtain ⟨t, ht, _, rfl⟩ := othL_mem.1 hx
  omega
theorem oth_has {x : Int} (h0 : 0 ≤ x) (h1 : x < N) : hasB (othL N a N) x = !hasB a x := by
  obtain ⟨t, ht⟩ := Int.eq_ofNat_of_zero_le h0
  subst ht
  cases hb : hasB a (t : Int)
  · have : (t : Int) ∈ othL N a N := othL_mem.2 ⟨t, by omega, hb, rfl⟩
    unfold hasB
    rw [decide_eq_true this]; rfl
  · have : ¬ (t : Int) ∈ othL N a N := fun hm => by
      obtain ⟨u, _, hu, e⟩ := othL_mem.1 hm
      rw [← e, hb] at hu; cases hu
    unfold hasB
    rw [decide_eq_false this]; rfl
theorem oth_cnt (hN : 1 ≤ N) (p : Nat) : ∀ L, nCnt N (othL N a N) p L + nCnt N a p L = L
  | 0 => rfl
  | L + 1 => by
    have ih := oth_cnt hN p L
    have e := oth_has (a := a) (Int.emod_nonneg ((p + L : Nat) : Int) (show (N : Int) ≠ 0 by omega)) (Int.emod_lt_of_pos ((p + L : Nat) : Int) (show (0 : Int) < N by omega))
    unfold nCnt
    rw [e]
    cases hasB a (((p + L : Nat) : Int) % N) <;> simp <;> omega
theorem oth_even (h : RhOk N a) : evnB (stepsL N (othL N a N)) = evnB (stepsL N a) := by
  have hN : 1 ≤ N := by have := h.1; omega
  rw [← bal_even (oth_ok h), ← bal_even h, Bool.eq_iff_iff, balV_iff (oth_ok h), balV_iff h]
  constructor
  · intro hb L l1 l2 p q hp hq
    have := hb L l1 l2 q p hq hp
    have := oth_cnt (a := a) hN p L
    have := oth_cnt (a := a) hN q L
    omega
  · intro hb L l1 l2 p q hp hq
    have := hb L l1 l2 q p hq hp
    have := oth_cnt (a := a) hN p L
    have := oth_cnt (a := a) hN q L
    omega

/-- Some rotation of a is b. -/
def rotP (N : Nat) (a b : List Int) : Prop := ∃ r : Nat, r < N ∧ rotL N a r = b
theorem rotL_rotL (h : RhOk N a) (r s : Int) : rotL N (rotL N a r) s = rotL N a (r + s) := by
  have hN : (1 : Int) ≤ N := h.1
  refine asc_unique (rotL_sorted N _ s) (rotL_sorted N _ (r + s)) fun x => ?_
  constructor
  · intro hx
    obtain ⟨t, ht, hb, rfl⟩ := rotL_mem.1 hx
    have hb : ((t : Int) - s) % N ∈ rotL N a r := by simpa [hasB] using hb
    rw [rot_mem (Int.emod_nonneg _ (by omega)) (Int.emod_lt_of_pos _ (by omega)), Int.emod_sub_emod] at hb
    rw [rot_mem (by omega) (by omega)]
    rwa [show (t : Int) - (r + s) = t - s - r by omega]
  · intro hx
    obtain ⟨t, ht, hb, rfl⟩ := rotL_mem.1 hx
    have hb : ((t : Int) - (r + s)) % N ∈ a := by simpa [hasB] using hb
    rw [rot_mem (by omega) (by omega), rot_mem (Int.emod_nonneg _ (by omega)) (Int.emod_lt_of_pos _ (by omega)), Int.emod_sub_emod]
    rwa [show (t : Int) - s - r = t - (r + s) by omega]
theorem rotL_mod (h : RhOk N a) (r : Int) : rotL N a r = rotL N a (r % N) := by
  have hN : (1 : Int) ≤ N := h.1
  refine asc_unique (rotL_sorted N _ r) (rotL_sorted N _ _) fun x => ?_
  have e : ∀ t : Int, (t - r) % N = (t - r % N) % N := fun t => by rw [Int.sub_emod, Int.sub_emod t (r % N), Int.emod_emod]
  constructor
  · intro hx
    obtain ⟨t, ht, hb, rfl⟩ := rotL_mem.1 hx
    rw [rot_mem (by omega) (by omega), ← e]
    simpa [hasB] using hb
  · intro hx
    obtain ⟨t, ht, hb, rfl⟩ := rotL_mem.1 hx
    rw [rot_mem (by omega) (by omega), e]
    simpa [hasB] using hb
theorem rotL_nil (N : Nat) (r : Int) : rotL N [] r = [] := by
  cases h : rotL N [] r with
  | nil => rfl
  | cons x l =>
    have hx : x ∈ rotL N [] r := by rw [h]; exact List.mem_cons_self ..
    obtain ⟨t, _, hb, _⟩ := rotL_mem.1 hx
    simp [hasB] at hb
theorem rotP_of (h : RhOk N a) (r : Int) : rotP N a (rotL N a r) := by
  have hN : (1 : Int) ≤ N := h.1
  have h0 := Int.emod_nonneg r (show (N : Int) ≠ 0 by omega)
  have h1 := Int.emod_lt_of_pos r (show (0 : Int) < N by omega)
  obtain ⟨q, hq⟩ := Int.eq_ofNat_of_zero_le h0
  exact ⟨q, by omega, by rw [rotL_mod h r, hq]⟩
theorem rotP_symm {b : List Int} (h : RhOk N a) (hr : rotP N a b) : rotP N b a := by
  obtain ⟨r, _, rfl⟩ := hr
  have := rotP_of (rotL_ok h r).1 (-(r : Int))
  rwa [rotL_rotL h, show (r : Int) + -(r : Int) = 0 by omega, (rotL_same h 0).2 fun t ht => by rw [Int.sub_zero, Int.emod_eq_of_lt (by omega) (by omega)]] at this
/-- Even exactly if some rotation leads to the even rhythm of so many beats, or from it. -/
theorem even_rot (h : RhOk N a) : evnB (stepsL N a) = true ↔ rotP N a (evB N a.length) := by
  have hn1 : 1 ≤ N := by have := h.1; omega
  have hn2 : N ≤ 24 := by have := h.2.1; omega
  have heo := evB_ok hn1 hn2 (rhok_len h)
  constructor
  · intro he
    by_cases hk : 1 ≤ a.length
    · obtain ⟨r, hr, e⟩ := ev_rot h hk he
      exact rotP_symm heo ⟨r, hr, e.symm⟩
    · have ha : a = [] := List.eq_nil_of_length_eq_zero (by omega)
      subst ha
      exact ⟨0, by omega, rotL_nil N _⟩
  · intro hr
    obtain ⟨r, _, e⟩ := rotP_symm h hr
    rw [← e]
    exact rot_even hn1 hn2 (rhok_len h) r
theorem even_rot_from (h : RhOk N a) : evnB (stepsL N a) = true ↔ rotP N (evB N a.length) a := by
  have hn1 : 1 ≤ N := by have := h.1; omega
  have hn2 : N ≤ 24 := by have := h.2.1; omega
  rw [even_rot h]
  exact ⟨rotP_symm h, rotP_symm (evB_ok hn1 hn2 (rhok_len h))⟩

/-- Shifted even rhythms. -/
theorem shift_look : ((List.range 14).all fun i => (List.range (i + 2)).all fun k => (List.range (i + 1)).all fun m => decide (k = 0) || memN (emask (i + 1) k m 0) ((List.range (i + 1)).map (emask (i + 1) k 0))) = true := by decide +kernel
theorem evL_ok {k m : Nat} (h1 : 1 ≤ N) (h2 : N ≤ 24) (hk1 : 1 ≤ k) (hk : k ≤ N) (hm : m < N) : RhOk N (evL k N m k) := by
  refine asc_rhok h1 h2 ?_ fun x hx => ?_
  · unfold evL
    rw [List.pairwise_map]
    refine List.Pairwise.imp (fun {i j} hij => ?_) List.pairwise_lt_range
    have a1 : i * N + m + k ≤ j * N + m := by
      have := Nat.mul_le_mul_right N (show i + 1 ≤ j by omega)
      rw [Nat.add_mul] at this
      omega
    have a2 : (i * N + m + k) / k = (i * N + m) / k + 1 := Nat.add_div_right _ (by omega)
    have a3 := Nat.div_le_div_right (c := k) a1
    omega
  · unfold evL at hx
    obtain ⟨i, hi, rfl⟩ := List.mem_map.1 hx
    rw [List.mem_range] at hi
    have a1 : i * N + m < k * N := by
      have := Nat.mul_le_mul_right N (show i + 1 ≤ k by omega)
      rw [Nat.add_mul] at this
      omega
    exact ⟨Int.natCast_nonneg _, Int.ofNat_lt.2 (Nat.div_lt_of_lt_mul a1)⟩
theorem shift_even {k m : Nat} (h1 : 1 ≤ N) (h2 : N ≤ 14) (hk1 : 1 ≤ k) (hk : k ≤ N) (hm : m < N) : rotP N (evB N k) (evL k N m k) := by
  have ho := evL_ok h1 (by omega) hk1 hk hm
  have hl := List.all_eq_true.1 (List.all_eq_true.1 (List.all_eq_true.1 shift_look (N - 1) (by simp; omega)) k (by simp; omega)) m (by simp; omega)
  rw [show N - 1 + 1 = N by omega, decide_eq_false (by omega), Bool.false_or, memN_iff, List.mem_map] at hl
  obtain ⟨r, hr, e⟩ := hl
  have hmk : orM ((evL k N m k).map Int.toNat) = emask N k m 0 := by
    unfold emask evL
    rw [orM_eq]
    intro x
    simp only [List.map_map, List.mem_map, List.mem_range, Function.comp]
    have hlt : ∀ i, i < k → (i * N + m) / k < N := fun i hi => by
      have a1 : i * N + m < k * N := by
        have := Nat.mul_le_mul_right N (show i + 1 ≤ k by omega)
        rw [Nat.add_mul] at this
        omega
      exact Nat.div_lt_of_lt_mul a1
    constructor
    · rintro ⟨i, hi, e⟩
      exact ⟨i, hi, by rw [Nat.add_zero, Nat.mod_eq_of_lt (hlt i hi), ← e, Int.toNat_natCast]⟩
    · rintro ⟨i, hi, e⟩
      exact ⟨i, hi, by rw [Int.toNat_natCast, ← e, Nat.add_zero, Nat.mod_eq_of_lt (hlt i hi)]⟩
  have he : evnB (stepsL N (evL k N m k)) = true := by
    refine (mask_even ho).1 ⟨r, List.mem_range.1 hr, ?_⟩
    rw [hmk, evL_len]
    exact e
  have := (even_rot_from ho).1 he
  rwa [evL_len] at this
end

end Go.Proofs.YthookknmeajojaaGreatDoor

