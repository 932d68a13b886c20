/-
  slices.Compact on bytes: the plain law and the walk.
-/
import Derived.Test.YthfjfhgeiggljaaDoorSrL
import Derived.Lib.SliceRun
import Derived.Test.YthfjfhgeiggljaaDoorPer
namespace Go.Proofs.YthfjfhgeiggljaaDoor
open Go.RowKit
set_option linter.unusedVariables false
set_option linter.unusedSimpArgs false

def cmpN (F : Nat → Int) : Nat → List Int
  | 0 => []
  | i + 1 => if i = 0 ∨ F i ≠ F (i - 1) then cmpN F i ++ [F i] else cmpN F i
theorem cmpN_le (F : Nat → Int) : ∀ i, (cmpN F i).length ≤ i
  | 0 => Nat.le_refl _
  | i + 1 => by
    have := cmpN_le F i
    unfold cmpN; split <;> simp <;> omega
theorem cmpN_pos (F : Nat → Int) : ∀ i, 1 ≤ i → 1 ≤ (cmpN F i).length
  | i + 1, _ => by
    unfold cmpN
    split
    · simp
    · rename_i h
      exact cmpN_pos F i (by omega)
theorem cmpN_add (F : Nat → Int) {i : Nat} (h : i = 0 ∨ F i ≠ F (i - 1)) : cmpN F (i + 1) = cmpN F i ++ [F i] := if_pos h
theorem cmpN_skip (F : Nat → Int) {i : Nat} (h0 : i ≠ 0) (h : F i = F (i - 1)) : cmpN F (i + 1) = cmpN F i := if_neg (fun q => q.elim h0 (fun q2 => q2 h))
theorem cmpN_mem (F : Nat → Int) (x : Int) : ∀ i, x ∈ cmpN F i ↔ ∃ t, t < i ∧ F t = x
  | 0 => by simp [cmpN]
  | i + 1 => by
    have ih := cmpN_mem F x i
    by_cases h : i = 0 ∨ F i ≠ F (i - 1)
    · rw [cmpN_add F h, List.mem_append, List.mem_singleton, ih]
      constructor
      · rintro (⟨t, h1, h2⟩ | h1)
        · exact ⟨t, by omega, h2⟩
        · exact ⟨i, by omega, h1.symm⟩
      · rintro ⟨t, h1, h2⟩
        by_cases e : t = i
        · subst e; exact .inr h2.symm
        · exact .inl ⟨t, by omega, h2⟩
    · rw [not_or] at h
      have h2 : F i = F (i - 1) := Classical.byContradiction h.2
      rw [cmpN_skip F h.1 h2, ih]
      constructor
      · rintro ⟨t, h1, h3⟩; exact ⟨t, by omega, h3⟩
      · rintro ⟨t, h1, h3⟩
        by_cases e : t = i
        · subst e; exact ⟨t - 1, by have := h.1; omega, by rw [← h2]; exact h3⟩
        · exact ⟨t, by omega, h3⟩
/-- What is sorted is strictly ascending when each stands once. -/
theorem cmpN_asc (F : Nat → Int) (n : Nat) (hs : ∀ i j, i < j → j < n → F i ≤ F j) : ∀ i, i ≤ n → (cmpN F i).Pairwise (fun a b => a < b)
  | 0, _ => List.Pairwise.nil
  | i + 1, hi => by
    have ih := cmpN_asc F n hs i (by omega)
    unfold cmpN
    split
    · rename_i h
      rw [List.pairwise_append]
      refine ⟨ih, List.pairwise_singleton _ _, fun a ha b hb => ?_⟩
      rw [List.mem_singleton] at hb
      subst hb
      obtain ⟨t, ht, rfl⟩ := (cmpN_mem F a i).1 ha
      have h0 : i ≠ 0 := by omega
      have h1 : F i ≠ F (i - 1) := h.elim (fun q => absurd q h0) id
      have h2 := hs (i - 1) i (by omega) (by omega)
      by_cases e : t = i - 1
      · subst e; omega
      · have := hs t (i - 1) (by omega) (by omega); omega
    · exact ih

/-- n bytes of block g from off on, by index, writable. -/
def AF (w : World) (g off n : Nat) (F : Nat → Int) : Prop := g < w.heap.size ∧ ∀ t, t < n → w.cell? ⟨g, off + t, none⟩ = some (.int .u8 (F t)) ∧ w.frozen? ⟨g, off + t, none⟩ = false
theorem AF.set_ {w : World} {g off n : Nat} {F F' : Nat → Int} (h : AF w g off n F) (i : Nat) (u : Int) (hi : i < n) (hu : F' i = u) (hF : ∀ t, t < n → t ≠ i → F' t = F t) : AF (w.setCell ⟨g, off + i, none⟩ (.int .u8 u)) g off n F' := by
  refine ⟨by simpa [World.setCell] using h.1, fun t ht => ⟨?_, ?_⟩⟩
  · by_cases e : t = i
    · subst e; rw [World.cell?_setCell_same w _ _ (h.2 t ht).1, hu]
    · rw [World.cell?_setCell_other w _ _ _ (fun q => e (by injection q; omega)), (h.2 t ht).1, hF t ht e]
  · rw [World.frozen?_setCell]; exact (h.2 t ht).2
theorem AF.drewN {w : World} {g off n : Nat} {F : Nat → Int} (h : AF w g off n F) (q : Nat) : AF (w.drewN q) g off n F := h

theorem cmpN_full (F : Nat → Int) : ∀ k, (cmpN F k).length = k → cmpN F k = (List.range k).map F
  | 0, _ => rfl
  | k + 1, h => by
    have hl := cmpN_le F k
    by_cases hc : k = 0 ∨ F k ≠ F (k - 1)
    · rw [cmpN_add F hc] at h ⊢
      rw [List.length_append, List.length_singleton] at h
      rw [cmpN_full F k (by omega), List.range_succ, List.map_append]
      rfl
    · rw [not_or] at hc
      rw [cmpN_skip F hc.1 (Classical.byContradiction hc.2)] at h
      omega
theorem frm_setCells {w : World} {g : Nat} : ∀ (vs : List Value) (o : Nat) (w' : World), Frm (OneB g) w w' → Frm (OneB g) w (w'.setCells g o vs)
  | [], _, _, h => h
  | v :: r, o, w', h => frm_setCells r (o + 1) _ (h.setCell (p := ⟨g, o, none⟩) rfl v)
theorem cell_setCells {g t : Nat} : ∀ (vs : List Value) (o : Nat) (w : World), t < o → (w.setCells g o vs).cell? ⟨g, t, none⟩ = w.cell? ⟨g, t, none⟩
  | [], _, _, _ => rfl
  | v :: r, o, w, h => (cell_setCells r (o + 1) _ (by omega)).trans (World.cell?_setCell_other _ _ _ _ (fun q => by injection q; omega))

/-- What Compact hands back. -/
def RetC (g off cap n : Nat) (F : Nat → Int) (w : World) (e : Ending) (w' : World) : Prop :=
  e = .returned (.slice (some ⟨g, off, none⟩) (cmpN F n).length cap) ∧ g < w'.heap.size ∧ (∀ t, t < (cmpN F n).length → w'.cell? ⟨g, off + t, none⟩ = some (.int .u8 ((cmpN F n).getD t 0))) ∧ Frm (OneB g) w w'

set_option maxRecDepth 100000 in
set_option maxHeartbeats 4000000 in
theorem compact_byte (g off cap n : Nat) (F : Nat → Int) (w : World) (hH : AF w g off n F) (hcap : n ≤ cap) (hsz : n < 1000000) :
    Calls Tryd.prog 33 #[.slice (some ⟨g, off, none⟩) n cap] w (RetC g off cap n F w) := by
  have HW := Lib.hid (Frm.refl (OneB g) w)
  have HFU := Lib.hid (fun V (hA : AF V g off n F) (hF : Frm (OneB g) w V) (hl : (cmpN F n).length = n) => show RetC g off cap n F w (.returned (.slice (some ⟨g, off, none⟩) n cap)) V from
    ⟨by rw [hl], hA.1, fun t ht => by
      rw [hl] at ht
      rw [(hA.2 t ht).1, cmpN_full F n hl, List.getD_eq_getElem?_getD, List.getElem?_map, List.getElem?_range ht]
      rfl, hF⟩)
  have HH := Lib.hid hH
  by_cases h2 : n < 2
  · have h2i : (n : Int) < 2 := by omega
    have hl : (cmpN F n).length = n := by
      rcases (show n = 0 ∨ n = 1 by omega) with h | h
      · subst h; rfl
      · subst h; rfl
    clear hH
    go_enter Tryd.func33, Tryd.ntmps33
    go_wp2_with fail
    go_ret
    exact HFU.out _ HH.out HW.out hl
  have h2i : ¬ (n : Int) < 2 := by omega
  have HAD := Lib.hid (fun i h => cmpN_add F (i := i) h)
  have HSKP := Lib.hid (fun i h0 h => cmpN_skip F (i := i) h0 h)
  have HLE := Lib.hid (cmpN_le F)
  have HPS := Lib.hid (cmpN_pos F)
  have HFL := Lib.hid (cmpN_full F)
  clear hH
  go_enter Tryd.func33, Tryd.ntmps33
  go_wp2_with fail
  go_loopw [3] (fun v3 wr => ∃ k : Nat, v3 = .int .i64 k ∧ 1 ≤ k ∧ k ≤ n ∧ AF wr g off n F ∧ Frm (OneB g) w wr ∧ Hid ((cmpN F k).length = k)) (fun v3 _ => n - (intOf v3).toNat)
  case atStart => exact ⟨1, rfl, Nat.le_refl _, by omega, HH.out, HW.out, Lib.hid rfl⟩
  case round =>
    obtain ⟨k, rfl, hk1, hkn, hA, hF, hL⟩ := hrel
    have HA := Lib.hid hA
    have HF := Lib.hid hF
    by_cases hlt : k < n
    rotate_left
    · have hke : k = n := by omega
      subst hke
      have hki : ¬ (k : Int) < (k : Int) := by omega
      clear hA hF
      go_wp2_with fail
      go_ret
      exact HFU.out _ HA.out HF.out hL.out
    have hki : (k : Int) < (n : Int) := by omega
    have hca := (hA.2 k hlt).1
    have hcb := (hA.2 (k - 1) (by omega)).1
    have hw1 : IntKind.i64.wrap ((k : Int) - 1) = ((k - 1 : Nat) : Int) := by rw [i64w (by omega)]; omega
    have hk0 : (0 : Int) ≤ (k : Int) := Int.natCast_nonneg _
    have hk10 : (0 : Int) ≤ ((k - 1 : Nat) : Int) := Int.natCast_nonneg _
    have hk1n : k - 1 < n := by omega
    have HADK := Lib.hid (HAD.out k)
    have HSKK := Lib.hid (HSKP.out k (by omega))
    obtain ⟨x, hx⟩ : ∃ x, F k = x := ⟨_, rfl⟩
    obtain ⟨y, hy⟩ : ∃ y, F (k - 1) = y := ⟨_, rfl⟩
    rw [hx, hy] at HADK HSKK
    rw [hx] at hca
    rw [hy] at hcb
    clear hA hF hx hy
    by_cases hxy : x = y
    rotate_left
    · have hxi : (x == y) = false := beq_eq_false_iff_ne.2 hxy
      have HL2 := Lib.hid (show (cmpN F (k + 1)).length = k + 1 by rw [HADK.out (.inr hxy), List.length_append, hL.out]; rfl)
      go_wp2_with fail
      go_quiet (fail)
      go_wp2_with fail
      go_roundw
      case rel => exact ⟨k + 1, by go_num, by omega, by omega, HA.out.drewN _, HF.out.drewN _, HL2⟩
      case measure => simp [intOf]; omega
    · have hxi : (x == y) = true := beq_iff_eq.2 hxy
      have HC1 := Lib.hid (HSKK.out hxy)
      clear hxy
      have hkc : (k : Int) ≤ (n : Int) := by omega
      have hkc2 : ¬ cap - k = 0 := by omega
      have hkc3 : ¬ cap = k := by omega
      have hkc4 : k ≤ n := by omega
      go_wp2_with fail
      go_quiet (fail)
      have HA := Lib.hid (HA.out.drewN nq)
      have HF := Lib.hid (HF.out.drewN nq)
      clear hca hcb
      generalize wr.drewN nq = wd at *
      go_wp2_with fail
      clear hkc hkc2 hkc3 hw1 hk0 hk10 hk1n hxi HADK HSKK
      have HST := Lib.hid (show k = (cmpN F (k + 1)).length ∧ (∀ t, t < k → F t = (cmpN F (k + 1)).getD t 0) ∧ ∀ t, k + 1 - 1 ≤ t → t < n → F t = F t from
        ⟨by rw [HC1.out, hL.out], fun t ht => by
          rw [HC1.out, HFL.out k hL.out, List.getD_eq_getElem?_getD, List.getElem?_map, List.getElem?_range ht]
          rfl, fun _ _ _ => rfl⟩)
      go_loopw [3, 5] (fun v3 v5 wr => ∃ (k' k2 : Nat) (E : Nat → Int), v3 = .int .i64 k' ∧ v5 = .int .i64 k2 ∧ 1 ≤ k2 ∧ k2 ≤ n - k ∧ k' < k + k2 ∧ 1 ≤ k' ∧ AF wr g off n E ∧ Frm (OneB g) w wr ∧
          Hid (k' = (cmpN F (k + k2)).length ∧ (∀ t, t < k' → E t = (cmpN F (k + k2)).getD t 0) ∧ ∀ t, k + k2 - 1 ≤ t → t < n → E t = F t)) (fun _ v5 _ => n - (intOf v5).toNat)
      case atStart => exact ⟨k, 1, F, rfl, rfl, Nat.le_refl _, by omega, by omega, hk1, HA.out, HF.out, HST⟩
      case round =>
        obtain ⟨k', k2, E, rfl, rfl, hk21, hk2n, hkk, hk'1, hA, hF, hE⟩ := hrel
        have HA := Lib.hid hA
        have HF := Lib.hid hF
        have hcw : ∀ t, t < n → wr.cell? ⟨g, off + t, none⟩ = some (.int .u8 (E t)) := fun t ht => (hA.2 t ht).1
        have hfw : ∀ t, t < n → wr.frozen? ⟨g, off + t, none⟩ = false := fun t ht => (hA.2 t ht).2
        have HADK := Lib.hid (HAD.out (k + k2))
        have HSKK := Lib.hid (HSKP.out (k + k2) (by omega))
        clear hA hF
        by_cases hlt2 : k + k2 < n
        · have hki2 : (k2 : Int) < ((n - k : Nat) : Int) := by omega
          have hki3 : (k2 : Int) < (n : Int) - (k : Int) := by omega
          have hki4 : k2 < n - k := by omega
          have hca := hcw (k + k2) hlt2
          have hcb := hcw (k + (k2 - 1)) (by omega)
          have hca2 : wr.cell? ⟨g, off + k + k2, none⟩ = some (.int .u8 (E (k + k2))) := by rw [Nat.add_assoc]; exact hca
          have hcb2 : wr.cell? ⟨g, off + k + (k2 - 1), none⟩ = some (.int .u8 (E (k + (k2 - 1)))) := by rw [Nat.add_assoc]; exact hcb
          have hw1 : IntKind.i64.wrap ((k2 : Int) - 1) = ((k2 - 1 : Nat) : Int) := by rw [i64w (by omega)]; omega
          have hk0 : (0 : Int) ≤ (k2 : Int) := Int.natCast_nonneg _
          have hk10 : (0 : Int) ≤ ((k2 - 1 : Nat) : Int) := Int.natCast_nonneg _
          have hk1n : k2 - 1 < n - k := by omega
          have hk'n : k' < n := by omega
          have hk'0 : (0 : Int) ≤ (k' : Int) := Int.natCast_nonneg _
          have hfk := hfw k' hk'n
          have hck := hcw k' hk'n
          have hEX : E (k + k2) = F (k + k2) := hE.out.2.2 _ (by omega) hlt2
          have hEY : E (k + (k2 - 1)) = F (k + k2 - 1) := by rw [show k + (k2 - 1) = k + k2 - 1 by omega]; exact hE.out.2.2 _ (Nat.le_refl _) (by omega)
          rw [← hEX, ← hEY] at HADK HSKK
          have HE := Lib.hid hE.out
          have HEX := Lib.hid hEX
          obtain ⟨x, hx⟩ : ∃ x, E (k + k2) = x := ⟨_, rfl⟩
          obtain ⟨y, hy⟩ : ∃ y, E (k + (k2 - 1)) = y := ⟨_, rfl⟩
          rw [hx, hy] at HADK HSKK
          rw [hx] at hca hca2 HEX
          rw [hy] at hcb hcb2
          clear hx hy hEX hEY hE hcw hfw
          by_cases hxy : x = y
          · have hxi : (x != y) = false := by rw [hxy]; simp
            have hxj : (x == y) = true := beq_iff_eq.2 hxy
            have HC2 := Lib.hid (HSKK.out hxy)
            clear hxy
            go_wp2_with fail
            go_quiet (fail)
            go_wp2_with fail
            go_roundw
            case rel => exact ⟨k', k2 + 1, E, rfl, by go_num, by omega, by omega, by omega, hk'1, HA.out.drewN _, HF.out.drewN _, Lib.hid ⟨by rw [show k + (k2 + 1) = k + k2 + 1 by omega, HC2.out]; exact HE.out.1, fun t ht => by rw [show k + (k2 + 1) = k + k2 + 1 by omega, HC2.out]; exact HE.out.2.1 t ht, fun t h1 h2 => HE.out.2.2 t (by omega) h2⟩⟩
            case measure => simp [intOf]; omega
          · have hxi : (x != y) = true := bne_iff_ne.2 hxy
            have hxj : (x == y) = false := beq_eq_false_iff_ne.2 hxy
            have HC2 := Lib.hid (HADK.out (.inr hxy))
            clear hxy
            go_wp2_with fail
            go_quiet (fail)
            have HA2 := Lib.hid (HA.out.drewN nq)
            have HF2 := Lib.hid (HF.out.drewN nq)
            have hca2' : (wr.drewN nq).cell? ⟨g, off + k + k2, none⟩ = some (.int .u8 x) := hca2
            have hca' : (wr.drewN nq).cell? ⟨g, off + (k + k2), none⟩ = some (.int .u8 x) := hca
            have hfk' : (wr.drewN nq).frozen? ⟨g, off + k', none⟩ = false := hfk
            have hck' : (wr.drewN nq).cell? ⟨g, off + k', none⟩ = some (.int .u8 (E k')) := hck
            clear hca hca2 hcb hcb2 hfk hck
            generalize wr.drewN nq = wd2 at *
            go_wp2_with fail
            have HA3 := Lib.hid (HA2.out.set_ (F' := fun t => if t = k' then x else E t) k' x hk'n (by simp) (fun t _ ht => by simp [ht]))
            have HF3 := Lib.hid (HF2.out.setCell (p := ⟨g, off + k', none⟩) rfl (.int .u8 x))
            go_roundw
            case rel => exact ⟨k' + 1, k2 + 1, _, by go_num, by go_num, by omega, by omega, by omega, by omega, HA3.out, HF3.out, Lib.hid (by
              rw [show k + (k2 + 1) = k + k2 + 1 by omega, HC2.out]
              refine ⟨by rw [List.length_append, ← HE.out.1]; rfl, fun t ht => ?_, fun t h1 h2 => ?_⟩
              · by_cases e : t = k'
                · subst e
                  rw [if_pos rfl, List.getD_eq_getElem?_getD, List.getElem?_append_right (by have := HE.out.1; omega)]
                  rw [show t - (cmpN F (k + k2)).length = 0 by have := HE.out.1; omega]
                  simp [HEX.out]
                · rw [if_neg e, HE.out.2.1 t (by omega), List.getD_eq_getElem?_getD, List.getD_eq_getElem?_getD, List.getElem?_append_left (by have := HE.out.1; omega)]
              · rw [if_neg (by omega)]; exact HE.out.2.2 t (by omega) h2)⟩
            case measure => simp [intOf]; omega
        · have hke : k2 = n - k := by omega
          have hki2 : ¬ (k2 : Int) < ((n - k : Nat) : Int) := by omega
          have hki3 : ¬ (k2 : Int) < (n : Int) - (k : Int) := by omega
          have hki4 : ¬ k2 < n - k := by omega
          have hk'n : k' < n := by omega
          have HEE := Lib.hid (show k' = (cmpN F n).length ∧ ∀ t, t < k' → E t = (cmpN F n).getD t 0 from by
            have h1 := hE.out
            rw [show k + k2 = n by omega] at h1
            exact ⟨h1.1, h1.2.1⟩)
          have hcl : ∀ ty, (Builtin.clear_ #[22] ty #[.slice (some ⟨g, off + k', none⟩) (n - k') (cap - k')]).run Tryd.prog wr = .ok (.tuple #[]) (wr.setCells g (off + k') (List.replicate (n - k') (.int .u8 0))) :=
            fun ty => Lib.run_clear_slice (P := Tryd.prog) wr _ 5 ty _ rfl (fun _ => rfl) rfl rfl g (off + k') _ _ (by omega) (fun t ht => by rw [Nat.add_assoc, hcw (k' + t) (by omega)]; rfl) (fun t ht => by rw [Nat.add_assoc]; exact hfw (k' + t) (by omega))
          have hkc : (k' : Int) ≤ (n : Int) := by omega
          have hkc2 : ¬ cap - k' = 0 := by omega
          have hkc3 : ¬ cap = k' := by omega
          have hkc4 : k' ≤ n := by omega
          have hkc5 : (k' : Int) ≤ (cap : Int) := by omega
          have hk'0 : (0 : Int) ≤ (k' : Int) := Int.natCast_nonneg _
          clear hke hcw hfw hE
          go_wp2_with fail
          go_ret
          refine ⟨by rw [← HEE.out.1]; rfl, by have := HA.out.1; exact Nat.lt_of_lt_of_le this ((frm_setCells _ _ _ (Frm.refl (OneB g) wr)).size), fun t ht => ?_, frm_setCells _ _ _ HF.out⟩
          rw [← HEE.out.1] at ht
          rw [cell_setCells _ _ _ (by omega), (HA.out.2 t (by omega)).1, HEE.out.2 t ht]

end Go.Proofs.YthfjfhgeiggljaaDoor
