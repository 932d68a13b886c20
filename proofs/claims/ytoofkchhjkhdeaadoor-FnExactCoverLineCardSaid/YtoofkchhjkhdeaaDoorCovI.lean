/-
  The lengths that have a cover, the least, IsCover at the first cover: the program.
-/
import Derived.Test.YtoofkchhjkhdeaaDoorCovD
import Derived.Test.YtoofkchhjkhdeaaDoorBlkI
namespace Go.Proofs.YtoofkchhjkhdeaaDoor
open Go.RowKit Go.Shelf
set_option linter.unusedVariables false
set_option linter.unusedSimpArgs false

/-- The lengths found among the first q. -/
def lcL (xs : List Int) : Nat → List Int
  | 0 => []
  | q + 1 => lcL xs q ++ (if covN xs (q + 1) = [] then [] else [((q + 1 : Nat) : Int)])
theorem lcL_yes {xs : List Int} {q : Nat} (h : covN xs (q + 1) ≠ []) : lcL xs (q + 1) = lcL xs q ++ [((q + 1 : Nat) : Int)] := by rw [lcL, if_neg h]
theorem lcL_no {xs : List Int} {q : Nat} (h : covN xs (q + 1) = []) : lcL xs (q + 1) = lcL xs q := by rw [lcL, if_pos h, List.append_nil]
theorem lcL_len (xs : List Int) : ∀ q, (lcL xs q).length ≤ q
  | 0 => Nat.le_refl _
  | q + 1 => by
    have := lcL_len xs q
    rw [lcL, List.length_append]
    split <;> simp <;> omega
theorem lcL_fits (xs : List Int) : ∀ q, q ≤ 24 → ∀ x ∈ lcL xs q, Fits x
  | 0, _, x, h => by cases h
  | q + 1, hq, x, h => by
    rw [lcL] at h
    rcases List.mem_append.1 h with h | h
    · exact lcL_fits xs q (by omega) x h
    · split at h
      · cases h
      · rw [List.mem_singleton] at h; subst h; unfold Fits; omega
theorem lcL_head (xs : List Int) : ∀ q, (lcL xs q = [] ∧ ∀ m, 1 ≤ m → m ≤ q → covN xs m = []) ∨ ∃ m, 1 ≤ m ∧ m ≤ q ∧ 0 < (lcL xs q).length ∧ (lcL xs q).getD 0 0 = ((m : Nat) : Int) ∧ covN xs m ≠ [] ∧ ∀ j, 1 ≤ j → j < m → covN xs j = []
  | 0 => .inl ⟨rfl, fun m h1 h2 => by omega⟩
  | q + 1 => by
    rcases lcL_head xs q with ⟨h1, h2⟩ | ⟨m, h1, h2, h3, h4, h5, h6⟩
    · by_cases c : covN xs (q + 1) = []
      · rw [lcL_no c]
        refine .inl ⟨h1, fun m k1 k2 => ?_⟩
        by_cases e : m = q + 1
        · subst e; exact c
        · exact h2 m k1 (by omega)
      · rw [lcL_yes c, h1]
        exact .inr ⟨q + 1, by omega, Nat.le_refl _, by simp, by simp, c, fun j k1 k2 => h2 j k1 (by omega)⟩
    · refine .inr ⟨m, h1, by omega, ?_, ?_, h5, h6⟩
      · rw [lcL, List.length_append]; omega
      · rw [lcL]
        cases h : lcL xs q with
        | nil => rw [h] at h3; simp at h3
        | cons x r => rw [h] at h4; simpa using h4
theorem lstC_min (xs : List Int) : ∀ d n, 1 ≤ n → ∀ m, n ≤ m → m < n + d → (m < lstC xs d n ∨ lstC xs d n = 0) → covN xs m = []
  | 0, n, _, m, h1, h2, _ => by omega
  | d + 1, n, h0, m, h1, h2, h3 => by
    unfold lstC at h3
    by_cases c : covN xs n = []
    · rw [if_pos c] at h3
      by_cases e : m = n
      · subst e; exact c
      · exact lstC_min xs d (n + 1) (by omega) m (by omega) (by omega) h3
    · rw [if_neg c] at h3
      omega
theorem least_lens (xs : List Int) : (lcL xs 24 = [] ∧ leastC xs = 0) ∨ (0 < (lcL xs 24).length ∧ (lcL xs 24).getD 0 0 = (leastC xs : Int) ∧ 1 ≤ leastC xs ∧ leastC xs ≤ 24 ∧ covN xs (leastC xs) ≠ []) := by
  have hm := lstC_min xs 24 1 (Nat.le_refl _)
  rcases lstC_at xs 24 1 with ⟨h1, h2⟩ | ⟨h1, h2, h3⟩
  · rcases lcL_head xs 24 with ⟨k1, _⟩ | ⟨m, k1, k2, _, _, k5, _⟩
    · exact .inl ⟨k1, h1⟩
    · exact absurd (h2 m k1 (by omega)) k5
  · rcases lcL_head xs 24 with ⟨_, k2⟩ | ⟨m, k1, k2, k3, k4, k5, k6⟩
    · exact absurd (k2 _ h1 (by omega)) h3
    · have e : m = lstC xs 24 1 := by
        rcases Nat.lt_trichotomy m (lstC xs 24 1) with h | h | h
        · exact absurd (hm m k1 (by omega) (.inl h)) k5
        · exact h
        · exact absurd (k6 _ h1 h) h3
      exact .inr ⟨k3, by rw [k4, e]; rfl, h1, by unfold leastC; omega, h3⟩

set_option maxRecDepth 100000 in
set_option maxHeartbeats 1000000 in
theorem impl_CoverLengths_ok (A : Option Addr) (cap : Nat) (xs : List Int) (w : World) (hA : Ints w w.heap.size A xs) (hp : patB xs = true) (hD : DeB w) :
    Calls Tryd.prog 25 #[.slice A xs.length cap] w (RetO w (lcL xs 24)) := by
  have HA := Lib.hid hA
  have HD := Lib.hid hD
  have HPO := impl_PatternOk_any A cap xs w hA
  rw [hp] at HPO
  have HPO := Lib.hid HPO
  clear hA hD
  go_enter Tryd.func25, Tryd.ntmps25
  go_wp2_with fail
  refine HPO.out.mono ?_
  rintro e w' ⟨rfl, hw'⟩
  obtain rfl := hw'
  go_wp2_with fail
  go_loopw [3, 4] (fun v i wr => ∃ q : Nat, q ≤ 24 ∧ i = .int .i64 ((q + 1 : Nat) : Int) ∧ OwnI wr w.heap.size v (lcL xs q) ∧ Below w.heap.size w wr) (fun _ i _ => 25 - (intOf i).toNat)
  case atStart => exact ⟨0, by omega, rfl, OwnI.nil _ _, Below.refl _ _⟩
  case round =>
    obtain ⟨q, hq, rfl, hown, hbel⟩ := hrel
    obtain ⟨wo, rfl⟩ : ∃ wo : World, wo = wr := ⟨_, rfl⟩
    obtain ⟨A1, c1, rfl⟩ := hown.form
    have HO := Lib.hid hown
    have HB := Lib.hid hbel
    clear hown hbel
    by_cases hlt : q < 24
    · obtain ⟨n, hn⟩ : ∃ n, q + 1 = n := ⟨_, rfl⟩
      have HY := Lib.hid (fun h => lcL_yes (xs := xs) (q := q) h)
      have HN := Lib.hid (fun h => lcL_no (xs := xs) (q := q) h)
      have hll := lcL_len xs q
      rw [hn] at HY HN ⊢
      have hn24 : (n : Int) ≤ 24 := by omega
      have hwn : IntKind.i64.wrap ((n : Int) + 1) = (n : Int) + 1 := i64w (by omega)
      have HCV := Lib.hid (impl_covers_any A cap xs n wo ((HA.out.below HB.out).mono HB.out.size) hp (by omega) (HD.out.below HB.out))
      have HNE := Lib.hid hn
      clear hn
      go_wp2_with fail
      refine HCV.out.mono ?_
      rintro e w2 ⟨v2, rs, rfl, hown2, hkey, hb2⟩
      obtain ⟨A2, c2, rfl⟩ := hown2.form
      have HB := Lib.hid (HB.out.trans (hb2.mono HB.out.size))
      have HO := Lib.hid (HO.out.grown hb2)
      have hlen : rs.length = (covN xs n).length := by
        have := congrArg List.length hkey
        rwa [List.length_map, List.length_map] at this
      clear hown2 hb2 hkey
      by_cases hc : covN xs n = []
      · have hl0 : rs.length = 0 := by rw [hlen, hc]; rfl
        have HNN := Lib.hid (HN.out hc)
        clear hlen hc
        rw [hl0]
        have hl00 : ¬ ((0 : Int) < ((0 : Nat) : Int)) := by omega
        go_wp2_with fail
        go_roundw
        case rel => exact ⟨q + 1, hlt, by have := HNE.out; rw [this]; go_num, by have := HNE.out; rw [this, HNN.out]; exact HO.out, HB.out⟩
        case measure => simp [intOf]; omega
      · have hl0 : 0 < rs.length := by rw [hlen]; exact List.length_pos_iff.2 hc
        have HYY := Lib.hid (HY.out hc)
        clear hlen hc
        have hl00 : (0 : Int) < (rs.length : Int) := by omega
        have hll2 : (lcL xs q).length ≤ 1048576 := by omega
        clear hll
        go_wp2_with (at_builtin; refine wpList_append_int rfl _ _ rfl w.heap.size _ (lcL xs q) rfl (HO.out.alloc _) _ _ rfl (cell_new1 _ _ _) hll2 (by have := HB.out.size; simp; omega) ?_; intro v' w3 hown3 hg3; obtain ⟨A3, c3, rfl⟩ := hown3.form)
        go_roundw
        case rel => exact ⟨q + 1, hlt, by have := HNE.out; rw [this]; go_num, by have := HNE.out; rw [this, HYY.out]; rw [List.length_append] at hown3; exact hown3, (HB.out.alloc HB.out.size _).trans hg3⟩
        case measure => simp [intOf]; omega
    · have hqe : q = 24 := by omega
      subst hqe
      have hn24 : ¬ (((24 + 1 : Nat) : Int) ≤ 24) := by omega
      go_wp2_with fail
      go_ret
      exact ⟨_, rfl, HO.out, HB.out⟩

set_option maxRecDepth 100000 in
set_option maxHeartbeats 1000000 in
theorem impl_LeastCover_ok (A : Option Addr) (cap : Nat) (xs : List Int) (w : World) (hA : Ints w w.heap.size A xs) (hp : patB xs = true) (hD : DeB w) :
    Calls Tryd.prog 15 #[.slice A xs.length cap] w fun e w' => e = .returned (.int .i64 (leastC xs)) ∧ Below w.heap.size w w' := by
  have HCL := Lib.hid (impl_CoverLengths_ok A cap xs w hA hp hD)
  have HLF := Lib.hid (lcL_fits xs 24 (Nat.le_refl _))
  have hls := least_lens xs
  obtain ⟨lc, hlc⟩ : ∃ lc, leastC xs = lc := ⟨_, rfl⟩
  rw [hlc] at hls ⊢
  clear hA hD hlc
  generalize lcL xs 24 = L at *
  go_enter Tryd.func15, Tryd.ntmps15
  go_wp2_with fail
  refine HCL.out.mono ?_
  rintro e w1 ⟨v1, rfl, hown, hb⟩
  obtain ⟨A1, c1, rfl⟩ := hown.form
  have HI := Lib.hid (hown.ints HLF.out)
  have HB := Lib.hid hb
  clear hown hb
  rcases hls with ⟨h1, h2⟩ | ⟨h1, h2, _⟩
  · subst h1 h2
    have hl0 : (((([] : List Int).length : Nat) : Int) == 0) = true := rfl
    go_wp2_with fail
    go_ret
    exact ⟨rfl, HB.out⟩
  · obtain ⟨b, off, rfl, hB, hc⟩ := HI.out.2.2 h1
    have hc0 := hc 0 h1
    rw [h2] at hc0
    have hl0 : (((L.length : Nat) : Int) == 0) = false := beq_eq_false_iff_ne.2 (by omega)
    have hl1 : (0 : Int) < (L.length : Int) := by omega
    have hl2 : 0 < L.length := h1
    rw [Nat.add_zero] at hc0
    clear hc h2
    go_wp2_with fail
    go_ret
    exact ⟨rfl, HB.out⟩

end Go.Proofs.YtoofkchhjkhdeaaDoor
