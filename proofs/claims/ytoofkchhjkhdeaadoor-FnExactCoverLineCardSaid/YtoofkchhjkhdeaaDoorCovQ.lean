/-
  Comparison, masks and the count of covers of the reference.
-/
import Derived.Test.YtoofkchhjkhdeaaDoorCovP
import Derived.Test.YtoofkchhjkhdeaaDoorCovB
import Derived.Deep.CutRange
namespace Go.Proofs.YtoofkchhjkhdeaaDoor
open Go.RowKit Go.Shelf
set_option linter.unusedVariables false
set_option linter.unusedSimpArgs false

set_option maxRecDepth 100000 in
set_option maxHeartbeats 1000000 in
theorem spec_l02Same_any (A1 A2 : Option Addr) (c1 c2 : Nat) (xs ys : List Int) (w : World) (B1 B2 : Nat) (h1 : Ints w B1 A1 xs) (h2 : Ints w B2 A2 ys) :
    Calls Tryd.prog 36 #[.slice A1 xs.length c1, .slice A2 ys.length c2] w fun e w' => e = .returned (.bool (decide (xs = ys))) ∧ w = w' := by
  have hl1 := h1.1
  have hl2 := h2.1
  unfold maxLen at hl1 hl2
  have H1 := Lib.hid h1.2.2
  have H2 := Lib.hid h2.2.2
  obtain ⟨r, hr⟩ : ∃ r, decide (xs = ys) = r := ⟨_, rfl⟩
  rw [hr]
  have HR := Lib.hid hr
  clear h1 h2 hr
  by_cases hl : xs.length = ys.length
  rotate_left
  · have HF := Lib.hid (show r = false from by rw [← HR.out]; exact decide_eq_false (fun h => hl (by rw [h])))
    have hne : ((xs.length : Int) != (ys.length : Int)) = true := by rw [bne_iff_ne]; omega
    clear hl
    go_enter Tryd.func36, Tryd.ntmps36
    go_wp2_with fail
    go_ret
    exact ⟨ret_bool HF.out.symm, rfl⟩
  · have hne : ((xs.length : Int) != (ys.length : Int)) = false := by rw [bne_eq_false_iff_eq]; omega
    have HL := Lib.hid hl
    clear hl
    go_enter Tryd.func36, Tryd.ntmps36
    go_wp2_with fail
    go_loop [14] (fun i => ∃ k : Nat, k ≤ xs.length ∧ (∀ j, j < k → xs.getD j 0 = ys.getD j 0) ∧ i = .int .i64 k) (fun i => xs.length - (intOf i).toNat)
    case atStart => exact ⟨0, Nat.zero_le _, fun j h => absurd h (by omega), rfl⟩
    case round =>
      obtain ⟨k, hk, hall, rfl⟩ := hrel
      have HA := Lib.hid hall
      clear hall
      by_cases hlt : k < xs.length
      · obtain ⟨b1, o1, rfl, _, hc1⟩ := H1.out (by omega)
        obtain ⟨b2, o2, rfl, _, hc2⟩ := H2.out (by have := HL.out; omega)
        have hx := hc1 k hlt
        have hy := hc2 k (by have := HL.out; omega)
        have hk0 : (0 : Int) ≤ (k : Int) := Int.natCast_nonneg _
        have hk1 : (k : Int) < (xs.length : Int) := by omega
        have hk2 : (k : Int) < (ys.length : Int) := by have := HL.out; omega
        have hwk : IntKind.i64.wrap ((k : Int) + 1) = (k : Int) + 1 := i64w (by omega)
        obtain ⟨x, hxx⟩ : ∃ x, xs.getD k 0 = x := ⟨_, rfl⟩
        obtain ⟨y, hyy⟩ : ∃ y, ys.getD k 0 = y := ⟨_, rfl⟩
        rw [hxx] at hx
        rw [hyy] at hy
        have HXY := Lib.hid (And.intro hxx hyy)
        clear hc1 hc2 hxx hyy
        by_cases he : x = y
        · subst he
          have hee : (x != x) = false := by simp
          go_wp2_with fail
          go_round
          case rel => exact ⟨k + 1, hlt, fun j hj => by
            by_cases e : j = k
            · subst e; rw [HXY.out.1, HXY.out.2]
            · exact HA.out j (by omega), by go_num⟩
          case measure => simp [intOf]; omega
        · have hee : (x != y) = true := by rw [bne_iff_ne]; exact he
          have HF := Lib.hid (show r = false from by rw [← HR.out]; exact decide_eq_false (fun h => he (by rw [← HXY.out.1, ← HXY.out.2, h])))
          clear he
          go_wp2_with fail
          go_ret
          exact ⟨ret_bool HF.out.symm, rfl⟩
      · have hke : k = xs.length := by omega
        have hk1 : ¬ (k : Int) < (xs.length : Int) := by omega
        have HT := Lib.hid (show r = true from by
          rw [← HR.out]
          refine decide_eq_true (List.ext_getElem HL.out fun j hj1 hj2 => ?_)
          have := HA.out j (by omega)
          rwa [List.getD_eq_getElem?_getD, List.getElem?_eq_getElem hj1, List.getD_eq_getElem?_getD, List.getElem?_eq_getElem hj2] at this)
        clear hke
        go_wp2_with fail
        go_ret
        exact ⟨ret_bool HT.out.symm, rfl⟩

set_option maxRecDepth 100000 in
set_option maxHeartbeats 1000000 in
theorem spec_l14Masks_ok (A : Option Addr) (cap : Nat) (xs : List Int) (w : World) (hA : Ints w w.heap.size A xs) (hp : patB xs = true) :
    Calls Tryd.prog 23 #[.slice A xs.length cap] w fun e w' => e = .returned (.tuple #[.int .i64 (patM xs), .int .i64 (patM (mirL xs))]) ∧ Below w.heap.size w w' := by
  have HM1 := Lib.hid (spec_l13Mask_ok A cap xs w hA hp)
  have HMI := Lib.hid (spec_MirrorPattern_ok A cap xs w hA hp)
  have HM2 := Lib.hid (fun A2 c2 V h => spec_l13Mask_ok A2 c2 (mirL xs) V h (mir_ok hp))
  have HMF := Lib.hid (show ∀ x ∈ mirL xs, Fits x from fun x hx => by
      obtain ⟨j, hj, e⟩ := List.mem_iff_getElem.1 hx
      have := pat_in ((pat_all (mir_ok hp)).2 j hj)
      rw [List.getD_eq_getElem?_getD, List.getElem?_eq_getElem hj, Option.getD_some, e] at this
      unfold Fits; omega)
  clear hA
  generalize patM xs = a at *
  generalize patM (mirL xs) = b at *
  go_enter Tryd.func23, Tryd.ntmps23
  go_wp2_with fail
  refine HM1.out.mono ?_
  rintro e w' ⟨rfl, hw'⟩
  obtain rfl := hw'
  go_wp2_with fail
  refine HMI.out.mono ?_
  rintro e w1 ⟨v1, rfl, hown, hb⟩
  obtain ⟨A1, c1, rfl⟩ := hown.form
  have HI := Lib.hid (hown.ints HMF.out)
  have HB := Lib.hid hb
  clear hown hb
  go_wp2_with fail
  refine (HM2.out A1 c1 w1 HI.out).mono ?_
  rintro e w' ⟨rfl, hw'⟩
  obtain rfl := hw'
  go_wp2_with fail
  refine bodyPost_ret (v := .tuple #[.int .i64 a, .int .i64 b]) (by simp [results, Tryd.results23, go_sem]) rfl ⟨rfl, HB.out⟩

theorem stN_go {d s k : Nat} (hk : k ≤ stN d s) : (k < stN d s ↔ k < d ∧ s / 2 ^ k % 2 = 1) := by
  constructor
  · intro h
    have h1 := stN_le d s
    have h2 := stN_one d s k h
    rw [Nat.testBit_eq_decide_div_mod_eq, decide_eq_true_eq] at h2
    exact ⟨by omega, h2⟩
  · rintro ⟨h1, h2⟩
    apply Nat.lt_of_not_le
    intro hle
    have e : k = stN d s := by omega
    have h3 := stN_zero d s (by omega)
    rw [← e, Nat.testBit_eq_decide_div_mod_eq, h2] at h3
    simp at h3

set_option maxRecDepth 100000 in
set_option maxHeartbeats 2000000 in
theorem spec_l14Count_any (n a b : Nat) (hn : n ≤ 24) (ha : a < 8192) (hb : b < 8192) (hao : a % 2 = 1) (hbo : b % 2 = 1) :
    ∀ (f t s : Nat) (w : World), n + 1 ≤ f + (t + stN (n - t) s) → f ≤ 30 → t ≤ n → s < 2 ^ (n - t) →
      Calls Tryd.prog 34 #[.int .i64 a, .int .i64 b, .int .i64 n, .int .i64 t, .int .i64 s] w fun e w' => e = .returned (.int .i64 (covL n a b f t s).length) ∧ w = w' := by
  intro f
  induction f with
  | zero => intro t s w h1; have := stN_le (n - t) s; intro _ h2; omega
  | succ f ih =>
    intro t s w hf hf30 ht hs
    have HIH := Lib.hid (fun t s w h1 h2 h3 h4 => ih t s w h1 h2 h3 h4)
    clear ih
    have hkl := stN_le (n - t) s
    have hs24 : s < 2 ^ 24 := Nat.lt_of_lt_of_le hs (Nat.pow_le_pow_right (by decide) (by omega))
    have hs' := strip_lt (k := stN (n - t) s) (show t + stN (n - t) s ≤ n by omega) hs
    have HGO := Lib.hid (fun k (hk : k ≤ stN (n - t) s) => stN_go hk)
    obtain ⟨m, hm⟩ : ∃ m, t + stN (n - t) s = m := ⟨_, rfl⟩
    obtain ⟨s1, hs1⟩ : ∃ s1, s / 2 ^ stN (n - t) s = s1 := ⟨_, rfl⟩
    rw [hm, hs1] at hs'
    obtain ⟨z, hz⟩ : ∃ z, stN (n - t) s = z := ⟨_, rfl⟩
    have HCE := Lib.hid (fun h => covL_end (a := a) (b := b) (f := f) (t := t) (s := s) (hm.trans h))
    have HCG := Lib.hid (fun h => covL_go (a := a) (b := b) (f := f) hm hs1 h)
    rw [hz] at HGO hs1 hm hkl
    have HZ := Lib.hid hz
    have HS1 := Lib.hid hs1
    have HMM := Lib.hid hm
    clear hz hs1 hm
    go_enter Tryd.func34, Tryd.ntmps34
    go_wp2_with fail
    go_loop [3, 4] (fun ti si => ∃ k : Nat, k ≤ z ∧ ti = .int .i64 ((t + k : Nat) : Int) ∧ si = .int .i64 ((s / 2 ^ k : Nat) : Int)) (fun ti _ => n - (intOf ti).toNat)
    case atStart => exact ⟨0, Nat.zero_le _, by simp, by simp⟩
    case round =>
      obtain ⟨k, hk, rfl, rfl⟩ := hrel
      have hgo := HGO.out k hk
      have hsk : s / 2 ^ k ≤ s := Nat.div_le_self _ _
      have hnx : s / 2 ^ (k + 1) = s / 2 ^ k / 2 := by rw [Nat.pow_succ, Nat.div_div_eq_div_mul]
      by_cases hlt : k < z
      · obtain ⟨h1, h2⟩ := hgo.1 (by have := HZ.out; omega)
        obtain ⟨u, hu⟩ : ∃ u, s / 2 ^ k = u := ⟨_, rfl⟩
        rw [hu] at hsk hnx h2 ⊢
        have hand := i64_and_nat u 1 (by omega) (by omega)
        rw [Nat.and_one_is_mod, h2] at hand
        have hand : bits .and .i64 (u : Int) 1 = 1 := hand
        obtain ⟨q, hq⟩ : ∃ q, u / 2 = q := ⟨_, rfl⟩
        rw [hq] at hnx
        have hqi : (u : Int) / 2 = (q : Int) := by rw [← hq]; rfl
        obtain ⟨tk, htk⟩ : ∃ tk, t + k = tk := ⟨_, rfl⟩
        have htn : (tk : Int) < (n : Int) := by omega
        have hwT : IntKind.i64.wrap ((tk : Int) + 1) = (tk : Int) + 1 := i64w (by omega)
        have HNX := Lib.hid hnx
        have HTK := Lib.hid htk
        rw [htk]
        clear hgo hu hnx h2 hq htk
        go_wp2_with fail
        go_round
        case rel => exact ⟨k + 1, hlt, by have := HTK.out; rw [show t + (k + 1) = tk + 1 by omega]; go_num, by rw [HNX.out]⟩
        case measure => simp [intOf]; omega
      · have hkz : k = z := by omega
        have hgo2 : ¬ (k < n - t ∧ s / 2 ^ k % 2 = 1) := fun h => hlt (by have := HZ.out; have := hgo.2 h; omega)
        rw [show s / 2 ^ k = s1 by rw [hkz]; exact HS1.out] at hgo2 hsk ⊢
        rw [show t + k = m by rw [hkz]; exact HMM.out]
        have hmn : m ≤ n := by have := HMM.out; omega
        have hand := i64_and_nat s1 1 (by omega) (by omega)
        rw [Nat.and_one_is_mod] at hand
        clear hgo hnx hkz hlt
        by_cases hme : m = n
        · have HL := Lib.hid (HCE.out hme)
          have hmi : ¬ (m : Int) < (n : Int) := by omega
          have hmd : decide ((m : Int) < (n : Int)) = false := decide_eq_false hmi
          have hmb : ((m : Int) == (n : Int)) = true := by rw [hme]; simp
          clear hme hgo2
          go_wp2_with fail
          go_ret
          exact ⟨ret_int (by rw [HL.out]; rfl), rfl⟩
        · have hodd : s1 % 2 = 0 := by have := HMM.out; omega
          rw [hodd] at hand
          have hand : bits .and .i64 (s1 : Int) 1 = 0 := hand
          have hmi : (m : Int) < (n : Int) := by omega
          have hmb : ((m : Int) == (n : Int)) = false := beq_eq_false_iff_ne.2 (by omega)
          have HL := Lib.hid (HCG.out hme)
          clear hgo2
          obtain ⟨d, hd⟩ : ∃ d, n - m = d := ⟨_, rfl⟩
          have hdw : IntKind.i64.wrap ((n : Int) - (m : Int)) = (d : Int) := by rw [show (n : Int) - (m : Int) = (d : Int) by omega]; exact i64w (by omega)
          have hd0 : (0 : Int) ≤ (d : Int) := Int.natCast_nonneg _
          have hd64 : d < 64 := by omega
          have HSL := Lib.hid (And.intro hs' (And.intro hs24 hsk))
          have HOR := Lib.hid (fun (x : Nat) (hx : x < 8192) => i64_or_nat s1 x (by omega) (by omega))
          have hHI : ∀ x : Nat, x < 8192 → x % 2 = 1 → x / 2 ^ d = 0 → ∀ V : World, Calls Tryd.prog 34 #[.int .i64 a, .int .i64 b, .int .i64 n, .int .i64 m, .int .i64 (bits .or .i64 (s1 : Int) (x : Int))] V fun e w' => e = .returned (.int .i64 (covL n a b f m (s1 ||| x)).length) ∧ V = w' := fun x hx hxo hx2 V => by
            rw [HOR.out x hx]
            have hm2 := HMM.out
            have hz2 := HZ.out
            refine HIH.out m (s1 ||| x) V ?_ (by omega) hmn (or_fit HSL.out.1 (by rw [hd]; exact hx2))
            have := stN_pos (d := n - m) (s := s1 ||| x) (by
              have := Nat.testBit_or s1 x 0
              rw [Nat.testBit_zero, Nat.testBit_zero, Nat.testBit_zero, decide_eq_true hxo, Bool.or_true] at this
              exact of_decide_eq_true this) (by omega)
            omega
          have HHI := Lib.hid hHI
          have hand1 := i64_and_nat s1 a (by omega) (by omega)
          have hand2 := i64_and_nat s1 b (by omega) (by omega)
          obtain ⟨qa1, hqa1⟩ : ∃ q, decide (s1 &&& a = 0) = q := ⟨_, rfl⟩
          obtain ⟨qa2, hqa2⟩ : ∃ q, decide (a / 2 ^ d = 0) = q := ⟨_, rfl⟩
          obtain ⟨qb0, hqb0⟩ : ∃ q, decide (b ≠ a) = q := ⟨_, rfl⟩
          obtain ⟨qb1, hqb1⟩ : ∃ q, decide (s1 &&& b = 0) = q := ⟨_, rfl⟩
          obtain ⟨qb2, hqb2⟩ : ∃ q, decide (b / 2 ^ d = 0) = q := ⟨_, rfl⟩
          have e1 : (bits .and .i64 (s1 : Int) (a : Int) == 0) = qa1 := by rw [hand1, ← hqa1, Bool.eq_iff_iff, beq_iff_eq, decide_eq_true_eq]; omega
          have e2 : ((a : Int) / 2 ^ d == 0) = qa2 := by rw [show (a : Int) / 2 ^ d = ((a / 2 ^ d : Nat) : Int) by simp, ← hqa2, Bool.eq_iff_iff, beq_iff_eq, decide_eq_true_eq]; omega
          have e3 : ((b : Int) != (a : Int)) = qb0 := by rw [← hqb0, Bool.eq_iff_iff, bne_iff_ne, decide_eq_true_eq]; omega
          have e4 : (bits .and .i64 (s1 : Int) (b : Int) == 0) = qb1 := by rw [hand2, ← hqb1, Bool.eq_iff_iff, beq_iff_eq, decide_eq_true_eq]; omega
          have e5 : ((b : Int) / 2 ^ d == 0) = qb2 := by rw [show (b : Int) / 2 ^ d = ((b / 2 ^ d : Nat) : Int) by simp, ← hqb2, Bool.eq_iff_iff, beq_iff_eq, decide_eq_true_eq]; omega
          obtain ⟨LA, hLA⟩ : ∃ LA, (if qa1 = true ∧ qa2 = true then (covL n a b f m (s1 ||| a)).length else 0) = LA := ⟨_, rfl⟩
          obtain ⟨LB, hLB⟩ : ∃ LB, (if qb0 = true ∧ qb1 = true ∧ qb2 = true then (covL n a b f m (s1 ||| b)).length else 0) = LB := ⟨_, rfl⟩
          have HLL := Lib.hid (show (covL n a b (f + 1) t s).length = LA + LB from by
            rw [HL.out, List.length_append, ← hLA, ← hLB, ← hqa1, ← hqa2, ← hqb0, ← hqb1, ← hqb2, hd]
            simp only [decide_eq_true_eq]
            congr 1
            · split
              · rw [List.length_map]
              · rfl
            · split
              · rw [List.length_map]
              · rfl)
          have hpw : 2 ^ f ≤ 2 ^ 29 := Nat.pow_le_pow_right (by decide) (by omega)
          have hla : LA ≤ 2 ^ f := by
            rw [← hLA]
            split
            · exact covL_bnd n a b f m (s1 ||| a)
            · exact Nat.zero_le _
          have hlb : LB ≤ 2 ^ f := by
            rw [← hLB]
            split
            · exact covL_bnd n a b f m (s1 ||| b)
            · exact Nat.zero_le _
          have hw1 : IntKind.i64.wrap (LA : Int) = (LA : Int) := i64w (by omega)
          have hw3 : IntKind.i64.wrap (LB : Int) = (LB : Int) := i64w (by omega)
          have hw2 : IntKind.i64.wrap ((LA : Int) + (LB : Int)) = (LA : Int) + (LB : Int) := i64w (by omega)
          have HQA := Lib.hid (And.intro hqa1 hqa2)
          have HQB := Lib.hid (And.intro hqb0 (And.intro hqb1 hqb2))
          have HLA := Lib.hid hLA
          have HLB := Lib.hid hLB
          clear hand1 hand2 hqa1 hqa2 hqb0 hqb1 hqb2 hLA hLB hpw hla hlb hHI hme hs24 hsk hs' hodd
          have HA1 := Lib.hid (HHI.out a ha hao)
          have HB1 := Lib.hid (HHI.out b hb hbo)
          cases qa1
          · have hz0 : LA = 0 := by rw [← HLA.out]; rfl
            subst hz0
            clear HA1 HLA HQA hw1 hw2
            have HLL := Lib.hid (show (covL n a b (f + 1) t s).length = LB from by rw [HLL.out, Nat.zero_add])
            cases qb0
            · have hz1 : LB = 0 := by rw [← HLB.out]; rfl
              subst hz1
              clear HB1 HLB HQB
              go_wp2_with fail
              go_ret
              exact ⟨ret_int (by rw [HLL.out]; try simp), rfl⟩
            · cases qb1
              · have hz1 : LB = 0 := by rw [← HLB.out]; rfl
                subst hz1
                clear HB1 HLB HQB
                go_wp2_with fail
                go_ret
                exact ⟨ret_int (by rw [HLL.out]; try simp), rfl⟩
              · cases qb2
                · have hz1 : LB = 0 := by rw [← HLB.out]; rfl
                  subst hz1
                  clear HB1 HLB HQB
                  go_wp2_with fail
                  go_ret
                  exact ⟨ret_int (by rw [HLL.out]; try simp), rfl⟩
                · have hlb : (covL n a b f m (s1 ||| b)).length = LB := by rw [← HLB.out]; rfl
                  rw [hlb] at HB1
                  have HBX := Lib.hid (HB1.out (of_decide_eq_true HQB.out.2.2))
                  clear hlb HB1 HLB HQB
                  go_wp2_with fail
                  refine (HBX.out _).mono ?_
                  rintro e w' ⟨rfl, hw'⟩
                  obtain rfl := hw'
                  go_wp2_with fail
                  go_ret
                  exact ⟨ret_int (by rw [HLL.out]; try simp), rfl⟩
          · cases qa2
            · have hz0 : LA = 0 := by rw [← HLA.out]; rfl
              subst hz0
              clear HA1 HLA HQA hw1 hw2
              have HLL := Lib.hid (show (covL n a b (f + 1) t s).length = LB from by rw [HLL.out, Nat.zero_add])
              cases qb0
              · have hz1 : LB = 0 := by rw [← HLB.out]; rfl
                subst hz1
                clear HB1 HLB HQB
                go_wp2_with fail
                go_ret
                exact ⟨ret_int (by rw [HLL.out]; try simp), rfl⟩
              · cases qb1
                · have hz1 : LB = 0 := by rw [← HLB.out]; rfl
                  subst hz1
                  clear HB1 HLB HQB
                  go_wp2_with fail
                  go_ret
                  exact ⟨ret_int (by rw [HLL.out]; try simp), rfl⟩
                · cases qb2
                  · have hz1 : LB = 0 := by rw [← HLB.out]; rfl
                    subst hz1
                    clear HB1 HLB HQB
                    go_wp2_with fail
                    go_ret
                    exact ⟨ret_int (by rw [HLL.out]; try simp), rfl⟩
                  · have hlb : (covL n a b f m (s1 ||| b)).length = LB := by rw [← HLB.out]; rfl
                    rw [hlb] at HB1
                    have HBX := Lib.hid (HB1.out (of_decide_eq_true HQB.out.2.2))
                    clear hlb HB1 HLB HQB
                    go_wp2_with fail
                    refine (HBX.out _).mono ?_
                    rintro e w' ⟨rfl, hw'⟩
                    obtain rfl := hw'
                    go_wp2_with fail
                    go_ret
                    exact ⟨ret_int (by rw [HLL.out]; try simp), rfl⟩
            · have hla : (covL n a b f m (s1 ||| a)).length = LA := by rw [← HLA.out]; rfl
              rw [hla] at HA1
              have HAX := Lib.hid (HA1.out (of_decide_eq_true HQA.out.2))
              clear hla HA1 HLA HQA
              go_wp2_with fail
              refine (HAX.out _).mono ?_
              rintro e w' ⟨rfl, hw'⟩
              obtain rfl := hw'
              cases qb0
              · have hz1 : LB = 0 := by rw [← HLB.out]; rfl
                subst hz1
                clear HB1 HLB HQB
                go_wp2_with fail
                go_ret
                exact ⟨ret_int (by rw [HLL.out]; try simp), rfl⟩
              · cases qb1
                · have hz1 : LB = 0 := by rw [← HLB.out]; rfl
                  subst hz1
                  clear HB1 HLB HQB
                  go_wp2_with fail
                  go_ret
                  exact ⟨ret_int (by rw [HLL.out]; try simp), rfl⟩
                · cases qb2
                  · have hz1 : LB = 0 := by rw [← HLB.out]; rfl
                    subst hz1
                    clear HB1 HLB HQB
                    go_wp2_with fail
                    go_ret
                    exact ⟨ret_int (by rw [HLL.out]; try simp), rfl⟩
                  · have hlb : (covL n a b f m (s1 ||| b)).length = LB := by rw [← HLB.out]; rfl
                    rw [hlb] at HB1
                    have HBX := Lib.hid (HB1.out (of_decide_eq_true HQB.out.2.2))
                    clear hlb HB1 HLB HQB
                    go_wp2_with fail
                    refine (HBX.out _).mono ?_
                    rintro e w' ⟨rfl, hw'⟩
                    obtain rfl := hw'
                    go_wp2_with fail
                    go_ret
                    exact ⟨ret_int (by rw [HLL.out]; try simp), rfl⟩

end Go.Proofs.YtoofkchhjkhdeaaDoor
