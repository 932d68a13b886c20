/-
  The distance between two rhythms, by the program and by the reference.
-/
import Derived.Test.YtlejlcnemibgiaaWayV
import Derived.Test.YtlejlcnemibgiaaRem
import Derived.Test.YtlejlcnemibgiaaSpcR
import Derived.Test.YtlejlcnemibgiaaFrm
namespace Go.Proofs.Ytlejlcnemibgiaa
open Go.RowKit
set_option linter.unusedVariables false
set_option linter.unusedSimpArgs false

def lstV (f : Int → Int) (lo : Int) : Nat → Int
  | 0 => -1
  | j + 1 => leastF f lo j
theorem lstV_succ {f : Int → Int} (hf : ∀ s, 0 ≤ f s) {lo : Int} (j : Nat) : lstV f lo (j + 1) = if lstV f lo j < 0 ∨ f (lo + j) < lstV f lo j then f (lo + j) else lstV f lo j := by
  cases j with
  | zero =>
    rw [if_pos (Or.inl (show lstV f lo 0 < 0 by show (-1 : Int) < 0; decide))]
    show f lo = _
    simp
  | succ j =>
    have hge : ∀ m, 0 ≤ leastF f lo m := fun m => by
      obtain ⟨_, s, _, _, e⟩ := leastF_spec f lo m
      rw [e]; exact hf s
    have e1 : lstV f lo (j + 1 + 1) = leastF f lo (j + 1) := rfl
    have e2 : lstV f lo (j + 1) = leastF f lo j := rfl
    have e3 : leastF f lo (j + 1) = if f (lo + ((j + 1 : Nat) : Int)) < leastF f lo j then f (lo + ((j + 1 : Nat) : Int)) else leastF f lo j := rfl
    rw [e1, e2, e3]
    have := hge j
    by_cases h : f (lo + ((j + 1 : Nat) : Int)) < leastF f lo j
    · rw [if_pos h, if_pos (Or.inr h)]
    · rw [if_neg h, if_neg (by omega)]
theorem lstV_lo (f : Int → Int) (hf : ∀ s, 0 ≤ f s) (lo : Int) (j : Nat) : -1 ≤ lstV f lo j := by
  cases j with
  | zero => exact Int.le_refl _
  | succ j =>
    obtain ⟨_, s, _, _, e⟩ := leastF_spec f lo j
    show -1 ≤ leastF f lo j
    rw [e]; have := hf s; omega
theorem abs_max (d : Int) : (if d < -d then -d else d) = absI d := by unfold absI; split <;> split <;> omega
theorem abs_two (p q : Int) : (if p - q < q - p then q - p else p - q) = absI (p - q) := by unfold absI; split <;> split <;> omega
theorem ext_two {n : Int} {b : List Int} {t : Int} {m : Nat} {c : Int} (hm : t % (b.length : Int) = m) (hc : t / (b.length : Int) = c) : extB n b t = b.getD m 0 + c * n := by
  unfold extB
  rw [hm, hc, Int.toNat_natCast]
theorem tdiv_rem (t k : Int) (hk : 0 < k) : (t - t % k).tdiv k = t / k := by
  have := Int.emod_add_mul_ediv t k
  rw [show t - t % k = k * (t / k) by omega]
  exact Int.mul_tdiv_cancel_left _ (by omega)
/-- What the sum has come to. -/
def sumP (n : Int) (a b : List Int) (s : Int) (i : Nat) : Int := sigN (fun i => absI (extB n a i - extB n b (i + s))) i
theorem sumP_succ (n : Int) (a b : List Int) (s : Int) (i : Nat) : sumP n a b s (i + 1) = sumP n a b s i + absI (extB n a i - extB n b (i + s)) := rfl
theorem absI_sym (x y : Int) : absI (x - y) = absI (y - x) := by unfold absI; split <;> split <;> omega

theorem farV_none {n : Int} {a b : List Int} (h : a.length = 0) : farV n a b = 0 := by
  obtain ⟨s, e⟩ := farV_ex n a b
  rw [e]
  unfold farS farG
  rw [h]
  rfl
section
variable {N : Nat} {a b : List Int}
/-- Where beat i goes, with a turn of s, and the numbers that come up. -/
theorem dst_nums (ha : RhOk N a) (hb : RhOk N b) (hl : a.length = b.length) {i : Nat} (hi : i < a.length) {s : Int} (hs : -(a.length : Int) ≤ s ∧ s ≤ a.length) :
    ∃ (m : Nat) (c : Int), ((i : Int) + s) % (a.length : Int) = m ∧ m < b.length ∧ ((i : Int) + s) / (a.length : Int) = c ∧ -2 ≤ c ∧ c ≤ 2 ∧ ((i : Int) + s - m).tdiv a.length = c ∧ extB N b (i + s) = b.getD m 0 + c * N := by
  have hk : (0 : Int) < a.length := by omega
  have h0 := Int.emod_nonneg ((i : Int) + s) (show (a.length : Int) ≠ 0 by omega)
  have h1 := Int.emod_lt_of_pos ((i : Int) + s) hk
  obtain ⟨m, hm⟩ := Int.eq_ofNat_of_zero_le h0
  have hq := Int.emod_add_mul_ediv ((i : Int) + s) a.length
  refine ⟨m, _, hm, by omega, rfl, ?_, ?_, ?_, ?_⟩
  · refine Int.le_ediv_of_mul_le hk (by omega)
  · have := Int.ediv_lt_of_lt_mul (a := (i : Int) + s) (b := 3) hk (by omega); omega
  · rw [← hm]; exact tdiv_rem _ _ hk
  · exact ext_two (by rw [← hl]; exact hm) (by rw [← hl])
theorem sumP_bnd (ha : RhOk N a) (hb : RhOk N b) (hl : a.length = b.length) {s : Int} (hs : -(a.length : Int) ≤ s ∧ s ≤ a.length) : ∀ i, i ≤ a.length → 0 ≤ sumP N a b s i ∧ sumP N a b s i ≤ i * 100
  | 0, _ => ⟨Int.le_refl _, by simp [sumP, sigN]⟩
  | i + 1, h => by
    have ih := sumP_bnd ha hb hl hs i (by omega)
    obtain ⟨m, c, _, hm, _, hc1, hc2, _, e⟩ := dst_nums ha hb hl (i := i) (by omega) hs
    have r := ext_range ha i (by omega)
    have q := hb.2.2.1 m hm
    have := ha.1
    have := ha.2.1
    rw [sumP_succ, e]
    have hcn : -48 ≤ c * N ∧ c * N ≤ 48 := by
      rcases (show c = -2 ∨ c = -1 ∨ c = 0 ∨ c = 1 ∨ c = 2 by omega) with rfl | rfl | rfl | rfl | rfl <;> omega
    unfold absI
    split <;> omega
end

set_option maxRecDepth 100000 in
set_option maxHeartbeats 4000000 in
theorem impl_distance_any (N : Nat) (A B : Option Addr) (ca cb : Nat) (a b : List Int) (w : World) (hA : Ints w w.heap.size A a) (hB : Ints w w.heap.size B b) (ha : RhOk N a) (hb : RhOk N b) (hl : a.length = b.length) :
    Calls Try.prog 24 #[.agg #[.int .i64 N, .slice A a.length ca], .agg #[.int .i64 N, .slice B b.length cb]] w fun e w' => e = .returned (.int .i64 (farV N a b)) ∧ Below w.heap.size w w' := by
  have hn1 : 1 ≤ N := by have := ha.1; omega
  have hn2 : N ≤ 24 := by have := ha.2.1; omega
  have hal : a.length ≤ 24 := by have := rhok_len ha; omega
  have hbl : b.length ≤ 24 := by omega
  have HOA := Lib.hid ha
  have HOB := Lib.hid hb
  have HL := Lib.hid hl
  have hal0 := (Below.refl w.heap.size w).alloc (Nat.le_refl _) (.cells #[.int .i64 N, .slice A a.length ca] 26)
  have hal1 := hal0.alloc hal0.size (.cells #[.int .i64 N, .slice B b.length cb] 26)
  have HC0 := Lib.hid ((Cells2.new w (.int .i64 N) (.slice A a.length ca) 26).alloc (.cells #[.int .i64 N, .slice B b.length cb] 26))
  have HD0 := Lib.hid (Cells2.new_at (w.alloc (.cells #[.int .i64 N, .slice A a.length ca] 26)) (.int .i64 N) (.slice B b.length cb) 26 (w.heap.size + 1) (by simp))
  have HB0 := Lib.hid hal1
  have HIA := Lib.hid (hA.lift hal1)
  have HIB := Lib.hid (hB.lift hal1)
  clear hA hB hal0 hal1 ha hb hl
  obtain ⟨c0, c1, _, _, _⟩ := HC0.out
  obtain ⟨d0, d1, _, _, _⟩ := HD0.out
  have hneg : IntKind.i64.wrap (-(a.length : Int)) = -(a.length : Int) := i64w (by omega)
  go_enter Try.func24, Try.ntmps24
  go_wp2_with fail
  generalize (w.alloc (.cells #[.int .i64 N, .slice A a.length ca] 26)).alloc (.cells #[.int .i64 N, .slice B b.length cb] 26) = w0 at *
  obtain ⟨q, hq⟩ : ∃ q, w.heap.size = q := ⟨_, rfl⟩
  have HQ := Lib.hid hq
  rw [hq] at HC0 HD0 HB0 ⊢
  clear hq c0 c1 d0 d1
  have HFN := Lib.hid (farS_nonneg N a b)
  go_loopw [6, 7] (fun le tu wr => ∃ j : Nat, j ≤ 2 * a.length + 1 ∧ tu = .int .i64 (-(a.length : Int) + j) ∧ le = .int .i64 (lstV (farS N a b) (-(a.length : Int)) j) ∧ Below w0.heap.size w0 wr) (fun _ tu _ => ((a.length : Int) + 1 - intOf tu).toNat)
  case atStart => exact ⟨0, by omega, by simp, rfl, Below.refl _ _⟩
  case round =>
    obtain ⟨j, hj, rfl, rfl, hbel⟩ := hrel
    obtain ⟨wo, rfl⟩ : ∃ wo : World, wo = wr := ⟨_, rfl⟩
    have HBE := Lib.hid hbel
    clear hbel hneg
    by_cases hlt : j ≤ 2 * a.length
    · have HLS := Lib.hid (lstV_succ HFN.out (lo := -(a.length : Int)) j)
      have hlo := lstV_lo (farS N a b) HFN.out (-(a.length : Int)) j
      obtain ⟨lj, hlj⟩ : ∃ x, lstV (farS N a b) (-(a.length : Int)) j = x := ⟨_, rfl⟩
      rw [hlj] at HLS hlo ⊢
      obtain ⟨s, hs⟩ : ∃ s, -(a.length : Int) + j = s := ⟨_, rfl⟩
      rw [hs] at HLS ⊢
      have HS := Lib.hid hs
      have HLJ := Lib.hid hlj
      have hs1 : -(a.length : Int) ≤ s := by omega
      have hs2 : s ≤ (a.length : Int) := by omega
      have HSU := Lib.hid (show farS N a b s = sumP N a b s a.length from rfl)
      have hws : IntKind.i64.wrap (s + 1) = s + 1 := i64w (by omega)
      clear hlj hs
      obtain ⟨c0, c1, _, _, _⟩ := HC0.out.below HBE.out HC0.out.2.2.2.2
      go_wp2_with fail
      go_loopw [8, 27] (fun su ii wr => ∃ i : Nat, i ≤ a.length ∧ ii = .int .i64 i ∧ su = .int .i64 (sumP N a b s i) ∧ Below w0.heap.size w0 wr) (fun _ ii _ => a.length - (intOf ii).toNat)
      case atStart => exact ⟨0, Nat.zero_le _, rfl, rfl, HBE.out⟩
      case round =>
        obtain ⟨i, hi, rfl, rfl, hbel⟩ := hrel
        obtain ⟨wi, rfl⟩ : ∃ wo : World, wo = wr := ⟨_, rfl⟩
        have HBI := Lib.hid hbel
        clear hbel c0 c1
        obtain ⟨c0, c1, _, _, _⟩ := HC0.out.below HBI.out HC0.out.2.2.2.2
        obtain ⟨d0, d1, _, _, _⟩ := HD0.out.below HBI.out HD0.out.2.2.2.2
        have hbd := sumP_bnd HOA.out HOB.out HL.out ⟨hs1, hs2⟩ i hi
        by_cases hil : i < a.length
        · have hili : (i : Int) < (a.length : Int) := by omega
          have hi0 : (0 : Int) ≤ (i : Int) := Int.natCast_nonneg _
          have HSS := Lib.hid (sumP_succ N a b s i)
          obtain ⟨m, c, hm, hmb, hc, hc1, hc2, htd, hex⟩ := dst_nums HOA.out HOB.out HL.out hil ⟨hs1, hs2⟩
          have hA1 := HIA.out.lift HBI.out
          have hB1 := HIB.out.lift HBI.out
          obtain ⟨bA, oA, hAe, hAB, hac⟩ := hA1.2.2 (by omega)
          obtain ⟨bB, oB, hBe, hBB, hbc⟩ := hB1.2.2 (by omega)
          have hcell := hac i hil
          have hcell2 := hbc m hmb
          have hpr := HOA.out.2.2.1 i hil
          have hqr := HOB.out.2.2.1 m hmb
          rw [extB_at N a i hil, hex] at HSS
          obtain ⟨p, hp⟩ : ∃ p, a.getD i 0 = p := ⟨_, rfl⟩
          obtain ⟨y, hy⟩ : ∃ y, b.getD m 0 = y := ⟨_, rfl⟩
          rw [hp] at hcell hpr HSS
          rw [hy] at hcell2 hqr HSS
          have hcn : -48 ≤ c * (N : Int) ∧ c * (N : Int) ≤ 48 := by
            rcases (show c = -2 ∨ c = -1 ∨ c = 0 ∨ c = 1 ∨ c = 2 by omega) with rfl | rfl | rfl | rfl | rfl <;> omega
          subst hAe hBe
          have HRM := Lib.hid (fun V => impl_remainder_any ((i : Int) + s) a.length V (by omega) (by omega))
          rw [hm] at HRM
          obtain ⟨S, hS⟩ : ∃ S, sumP N a b s i = S := ⟨_, rfl⟩
          rw [hS] at HSS hbd ⊢
          have w1 : IntKind.i64.wrap ((i : Int) + s) = (i : Int) + s := i64w (by omega)
          have w2 : IntKind.i64.wrap ((i : Int) + s - (m : Int)) = (i : Int) + s - (m : Int) := i64w (by omega)
          have w3 : IntKind.i64.wrap c = c := i64w (by omega)
          have w4 : IntKind.i64.wrap (c * (N : Int)) = c * (N : Int) := i64w (by omega)
          have w5 : IntKind.i64.wrap (y + c * (N : Int)) = y + c * (N : Int) := i64w (by omega)
          have w6 : IntKind.i64.wrap (y + c * (N : Int) - p) = y + c * (N : Int) - p := i64w (by omega)
          have w7 : IntKind.i64.wrap (-(y + c * (N : Int) - p)) = -(y + c * (N : Int) - p) := i64w (by omega)
          have hk0 : ((a.length : Int) = 0) = False := eq_false (by omega)
          have hmi : (0 : Int) ≤ (m : Int) ∧ (m : Int) < (b.length : Int) := by omega
          obtain ⟨hm0, hm1⟩ := hmi
          clear hac hbc hp hy hS hm hc hex hA1 hB1
          go_wp2_with (go_at_call 49; refine (HRM.out _).mono ?_; rintro e w' ⟨rfl, rfl⟩)
          go_quiet ((go_at_call 49; exact Calls.quiet_of_left (HRM.out _)))
          go_wp2_with fail
          go_roundw
          case rel => exact ⟨i + 1, by omega, by go_num, by
            rw [HSS.out, ← absI_sym, ← abs_max]
            congr 1
            omega, Below.drewN_ HBI.out _⟩
          case measure => simp [intOf]; omega
        · have hie : i = a.length := by omega
          subst hie
          rw [← HSU.out] at hbd ⊢
          obtain ⟨F, hF⟩ : ∃ F, farS N a b s = F := ⟨_, rfl⟩
          rw [hF] at HLS hbd ⊢
          have HFE := Lib.hid hF
          clear hF
          by_cases h1 : lj < 0
          · rw [if_pos (Or.inl h1)] at HLS
            go_wp2_with fail
            go_roundw
            case rel => exact ⟨j + 1, by omega, by rw [← HS.out]; go_num, by rw [HLS.out], HBI.out⟩
            case measure => simp [intOf]; omega
          · by_cases h2 : F < lj
            · rw [if_pos (Or.inr h2)] at HLS
              go_wp2_with fail
              go_roundw
              case rel => exact ⟨j + 1, by omega, by rw [← HS.out]; go_num, by rw [HLS.out], HBI.out⟩
              case measure => simp [intOf]; omega
            · rw [if_neg (by omega)] at HLS
              go_wp2_with fail
              go_roundw
              case rel => exact ⟨j + 1, by omega, by rw [← HS.out]; go_num, by rw [HLS.out], HBI.out⟩
              case measure => simp [intOf]; omega
    · have hje : j = 2 * a.length + 1 := by omega
      subst hje
      have HV := Lib.hid (show lstV (farS N a b) (-(a.length : Int)) (2 * a.length + 1) = farV N a b from rfl)
      rw [HV.out]
      obtain ⟨V, hV⟩ : ∃ V, farV N a b = V := ⟨_, rfl⟩
      have HVV := Lib.hid hV
      rw [hV]
      clear hV
      go_wp2_with fail
      go_ret
      exact ⟨ret_int HVV.out.symm, by rw [HQ.out]; exact HB0.out.trans (HBE.out.mono (Nat.le_of_lt HC0.out.2.2.2.2))⟩

end Go.Proofs.Ytlejlcnemibgiaa
