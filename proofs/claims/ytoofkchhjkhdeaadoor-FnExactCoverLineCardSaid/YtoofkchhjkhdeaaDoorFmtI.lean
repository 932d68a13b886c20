/-
  FormatInt of both at every int: the digits.
-/
import Derived.Test.YtoofkchhjkhdeaaDoorFmtS
import Derived.Test.YtoofkchhjkhdeaaDoorStrs
import Derived.Deep.RegionLaw
import Derived.Lib.SmallJoins
import Derived.Lib.AppendIntMem
namespace Go.Proofs.YtoofkchhjkhdeaaDoor
open Go.RowKit Go.Shelf
set_option linter.unusedVariables false
set_option linter.unusedSimpArgs false

/-- strconv's table of powers lies where it lay. -/
def Pow (w : World) : Prop := Lib.TabIs Tryd.prog w "internal/strconv.uint64pow10" .u64 Lib.pow10Tab
theorem Pow.below {w w' : World} (h : Pow w) (hb : Below w.heap.size w w') : Pow w' := by
  obtain ⟨g, hg⟩ : ∃ g, Tryd.prog.globalNamed "internal/strconv.uint64pow10" = some g := Option.isSome_iff_exists.1 (by kernel_rfl)
  exact Joins.tab_stays hg h hb (Nat.le_refl _)
theorem Pow.alloc {w : World} (h : Pow w) (o : Obj) : Pow (w.alloc o) := h.below ((Below.refl _ _).alloc (Nat.le_refl _) o)

def itoL (n : Int) : Txt := Lib.itoa n
theorem itoL_pos (N : Nat) : itoL (N : Int) = Lib.decDigits N := by
  unfold itoL Lib.itoa; rw [if_neg (by omega)]; rfl
theorem itoL_neg (N : Nat) (h : 0 < N) : itoL (-(N : Int)) = 45 :: Lib.decDigits N := by
  unfold itoL Lib.itoa; rw [if_pos (by omega)]; simp
theorem decD_small {k : Nat} (h : k < 10) : Lib.decDigits k = [UInt8.ofNat (48 + k)] := by rw [Lib.decDigits, dif_pos h]
theorem decD_big {k : Nat} (h : ¬ k < 10) : Lib.decDigits k = Lib.decDigits (k / 10) ++ [UInt8.ofNat (48 + k % 10)] := by rw [Lib.decDigits, dif_neg h]
theorem decD_len : ∀ (p k : Nat), k < 10 ^ (p + 1) → (Lib.decDigits k).length ≤ p + 1
  | 0, k, h => by rw [decD_small (by simpa using h)]; simp
  | p + 1, k, h => by
    by_cases h9 : k < 10
    · rw [decD_small h9]; simp
    · rw [decD_big h9, List.length_append]
      have := decD_len p (k / 10) (by rw [Nat.pow_succ] at h; omega)
      simp; omega
theorem itoL_len (n : Int) (h : Fits n) : (itoL n).length ≤ 20 := by
  unfold Fits at h
  obtain ⟨N, rfl | rfl⟩ := Int.eq_nat_or_neg n
  · rw [itoL_pos]
    have := decD_len 18 N (by omega)
    omega
  · by_cases h0 : 0 < N
    · rw [itoL_neg N h0]
      have := decD_len 18 N (by omega)
      simp; omega
    · have : N = 0 := by omega
      subst this
      rw [show (-((0 : Nat) : Int)) = ((0 : Nat) : Int) from rfl, itoL_pos, decD_small (by omega)]
      simp

theorem conv1 (V : World) (c : UInt8) (v : Int) (hv : (c.toNat : Int) = v) :
    (convert 34 9 (.slice (some ⟨V.heap.size, 0, none⟩) 1 1)).run Tryd.prog (V.alloc (.cells #[.int .u8 v] 5)) = .ok (.string (mkS [c])) (V.alloc (.cells #[.int .u8 v] 5)) := by
  have htb : TabU (V.alloc (.cells #[.int .u8 v] 5)) V.heap.size 1 (fun _ => c) := by
    refine ⟨by simp, fun t ht => ?_⟩
    have ht0 : t = 0 := by omega
    subst ht0
    refine ⟨?_, frozen_of_row _ _ _ _ _ (heap_alloc_new V _)⟩
    rw [cell_new1, hv]
  exact htb.string 1
theorem conv1b (V V' : World) (c : UInt8) (v : Int) (hv : (c.toNat : Int) = v) (hb : Below (V.alloc (.cells #[.int .u8 v] 5)).heap.size (V.alloc (.cells #[.int .u8 v] 5)) V') :
    (convert 34 9 (.slice (some ⟨V.heap.size, 0, none⟩) 1 1)).run Tryd.prog V' = .ok (.string (mkS [c])) V' := by
  have htb : TabU (V.alloc (.cells #[.int .u8 v] 5)) V.heap.size 1 (fun _ => c) := by
    refine ⟨by simp, fun t ht => ?_⟩
    have ht0 : t = 0 := by omega
    subst ht0
    refine ⟨?_, frozen_of_row _ _ _ _ _ (heap_alloc_new V _)⟩
    rw [cell_new1, hv]
  exact (htb.below hb (by simp)).string 1
theorem Below.undrew_ {B : Nat} {a w : World} (h : Below B a.drew w) : Below B a w := ⟨h.os, h.tape, h.output, h.size, h.block⟩
theorem dig_nat (r : Nat) (h : r < 10) : ((UInt8.ofNat (48 + r)).toNat : Int) = 48 + (r : Int) := by rw [UInt8.toNat_ofNat']; omega

theorem impl_FormatInt_any (n : Int) (hn : Fits n) (w : World) (hP : Pow w) :
    Calls Tryd.prog 17 #[.int .i64 n] w fun e w' => e = .returned (.string (mkS (itoL n))) ∧ Below w.heap.size w w' := by
  have HI := Lib.hid (Any.strconv_Itoa Tryd.laysM171 n hn.1 hn.2 w hP)
  have he : (⟨(Lib.itoa n).toArray⟩ : ByteArray) = mkS (itoL n) := rfl
  rw [he] at HI
  clear he
  generalize mkS (itoL n) = X at HI ⊢
  go_enter Tryd.func17, Tryd.ntmps17
  go_wp2_with fail
  refine HI.out.mono ?_
  rintro e w' ⟨rfl, k, os, rfl⟩
  have HB := Lib.hid (Lib.below_grow w.heap.size w (Nat.le_refl _) k os)
  generalize Sort.grow (w.drewN k) os = w2 at HB ⊢
  go_wp2_with fail
  go_ret
  exact ⟨rfl, HB.out⟩

set_option maxRecDepth 100000 in
set_option maxHeartbeats 1000000 in
theorem spec_FormatInt_pos (N : Nat) (hN : N ≤ 9223372036854775807) (w : World) :
    Calls Tryd.prog 10 #[.int .i64 N] w fun e w' => e = .returned (.string (mkS (Lib.decDigits N))) ∧ Below w.heap.size w w' := by
  obtain ⟨D, hD⟩ : ∃ D, Lib.decDigits N = D := ⟨_, rfl⟩
  have HD := Lib.hid hD
  have HL := Lib.hid (show D.length ≤ 19 by rw [← hD]; exact decD_len 18 N (by omega))
  rw [hD]
  clear hD
  go_enter Tryd.func10, Tryd.ntmps10
  go_wp2_with fail
  go_loopw [0, 3] (fun n t wr => ∃ (k : Nat) (u : ByteArray) (suf : Txt), n = .int .i64 k ∧ k ≤ N ∧ t = .string u ∧ Str u suf ∧ Lib.decDigits k ++ suf = D ∧ Below w.heap.size w wr) (fun n _ _ => (intOf n).toNat)
  case atStart => exact ⟨N, _, [], rfl, Nat.le_refl _, rfl, str_nil, by simpa using HD.out, Below.refl _ _⟩
  case round =>
    obtain ⟨k, u, suf, rfl, hkN, rfl, hu, hsuf, hbel⟩ := hrel
    obtain ⟨wo, rfl⟩ : ∃ wo : World, wo = wr := ⟨_, rfl⟩
    have hsl : suf.length ≤ 19 := by have h1 := HL.out; rw [← hsuf, List.length_append] at h1; omega
    have hus : u.size ≤ 19 := by rw [hu.size]; exact hsl
    have HU := Lib.hid hu
    have HSUF := Lib.hid hsuf
    have HBEL := Lib.hid hbel
    clear hu hsuf hbel hsl
    by_cases h9 : k < 10
    · have h9' : ¬ 9 < k := by omega
      have hw2 : IntKind.i64.wrap (48 + (k : Int)) = 48 + (k : Int) := i64w (by omega)
      have hw3 : IntKind.u8.wrap (48 + (k : Int)) = 48 + (k : Int) := by rw [IntKind.wrap_u8]; omega
      have hcv := conv1 wo (UInt8.ofNat (48 + k)) (48 + (k : Int)) (dig_nat k h9)
      have HS := Lib.hid (str_mk [UInt8.ofNat (48 + k)])
      have h1 : (mkS [UInt8.ofNat (48 + k)]).size = 1 := by rw [mkS_size]; rfl
      have HE := Lib.hid (show [UInt8.ofNat (48 + k)] ++ suf = D by rw [← decD_small h9]; exact HSUF.out)
      generalize [UInt8.ofNat (48 + k)] = cl at hcv h1 HE HS
      generalize mkS cl = C at hcv h1 HS
      clear h9
      go_wp2_with fail
      go_ret
      refine ⟨ret_str ?_, HBEL.out.alloc HBEL.out.size _⟩
      have := HS.out.app HU.out
      rw [HE.out] at this
      exact this.eq
    · have h9' : 9 < k := by omega
      have HST := Lib.hid (show Lib.decDigits (k / 10) ++ ([UInt8.ofNat (48 + k % 10)] ++ suf) = D by rw [← List.append_assoc, ← decD_big h9]; exact HSUF.out)
      obtain ⟨q, hq⟩ : ∃ q, k / 10 = q := ⟨_, rfl⟩
      obtain ⟨r, hr⟩ : ∃ r, k % 10 = r := ⟨_, rfl⟩
      have hr10 : r < 10 := by omega
      have hq1 : (k : Int).tdiv 10 = (q : Int) := by rw [← hq]; rfl
      have hr1 : (k : Int).tmod 10 = (r : Int) := by rw [← hr]; rfl
      have hq2 : (k : Int) / 10 = (q : Int) := by omega
      have hr2 : (k : Int) % 10 = (r : Int) := by omega
      have hqk : q < k := by omega
      rw [hq, hr] at HST
      have hw2 : IntKind.i64.wrap (48 + (r : Int)) = 48 + (r : Int) := i64w (by omega)
      have hw3 : IntKind.u8.wrap (48 + (r : Int)) = 48 + (r : Int) := by rw [IntKind.wrap_u8]; omega
      have hwq : IntKind.i64.wrap (q : Int) = (q : Int) := i64w (by omega)
      have hwr : IntKind.i64.wrap (r : Int) = (r : Int) := i64w (by omega)
      have hcv := conv1 wo (UInt8.ofNat (48 + r)) (48 + (r : Int)) (dig_nat r hr10)
      have HS := Lib.hid (str_mk [UInt8.ofNat (48 + r)])
      have h1 : (mkS [UInt8.ofNat (48 + r)]).size = 1 := by rw [mkS_size]; rfl
      generalize [UInt8.ofNat (48 + r)] = cl at hcv h1 HST HS
      generalize mkS cl = C at hcv h1 HS
      clear h9 hq hr
      go_wp2_with fail
      go_roundw
      case rel => exact ⟨q, _, cl ++ suf, rfl, by omega, rfl, HS.out.app HU.out, HST.out, HBEL.out.alloc HBEL.out.size _⟩
      case measure => simp [intOf]; omega

set_option maxRecDepth 100000 in
set_option maxHeartbeats 1000000 in
theorem spec_FormatInt_neg : ∀ (m N : Nat), N ≤ m → 0 < N → N ≤ 9223372036854775808 → ∀ w : World,
    Calls Tryd.prog 10 #[.int .i64 (-(N : Int))] w fun e w' => e = .returned (.string (mkS (45 :: Lib.decDigits N))) ∧ Below w.heap.size w w'
  | 0, N, h, h0, _, _ => by omega
  | m + 1, N, h, h0, hN, w => by
    have IH := Lib.hid (spec_FormatInt_neg m)
    obtain ⟨q, hq⟩ : ∃ q, N / 10 = q := ⟨_, rfl⟩
    obtain ⟨r, hr⟩ : ∃ r, N % 10 = r := ⟨_, rfl⟩
    have hr10 : r < 10 := by omega
    have hq1 : (-(N : Int)).tdiv 10 = -(q : Int) := by rw [Int.neg_tdiv, ← hq]; rfl
    have hr1 : (-(N : Int)).tmod 10 = -(r : Int) := by rw [Int.neg_tmod, ← hr]; rfl
    have hlt : -(N : Int) < 0 := by omega
    have hwq : IntKind.i64.wrap (-(q : Int)) = -(q : Int) := i64w (by omega)
    have hwr : IntKind.i64.wrap (-(r : Int)) = -(r : Int) := i64w (by omega)
    by_cases hq0 : q = 0
    · have hNr : N = r := by omega
      have hsub : (48 : Int) - (-(N : Int)) = 48 + (r : Int) := by omega
      have hsub2 : (48 : Int) + (N : Int) = 48 + (r : Int) := by omega
      have hw2 : IntKind.i64.wrap (48 + (r : Int)) = 48 + (r : Int) := i64w (by omega)
      have hw3 : IntKind.u8.wrap (48 + (r : Int)) = 48 + (r : Int) := by rw [IntKind.wrap_u8]; omega
      have hcv := conv1 w (UInt8.ofNat (48 + r)) (48 + (r : Int)) (dig_nat r hr10)
      have HS := Lib.hid (str_mk [UInt8.ofNat (48 + r)])
      have h1 : (mkS [UInt8.ofNat (48 + r)]).size = 1 := by rw [mkS_size]; rfl
      have HE := Lib.hid (show (45 : UInt8) :: [UInt8.ofNat (48 + r)] = 45 :: Lib.decDigits N by rw [hNr, decD_small hr10])
      generalize [UInt8.ofNat (48 + r)] = cl at hcv h1 HE HS
      generalize mkS cl = C at hcv h1 HS
      have hqz : -(q : Int) = 0 := by omega
      have HNR := Lib.hid hNr
      clear hNr hq hr hq0
      go_enter Tryd.func10, Tryd.ntmps10
      go_wp2_with fail
      go_ret
      refine ⟨ret_str ?_, (by repeat (first | exact Below.refl _ _ | assumption | (refine Below.alloc ?_ (by first | exact Nat.le_refl _ | (simp; done) | (simp; omega) | omega) _) | (refine Below.drew ?_) | (refine Below.setCell ?_ (by first | exact Nat.le_refl _ | (simp; done) | (simp; omega) | omega) _)))⟩
      have := (str_one 45).app HS.out
      rw [show [(45 : UInt8)] ++ cl = 45 :: cl from rfl, HE.out] at this
      exact this.eq
    · have hqz : ¬ -(q : Int) = 0 := by omega
      have hqz2 : ¬ (q : Int) = 0 := by omega
      have hqz3 : (-(q : Int) == 0) = false := beq_eq_false_iff_ne.2 hqz
      have hsub : (48 : Int) - (-(r : Int)) = 48 + (r : Int) := by omega
      have hw2 : IntKind.i64.wrap (48 + (r : Int)) = 48 + (r : Int) := i64w (by omega)
      have hw3 : IntKind.u8.wrap (48 + (r : Int)) = 48 + (r : Int) := by rw [IntKind.wrap_u8]; omega
      have hcv := fun V => conv1 V (UInt8.ofNat (48 + r)) (48 + (r : Int)) (dig_nat r hr10)
      have hcw := fun V => conv1b V (V.alloc (.cells #[.int .u8 (48 + (r : Int))] 5)).drew (UInt8.ofNat (48 + r)) (48 + (r : Int)) (dig_nat r hr10) ((Below.refl _ _).drew)
      have HV5 := Lib.hid (fun V V' => conv1b V V' (UInt8.ofNat (48 + r)) (48 + (r : Int)) (dig_nat r hr10))
      have HS := Lib.hid (str_mk [UInt8.ofNat (48 + r)])
      have h1 : (mkS [UInt8.ofNat (48 + r)]).size = 1 := by rw [mkS_size]; rfl
      have h9 : ¬ N < 10 := by omega
      have HE := Lib.hid (show (45 :: Lib.decDigits q) ++ [UInt8.ofNat (48 + r)] = 45 :: Lib.decDigits N by rw [decD_big h9, hq, hr]; rfl)
      generalize [UInt8.ofNat (48 + r)] = cl at hcv h1 HE HS HV5 hcw
      generalize mkS cl = C at hcv h1 HS HV5 hcw
      have HC := Lib.hid (IH.out q (by omega) (by omega) (by omega))
      have hds : (mkS (45 :: Lib.decDigits q)).size ≤ 20 := by
        rw [mkS_size]
        have := decD_len 18 q (by omega)
        simp; omega
      have HQS := Lib.hid (str_mk (45 :: Lib.decDigits q))
      generalize mkS (45 :: Lib.decDigits q) = DQ at HC hds HQS
      have hds2 : ¬ 9223372036854775807 < DQ.size + 1 := by omega
      clear hq hr hq0 IH
      go_enter Tryd.func10, Tryd.ntmps10
      go_wp2_with fail
      go_region_law (go_simp; go_at_call 10; refine (HC.out _).mono ?_; rintro e w5 ⟨rfl, hb5⟩; (try (have hq5 := HV5.out _ _ (Below.undrew_ hb5); have hcv5 : (convert 34 9 (.slice (some ⟨w.heap.size, 0, none⟩) 1 1)).run Tryd.prog w5 = .ok (.string C) w5 := hq5; clear hq5)))
      all_goals
        go_wp2_with fail
        go_ret
        refine ⟨ret_str ?_, ?_⟩
        · have := HQS.out.app HS.out
          rw [HE.out] at this
          exact this.eq
        · first | exact Below.alloc (Below.undrew_ hb5) hb5.size _ | exact (Below.alloc (Below.refl _ _) (Nat.le_refl _) _).trans ((Below.undrew_ hb5).mono (by simp))

theorem spec_FormatInt_any (n : Int) (hn : Fits n) (w : World) :
    Calls Tryd.prog 10 #[.int .i64 n] w fun e w' => e = .returned (.string (mkS (itoL n))) ∧ Below w.heap.size w w' := by
  unfold Fits at hn
  obtain ⟨N, rfl | rfl⟩ := Int.eq_nat_or_neg n
  · rw [itoL_pos]; exact spec_FormatInt_pos N (by omega) w
  · by_cases h0 : 0 < N
    · rw [itoL_neg N h0]; exact spec_FormatInt_neg N N (Nat.le_refl _) h0 (by omega) w
    · have : N = 0 := by omega
      subst this
      exact spec_FormatInt_pos 0 (by omega) w

end Go.Proofs.YtoofkchhjkhdeaaDoor
