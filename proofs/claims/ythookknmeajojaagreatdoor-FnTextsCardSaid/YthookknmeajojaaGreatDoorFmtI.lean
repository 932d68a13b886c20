/-
  FormatInt of both at every int: the digits.
-/
import Derived.Test.YthookknmeajojaaGreatDoorFmtS
import Derived.Test.YthookknmeajojaaGreatDoorStrs
import Derived.Deep.RegionLaw
import Derived.Lib.SmallJoins
import Derived.Lib.AppendIntMem
namespace Go.Proofs.YthookknmeajojaaGreatDoor
open Go.RowKit Go.Shelf
set_option linter.unusedVariables false
set_option linter.unusedSimpArgs false

/-- strconv's table of powers lies where it lay. -/
def Pow (w : World) : Prop := Lib.TabIs Tryz.prog w "internal/strconv.uint64pow10" .u64 Lib.pow10Tab
theorem Pow.below {w w' : World} (h : Pow w) (hb : Below w.heap.size w w') : Pow w' := by
  obtain ⟨g, hg⟩ : ∃ g, Tryz.prog.globalNamed "internal/strconv.uint64pow10" = some g := Option.isSome_iff_exists.1 (by kernel_rfl)
  exact Joins.tab_stays hg h hb (Nat.le_refl _)
theorem Pow.alloc {w : World} (h : Pow w) (o : Obj) : Pow (w.alloc o) := h.below ((Below.refl _ _).alloc (Nat.le_refl _) o)

def itoL (n : Int) : Txt := Lib.itoa n
theorem itoL_pos (N : Nat) : itoL (N : Int) = Lib.decDigits N := by
  unfold itoL Lib.itoa; rw [if_neg (by omega)]; rfl
theorem itoL_neg (N : Nat) (h : 0 < N) : itoL (-(N : Int)) = 45 :: Lib.decDigits N := by
  unfold itoL Lib.itoa; rw [if_pos (by omega)]; simp
theorem decD_small {k : Nat} (h : k < 10) : Lib.decDigits k = [UInt8.ofNat (48 + k)] := by rw [Lib.decDigits, dif_pos h]
theorem decD_big {k : Nat} (h : ¬ k < 10) : Lib.decDigits k = Lib.decDigits (k / 10) ++ [UInt8.ofNat (48 + k % 10)] := by rw [Lib.decDigits, dif_neg h]
theorem decD_len : ∀ (p k : Nat), k < 10 ^ (p + 1) → (Lib.decDigits k).length ≤ p + 1
  | 0, k, h => by rw [decD_small (by simpa using h)]; simp
  | p + 1, k, h => by
    by_cases h9 : k < 10
    · rw [decD_small h9]; simp
    · rw [decD_big h9, List.length_append]
      have := decD_len p (k / 10) (by rw [Nat.pow_succ] at h; omega)
      simp; omega
theorem itoL_len (n : Int) (h : Fits n) : (itoL n).length ≤ 20 := by
  unfold Fits at h
  obtain ⟨N, rfl | rfl⟩ := Int.eq_nat_or_neg n
  · rw [itoL_pos]
    have := decD_len 18 N (by omega)
    omega
  · by_cases h0 : 0 < N
    · rw [itoL_neg N h0]
      have := decD_len 18 N (by omega)
      simp; omega
    · have : N = 0 := by omega
      subst this
      rw [show (-((0 : Nat) : Int)) = ((0 : Nat) : Int) from rfl, itoL_pos, decD_small (by omega)]
      simp

theorem conv1 (V : World) (c : UInt8) (v : Int) (hv : (c.toNat : Int) = v) :
    (convert 22 9 (.slice (some ⟨V.heap.size, 0, none⟩) 1 1)).run Tryz.prog (V.alloc (.cells #[.int .u8 v] 5)) = .ok (.string (mkS [c])) (V.alloc (.cells #[.int .u8 v] 5)) := by
  have htb : TabU (V.alloc (.cells #[.int .u8 v] 5)) V.heap.size 1 (fun _ => c) := by
    refine ⟨by simp, fun t ht => ?_⟩
    have ht0 : t = 0 := by omega
    subst ht0
    refine ⟨?_, frozen_of_row _ _ _ _ _ (heap_alloc_new V _)⟩
    rw [cell_new1, hv]
  exact htb.string 1
theorem conv1b (V V' : World) (c : UInt8) (v : Int) (hv : (c.toNat : Int) = v) (hb : Below (V.alloc (.cells #[.int .u8 v] 5)).heap.size (V.alloc (.cells #[.int .u8 v] 5)) V') :
    (convert 22 9 (.slice (some ⟨V.heap.size, 0, none⟩) 1 1)).run Tryz.prog V' = .ok (.string (mkS [c])) V' := by
  have htb : TabU (V.alloc (.cells #[.int .u8 v] 5)) V.heap.size 1 (fun _ => c) := by
    refine ⟨by simp, fun t ht => ?_⟩
    have ht0 : t = 0 := by omega
    subst ht0
    refine ⟨?_, frozen_of_row _ _ _ _ _ (heap_alloc_new V _)⟩
    rw [cell_new1, hv]
  exact (htb.below hb (by simp)).string 1
theorem Below.undrew_ {B : Nat} {a w : World} (h : Below B a.drew w) : Below B a w := ⟨h.os, h.tape, h.output, h.size, h.block⟩
theorem dig_nat (r : Nat) (h : r < 10) : ((UInt8.ofNat (48 + r)).toNat : Int) = 48 + (r : Int) := by rw [UInt8.toNat_ofNat']; omega

theorem impl_FormatInt_any (n : Int) (hn : Fits n) (w : World) (hP : Pow w) :
    Calls Tryz.prog 111 #[.int .i64 n] w fun e w' => e = .returned (.string (mkS (itoL n))) ∧ Below w.heap.size w w' := by
  have HI := Lib.hid (Any.strconv_Itoa Tryz.laysM171 n hn.1 hn.2 w hP)
  have he : (⟨(Lib.itoa n).toArray⟩ : ByteArray) = mkS (itoL n) := rfl
  rw [he] at HI
  clear he
  generalize mkS (itoL n) = X at HI ⊢
  go_enter Tryz.func111, Tryz.ntmps111
  go_wp2_with fail
  refine HI.out.mono ?_
  rintro e w' ⟨rfl, k, os, rfl⟩
  have HB := Lib.hid (Lib.below_grow w.heap.size w (Nat.le_refl _) k os)
  generalize Sort.grow (w.drewN k) os = w2 at HB ⊢
  go_wp2_with fail
  go_ret
  exact ⟨rfl, HB.out⟩

end Go.Proofs.YthookknmeajojaaGreatDoor
