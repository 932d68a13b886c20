/-
  FormatInt of both at a single digit.
-/
import Derived.Test.YtoofkchhjkhdeaaDoorShF
import Derived.Test.YtoofkchhjkhdeaaDoorTabU
import Derived.Test.YtoofkchhjkhdeaaDoorOwn
namespace Go.Proofs.YtoofkchhjkhdeaaDoor
open Go.RowKit Go.Shelf
set_option linter.unusedVariables false
set_option linter.unusedSimpArgs false

def digT (r : Nat) : List UInt8 := [UInt8.ofNat (48 + r)]

theorem impl_FormatInt_dig (r : Nat) (hr : r < 10) (w : World) :
    Calls Tryd.prog 17 #[.int .i64 r] w fun e w' => e = .returned (.string (mkS (digT r))) ∧ w = w' := by
  have HI := Lib.hid (Any.strconv_Itoa_small Tryd.lays171 r (by omega) w)
  have he : (⟨(Lib.decDigits r).toArray⟩ : ByteArray) = mkS (digT r) := by
    rw [Lib.decDigits, dif_pos hr]; rfl
  rw [he] at HI
  clear he
  generalize mkS (digT r) = X at HI ⊢
  go_enter Tryd.func17, Tryd.ntmps17
  go_wp2_with fail
  refine HI.out.mono ?_
  rintro e w' ⟨rfl, rfl⟩
  go_wp2_with fail
  go_ret
  exact ⟨rfl, rfl⟩

set_option maxRecDepth 100000 in
set_option maxHeartbeats 1000000 in
theorem spec_FormatInt_dig (r : Nat) (hr : r < 10) (w : World) :
    Calls Tryd.prog 10 #[.int .i64 r] w fun e w' => e = .returned (.string (mkS (digT r))) ∧ Below w.heap.size w w' := by
  have hw2 : IntKind.i64.wrap (48 + (r : Int)) = 48 + (r : Int) := i64w (by omega)
  have hw3 : IntKind.u8.wrap (48 + (r : Int)) = 48 + (r : Int) := by rw [IntKind.wrap_u8]; omega
  obtain ⟨c, hc⟩ : ∃ c : UInt8, UInt8.ofNat (48 + r) = c := ⟨_, rfl⟩
  have hcn : (c.toNat : Int) = 48 + (r : Int) := by rw [← hc, UInt8.toNat_ofNat']; omega
  have htb : TabU (w.alloc (.cells #[.int .u8 (48 + (r : Int))] 5)) w.heap.size 1 (fun _ => c) := by
    refine ⟨by simp, fun t ht => ?_⟩
    have ht0 : t = 0 := by omega
    subst ht0
    refine ⟨?_, frozen_of_row _ _ _ _ _ (heap_alloc_new w _)⟩
    rw [cell_new1, hcn]
  have hcv := htb.string 1
  have h1 : (mkS (tabL 1 fun _ => c)).size = 1 := by rw [mkS_size, tabL_len]
  have HC1 := Lib.hid (str_mk (tabL 1 fun _ => c))
  have HD := Lib.hid (show tabL 1 (fun _ => c) = digT r by unfold digT; rw [hc]; rfl)
  generalize mkS (tabL 1 fun _ => c) = C at hcv h1 HC1
  clear htb hcn hc
  have hr9 : ¬ 9 < r := by omega
  go_enter Tryd.func10, Tryd.ntmps10
  go_wp2_with fail
  refine wp_loop_rounds 1 ?_
  iterate 2 (first | (rw [rounds_succ]; go_wp2_with fail) | skip)
  go_ret
  refine ⟨ret_str ?_, (Below.refl w.heap.size w).alloc (Nat.le_refl _) _⟩
  have := HC1.out.app str_nil
  rw [List.append_nil, HD.out] at this
  exact this.eq

end Go.Proofs.YtoofkchhjkhdeaaDoor
