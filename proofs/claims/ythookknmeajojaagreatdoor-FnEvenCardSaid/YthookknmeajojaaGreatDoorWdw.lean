/-
  A window of the program.
-/
import Derived.Test.YthookknmeajojaaGreatDoorText
import Derived.Test.YthookknmeajojaaGreatDoorWinRep
import Derived.Test.YthookknmeajojaaGreatDoorShR
import Derived.WalkLawsBesides
namespace Go.Proofs.YthookknmeajojaaGreatDoor
open Go.RowKit Go.Shelf
set_option linter.unusedVariables false
set_option linter.unusedSimpArgs false

theorem strings_Repeat_any (s : ByteArray) (c : Nat) (w : World) (hc : c ≤ 9223372036854775807) (hlen : s.size * c ≤ 140737488355328) :
    Calls Tryz.prog 40 #[.string s, .int .i64 c] w fun e w' => e = .returned (.string ⟨(Lib.repeatL s.data.toList c).toArray⟩) ∧ Below w.heap.size w w' := Any.strings_Repeat Tryz.lays105 Tryz.bx105 s c w hc hlen

set_option maxRecDepth 100000 in
set_option maxHeartbeats 1000000 in
theorem impl_window_any (N : Nat) (A : Option Addr) (cap : Nat) (bs : List Int) (p k : Nat) (w : World) (hA : Ints w w.heap.size A bs) (hok : RhOk N bs) (hp : p ≤ 1000) (hk : k ≤ 1000) :
    Calls Tryz.prog 90 #[.agg #[.int .i64 N, .slice A bs.length cap], .int .i64 p, .int .i64 k] w fun e w' => e = .returned (.string (mkS (winL N bs p k))) ∧ Below w.heap.size w w' := by
  have hn1 : 1 ≤ N := by have := hok.1; omega
  have hn2 : N ≤ 24 := by have := hok.2.1; omega
  have HTX := Lib.hid (fun (V : World) (hV : Ints V V.heap.size A bs) => impl_text_any N A cap bs V hV hok)
  have HA := Lib.hid hA
  clear hA hok
  rw [textF_win] at HTX
  obtain ⟨q, hq⟩ : ∃ q : Nat, (p + k) / N = q := ⟨_, rfl⟩
  have hq' := hq
  have hq1 : q ≤ 2000 := by rw [← hq]; exact Nat.le_trans (Nat.div_le_self _ _) (by omega)
  have hq2 : p + k ≤ (q + 1) * N := by
    have h1 := Nat.div_add_mod (p + k) N
    have h2 := Nat.mod_lt (p + k) (show N > 0 by omega)
    rw [hq] at h1
    rw [Nat.add_mul, Nat.one_mul, Nat.mul_comm q]
    omega
  have hcut := winL_cut N bs p k (q + 1) (by omega) hq2
  have hTl : (winL N bs 0 N).length = N := winL_len _ _ _ _
  obtain ⟨T, hT⟩ : ∃ T, winL N bs 0 N = T := ⟨_, rfl⟩
  rw [hT] at HTX hcut hTl
  have hRl : (Lib.repeatL T (q + 1)).length = (q + 1) * N := by rw [Lib.repeatL_length, hTl]
  have hprod : (q + 1) * N ≤ 2001 * 24 := Nat.mul_le_mul (by omega) hn2
  have hrp := fun V : World => strings_Repeat_any (mkS T) (q + 1) V (by omega) (by rw [mkS_size, hTl, Nat.mul_comm]; omega)
  rw [str_mk T] at hrp
  obtain ⟨S, hS⟩ : ∃ S, mkS (Lib.repeatL T (q + 1)) = S := ⟨_, rfl⟩
  have hSs : S.size = (q + 1) * N := by rw [← hS, mkS_size, hRl]
  have hres : S.extract p (p + k) = mkS (winL N bs p k) := by
    refine Str.eq ?_
    unfold Str
    rw [Lib.extract_data, ← hS, str_mk, Nat.add_sub_cancel_left]
    exact hcut
  rw [show (⟨(Lib.repeatL T (q + 1)).toArray⟩ : ByteArray) = S from hS, show ((q + 1 : Nat) : Int) = (q : Int) + 1 by omega] at hrp
  have HRP := Lib.hid hrp
  have HRES := Lib.hid hres
  have hcS : (p : Int) + k ≤ (S.size : Int) := by omega
  have hSb : S.size ≤ 48024 := by omega
  have hw1 : IntKind.i64.wrap ((p : Int) + k) = (p : Int) + k := i64w (by omega)
  have hw0 : (0 : Int) ≤ (p : Int) + k := by omega
  have hN0 : ((N : Int) = 0) = False := by simp; omega
  have hN00 : (N = 0) = False := by simp; omega
  have hdv : Int.tdiv ((p : Int) + k) N = (q : Int) := by rw [Int.tdiv_eq_ediv_of_nonneg hw0, ← hq', Int.natCast_ediv, Int.natCast_add]
  have hdv2 : ((p : Int) + k) / N = (q : Int) := by rw [← hq', Int.natCast_ediv, Int.natCast_add]
  have hw2 : IntKind.i64.wrap (q : Int) = q := i64w (by omega)
  have hw3 : IntKind.i64.wrap ((q : Int) + 1) = (q : Int) + 1 := i64w (by omega)
  have hpk : (p : Int) ≤ (p : Int) + k := by omega
  clear hq hq' hq2 hcut hTl hT hRl hprod hrp hS hSs hres
  have HW := Lib.hid ((Below.refl w.heap.size w).alloc (Nat.le_refl _) (.cells #[.int .i64 N, .slice A bs.length cap] 26))
  obtain ⟨c0, c1⟩ := box2 (Below.refl (w.heap.size + 1) (w.alloc (.cells #[.int .i64 N, .slice A bs.length cap] 26)))
  go_enter Tryz.func90, Tryz.ntmps90
  go_wp2_with fail
  (refine wp_region_held_drew (S := (fun w' => w'.cell? ⟨w.heap.size, 0, none⟩ = some (.int .i64 N) ∧ w'.cell? ⟨w.heap.size, 1, none⟩ = some (.slice A bs.length cap))) (by kernel_rfl) ?_ (fun hHeld => ?_); (focus ((try dsimp only); exact ⟨c0, c1⟩)))
  (refine wpAnyH_take (i := 0) (v := ?_) rfl (by kernel_rfl) (by kernel_rfl) (by kernel_rfl) (fun _ _ _ h => h) (Or.inl ⟨by rfl, ?_⟩) (by assumption) ?_; rotate_left; (focus (intro wS hSw; (try dsimp only at hSw); go_simp; (try with_reducible rfl))); (try simp only [Act.put, List.getElem_toArray, List.getElem_cons_zero, List.getElem_cons_succ, List.setIfInBounds_toArray, List.set_cons_zero, List.set_cons_succ]))
  (refine wpAnyH_take (i := 2) (v := ?_) rfl (by kernel_rfl) (by kernel_rfl) (by kernel_rfl) (fun _ _ _ h => h) (Or.inl ⟨by rfl, ?_⟩) (by assumption) ?_; rotate_left; (focus (intro wS hSw; (try dsimp only at hSw); go_simp; (try with_reducible rfl))); (try simp only [Act.put, List.getElem_toArray, List.getElem_cons_zero, List.getElem_cons_succ, List.setIfInBounds_toArray, List.set_cons_zero, List.set_cons_succ]))
  (refine wpAnyH_take (i := 3) (v := ?_) rfl (by kernel_rfl) (by kernel_rfl) (by kernel_rfl) (fun _ _ _ h => h) (Or.inl ⟨by rfl, ?_⟩) (by assumption) ?_; rotate_left; (focus (intro wS hSw; (try dsimp only at hSw); go_simp; (try with_reducible rfl))); (try simp only [Act.put, List.getElem_toArray, List.getElem_cons_zero, List.getElem_cons_succ, List.setIfInBounds_toArray, List.set_cons_zero, List.set_cons_succ]))
  (refine wpAnyH_take (i := 4) (v := ?_) rfl (by kernel_rfl) (by kernel_rfl) (by kernel_rfl) (fun _ _ _ h => h) (Or.inl ⟨by rfl, ?_⟩) (by assumption) ?_; rotate_left; (focus (intro wS hSw; (try dsimp only at hSw); go_simp; (try with_reducible rfl))); (try simp only [Act.put, List.getElem_toArray, List.getElem_cons_zero, List.getElem_cons_succ, List.setIfInBounds_toArray, List.set_cons_zero, List.set_cons_succ]))
  (refine wpAnyH_take (i := 5) (v := ?_) rfl (by kernel_rfl) (by kernel_rfl) (by kernel_rfl) (fun _ _ _ h => h) (Or.inl ⟨by rfl, ?_⟩) (by assumption) ?_; rotate_left; (focus (intro wS hSw; (try dsimp only at hSw); go_simp; (try with_reducible rfl))); (try simp only [Act.put, List.getElem_toArray, List.getElem_cons_zero, List.getElem_cons_succ, List.setIfInBounds_toArray, List.set_cons_zero, List.set_cons_succ]))
  (refine wpAnyH_take (i := 6) (v := ?_) rfl (by kernel_rfl) (by kernel_rfl) (by kernel_rfl) (fun _ _ _ h => h) (Or.inl ⟨by rfl, ?_⟩) (by assumption) ?_; rotate_left; (focus (intro wS hSw; (try dsimp only at hSw); go_simp; (try with_reducible rfl))); (try simp only [Act.put, List.getElem_toArray, List.getElem_cons_zero, List.getElem_cons_succ, List.setIfInBounds_toArray, List.set_cons_zero, List.set_cons_succ]))
  (refine wpAnyH_take (i := 7) (v := ?_) rfl (by kernel_rfl) (by kernel_rfl) (by kernel_rfl) (fun _ _ _ h => h) (Or.inl ⟨by rfl, ?_⟩) (by assumption) ?_; rotate_left; (focus (intro wS hSw; (try dsimp only at hSw); go_simp; (try with_reducible rfl))); (try simp only [Act.put, List.getElem_toArray, List.getElem_cons_zero, List.getElem_cons_succ, List.setIfInBounds_toArray, List.set_cons_zero, List.set_cons_succ]))
  (refine wpAnyH_take (i := 8) (v := ?_) rfl (by kernel_rfl) (by kernel_rfl) (by kernel_rfl) (fun _ _ _ h => h) (Or.inl ⟨by rfl, ?_⟩) (by assumption) ?_; rotate_left; (focus (intro wS hSw; (try dsimp only at hSw); go_simp; (try with_reducible rfl))); (try simp only [Act.put, List.getElem_toArray, List.getElem_cons_zero, List.getElem_cons_succ, List.setIfInBounds_toArray, List.set_cons_zero, List.set_cons_succ]))
  (refine wpAnyH_take (i := 10) (v := ?_) rfl (by kernel_rfl) (by kernel_rfl) (by kernel_rfl) (fun _ _ _ h => h) (Or.inl ⟨by rfl, ?_⟩) (by assumption) ?_; rotate_left; (focus (intro wS hSw; (try dsimp only at hSw); go_simp; (try with_reducible rfl))); (try simp only [Act.put, List.getElem_toArray, List.getElem_cons_zero, List.getElem_cons_succ, List.setIfInBounds_toArray, List.set_cons_zero, List.set_cons_succ]))
  (refine wpAnyH_take (i := 11) (v := ?_) rfl (by kernel_rfl) (by kernel_rfl) (by kernel_rfl) (fun _ _ _ h => h) (Or.inl ⟨by rfl, ?_⟩) (by assumption) ?_; rotate_left; (focus (intro wS hSw; (try dsimp only at hSw); go_simp; (try with_reducible rfl))); (try simp only [Act.put, List.getElem_toArray, List.getElem_cons_zero, List.getElem_cons_succ, List.setIfInBounds_toArray, List.set_cons_zero, List.set_cons_succ]))
  (refine wpAnyH_take (i := 12) (v := ?_) rfl (by kernel_rfl) (by kernel_rfl) (by kernel_rfl) (fun _ _ _ h => h) (Or.inl ⟨by rfl, ?_⟩) (by assumption) ?_; rotate_left; (focus (intro wS hSw; (try dsimp only at hSw); go_simp; (try with_reducible rfl))); (try simp only [Act.put, List.getElem_toArray, List.getElem_cons_zero, List.getElem_cons_succ, List.setIfInBounds_toArray, List.set_cons_zero, List.set_cons_succ]))
  (refine wpAnyH_take (i := 13) (v := ?_) rfl (by kernel_rfl) (by kernel_rfl) (by kernel_rfl) (fun _ _ _ h => h) (Or.inl ⟨by rfl, ?_⟩) (by assumption) ?_; rotate_left; (focus (intro wS hSw; (try dsimp only at hSw); go_simp; (try with_reducible rfl))); (try simp only [Act.put, List.getElem_toArray, List.getElem_cons_zero, List.getElem_cons_succ, List.setIfInBounds_toArray, List.set_cons_zero, List.set_cons_succ]))
  clear hw1 hw2 hw3 hdv hdv2
  (refine wpAnyH_ready (rs := [1]) (by kernel_rfl) (by simp) ?_; refine AllReadyH.cons rfl (fun K hK => ?_) AllReadyH.nil; go_simp)
  go_at_call 62
  refine (HTX.out _ (HA.out.lift HW.out).drew2_).mono ?_
  rintro e w1 ⟨rfl, hb1⟩
  go_wp2_with fail
  have hcc := (bcellB hb1).1
  (refine hK.out _ _ ?_ (fun hHeld2 => ?_); (focus ((try dsimp only); exact ⟨(hcc _ _ (by simp)).trans c0, (hcc _ _ (by simp)).trans c1⟩)); (clear hK K); (try simp only [Act.put, List.getElem_toArray, List.getElem_cons_zero, List.getElem_cons_succ, List.setIfInBounds_toArray, List.set_cons_zero, List.set_cons_succ]))
  (refine wpAnyH_ready (rs := [9]) (by kernel_rfl) (by simp) ?_; refine AllReadyH.cons rfl (fun K hK => ?_) AllReadyH.nil; go_simp)
  go_at_call 40
  refine (HRP.out _).mono ?_
  rintro e w2 ⟨rfl, hb2⟩
  go_wp2_with fail
  have hcc2 := (bcellB (hb1.trans (hb2.mono hb1.size))).1
  (refine hK.out _ _ ?_ (fun hHeld2 => ?_); (focus ((try dsimp only); exact ⟨(hcc2 _ _ (by simp)).trans c0, (hcc2 _ _ (by simp)).trans c1⟩)); (clear hK K); (try simp only [Act.put, List.getElem_toArray, List.getElem_cons_zero, List.getElem_cons_succ, List.setIfInBounds_toArray, List.set_cons_zero, List.set_cons_succ]))
  (refine wpAnyH_take (i := 14) (v := ?_) rfl (by kernel_rfl) (by kernel_rfl) (by kernel_rfl) (fun _ _ _ h => h) (Or.inl ⟨by rfl, ?_⟩) (by assumption) ?_; rotate_left; (focus (intro wS hSw; (try dsimp only at hSw); go_simp; (try with_reducible rfl))); (try simp only [Act.put, List.getElem_toArray, List.getElem_cons_zero, List.getElem_cons_succ, List.setIfInBounds_toArray, List.set_cons_zero, List.set_cons_succ]))
  (refine wpAnyH_take (i := 15) (v := ?_) rfl (by kernel_rfl) (by kernel_rfl) (by kernel_rfl) (fun _ _ _ h => h) (Or.inl ⟨by rfl, ?_⟩) (by assumption) ?_; rotate_left; (focus (intro wS hSw; (try dsimp only at hSw); go_simp; (try with_reducible rfl))); (try simp only [Act.put, List.getElem_toArray, List.getElem_cons_zero, List.getElem_cons_succ, List.setIfInBounds_toArray, List.set_cons_zero, List.set_cons_succ]))
  refine wpAnyH_done (by kernel_rfl) ?_ _
  go_wp2_with fail
  go_ret
  refine ⟨ret_str HRES.out, (show Below w.heap.size w _ from ⟨HW.out.os, HW.out.tape, HW.out.output, HW.out.size, HW.out.block⟩ : Below w.heap.size w (w.alloc (.cells #[.int .i64 N, .slice A bs.length cap] 26)).drew).trans ((hb1.mono (by simp)).trans (hb2.mono (by have := hb1.size; simp at this; omega)))⟩

end Go.Proofs.YthookknmeajojaaGreatDoor
