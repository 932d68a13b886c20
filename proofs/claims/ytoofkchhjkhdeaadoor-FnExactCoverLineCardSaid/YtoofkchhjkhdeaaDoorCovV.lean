/-
  CoversOf and l14Taken of the reference.
-/
import Derived.Test.YtoofkchhjkhdeaaDoorCovU
namespace Go.Proofs.YtoofkchhjkhdeaaDoor
open Go.RowKit Go.Shelf
set_option linter.unusedVariables false
set_option linter.unusedSimpArgs false

theorem OwnW.empty (w : World) (base : Nat) (hb : base ≤ w.heap.size) : OwnW (w.alloc (.cells #[] 22)) base (.slice (some ⟨w.heap.size, 0, none⟩) 0 0) [] :=
  ⟨⟨rfl, .inr ⟨w.heap.size, 0, #[], rfl, hb, heap_alloc_new w _, Nat.le_refl _, Nat.zero_le _, rfl, rfl⟩⟩, fun r hr => by cases hr⟩
theorem OwnI.tabC {w : World} {base g cap : Nat} {xs : List Int} (h : OwnI w base (.slice (some ⟨g, 0, none⟩) xs.length cap) xs) : base ≤ g ∧ xs.length ≤ cap ∧ Tab w g xs.length (fun t => xs.getD t 0) := by
  rcases h.2 with ⟨e, _⟩ | ⟨g2, cap2, cur, e, hb, hh, hn, hm, hs, ht⟩
  · cases e
  · injection e with e1 e2 e3
    injection e1 with e1
    injection e1 with e1
    subst e1 e3
    refine ⟨hb, hn, (Array.getElem?_eq_some_iff.1 hh).1, fun t htt => ⟨?_, frozen_of_row _ _ _ _ _ hh⟩⟩
    rw [cell_of_row _ _ _ _ _ _ hh, ← Array.getElem?_toList]
    have : (cur.toList.take xs.length)[t]? = (xs.map (Value.int .i64))[t]? := by rw [Nat.mul_one] at ht; rw [ht]
    rw [List.getElem?_take_of_lt htt] at this
    rw [this, List.getElem?_map, List.getElem?_eq_getElem htt]
    simp [List.getD_eq_getElem?_getD, htt]

set_option maxRecDepth 100000 in
set_option maxHeartbeats 1000000 in
theorem spec_CoversOf_ok (A : Option Addr) (cap : Nat) (xs : List Int) (n : Nat) (w : World) (hA : Ints w w.heap.size A xs) (hp : patB xs = true) (hn : n ≤ 16) :
    Calls Tryd.prog 13 #[.slice A xs.length cap, .int .i64 n] w (RetC w (covN xs n)) := by
  have HPO := spec_PatternOk_any A cap xs w hA
  rw [hp] at HPO
  have HPO := Lib.hid HPO
  have HMK := Lib.hid (spec_l14Masks_ok A cap xs w hA hp)
  have HAL := Lib.hid (fun bb base v V h1 h2 h3 h4 h5 => spec_l14All_any n (patM xs) (patM (mirL xs)) (by omega) (pat_lt hp) (pat_lt (mir_ok hp)) (pat_odd hp) (pat_odd (mir_ok hp)) (n + 1) 0 0 [] bb 0 0 base v [] V (by omega) (by omega) (by omega) (Nat.two_pow_pos _) (by simp; omega) (fun x hx => by cases hx) (by have : 2 ^ (n + 1) ≤ 2 ^ 17 := Nat.pow_le_pow_right (by decide) (by omega); simp; omega) h1 h2 h3 h4 h5)
  have hin : inB (n : Int) 0 16 = true := inB_iff.2 (by omega)
  have HCV := Lib.hid (show (covL n (patM xs) (patM (mirL xs)) (n + 1) 0 0).map (fun u => castN ([] ++ u)) = (covN xs n).map castN from List.map_congr_left fun u _ => by rw [List.nil_append])
  generalize covN xs n = CL at *
  generalize patM xs = a at *
  generalize patM (mirL xs) = b at *
  clear hA
  go_enter Tryd.func13, Tryd.ntmps13
  go_wp2_with fail
  refine HPO.out.mono ?_
  rintro e w' ⟨rfl, hw'⟩
  obtain rfl := hw'
  go_wp2_with (go_at_call 11; refine (l01In_any _ _ _ _).mono ?_; rintro e w' ⟨rfl, rfl⟩)
  refine HMK.out.mono ?_
  rintro e w1 ⟨rfl, hb⟩
  have HB := Lib.hid hb
  clear hb
  go_wp2_with fail
  have hb1 := (Below.refl w1.heap.size w1).alloc (Nat.le_refl _) (.cells #[] 3)
  have hb2 := hb1.alloc hb1.size (.cells #[] 22)
  have ho1 := OwnI.empty w1 w1.heap.size (Nat.le_refl _)
  have hI := ((ho1.alloc (.cells #[] 22)).ints (fun x hx => by cases hx))
  have ho2 := OwnW.empty (w1.alloc (.cells #[] 3)) w1.heap.size (by simp)
  rw [World.size_alloc] at ho2
  have hz2 : ((w1.alloc (.cells #[] 3)).alloc (.cells #[] 22)).heap.size = w1.heap.size + 2 := by simp
  have HI := Lib.hid hI
  have HO := Lib.hid ho2
  have HB2 := Lib.hid (HB.out.trans (hb2.mono HB.out.size))
  have HZ2 := Lib.hid hz2
  have HSZ := Lib.hid HB.out.size
  clear hb1 hb2 ho1 hI ho2 hz2
  generalize (w1.alloc (.cells #[] 3)).alloc (.cells #[] 22) = w2 at *
  refine (HAL.out w1.heap.size w1.heap.size (.slice (some ⟨w1.heap.size + 1, 0, none⟩) 0 0) w2 (Nat.zero_le _) HI.out (fun h => absurd h (by simp)) HO.out (by have := HZ2.out; omega)).mono ?_
  rintro e w3 ⟨v3, new, rfl, ho3, hk3, hf3, ht3⟩
  obtain ⟨A3, c3, rfl⟩ := ho3.form
  have HO3 := Lib.hid (show OwnW w3 w.heap.size (.slice A3 new.length c3) new from ho3.mono HSZ.out)
  have HK3 := Lib.hid (show new.map SV.xs = CL.map castN from by rw [hk3]; exact HCV.out)
  have HB3 := Lib.hid (show Below w.heap.size w w3 from HB2.out.trans (hf3.below (fun c h => by
    have h2 : w1.heap.size + 1 = c := by simpa [Value.ownBlock] using h
    have := HSZ.out
    omega) (by have := HB2.out.size; omega)))
  rw [List.nil_append]
  clear ho3 hk3 hf3 ht3
  go_wp2_with fail
  go_ret
  exact ⟨_, new, rfl, HO3.out, HK3.out, HB3.out⟩

end Go.Proofs.YtoofkchhjkhdeaaDoor
