/-
  The law FnExactParseNumbers: the walk.
-/
import Derived.Test.YthfjfhgeiggljaaDoorPNumI
import Derived.Test.YthfjfhgeiggljaaDoorMark
namespace Go.Proofs.YthfjfhgeiggljaaDoor
open Go.RowKit
set_option linter.unusedVariables false
set_option linter.unusedSimpArgs false

theorem ownI_held {w : World} {base top cap : Nat} {A : Option Addr} {xs : List Int} (h : OwnI w base (.slice A xs.length cap) xs) (ht : w.heap.size ≤ top) : Held w base top A xs.length (fun t => xs.getD t 0) := by
  intro hn
  rcases h.2 with ⟨hv, h0⟩ | ⟨g, cap', cur, hv, hg, hh, hnc, hm, hsz, hxs⟩
  · omega
  · injection hv with e1 e2 e3
    subst e1
    have hlt := (h.lt g rfl).2
    refine ⟨g, rfl, hg, by omega, hlt, fun t htt => ⟨?_, frozen_of_row _ _ _ _ _ hh⟩⟩
    have := World.ownsRow.cells h (g := g) rfl t (.int .i64 (xs.getD t 0)) (by rw [List.getElem?_map, List.getElem?_eq_getElem htt]; simp [List.getD_eq_getElem?_getD, htt])
    rwa [Go.WideShapes.add_plain, Nat.zero_add] at this

theorem numF_len : ∀ (us : List ByteArray) (acc : List Int), acc.length ≤ 64 → ((numF us acc).getD []).length ≤ 64
  | [], acc, h => by simpa [numF] using h
  | u :: r, acc, h => by
    cases hp : pintV u with
    | none => rw [numF_bad r acc hp]; simp
    | some v =>
      by_cases h64 : acc.length = 64
      · rw [numF_full r hp h64]; simp
      · rw [numF_on r hp h64]; exact numF_len r _ (by simp; omega)
theorem numsV_len (s : ByteArray) : ((numsV s).getD []).length ≤ 64 := by
  unfold numsV
  split
  · simp
  · exact numF_len _ _ (by simp)

set_option maxRecDepth 100000 in
set_option maxHeartbeats 2000000 in
theorem law_FnExactParseNumbers (s : ByteArray) (hs : s.size ≤ maxLen) (w : World) (hE : Errs w) (hP : Pow w) :
    Calls Tryd.prog 5 #[.string s] w fun e w' => e = .returned (.bool true) ∧ Below w.heap.size w w' := by
  by_cases hbig : 1048576 < s.size
  · go_enter Tryd.func5, Tryd.ntmps5
    go_wp2
    go_ret
    exact ⟨rfl, Below.refl _ _⟩
  · have hs' : s.size ≤ 1048576 := by omega
    have HS := Lib.hid (fun V => spec_ParseNumbers_any s V hs')
    have HI := Lib.hid (fun V hE hP => impl_ParseNumbers_own s V hs' hE hP)
    have HE := Lib.hid hE
    have HP := Lib.hid hP
    have HL := Lib.hid (numsV_len s)
    generalize numsV s = nv at HS HI HL
    clear hE hP
    obtain ⟨ok, hok⟩ : ∃ ok, nv.isSome = ok := ⟨_, rfl⟩
    obtain ⟨xs, hxs⟩ : ∃ xs, nv.getD [] = xs := ⟨_, rfl⟩
    unfold RetNums at HS
    unfold RetNumO at HI
    rw [hok, hxs] at HS HI
    rw [hxs] at HL
    have hxl := HL.out
    clear hok hxs HL
    go_enter Tryd.func5, Tryd.ntmps5
    go_wp2_with fail
    refine (HS.out _).mono ?_
    rintro e w1 ⟨A1, c1, rfl, hi1, hb1⟩
    have HI1 := Lib.hid hi1
    have HB1 := Lib.hid hb1
    clear hi1 hb1
    go_wp2_with fail
    refine (HI.out _ (HE.out.below HB1.out) (HP.out.below HB1.out)).mono ?_
    rintro e w2 ⟨A2, c2, rfl, ho2, hf2, hb2⟩
    have HO2 := Lib.hid ho2
    have HF2 := Lib.hid hf2
    have HB2 := Lib.hid hb2
    clear ho2 hf2 hb2
    have HE2 := Lib.hid (eqB_self xs)
    have HI2 := Lib.hid (HI1.out.lift HB2.out)
    have hok : (ok != ok) = false := bne_self_eq_false ok
    go_wp2_with fail
    refine (eqIntS_any A2 A1 c2 c1 xs xs w2 (HO2.out.ints HF2.out) HI2.out).mono ?_
    rintro e w3 ⟨rfl, hb3⟩
    rw [HE2.out]
    have HB3 := Lib.hid hb3
    clear hb3
    go_wp2_with fail
    refine (markIntS_any A2 c2 xs.length (fun t => xs.getD t 0) 1 w1.heap.size w2.heap.size w3 (by omega) ((ownI_held HO2.out (Nat.le_refl _)).below HB3.out (Nat.le_refl _)) (by omega) (by omega)).mono ?_
    rintro e w4 ⟨rfl, hh4, hb4, hs4⟩
    have hz2 := HB2.out.size
    have hz3 := HB3.out.size
    have hz4 := hs4.1
    have HH4 := Lib.hid hh4
    have HB4 := Lib.hid hb4
    clear hh4 hb4 hs4
    go_wp2_with fail
    refine (heldIntS_any A2 c2 xs.length 1 w1.heap.size w2.heap.size w4 (by omega) HH4.out (by omega) (by omega)).mono ?_
    rintro e w5 ⟨rfl, hb5⟩
    have HB5 := Lib.hid hb5
    have hz5 := hb5.size
    have HH5 := Lib.hid (HH4.out.below hb5 (by omega))
    clear hb5 HH4
    have hWA : Below w1.heap.size w1 w5 := HB2.out.trans ((HB3.out.mono hz2).trans (HB4.out.trans (HB5.out.mono (by omega))))
    have HWA := Lib.hid hWA
    have HW5 := Lib.hid (HB1.out.trans (hWA.mono HB1.out.size))
    clear hWA
    go_wp2_with fail
    refine (HI.out _ (HE.out.below HW5.out) (HP.out.below HW5.out)).mono ?_
    rintro e w6 ⟨A6, c6, rfl, ho6, hf6, hb6⟩
    have HI6 := Lib.hid (ho6.ints hf6)
    have HJ6 := Lib.hid ((HI1.out.lift HWA.out).lift hb6)
    have hz6 := hb6.size
    have HH6 := Lib.hid (HH5.out.below hb6 (by omega))
    have HW6 := Lib.hid (HW5.out.trans (hb6.mono HW5.out.size))
    clear ho6 hf6 hb6
    go_wp2_with fail
    refine (eqIntS_any A6 A1 c6 c1 xs xs w6 HI6.out HJ6.out).mono ?_
    rintro e w7 ⟨rfl, hb7⟩
    rw [HE2.out]
    have HH7 := Lib.hid (HH6.out.below hb7 (by omega))
    have HW7 := Lib.hid (HW6.out.trans (hb7.mono HW6.out.size))
    have hz7 := hb7.size
    clear hb7
    go_wp2_with fail
    refine (heldIntS_any A2 c2 xs.length 1 w1.heap.size w2.heap.size w7 (by omega) HH7.out (by omega) (by omega)).mono ?_
    rintro e w8 ⟨rfl, hb8⟩
    have HW8 := Lib.hid (HW7.out.trans (hb8.mono HW7.out.size))
    clear hb8
    go_wp2_with fail
    go_ret
    exact ⟨rfl, HW8.out⟩

end Go.Proofs.YthfjfhgeiggljaaDoor
