/-
  The law FnExactCoverLine: the walk.
-/
import Derived.Test.YtoofkchhjkhdeaaDoorCovY
import Derived.Test.YtoofkchhjkhdeaaDoorRlaw
import Derived.Test.YtoofkchhjkhdeaaDoorPowL
import Derived.Test.YtoofkchhjkhdeaaDoorDebL
namespace Go.Proofs.YtoofkchhjkhdeaaDoor
open Go.RowKit
set_option linter.unusedVariables false
set_option linter.unusedSimpArgs false

set_option maxRecDepth 100000 in
set_option maxHeartbeats 1000000 in
theorem law_FnExactCoverLine_of (T : ByteArray) (A : Option Addr) (cap : Nat) (xs : List Int) (w : World) (hA : Ints w w.heap.size A xs)
    (hS : ∀ (w' : World) A cap, Below w.heap.size w w' → xs.length ≤ 1048576 → Ints w' w'.heap.size A xs → Calls Tryd.prog 4 #[.slice A xs.length cap] w' fun e w'' => e = .returned (.string T) ∧ Below w'.heap.size w' w'')
    (hI : ∀ (w' : World) A cap, Below w.heap.size w w' → xs.length ≤ 1048576 → Ints w' w'.heap.size A xs → Calls Tryd.prog 6 #[.slice A xs.length cap] w' fun e w'' => e = .returned (.string T) ∧ Below w'.heap.size w' w'') :
    Calls Tryd.prog 3 #[.slice A xs.length cap] w fun e w' => e = .returned (.bool true) ∧ Below w.heap.size w w' := by
  have HA := Lib.hid hA
  have HF := Lib.hid hA.2.1
  have hml := hA.1
  unfold maxLen at hml
  by_cases hbig : 1048576 < xs.length
  · clear hA hS hI
    go_enter Tryd.func3, Tryd.ntmps3
    go_wp2_with fail
    go_ret
    exact ⟨rfl, Below.refl _ _⟩
  have hl : xs.length ≤ 1048576 := by omega
  have HS := Lib.hid hS
  have HI := Lib.hid hI
  have he := eqB_self xs
  clear hS hI hA hml
  go_enter Tryd.func3, Tryd.ntmps3
  go_wp2_with fail
  refine (toIntS_any A cap xs w HA.out hl).mono ?_
  rintro e w1 ⟨rfl, ht1, hb1⟩
  have HI1 := Lib.hid (ht1.ints (B := w1.heap.size) ht1.1 (by unfold maxLen; omega) HF.out)
  have HB1 := Lib.hid hb1
  clear ht1 hb1
  go_wp2_with fail
  refine (HS.out w1 _ _ HB1.out hl HI1.out).mono ?_
  rintro e w2 ⟨rfl, hb2⟩
  have HB2 := Lib.hid (HB1.out.trans (hb2.mono HB1.out.size))
  clear hb2
  go_wp2_with fail
  refine (toIntS_any A cap xs w2 (HA.out.lift HB2.out) hl).mono ?_
  rintro e w3 ⟨rfl, ht3, hb3⟩
  have HI3 := Lib.hid (ht3.ints (B := w3.heap.size) ht3.1 (by unfold maxLen; omega) HF.out)
  have HB3 := Lib.hid (HB2.out.trans (hb3.mono HB2.out.size))
  clear ht3 hb3
  go_wp2_with fail
  refine (HI.out w3 _ _ HB3.out hl HI3.out).mono ?_
  rintro e w4 ⟨rfl, hb4⟩
  have HB4 := Lib.hid (HB3.out.trans (hb4.mono HB3.out.size))
  have HI4 := Lib.hid (HI3.out.lift hb4)
  clear hb4
  go_wp2_with fail
  refine (toIntS_any A cap xs w4 (HA.out.lift HB4.out) hl).mono ?_
  rintro e w5 ⟨rfl, ht5, hb5⟩
  have HI5 := Lib.hid (ht5.ints (B := w5.heap.size) ht5.1 (by unfold maxLen; omega) HF.out)
  have HB5 := Lib.hid (HB4.out.trans (hb5.mono HB4.out.size))
  have HI45 := Lib.hid (HI4.out.lift hb5)
  clear ht5 hb5
  go_wp2_with fail
  refine (eqIntS_any _ _ _ _ xs xs w5 HI45.out HI5.out).mono ?_
  rintro e w6 ⟨rfl, hb6⟩
  have HB6 := Lib.hid (HB5.out.trans (hb6.mono HB5.out.size))
  clear hb6
  go_wp2_with fail
  go_ret
  exact ⟨rfl, HB6.out⟩

theorem law_FnExactCoverLine {w : World} (A : Option Addr) (cap : Nat) (xs : List Int) (hA : Ints w w.heap.size A xs) (hP : Pow w) (hD : DeB w) :
    Calls Tryd.prog 3 #[.slice A xs.length cap] w fun e w' => e = .returned (.bool true) ∧ Below w.heap.size w w' :=
  law_FnExactCoverLine_of (mkS (cvlV xs)) A cap xs w hA (fun w' A cap hb hl hi => spec_CoverLine_any A cap xs w' hi) (fun w' A cap hb hl hi => impl_CoverLine_any A cap xs w' hi (hD.below hb) (hP.below hb))

end Go.Proofs.YtoofkchhjkhdeaaDoor
