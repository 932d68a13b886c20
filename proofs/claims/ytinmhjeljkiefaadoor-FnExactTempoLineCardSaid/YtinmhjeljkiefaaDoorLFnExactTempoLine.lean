/-
  The law FnExactTempoLine: the walk.
-/
import Derived.Test.YtinmhjeljkiefaaDoorTemL
import Derived.Test.YtinmhjeljkiefaaDoorPowL
namespace Go.Proofs.YtinmhjeljkiefaaDoor
open Go.RowKit
set_option linter.unusedVariables false
set_option linter.unusedSimpArgs false

set_option maxRecDepth 100000 in
set_option maxHeartbeats 1000000 in
theorem law_FnExactTempoLine {w : World} (A : Option Addr) (cap : Nat) (xs : List (Int × Int)) (hA : Pas w w.heap.size A xs) (hP : Pow w) :
    Calls Tryd.prog 7 #[.slice A xs.length cap] w fun e w' => e = .returned (.bool true) ∧ Below w.heap.size w w' := by
  have HA := Lib.hid hA
  have hml := hA.1
  by_cases hbig : 1048576 < xs.length
  · have HZ := Lib.hid (fun V => szPassageS_big A cap xs.length 1048576 V hml (by omega) (by decide) (by decide))
    clear hA hP
    go_enter Tryd.func7, Tryd.ntmps7
    go_wp2_with fail
    refine (HZ.out _).mono ?_
    rintro e w1 ⟨rfl, rfl⟩
    go_wp2_with fail
    go_ret
    exact ⟨rfl, Below.refl _ _⟩
  have hl : xs.length ≤ 1048576 := by omega
  have HZ := Lib.hid (fun V => szPassageS_small A cap xs.length 1048576 V (by omega) (by decide))
  have HS := Lib.hid (fun V A c h => spec_TempoLine_any A c xs V h)
  have HI := Lib.hid (fun V A c h (hb : Below w.heap.size w V) => impl_TempoLine_any A c xs V h (hP.below hb))
  have hnn : ¬ (1048576 : Int) - (xs.length : Int) < 0 := by omega
  generalize mkS (temV xs) = T at HS HI
  clear hA hml hP
  go_enter Tryd.func7, Tryd.ntmps7
  go_wp2_with fail
  refine (HZ.out _).mono ?_
  rintro e w0 ⟨rfl, rfl⟩
  go_wp2_with fail
  refine (toPassageS_any A cap xs w HA.out hl).mono ?_
  rintro e w1 ⟨A1, rfl, ht1, hb1⟩
  have HI1 := Lib.hid ht1
  have HB1 := Lib.hid hb1
  clear ht1 hb1
  go_wp2_with fail
  refine (HS.out w1 _ _ HI1.out).mono ?_
  rintro e w2 ⟨rfl, hb2⟩
  have HB2 := Lib.hid (HB1.out.trans (hb2.mono HB1.out.size))
  clear hb2
  go_wp2_with fail
  refine (toPassageS_any A cap xs w2 (HA.out.lift HB2.out) hl).mono ?_
  rintro e w3 ⟨A3, rfl, ht3, hb3⟩
  have HI3 := Lib.hid ht3
  have HB3 := Lib.hid (HB2.out.trans (hb3.mono HB2.out.size))
  clear ht3 hb3
  go_wp2_with fail
  refine (HI.out w3 _ _ HI3.out HB3.out).mono ?_
  rintro e w4 ⟨rfl, hb4⟩
  have HB4 := Lib.hid (HB3.out.trans (hb4.mono HB3.out.size))
  have HI4 := Lib.hid (HI3.out.lift hb4)
  clear hb4
  go_wp2_with fail
  refine (toPassageS_any A cap xs w4 (HA.out.lift HB4.out) hl).mono ?_
  rintro e w5 ⟨A5, rfl, ht5, hb5⟩
  have HI5 := Lib.hid ht5
  have HB5 := Lib.hid (HB4.out.trans (hb5.mono HB4.out.size))
  have HI45 := Lib.hid (HI4.out.lift hb5)
  clear ht5 hb5
  go_wp2_with fail
  refine (eqPassageS_same _ _ _ _ xs w5 HI45.out HI5.out hl).mono ?_
  rintro e w6 ⟨rfl, hb6⟩
  have HB6 := Lib.hid (HB5.out.trans (hb6.mono HB5.out.size))
  clear hb6
  go_wp2_with fail
  go_ret
  exact ⟨rfl, HB6.out⟩

end Go.Proofs.YtinmhjeljkiefaaDoor
