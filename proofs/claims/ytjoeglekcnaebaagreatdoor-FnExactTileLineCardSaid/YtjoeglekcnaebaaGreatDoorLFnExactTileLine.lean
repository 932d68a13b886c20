/-
  The law FnExactTileLine: the walk.
-/
import Derived.Test.YtjoeglekcnaebaaGreatDoorTilL
import Derived.Test.YtjoeglekcnaebaaGreatDoorRlaw
import Derived.Test.YtjoeglekcnaebaaGreatDoorPowL
namespace Go.Proofs.YtjoeglekcnaebaaGreatDoor
open Go.RowKit
set_option linter.unusedVariables false
set_option linter.unusedSimpArgs false

set_option maxRecDepth 100000 in
set_option maxHeartbeats 1000000 in
theorem law_FnExactTileLine_of (n : Int) (A : Option Addr) (cap : Nat) (bs : List Int)  (r : Value) (hr : ∃ x : ByteArray, r = .string x) (w : World) (hA : Ints w w.heap.size A bs)
    (hs : ∀ (A : Option Addr) (cap : Nat) (w0 : World), Below w.heap.size w w0 → Ints w0 w0.heap.size A bs → Calls Tryz.prog 10 #[.agg #[.int .i64 n, .slice A bs.length cap]] w0 fun e w' => e = .returned r ∧ Below w0.heap.size w0 w')
    (hi : ∀ (A : Option Addr) (w0 : World), Below w.heap.size w w0 → Ints w0 w0.heap.size A bs → Calls Tryz.prog 11 #[.agg #[.int .i64 n, .slice A bs.length bs.length]] w0 fun e w' => e = .returned r ∧ Below w0.heap.size w0 w') :
    Calls Tryz.prog 4 #[.agg #[.int .i64 n, .slice A bs.length cap]] w fun e w' => e = .returned (.bool true) ∧ Below w.heap.size w w' := by
  have hlen := hA.1
  have HA := Lib.hid hA
  have HS := Lib.hid hs
  have HI := Lib.hid hi
  clear hs hi hA
  obtain ⟨r, rfl⟩ := hr
  by_cases hbig : 1048576 < bs.length
  · have HL := Lib.hid hlen
    clear hlen
    go_enter Tryz.func4, Tryz.ntmps4
    go_wp2_with fail
    refine (szRhythm_big n A cap bs _ _ HL.out (by omega) (by omega) (by omega)).mono ?_
    rintro e w1 ⟨rfl, hb1⟩
    go_wp2_with fail
    go_ret
    exact ⟨rfl, ((Below.refl w.heap.size w).alloc (by first | exact Nat.le_refl _ | (simp; done) | (simp; omega) | omega) _).trans (hb1.mono (by first | exact Nat.le_refl _ | (simp; done) | (simp; omega) | omega))⟩
  · have hsm : bs.length ≤ 1048576 := by omega
    clear hbig hlen
    go_enter Tryz.func4, Tryz.ntmps4
    go_wp2_with fail
    refine (szRhythm_small n A cap bs _ _ (by omega) (by omega)).mono ?_
    rintro e w1 ⟨rfl, hb1⟩
    have hB1 := hb1.mono (B' := w.heap.size + 1) (by first | exact Nat.le_refl _ | (simp; done) | (simp; omega) | omega)
    have hW1 := ((Below.refl w.heap.size w).alloc (Nat.le_refl _) _).trans (hB1.mono (by omega))
    obtain ⟨hc0, hc1⟩ := box2 hB1
    have hz1 := hB1.size
    simp only [World.size_alloc] at hz1
    clear hb1
    go_wp2_with fail
    refine (toRhythm_any n A cap bs _ (HA.out.lift hW1) hsm).mono ?_
    rintro e w2 ⟨rfl, ht2, hb2⟩
    have hB2 := hB1.trans (hb2.mono (by omega))
    have hW2 := hW1.trans (hb2.mono (by omega))
    have hi2 := ht2.ints (B := w2.heap.size) ht2.1 HA.out.1 HA.out.2.1
    have HI2 := Lib.hid hi2
    clear hc0 hc1 ht2 hb2 hi2
    obtain ⟨hc0, hc1⟩ := box2 hB2
    have hz2 := hB2.size
    simp only [World.size_alloc] at hz2
    go_wp2_with fail
    refine (HS.out _ _ _ hW2 HI2.out).mono ?_
    rintro e w3 ⟨rfl, hb3⟩
    have hB3 := hB2.trans (hb3.mono (by omega))
    have hW3 := hW2.trans (hb3.mono (by omega))
    clear hc0 hc1 hb3 HI2
    obtain ⟨hc0, hc1⟩ := box2 hB3
    have hz3 := hB3.size
    simp only [World.size_alloc] at hz3
    go_wp2_with fail
    refine (toRhythm_any n A cap bs _ (HA.out.lift hW3) hsm).mono ?_
    rintro e w4 ⟨rfl, ht4, hb4⟩
    have hB4 := hB3.trans (hb4.mono (by omega))
    have hW4 := hW3.trans (hb4.mono (by omega))
    have hi4 := ht4.ints (B := w4.heap.size) ht4.1 HA.out.1 HA.out.2.1
    have HI4 := Lib.hid hi4
    clear hc0 hc1 ht4 hb4 hi4
    obtain ⟨hc0, hc1⟩ := box2 hB4
    have hz4 := hB4.size
    simp only [World.size_alloc] at hz4
    obtain ⟨g4, hg4⟩ : ∃ g, w3.heap.size + 3 = g := ⟨_, rfl⟩
    rw [hg4] at HI4 ⊢
    have HG := Lib.hid hg4
    clear hg4
    go_wp2_with fail
    refine (HI.out _ _ (hW4.alloc (by omega) _) (HI4.out.lift (by repeat (first | exact Below.refl _ _ | assumption | (refine Below.alloc ?_ (by first | exact Nat.le_refl _ | (simp; done) | (simp; omega) | omega) _) | (refine Below.drew ?_) | (refine Below.setCell ?_ (by first | exact Nat.le_refl _ | (simp; done) | (simp; omega) | omega) _))))).mono ?_
    rintro e w6 ⟨rfl, hb6⟩
    have hb6' := hb6.mono (B' := w4.heap.size + 1) (by first | exact Nat.le_refl _ | (simp; done) | (simp; omega) | omega)
    have hB6 := (hB4.alloc hz4 _).trans (hb6'.mono (by omega))
    have hW6 := (hW4.alloc (by omega) _).trans (hb6'.mono (by omega))
    have hI6 := ((HI4.out.alloc (Nat.le_refl _) _).below (hb6'.mono (by omega))).mono (Nat.le_trans (Nat.le_succ _) (by have := hb6'.size; simpa using this))
    have HI6 := Lib.hid hI6
    obtain ⟨hd0, hd1⟩ := box2 hb6'
    clear hc0 hc1 hb6 hI6
    obtain ⟨hc0, hc1⟩ := box2 hB6
    have hz6 := hb6'.size
    simp only [World.size_alloc] at hz6
    have he := eqB_self bs
    go_wp2_with fail
    go_region_held3 (fun w' => w'.cell? ⟨w.heap.size, 0, none⟩ = some (.int .i64 n) ∧ w'.cell? ⟨w.heap.size, 1, none⟩ = some (.slice A bs.length cap) ∧ w'.cell? ⟨w4.heap.size, 0, none⟩ = some (.int .i64 n) ∧ w'.cell? ⟨w4.heap.size, 1, none⟩ = some (.slice (some ⟨g4, 0, none⟩) bs.length bs.length))
      (first
        | go_keep
        | (obtain ⟨hcc, _⟩ := bcellB hb7
           refine ⟨?_, ?_, ?_, ?_⟩ <;> (rw [hcc _ _ (by simp; omega)]; assumption))
        | (obtain ⟨hcc, _⟩ := bcellB (hb7.trans (hb8.mono (by have := hb7.size; omega)))
           refine ⟨?_, ?_, ?_, ?_⟩ <;> (rw [hcc _ _ (by simp; omega)]; assumption)))
      (first
        | (go_at_call 7; refine (toRhythm_any n A cap bs _ ((HA.out.lift hW6).drewN_ _) hsm).mono ?_; rintro e w7 ⟨rfl, ht7, hb7⟩)
        | (go_at_call 9; refine (eqRhythm_any n n _ _ _ _ bs bs _ ((HI6.out.drewN_ _).lift hb7) (ht7.ints ht7.1 HA.out.1 HA.out.2.1)).mono ?_; rintro e w8 ⟨rfl, hb8⟩))
    go_wp2_with fail
    go_ret
    have hW7 := (Below.drewN_ hW6 1).trans (hb7.mono (show w.heap.size ≤ (w6.drewN 1).heap.size from hW6.size))
    exact ⟨rfl, hW7.trans (hb8.mono hW7.size)⟩

theorem law_FnExactTileLine {w : World} (n : Int) (A : Option Addr) (cap : Nat) (bs : List Int) (hn : Fits n) (hA : Ints w w.heap.size A bs) (hP : Pow w) :
    Calls Tryz.prog 4 #[.agg #[.int .i64 n, .slice A bs.length cap]] w fun e w' => e = .returned (.bool true) ∧ Below w.heap.size w w' :=
  law_FnExactTileLine_of n A cap bs _ ⟨_, rfl⟩ w hA (fun A cap w0 hb hA => spec_TileLine_any n A cap bs w0 hn hA) (fun A w0 hb hA => impl_TileLine_any n A bs.length bs w0 hn hA (hP.below hb))

end Go.Proofs.YtjoeglekcnaebaaGreatDoor
