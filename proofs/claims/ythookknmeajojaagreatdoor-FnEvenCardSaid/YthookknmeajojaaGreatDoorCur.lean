/-
  The reference's source of numbers: a cursor over bytes. Whatever it hands back lies in its bounds; nothing but its own block is written.
-/
import Derived.Test.YthookknmeajojaaGreatDoorEaF
import Derived.Test.YthookknmeajojaaGreatDoorOpen
import Derived.Laws.BitsLemmas
namespace Go.Proofs.YthookknmeajojaaGreatDoor
open Go.RowKit
set_option linter.unusedVariables false
set_option linter.unusedSimpArgs false

theorem i64_and255 (n : Int) : bits .and .i64 n 255 = n % 256 := by
  have h127 : (BitVec.ofInt 64 255).toNat = 2 ^ 8 - 1 := by decide
  have key : (BitVec.ofInt 64 n &&& BitVec.ofInt 64 255).toNat = (n % ((2 ^ 64 : Nat) : Int)).toNat % 2 ^ 8 := by
    rw [BitVec.toNat_and, BitVec.toNat_ofInt, h127, Nat.and_two_pow_sub_one_eq_mod]
  show IntKind.i64.wrap ((BitVec.ofInt 64 n &&& BitVec.ofInt 64 255).toNat : Nat) = n % 256
  rw [key, IntKind.wrap_i64]
  omega
theorem i64_and30 (n : Int) : bits .and .i64 n 1073741823 = n % 1073741824 := by
  have h127 : (BitVec.ofInt 64 1073741823).toNat = 2 ^ 30 - 1 := by decide
  have key : (BitVec.ofInt 64 n &&& BitVec.ofInt 64 1073741823).toNat = (n % ((2 ^ 64 : Nat) : Int)).toNat % 2 ^ 30 := by
    rw [BitVec.toNat_and, BitVec.toNat_ofInt, h127, Nat.and_two_pow_sub_one_eq_mod]
  show IntKind.i64.wrap ((BitVec.ofInt 64 n &&& BitVec.ofInt 64 1073741823).toNat : Nat) = n % 1073741824
  rw [key, IntKind.wrap_i64]
  omega

/-- v is a slice of bytes that lies below block B and reads as the list. -/
def Byt (w : World) (B : Nat) (A : Option Addr) (xs : List Int) : Prop :=
  xs.length ≤ maxLen ∧ (∀ x ∈ xs, 0 ≤ x ∧ x < 256) ∧
  (0 < xs.length → ∃ b off, A = some ⟨b, off, none⟩ ∧ b < B ∧ ∀ i, i < xs.length → w.cell? ⟨b, off + i, none⟩ = some (.int .u8 (xs.getD i 0)))
theorem Byt.below {w w' : World} {B : Nat} {A : Option Addr} {xs : List Int} (h : Byt w B A xs) (hb : Below B w w') : Byt w' B A xs := by
  refine ⟨h.1, h.2.1, fun hn => ?_⟩
  obtain ⟨b, off, rfl, hlt, hc⟩ := h.2.2 hn
  exact ⟨b, off, rfl, hlt, fun i hi => (hb.cell (p := ⟨b, off + i, none⟩) hlt).trans (hc i hi)⟩
theorem Byt.mono {w : World} {B B' : Nat} {A : Option Addr} {xs : List Int} (h : Byt w B A xs) (hB : B ≤ B') : Byt w B' A xs := by
  refine ⟨h.1, h.2.1, fun hn => ?_⟩
  obtain ⟨b, off, rfl, hlt, hc⟩ := h.2.2 hn
  exact ⟨b, off, rfl, by omega, hc⟩
theorem Byt.lift {w w' : World} {A : Option Addr} {xs : List Int} (h : Byt w w.heap.size A xs) (hb : Below w.heap.size w w') : Byt w' w'.heap.size A xs := (h.below hb).mono hb.size
theorem byt_at {xs : List Int} (h : ∀ x ∈ xs, 0 ≤ x ∧ x < 256) {k : Nat} (hk : k < xs.length) : 0 ≤ xs.getD k 0 ∧ xs.getD k 0 < 256 := by
  rw [List.getD_eq_getElem?_getD, List.getElem?_eq_getElem hk]; exact h _ (List.getElem_mem hk)

/-- Block g holds a cursor over the bytes. -/
def Cur (w : World) (g : Nat) (A : Option Addr) (cap : Nat) (xs : List Int) : Prop :=
  Byt w g A xs ∧ g < w.heap.size ∧ w.cell? ⟨g, 0, none⟩ = some (.slice A xs.length cap) ∧
  ∃ (i : Nat) (h : Int), i ≤ xs.length ∧ w.cell? ⟨g, 1, none⟩ = some (.int .i64 i) ∧ w.cell? ⟨g, 2, none⟩ = some (.int .i64 h) ∧
    w.frozen? ⟨g, 1, none⟩ = false ∧ w.frozen? ⟨g, 2, none⟩ = false
theorem Cur.frm {w w' : World} {g : Nat} {A : Option Addr} {cap : Nat} {xs : List Int} {S : Nat → Prop} (h : Cur w g A cap xs) (hf : Frm S w w') (hS : ∀ c, S c → g < c) : Cur w' g A cap xs := by
  obtain ⟨hb, hg, c0, i, hh, hi, c1, c2, f1, f2⟩ := h
  have hng : ¬ S g := fun hs => by have := hS g hs; omega
  refine ⟨hb.below (hf.below (fun c hc => by have := hS c hc; omega) (by omega)), Nat.lt_of_lt_of_le hg hf.size, (hf.cell hg hng).trans c0, i, hh, hi, (hf.cell hg hng).trans c1, (hf.cell hg hng).trans c2, (hf.frozen hg hng).trans f1, (hf.frozen hg hng).trans f2⟩
theorem Cur.drew_ {w : World} {g : Nat} {A : Option Addr} {cap : Nat} {xs : List Int} (h : Cur w g A cap xs) : Cur w.drew g A cap xs := h

set_option maxRecDepth 100000 in
set_option maxHeartbeats 2000000 in
theorem spec_l01Byte_any (g : Nat) (A : Option Addr) (cap : Nat) (xs : List Int) (w : World) (hC : Cur w g A cap xs) :
    Calls Tryz.prog 38 #[.pointer (some ⟨g, 0, none⟩)] w fun e w' => (∃ x : Int, e = .returned (.int .i64 x) ∧ 0 ≤ x ∧ x ≤ 255) ∧ Cur w' g A cap xs ∧ Frm (fun c => c = g) w w' := by
  have HC := Lib.hid hC
  obtain ⟨hb, hg, c0, i, hh, hi, c1, c2, f1, f2⟩ := hC
  have hml := hb.1
  unfold maxLen at hml
  have HB := Lib.hid hb
  have hand := i64_and255
  clear hb
  obtain ⟨H1, hH⟩ : ∃ H1, wrap64 (wrap64 (hh * 6364136223846793005) + 1442695040888963407) = H1 := ⟨_, rfl⟩
  go_enter Tryz.func38, Tryz.ntmps38
  go_wp2_with fail
  try rw [hH]
  have d2 := World.cell?_setCell_same w ⟨g, 2, none⟩ (.int .i64 H1) c2
  have d1 := (World.cell?_setCell_other w ⟨g, 2, none⟩ ⟨g, 1, none⟩ (.int .i64 H1) (fun q => by injection q; omega)).trans c1
  have d0 := (World.cell?_setCell_other w ⟨g, 2, none⟩ ⟨g, 0, none⟩ (.int .i64 H1) (fun q => by injection q; omega)).trans c0
  have e1 := (World.frozen?_setCell w ⟨g, 2, none⟩ ⟨g, 1, none⟩ (.int .i64 H1)).trans f1
  have e2 := (World.frozen?_setCell w ⟨g, 2, none⟩ ⟨g, 2, none⟩ (.int .i64 H1)).trans f2
  have HF := Lib.hid ((Frm.refl (fun c => c = g) w).setCell (p := ⟨g, 2, none⟩) rfl (.int .i64 H1))
  have HB1 := Lib.hid (HB.out.below ((Below.refl g w).setCell (p := ⟨g, 2, none⟩) (Nat.le_refl _) (.int .i64 H1)))
  have hg1 : g < (w.setCell ⟨g, 2, none⟩ (.int .i64 H1)).heap.size := by simpa [World.setCell] using hg
  generalize w.setCell ⟨g, 2, none⟩ (.int .i64 H1) = W1 at *
  clear c0 c1 c2 f1 f2 hH
  go_quiet (fail)
  go_wp2_with fail
  obtain ⟨z, hz⟩ : ∃ z, bits .xor .i64 (H1 / 8589934592) (H1 / 35184372088832) = z := ⟨_, rfl⟩
  try rw [hz]
  clear hz
  by_cases hlt : i < xs.length
  · obtain ⟨b, off, rfl, hB, hc⟩ := HB1.out.2.2 (by omega)
    have hcell := hc i hlt
    have hxy := byt_at HB1.out.2.1 hlt
    obtain ⟨y, hy⟩ : ∃ y, xs.getD i 0 = y := ⟨_, rfl⟩
    rw [hy] at hcell hxy
    clear hc hy
    go_quiet (fail)
    go_wp2_with fail
    go_quiet (fail)
    go_wp2_with fail
    go_ret
    refine ⟨⟨_, rfl, Int.emod_nonneg _ (by decide), by have := Int.emod_lt_of_pos (z + y) (show (0 : Int) < 256 by decide); omega⟩, ?_, ?_⟩
    · refine ⟨Byt.below (w := W1.drewN _) HB1.out ((Below.refl g _).setCell (p := ⟨g, 1, none⟩) (Nat.le_refl _) _), by simpa [World.setCell] using hg1, (World.cell?_setCell_other _ ⟨g, 1, none⟩ ⟨g, 0, none⟩ _ (fun q => by injection q; omega)).trans d0, i + 1, H1, hlt, World.cell?_setCell_same _ _ _ (show (W1.drewN _).cell? ⟨g, 1, none⟩ = _ from d1), (World.cell?_setCell_other _ ⟨g, 1, none⟩ ⟨g, 2, none⟩ _ (fun q => by injection q; omega)).trans d2, (World.frozen?_setCell _ _ _ _).trans e1, (World.frozen?_setCell _ _ _ _).trans e2⟩
    · exact Frm.setCell (p := ⟨g, 1, none⟩) (Frm.drewN HF.out _) rfl _
  · go_quiet (fail)
    go_wp2_with fail
    go_ret
    refine ⟨⟨_, rfl, Int.emod_nonneg _ (by decide), by have := Int.emod_lt_of_pos z (show (0 : Int) < 256 by decide); omega⟩, ?_, ?_⟩
    · exact ⟨HB1.out, hg1, d0, i, H1, hi, d1, d2, e1, e2⟩
    · first | exact Frm.drewN HF.out _ | exact Frm.drewN (Frm.drewN HF.out _) _

theorem cur_new (w : World) {A : Option Addr} {cap : Nat} {xs : List Int} (hB : Byt w w.heap.size A xs) (z : Int) : Cur (w.alloc (.cells #[.slice A xs.length cap, .int .i64 0, .int .i64 z] 79)) w.heap.size A cap xs := by
  have hh : (w.alloc (.cells #[.slice A xs.length cap, .int .i64 0, .int .i64 z] 79)).heap[w.heap.size]? = some (.cells #[.slice A xs.length cap, .int .i64 0, .int .i64 z] 79 (0, 0)) := heap_alloc_new w _
  exact ⟨hB.below ((Below.refl _ _).alloc (Nat.le_refl _) _), by simp, by rw [cell_of_row _ _ _ _ _ _ hh]; rfl, 0, z, Nat.zero_le _, by rw [cell_of_row _ _ _ _ _ _ hh]; rfl, by rw [cell_of_row _ _ _ _ _ _ hh]; rfl, frozen_of_row _ _ _ _ _ hh, frozen_of_row _ _ _ _ _ hh⟩

def RetPtr (w : World) (A : Option Addr) (cap : Nat) (xs : List Int) (e : Ending) (w' : World) : Prop :=
  ∃ g, e = .returned (.pointer (some ⟨g, 0, none⟩)) ∧ w.heap.size ≤ g ∧ Cur w' g A cap xs ∧ Below w.heap.size w w'

set_option maxRecDepth 100000 in
set_option maxHeartbeats 1000000 in
theorem spec_l01New_any (A : Option Addr) (cap : Nat) (xs : List Int) (w : World) (hB : Byt w w.heap.size A xs) :
    Calls Tryz.prog 71 #[.slice A xs.length cap] w (RetPtr w A cap xs) := by
  have HB := Lib.hid hB
  have hml := hB.1
  unfold maxLen at hml
  have hand := i64_and30
  clear hB
  go_enter Tryz.func71, Tryz.ntmps71
  go_wp2_with fail
  go_loop [3, 4] (fun h i => ∃ (k : Nat) (z : Int), k ≤ xs.length ∧ i = .int .i64 k ∧ h = .int .i64 z) (fun _ i => xs.length - (intOf i).toNat)
  case atStart => exact ⟨0, _, Nat.zero_le _, rfl, rfl⟩
  case round =>
    obtain ⟨k, z, hk, rfl, rfl⟩ := hrel
    by_cases hlt : k < xs.length
    · obtain ⟨b, off, rfl, hBo, hc⟩ := HB.out.2.2 (by omega)
      have hcell := hc k hlt
      have hxy := byt_at HB.out.2.1 hlt
      generalize xs.getD k 0 = y at hcell hxy
      have hwy : IntKind.i64.wrap y = y := i64w (by omega)
      clear hc
      by_cases h4 : k < 4000
      · go_wp2_with fail
        go_round
        case rel => exact ⟨k + 1, _, by omega, by go_num, rfl⟩
        case measure => simp [intOf]; omega
      · go_wp2_with fail
        go_ret
        exact ⟨w.heap.size, rfl, Nat.le_refl _, cur_new w HB.out z, (Below.refl _ _).alloc (Nat.le_refl _) _⟩
    · go_wp2_with fail
      go_ret
      exact ⟨w.heap.size, rfl, Nat.le_refl _, cur_new w HB.out z, (Below.refl _ _).alloc (Nat.le_refl _) _⟩

set_option maxRecDepth 100000 in
set_option maxHeartbeats 1000000 in
theorem spec_l31New_any (A : Option Addr) (cap : Nat) (xs : List Int) (n : Nat) (w : World) (hB : Byt w w.heap.size A xs) (hn : n ≤ 1000) :
    Calls Tryz.prog 37 #[.slice A xs.length cap, .int .i64 n] w (RetPtr w A cap xs) := by
  have HN := Lib.hid (spec_l01New_any A cap xs w hB)
  clear hB
  go_enter Tryz.func37, Tryz.ntmps37
  go_wp2_with fail
  refine HN.out.mono ?_
  rintro e w1 ⟨g, rfl, hg, hc, hb⟩
  have HC := Lib.hid hc
  have HB := Lib.hid hb
  clear hc hb
  go_wp2_with fail
  go_loopw [6] (fun i wr => ∃ k : Nat, k ≤ n ∧ i = .int .i64 k ∧ Cur wr g A cap xs ∧ Below w.heap.size w wr) (fun i _ => n - (intOf i).toNat)
  case atStart => exact ⟨0, Nat.zero_le _, rfl, HC.out, HB.out⟩
  case round =>
    obtain ⟨k, hk, rfl, hcur, hbel⟩ := hrel
    have HCU := Lib.hid hcur
    have HBE := Lib.hid hbel
    clear hcur hbel
    by_cases hlt : k < n
    · go_wp2_with fail
      refine (spec_l01Byte_any g A cap xs _ HCU.out).mono ?_
      rintro e w2 ⟨⟨x, rfl, hx⟩, hc2, hf2⟩
      have HC2 := Lib.hid hc2
      have HB2 := Lib.hid (HBE.out.trans (hf2.below (fun c hc => by subst hc; exact hg) HBE.out.size))
      clear hc2 hf2
      go_wp2_with fail
      go_roundw
      case rel => exact ⟨k + 1, by omega, by go_num, HC2.out, HB2.out⟩
      case measure => simp [intOf]; omega
    · go_wp2_with fail
      go_ret
      exact ⟨g, rfl, hg, HCU.out, HBE.out⟩

set_option maxRecDepth 100000 in
set_option maxHeartbeats 1000000 in
theorem spec_MakeNum_any (A : Option Addr) (cap : Nat) (xs : List Int) (n : Nat) (w : World) (hB : Byt w w.heap.size A xs) (hn : n ≤ 1000) :
    Calls Tryz.prog 5 #[.slice A xs.length cap, .int .i64 n] w fun e w' => (∃ x : Int, e = .returned (.int .i64 x) ∧ 0 ≤ x ∧ x ≤ 65535) ∧ Below w.heap.size w w' := by
  have HN := Lib.hid (spec_l31New_any A cap xs n w hB hn)
  clear hB
  go_enter Tryz.func5, Tryz.ntmps5
  go_wp2_with fail
  refine HN.out.mono ?_
  rintro e w1 ⟨g, rfl, hg, hc, hb⟩
  have HC := Lib.hid hc
  have HB := Lib.hid hb
  clear hc hb
  go_wp2_with fail
  refine (spec_l01Byte_any g A cap xs _ HC.out).mono ?_
  rintro e w2 ⟨⟨x, rfl, hx0, hx1⟩, hc2, hf2⟩
  have HC2 := Lib.hid hc2
  have HB2 := Lib.hid (HB.out.trans (hf2.below (fun c hc => by subst hc; exact hg) HB.out.size))
  have hw1 : IntKind.i64.wrap (x * 256) = x * 256 := i64w (by omega)
  clear hc2 hf2
  go_wp2_with fail
  refine (spec_l01Byte_any g A cap xs _ HC2.out).mono ?_
  rintro e w3 ⟨⟨y, rfl, hy0, hy1⟩, hc3, hf3⟩
  have HB3 := Lib.hid (HB2.out.trans (hf3.below (fun c hc => by subst hc; exact hg) HB2.out.size))
  have hw2 : IntKind.i64.wrap (x * 256 + y) = x * 256 + y := i64w (by omega)
  clear hc3 hf3
  go_wp2_with fail
  go_ret
  exact ⟨⟨_, rfl, by omega, by omega⟩, HB3.out⟩

end Go.Proofs.YthookknmeajojaaGreatDoor
