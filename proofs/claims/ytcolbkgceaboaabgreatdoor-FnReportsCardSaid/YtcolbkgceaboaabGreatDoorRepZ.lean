/-
  Several texts of this proof in one: PowL, Shp, Cur, Draw, OpB, FullC, BlkT, BlkI, BlkB, BlkU, BlkS, BlkP, BlkL, BlkV, RepI, RepP.
-/
import Derived.Test.YtcolbkgceaboaabGreatDoorFmtI
import Derived.Lib.LaidTab
import Derived.Stop.LaidErr
import Derived.MakeChecks
import Derived.Test.YtcolbkgceaboaabGreatDoorChecked
import Derived.Handed
import Derived.HandedShaped
import Derived.LaidMore
import Derived.Shelf.Vars
import Derived.Test.YtcolbkgceaboaabGreatDoorFrm
import Derived.Test.YtcolbkgceaboaabGreatDoorOpen
import Derived.Laws.BitsLemmas
import Derived.Test.YtcolbkgceaboaabGreatDoorCells
import Derived.Test.YtcolbkgceaboaabGreatDoorRw
import Derived.Test.YtcolbkgceaboaabGreatDoorRok
import Derived.Deep.Light
import Derived.Laws.BitsAllLaws
import Derived.Test.YtcolbkgceaboaabGreatDoorIntW
import Derived.Test.YtcolbkgceaboaabGreatDoorOwn
import Derived.Deep.LoopGhost
import Derived.Test.YtcolbkgceaboaabGreatDoorStepsL
import Derived.Test.YtcolbkgceaboaabGreatDoorWin
import Derived.Test.YtcolbkgceaboaabGreatDoorNums
import Derived.Test.YtcolbkgceaboaabGreatDoorLinW
import Derived.WalkSpells
namespace Go.Proofs.YtcolbkgceaboaabGreatDoor
open Go.RowKit
set_option linter.unusedVariables false
set_option linter.unusedSimpArgs false

theorem pow_of_laid {W : World} : ∀ (laid : List (String × DataW Unit)) (i : Nat), laidMet Tryz.prog laid W → laid[i]? = some ("internal/strconv.uint64pow10", Lib.tabData .u64 Lib.pow10Tab) → Pow W
  | [], i, _, h => by simp at h
  | x :: r, 0, h, hi => by
    obtain rfl : x = _ := by simpa using hi
    exact Lib.tabIs_of_head (g := 3) (t := 117) (e := 97) (n := 20) (by kernel_rfl) (by kernel_rfl) Tryz.underlying117 Tryz.underlying97 (by kernel_rfl) (by kernel_rfl) h
  | x :: r, i + 1, h, hi => pow_of_laid r i h.tail (by simpa using hi)

theorem pow_row {W : World} {laid : List (String × DataW Unit)} (i : Nat) (h : laidMetH Tryz.prog laid W) (hp : (laid.all fun x => x.2.handleName?.isNone) = true) (hi : laid[i]? = some ("internal/strconv.uint64pow10", Lib.tabData .u64 Lib.pow10Tab)) : Pow W := by
  rw [MakeChecks.laidMetH_plain _ _ _ hp] at h
  exact pow_of_laid laid i h hi

end Go.Proofs.YtcolbkgceaboaabGreatDoor

namespace Go.Proofs.YtcolbkgceaboaabGreatDoor
open Go
set_option linter.unusedVariables false
set_option linter.unusedSimpArgs false

theorem handed_shaped_and {H : Type} {enc : TypeId × Value → H} {C : Checked} {os : Os} {f : FuncId} {fn : Func} {s : ChangeSpec} {conds : List PathCond} {apart fresh handsOn again : Bool} {X : World → Array Value → Prop} {a : Assume}
    (hX : ∀ (w w' : World) (args : Array Value), w.heap = w'.heap → X w args → X w' args)
    (own : ownKnob C.prog.godebug = none) (started : os.Started) (noInit : C.prog.inits.idxOf? f = none) (hfn : C.prog.funcs[f]? = some fn)
    (witness : ∃ (w : World) (tape : Tape) (i : Input), w.os = os ∧ (w.forCall tape i).Shaped C.prog ∧ i.vars = [] ∧ Input.okWide C.prog (w.forCall tape i) .any w.heap.size f i ∧
      ((s.pre enc C.prog fn conds apart (w.forCall tape i).memory i.args ∧ X (w.forCall tape i).memory i.args) ∧ sizedMet enc C.prog fn (OpenSpec.ofChange s) apart (w.forCall tape i).memory i.args) ∧ a.holds C.prog (lone (Frame.enter C.prog f i.args .normal) [] (w.forCall tape i)))
    (contract : ∀ (W : World) (base : Nat) (args : Array Value) (ds gs : List (DataW H)) (before : List MemPlace),
      (∀ (j : Nat) t v, fn.params[j]? = some t → args[j]? = some v → Value.okWide C.prog W .any base t v) →
      DataW.Whole enc C.prog fn.params.toList s.vars apart W args.toList ds gs before → W.ShapedOpen C.prog → X W args →
      Calls C.prog f args W fun e W' => ∃ v, e = .returned v ∧ s.post enc C.prog fn apart fresh handsOn again W args v W') :
    ReturnsInHanded a C os f .any (fun w args => (s.pre enc C.prog fn conds apart w args ∧ X w args) ∧ sizedMet enc C.prog fn (OpenSpec.ofChange s) apart w args) (s.post enc C.prog fn apart fresh handsOn again) := by
  refine returnsInHanded_of_calls own started noInit witness fun w tape i _ hsh _ hok hpre _ => ?_
  obtain ⟨_, _, _, fn', hfn', _, _, _, _, hval⟩ := hok
  obtain rfl : fn' = fn := Option.some.inj (hfn'.symm.trans hfn)
  obtain ⟨⟨⟨ds, gs, before, hw, hc⟩, hx⟩, hz⟩ := hpre
  have hw' := DataW.Whole.of_heap (w' := w.forCall tape i) (by rfl) hw
  refine (contract _ w.heap.size i.args ds gs before hval hw' hsh (hX _ _ _ (by rfl) hx)).mono ?_
  rintro e W' ⟨v, rfl, hp⟩
  exact ChangeSpec.post_blind hp

end Go.Proofs.YtcolbkgceaboaabGreatDoor

namespace Go.Proofs.YtcolbkgceaboaabGreatDoor
open Go.RowKit
set_option linter.unusedVariables false
set_option linter.unusedSimpArgs false

theorem i64_and255 (n : Int) : bits .and .i64 n 255 = n % 256 := by
  have h127 : (BitVec.ofInt 64 255).toNat = 2 ^ 8 - 1 := by decide
  have key : (BitVec.ofInt 64 n &&& BitVec.ofInt 64 255).toNat = (n % ((2 ^ 64 : Nat) : Int)).toNat % 2 ^ 8 := by
    rw [BitVec.toNat_and, BitVec.toNat_ofInt, h127, Nat.and_two_pow_sub_one_eq_mod]
  show IntKind.i64.wrap ((BitVec.ofInt 64 n &&& BitVec.ofInt 64 255).toNat : Nat) = n % 256
  rw [key, IntKind.wrap_i64]
  omega
theorem i64_and30 (n : Int) : bits .and .i64 n 1073741823 = n % 1073741824 := by
  have h127 : (BitVec.ofInt 64 1073741823).toNat = 2 ^ 30 - 1 := by decide
  have key : (BitVec.ofInt 64 n &&& BitVec.ofInt 64 1073741823).toNat = (n % ((2 ^ 64 : Nat) : Int)).toNat % 2 ^ 30 := by
    rw [BitVec.toNat_and, BitVec.toNat_ofInt, h127, Nat.and_two_pow_sub_one_eq_mod]
  show IntKind.i64.wrap ((BitVec.ofInt 64 n &&& BitVec.ofInt 64 1073741823).toNat : Nat) = n % 1073741824
  rw [key, IntKind.wrap_i64]
  omega

/-- v is a slice of bytes that lies below block B and reads as the list. -/
def Byt (w : World) (B : Nat) (A : Option Addr) (xs : List Int) : Prop :=
  xs.length ≤ maxLen ∧ (∀ x ∈ xs, 0 ≤ x ∧ x < 256) ∧
  (0 < xs.length → ∃ b off, A = some ⟨b, off, none⟩ ∧ b < B ∧ ∀ i, i < xs.length → w.cell? ⟨b, off + i, none⟩ = some (.int .u8 (xs.getD i 0)))
theorem Byt.below {w w' : World} {B : Nat} {A : Option Addr} {xs : List Int} (h : Byt w B A xs) (hb : Below B w w') : Byt w' B A xs := by
  refine ⟨h.1, h.2.1, fun hn => ?_⟩
  obtain ⟨b, off, rfl, hlt, hc⟩ := h.2.2 hn
  exact ⟨b, off, rfl, hlt, fun i hi => (hb.cell (p := ⟨b, off + i, none⟩) hlt).trans (hc i hi)⟩
theorem Byt.mono {w : World} {B B' : Nat} {A : Option Addr} {xs : List Int} (h : Byt w B A xs) (hB : B ≤ B') : Byt w B' A xs := by
  refine ⟨h.1, h.2.1, fun hn => ?_⟩
  obtain ⟨b, off, rfl, hlt, hc⟩ := h.2.2 hn
  exact ⟨b, off, rfl, by omega, hc⟩
theorem Byt.lift {w w' : World} {A : Option Addr} {xs : List Int} (h : Byt w w.heap.size A xs) (hb : Below w.heap.size w w') : Byt w' w'.heap.size A xs := (h.below hb).mono hb.size
theorem byt_at {xs : List Int} (h : ∀ x ∈ xs, 0 ≤ x ∧ x < 256) {k : Nat} (hk : k < xs.length) : 0 ≤ xs.getD k 0 ∧ xs.getD k 0 < 256 := by
  rw [List.getD_eq_getElem?_getD, List.getElem?_eq_getElem hk]; exact h _ (List.getElem_mem hk)

/-- Block g holds a cursor over the bytes. -/
def Cur (w : World) (g : Nat) (A : Option Addr) (cap : Nat) (xs : List Int) : Prop :=
  Byt w g A xs ∧ g < w.heap.size ∧ w.cell? ⟨g, 0, none⟩ = some (.slice A xs.length cap) ∧
  ∃ (i : Nat) (h : Int), i ≤ xs.length ∧ w.cell? ⟨g, 1, none⟩ = some (.int .i64 i) ∧ w.cell? ⟨g, 2, none⟩ = some (.int .i64 h) ∧
    w.frozen? ⟨g, 1, none⟩ = false ∧ w.frozen? ⟨g, 2, none⟩ = false
theorem Cur.frm {w w' : World} {g : Nat} {A : Option Addr} {cap : Nat} {xs : List Int} {S : Nat → Prop} (h : Cur w g A cap xs) (hf : Frm S w w') (hS : ∀ c, S c → g < c) : Cur w' g A cap xs := by
  obtain ⟨hb, hg, c0, i, hh, hi, c1, c2, f1, f2⟩ := h
  have hng : ¬ S g := fun hs => by have := hS g hs; omega
  refine ⟨hb.below (hf.below (fun c hc => by have := hS c hc; omega) (by omega)), Nat.lt_of_lt_of_le hg hf.size, (hf.cell hg hng).trans c0, i, hh, hi, (hf.cell hg hng).trans c1, (hf.cell hg hng).trans c2, (hf.frozen hg hng).trans f1, (hf.frozen hg hng).trans f2⟩
theorem Cur.drew_ {w : World} {g : Nat} {A : Option Addr} {cap : Nat} {xs : List Int} (h : Cur w g A cap xs) : Cur w.drew g A cap xs := h

set_option maxRecDepth 100000 in
set_option maxHeartbeats 2000000 in
theorem spec_l01Byte_any (g : Nat) (A : Option Addr) (cap : Nat) (xs : List Int) (w : World) (hC : Cur w g A cap xs) :
    Calls Tryz.prog 39 #[.pointer (some ⟨g, 0, none⟩)] w fun e w' => (∃ x : Int, e = .returned (.int .i64 x) ∧ 0 ≤ x ∧ x ≤ 255) ∧ Cur w' g A cap xs ∧ Frm (fun c => c = g) w w' := by
  have HC := Lib.hid hC
  obtain ⟨hb, hg, c0, i, hh, hi, c1, c2, f1, f2⟩ := hC
  have hml := hb.1
  unfold maxLen at hml
  have HB := Lib.hid hb
  have hand := i64_and255
  clear hb
  obtain ⟨H1, hH⟩ : ∃ H1, wrap64 (wrap64 (hh * 6364136223846793005) + 1442695040888963407) = H1 := ⟨_, rfl⟩
  go_enter Tryz.func39, Tryz.ntmps39
  go_wp2_with fail
  try rw [hH]
  have d2 := World.cell?_setCell_same w ⟨g, 2, none⟩ (.int .i64 H1) c2
  have d1 := (World.cell?_setCell_other w ⟨g, 2, none⟩ ⟨g, 1, none⟩ (.int .i64 H1) (fun q => by injection q; omega)).trans c1
  have d0 := (World.cell?_setCell_other w ⟨g, 2, none⟩ ⟨g, 0, none⟩ (.int .i64 H1) (fun q => by injection q; omega)).trans c0
  have e1 := (World.frozen?_setCell w ⟨g, 2, none⟩ ⟨g, 1, none⟩ (.int .i64 H1)).trans f1
  have e2 := (World.frozen?_setCell w ⟨g, 2, none⟩ ⟨g, 2, none⟩ (.int .i64 H1)).trans f2
  have HF := Lib.hid ((Frm.refl (fun c => c = g) w).setCell (p := ⟨g, 2, none⟩) rfl (.int .i64 H1))
  have HB1 := Lib.hid (HB.out.below ((Below.refl g w).setCell (p := ⟨g, 2, none⟩) (Nat.le_refl _) (.int .i64 H1)))
  have hg1 : g < (w.setCell ⟨g, 2, none⟩ (.int .i64 H1)).heap.size := by simpa [World.setCell] using hg
  generalize w.setCell ⟨g, 2, none⟩ (.int .i64 H1) = W1 at *
  clear c0 c1 c2 f1 f2 hH
  go_quiet (fail)
  go_wp2_with fail
  obtain ⟨z, hz⟩ : ∃ z, bits .xor .i64 (H1 / 8589934592) (H1 / 35184372088832) = z := ⟨_, rfl⟩
  try rw [hz]
  clear hz
  by_cases hlt : i < xs.length
  · obtain ⟨b, off, rfl, hB, hc⟩ := HB1.out.2.2 (by omega)
    have hcell := hc i hlt
    have hxy := byt_at HB1.out.2.1 hlt
    obtain ⟨y, hy⟩ : ∃ y, xs.getD i 0 = y := ⟨_, rfl⟩
    rw [hy] at hcell hxy
    clear hc hy
    go_quiet (fail)
    go_wp2_with fail
    go_quiet (fail)
    go_wp2_with fail
    go_ret
    refine ⟨⟨_, rfl, Int.emod_nonneg _ (by decide), by have := Int.emod_lt_of_pos (z + y) (show (0 : Int) < 256 by decide); omega⟩, ?_, ?_⟩
    · refine ⟨Byt.below (w := W1.drewN _) HB1.out ((Below.refl g _).setCell (p := ⟨g, 1, none⟩) (Nat.le_refl _) _), by simpa [World.setCell] using hg1, (World.cell?_setCell_other _ ⟨g, 1, none⟩ ⟨g, 0, none⟩ _ (fun q => by injection q; omega)).trans d0, i + 1, H1, hlt, World.cell?_setCell_same _ _ _ (show (W1.drewN _).cell? ⟨g, 1, none⟩ = _ from d1), (World.cell?_setCell_other _ ⟨g, 1, none⟩ ⟨g, 2, none⟩ _ (fun q => by injection q; omega)).trans d2, (World.frozen?_setCell _ _ _ _).trans e1, (World.frozen?_setCell _ _ _ _).trans e2⟩
    · exact Frm.setCell (p := ⟨g, 1, none⟩) (Frm.drewN HF.out _) rfl _
  · go_quiet (fail)
    go_wp2_with fail
    go_ret
    refine ⟨⟨_, rfl, Int.emod_nonneg _ (by decide), by have := Int.emod_lt_of_pos z (show (0 : Int) < 256 by decide); omega⟩, ?_, ?_⟩
    · exact ⟨HB1.out, hg1, d0, i, H1, hi, d1, d2, e1, e2⟩
    · first | exact Frm.drewN HF.out _ | exact Frm.drewN (Frm.drewN HF.out _) _

theorem cur_new (w : World) {A : Option Addr} {cap : Nat} {xs : List Int} (hB : Byt w w.heap.size A xs) (z : Int) : Cur (w.alloc (.cells #[.slice A xs.length cap, .int .i64 0, .int .i64 z] 70)) w.heap.size A cap xs := by
  have hh : (w.alloc (.cells #[.slice A xs.length cap, .int .i64 0, .int .i64 z] 70)).heap[w.heap.size]? = some (.cells #[.slice A xs.length cap, .int .i64 0, .int .i64 z] 70 (0, 0)) := heap_alloc_new w _
  exact ⟨hB.below ((Below.refl _ _).alloc (Nat.le_refl _) _), by simp, by rw [cell_of_row _ _ _ _ _ _ hh]; rfl, 0, z, Nat.zero_le _, by rw [cell_of_row _ _ _ _ _ _ hh]; rfl, by rw [cell_of_row _ _ _ _ _ _ hh]; rfl, frozen_of_row _ _ _ _ _ hh, frozen_of_row _ _ _ _ _ hh⟩

def RetPtr (w : World) (A : Option Addr) (cap : Nat) (xs : List Int) (e : Ending) (w' : World) : Prop :=
  ∃ g, e = .returned (.pointer (some ⟨g, 0, none⟩)) ∧ w.heap.size ≤ g ∧ Cur w' g A cap xs ∧ Below w.heap.size w w'

set_option maxRecDepth 100000 in
set_option maxHeartbeats 1000000 in
theorem spec_l01New_any (A : Option Addr) (cap : Nat) (xs : List Int) (w : World) (hB : Byt w w.heap.size A xs) :
    Calls Tryz.prog 38 #[.slice A xs.length cap] w (RetPtr w A cap xs) := by
  have HB := Lib.hid hB
  have hml := hB.1
  unfold maxLen at hml
  have hand := i64_and30
  clear hB
  go_enter Tryz.func38, Tryz.ntmps38
  go_wp2_with fail
  go_loop [3, 4] (fun h i => ∃ (k : Nat) (z : Int), k ≤ xs.length ∧ i = .int .i64 k ∧ h = .int .i64 z) (fun _ i => xs.length - (intOf i).toNat)
  case atStart => exact ⟨0, _, Nat.zero_le _, rfl, rfl⟩
  case round =>
    obtain ⟨k, z, hk, rfl, rfl⟩ := hrel
    by_cases hlt : k < xs.length
    · obtain ⟨b, off, rfl, hBo, hc⟩ := HB.out.2.2 (by omega)
      have hcell := hc k hlt
      have hxy := byt_at HB.out.2.1 hlt
      generalize xs.getD k 0 = y at hcell hxy
      have hwy : IntKind.i64.wrap y = y := i64w (by omega)
      clear hc
      by_cases h4 : k < 4000
      · go_wp2_with fail
        go_round
        case rel => exact ⟨k + 1, _, by omega, by go_num, rfl⟩
        case measure => simp [intOf]; omega
      · go_wp2_with fail
        go_ret
        exact ⟨w.heap.size, rfl, Nat.le_refl _, cur_new w HB.out z, (Below.refl _ _).alloc (Nat.le_refl _) _⟩
    · go_wp2_with fail
      go_ret
      exact ⟨w.heap.size, rfl, Nat.le_refl _, cur_new w HB.out z, (Below.refl _ _).alloc (Nat.le_refl _) _⟩

set_option maxRecDepth 100000 in
set_option maxHeartbeats 1000000 in
theorem spec_l31New_any (A : Option Addr) (cap : Nat) (xs : List Int) (n : Nat) (w : World) (hB : Byt w w.heap.size A xs) (hn : n ≤ 1000) :
    Calls Tryz.prog 20 #[.slice A xs.length cap, .int .i64 n] w (RetPtr w A cap xs) := by
  have HN := Lib.hid (spec_l01New_any A cap xs w hB)
  clear hB
  go_enter Tryz.func20, Tryz.ntmps20
  go_wp2_with fail
  refine HN.out.mono ?_
  rintro e w1 ⟨g, rfl, hg, hc, hb⟩
  have HC := Lib.hid hc
  have HB := Lib.hid hb
  clear hc hb
  go_wp2_with fail
  go_loopw [6] (fun i wr => ∃ k : Nat, k ≤ n ∧ i = .int .i64 k ∧ Cur wr g A cap xs ∧ Below w.heap.size w wr) (fun i _ => n - (intOf i).toNat)
  case atStart => exact ⟨0, Nat.zero_le _, rfl, HC.out, HB.out⟩
  case round =>
    obtain ⟨k, hk, rfl, hcur, hbel⟩ := hrel
    have HCU := Lib.hid hcur
    have HBE := Lib.hid hbel
    clear hcur hbel
    by_cases hlt : k < n
    · go_wp2_with fail
      refine (spec_l01Byte_any g A cap xs _ HCU.out).mono ?_
      rintro e w2 ⟨⟨x, rfl, hx⟩, hc2, hf2⟩
      have HC2 := Lib.hid hc2
      have HB2 := Lib.hid (HBE.out.trans (hf2.below (fun c hc => by subst hc; exact hg) HBE.out.size))
      clear hc2 hf2
      go_wp2_with fail
      go_roundw
      case rel => exact ⟨k + 1, by omega, by go_num, HC2.out, HB2.out⟩
      case measure => simp [intOf]; omega
    · go_wp2_with fail
      go_ret
      exact ⟨g, rfl, hg, HCU.out, HBE.out⟩

end Go.Proofs.YtcolbkgceaboaabGreatDoor

namespace Go.Proofs.YtcolbkgceaboaabGreatDoor
open Go.RowKit
set_option linter.unusedVariables false
set_option linter.unusedSimpArgs false

set_option maxHeartbeats 1000000 in
theorem spec_l01Below_any (g : Nat) (A : Option Addr) (cap : Nat) (xs : List Int) (n : Nat) (w : World) (hC : Cur w g A cap xs) (h1 : 1 ≤ n) (h2 : n ≤ 256) :
    Calls Tryz.prog 36 #[.pointer (some ⟨g, 0, none⟩), .int .i64 n] w fun e w' => (∃ x : Nat, e = .returned (.int .i64 x) ∧ x < n) ∧ Cur w' g A cap xs ∧ Frm (fun c => c = g) w w' := by
  have HB := Lib.hid (spec_l01Byte_any g A cap xs w hC)
  have hn0 : ¬ (n : Int) ≤ 0 := by omega
  have hn2 : (n : Int) ≤ 256 := by omega
  have hnz : ((n : Int) = 0) = False := by rw [eq_iff_iff, iff_false]; omega
  have hnn : ¬ n = 0 := by omega
  clear hC
  go_enter Tryz.func36, Tryz.ntmps36
  go_wp2_with fail
  refine HB.out.mono ?_
  rintro e w1 ⟨⟨x, rfl, hx0, hx1⟩, hc1, hf1⟩
  obtain ⟨x, rfl⟩ := Int.eq_ofNat_of_zero_le hx0
  have hr : x % n < n := Nat.mod_lt _ (by omega)
  go_wp2_with fail
  go_ret
  exact ⟨⟨x % n, by rw [Int.natCast_emod]; rfl, hr⟩, hc1, hf1⟩

set_option maxHeartbeats 1000000 in
theorem spec_l01Once_any (g : Nat) (A : Option Addr) (cap : Nat) (xs : List Int) (n : Nat) (w : World) (hC : Cur w g A cap xs) (h1 : 1 ≤ n) (h2 : n ≤ 256) :
    Calls Tryz.prog 37 #[.pointer (some ⟨g, 0, none⟩), .int .i64 n] w fun e w' => (∃ b : Bool, e = .returned (.bool b)) ∧ Cur w' g A cap xs ∧ Frm (fun c => c = g) w w' := by
  have HB := Lib.hid (spec_l01Below_any g A cap xs n w hC h1 h2)
  clear hC
  go_enter Tryz.func37, Tryz.ntmps37
  go_wp2_with fail
  refine HB.out.mono ?_
  rintro e w1 ⟨⟨x, rfl, hx⟩, hc1, hf1⟩
  go_wp2_with fail
  go_ret
  exact ⟨⟨_, rfl⟩, hc1, hf1⟩

theorem OwnI.frm {w w' : World} {base : Nat} {v : Value} {xs : List Int} {S : Nat → Prop} (h : OwnI w base v xs) (hf : Frm S w w') (hS : ∀ c, base ≤ c → ¬ S c) : OwnI w' base v xs := by
  refine ⟨h.1, ?_⟩
  rcases h.2 with h0 | ⟨g, cap, cur, e, hg, hh, rest⟩
  · exact .inl h0
  · have hlt : g < w.heap.size := (Array.getElem?_eq_some_iff.1 hh).1
    exact .inr ⟨g, cap, cur, e, hg, by rw [hf.block g hlt (hS g hg)]; exact hh, rest⟩
theorem Cells2.frm {w w' : World} {g : Nat} {u v : Value} {S : Nat → Prop} (h : Cells2 w g u v) (hf : Frm S w w') (hS : ¬ S g) : Cells2 w' g u v :=
  ⟨(hf.cell h.2.2.2.2 hS).trans h.1, (hf.cell h.2.2.2.2 hS).trans h.2.1, (hf.frozen h.2.2.2.2 hS).trans h.2.2.1, (hf.frozen h.2.2.2.2 hS).trans h.2.2.2.1, Nat.lt_of_lt_of_le h.2.2.2.2 hf.size⟩

/-- What lies from q on was not there at first. -/
theorem frm_below_new {S : Nat → Prop} {w w1 w2 : World} {q : Nat} (h : Frm S w w1) (hb : Below q w1 w2) (hq : w.heap.size ≤ q) : Frm S w w2 :=
  ⟨hb.os.trans h.os, hb.tape.trans h.tape, hb.output.trans h.output, Nat.le_trans h.size hb.size, fun c hc hS => (hb.block c (by omega)).trans (h.block c hc hS)⟩

/-- Pulses below k, one after another. -/
def Upto (bs : List Int) (k : Nat) : Prop := bs.length ≤ k ∧ (∀ i, i < bs.length → 0 ≤ bs.getD i 0 ∧ bs.getD i 0 < k) ∧ ∀ i, i + 1 < bs.length → bs.getD i 0 < bs.getD (i + 1) 0
theorem Upto.step {bs : List Int} {k : Nat} (h : Upto bs k) : Upto bs (k + 1) := ⟨by have := h.1; omega, fun i hi => by have := h.2.1 i hi; omega, h.2.2⟩
theorem Upto.snoc {bs : List Int} {k : Nat} (h : Upto bs k) : Upto (bs ++ [(k : Int)]) (k + 1) := by
  have e1 : ∀ i, i < bs.length → (bs ++ [(k : Int)]).getD i 0 = bs.getD i 0 := fun i hi => by
    rw [List.getD_eq_getElem?_getD, List.getD_eq_getElem?_getD, List.getElem?_append_left hi]
  have e2 : (bs ++ [(k : Int)]).getD bs.length 0 = k := by rw [List.getD_eq_getElem?_getD, List.getElem?_append_right (Nat.le_refl _)]; simp
  refine ⟨by have := h.1; simp; omega, fun i hi => ?_, fun i hi => ?_⟩
  · rw [List.length_append] at hi
    by_cases e : i < bs.length
    · rw [e1 i e]; have := h.2.1 i e; omega
    · have : i = bs.length := by simp at hi; omega
      subst this; rw [e2]; omega
  · rw [List.length_append] at hi
    by_cases e : i + 1 < bs.length
    · rw [e1 i (by omega), e1 (i + 1) e]; exact h.2.2 i e
    · have : i + 1 = bs.length := by simp at hi; omega
      rw [this, e2, e1 i (by omega)]
      have := h.2.1 i (by omega); omega
theorem Upto.rh {bs : List Int} {k : Nat} (h : Upto bs k) (h1 : 1 ≤ k) (h2 : k ≤ 24) : RhOk k bs := ⟨by omega, by omega, h.2.1, h.2.2⟩

/-- A rhythm of at most 'most' pulses. -/
def RhA (most : Nat) (w : World) (base : Nat) (v : Value) : Prop :=
  ∃ (N : Nat) (bs : List Int) (A : Option Addr) (c : Nat), v = .agg #[.int .i64 N, .slice A bs.length c] ∧ RhOk N bs ∧ N ≤ most ∧ RW w base A bs ∧ bs.length ≤ c
theorem OwnI.cap_le {w : World} {base : Nat} {A : Option Addr} {cap : Nat} {xs : List Int} (h : OwnI w base (.slice A xs.length cap) xs) : xs.length ≤ cap := by
  rcases h.2 with ⟨hv, h0⟩ | ⟨g, cap', cur, hv, _, hh, hnc, hm, hsz, hxs⟩
  · omega
  · have hc : cap = cap' := by injection hv
    omega

set_option maxRecDepth 100000 in
set_option maxHeartbeats 2000000 in
theorem spec_l02Draw_any (g : Nat) (A : Option Addr) (cap : Nat) (xs : List Int) (most : Nat) (w : World) (hC : Cur w g A cap xs) (h1 : 1 ≤ most) (h2 : most ≤ 24) :
    Calls Tryz.prog 19 #[.pointer (some ⟨g, 0, none⟩), .int .i64 most] w fun e w' => (∃ v, e = .returned v ∧ RhA most w' (w.heap.size + 1) v) ∧ Frm (fun c => c = g) w w' := by
  have hgw : g < w.heap.size := hC.2.1
  have HB := Lib.hid (fun V (hV : Cur V g A cap xs) => spec_l01Below_any g A cap xs most V hV h1 (by omega))
  have HC := Lib.hid (hC.frm (Frm.pure ((Below.refl w.heap.size w).alloc (Nat.le_refl _) (.cells #[.int .i64 0, .slice none 0 0] 25)) (fun _ => False)) (fun _ h => h.elim))
  have HR0 := Lib.hid (Cells2.new w (.int .i64 0) (.slice none 0 0) 25)
  clear hC
  go_enter Tryz.func19, Tryz.ntmps19
  go_wp2_with fail
  refine (HB.out _ HC.out).mono ?_
  rintro e w1 ⟨⟨x, rfl, hx⟩, hc1, hf1⟩
  have hz1 := hf1.size
  simp only [World.size_alloc] at hz1
  have HF1 := Lib.hid (((Frm.refl (fun c => c = g) w).alloc (.cells #[.int .i64 0, .slice none 0 0] 25)).trans hf1)
  have HR1 := Lib.hid (HR0.out.frm hf1 (by omega))
  have HC1 := Lib.hid hc1
  obtain ⟨N, hN⟩ : ∃ N, 1 + x = N := ⟨_, rfl⟩
  have hwx : IntKind.i64.wrap (1 + (x : Int)) = (N : Int) := by rw [← hN, Int.natCast_add]; exact i64w (by omega)
  have hN24 : N ≤ most := by omega
  have hN1 : 1 ≤ N := by omega
  clear hc1 hf1 hN
  go_wp2_with fail
  have HQ := Lib.hid (Cells2.new w1 (.int .i64 N) (.slice none 0 0) 25)
  obtain ⟨W1, hW1⟩ : ∃ W1, w1.alloc (.cells #[.int .i64 N, .slice none 0 0] 25) = W1 := ⟨_, rfl⟩
  have HF2 := Lib.hid (HF1.out.alloc (.cells #[.int .i64 N, .slice none 0 0] 25))
  have HR2 := Lib.hid (HR1.out.alloc (.cells #[.int .i64 N, .slice none 0 0] 25))
  have HC2 := Lib.hid (HC1.out.frm (Frm.pure ((Below.refl w1.heap.size w1).alloc (Nat.le_refl _) (.cells #[.int .i64 N, .slice none 0 0] 25)) (fun _ => False)) (fun _ h => h.elim))
  have hsz : w1.heap.size + 1 = W1.heap.size := by rw [← hW1]; simp
  rw [hW1] at HQ HF2 HR2 HC2
  obtain ⟨q, hq⟩ : ∃ q, w1.heap.size = q := ⟨_, rfl⟩
  rw [hq] at HQ hz1 hsz
  try simp only [hW1, hq]
  have HZ := Lib.hid hsz
  clear hW1 hsz
  go_loopw [7] (fun p wr => ∃ (k : Nat) (v : Value) (bs : List Int), k ≤ N ∧ p = .int .i64 k ∧ Upto bs k ∧ OwnI wr (q + 1) v bs ∧ Cells2 wr q (.int .i64 N) v ∧ Cells2 wr w.heap.size (.int .i64 0) (.slice none 0 0) ∧ Cur wr g A cap xs ∧ Frm (fun c => c = g) w wr ∧ q < wr.heap.size) (fun p _ => N - (intOf p).toNat)
  case atStart => exact ⟨0, _, [], Nat.zero_le _, rfl, ⟨Nat.zero_le _, (fun i h => absurd h (Nat.not_lt_zero _)), (fun i h => absurd h (Nat.not_lt_zero _))⟩, OwnI.nil _ _, HQ.out, HR2.out, HC2.out, HF2.out, by have := HZ.out; omega⟩
  case round =>
    obtain ⟨k, v, bs, hk, rfl, hup, hown, hq2, hr2, hcur, hfrm, hqs⟩ := hrel
    obtain ⟨wo, rfl⟩ : ∃ wo : World, wo = wr := ⟨_, rfl⟩
    have HUP := Lib.hid hup
    have HOW := Lib.hid hown
    have HQ2 := Lib.hid hq2
    have HRR := Lib.hid hr2
    have HCU := Lib.hid hcur
    have HFR := Lib.hid hfrm
    obtain ⟨A5, c5, rfl⟩ := hown.form
    clear hown hq2 hr2 hcur hfrm
    by_cases hlt : k < N
    · go_wp2_with fail
      refine (spec_l01Once_any g A cap xs 2 _ HCU.out (by decide) (by decide)).mono ?_
      rintro e w2 ⟨⟨b, rfl⟩, hc2, hf2⟩
      have HC3 := Lib.hid hc2
      have HF3 := Lib.hid (HFR.out.trans hf2)
      have HQ3 := Lib.hid (HQ2.out.frm hf2 (by omega))
      have HR3 := Lib.hid (HRR.out.frm hf2 (by omega))
      have HO3 := Lib.hid (HOW.out.frm hf2 (fun c hc e => by omega))
      have hz2 := hf2.size
      clear hc2 hf2
      cases b
      · go_wp2_with fail
        go_roundw
        case rel => exact ⟨k + 1, _, bs, by omega, by go_num, HUP.out.step, HO3.out, HQ3.out, HR3.out, HC3.out, HF3.out, by omega⟩
        case measure => simp [intOf]; omega
      · obtain ⟨s0, s1, s2, s3, s4⟩ := HQ3.out
        have hbl : bs.length ≤ 24 := by have := HUP.out.1; omega
        go_wp2_with (at_builtin; refine wpList_append_int rfl (.tmp 22) (.tmp 24) rfl (q + 1) _ bs rfl (HO3.out.alloc _) w2.heap.size k (by rfl) (cell_new1 _ _ _) (by omega) (by simp only [World.size_alloc]; omega) ?_; intro v' w4 hown4 hb4; obtain ⟨bs', hbs'⟩ : ∃ bs', bs ++ [(k : Int)] = bs' := ⟨_, rfl⟩; rw [hbs'] at hown4; have HBS := Lib.hid hbs'; clear hbs'; obtain ⟨A6, c6, rfl⟩ := hown4.form; have hz4 := hb4.size; simp only [World.size_alloc] at hz4; obtain ⟨s0, s1, s2, s3, s4⟩ := (HQ3.out.alloc (.cells #[.int .i64 k] 3)).below hb4 (Nat.lt_succ_self _))
        have HO4 := Lib.hid (hown4.far (p := ⟨q, 1, none⟩) (Nat.lt_succ_self _) (.slice A6 bs'.length c6))
        have HQ4 := Lib.hid (((HQ3.out.alloc (.cells #[.int .i64 k] 3)).below hb4 (Nat.lt_succ_self _)).set1 (.slice A6 bs'.length c6))
        have HR4 := Lib.hid (((HR3.out.alloc (.cells #[.int .i64 k] 3)).below hb4 (by omega)).far (p := ⟨q, 1, none⟩) (by simp; omega) (.slice A6 bs'.length c6))
        have HF4 := Lib.hid ((Frm.of_below (S := fun c => q ≤ c) (((Below.refl q w2).alloc (by omega) (.cells #[.int .i64 k] 3)).trans (hb4.mono (by omega))) (fun c h1 h2 => h2)).setCell (p := ⟨q, 1, none⟩) (Nat.le_refl _) (.slice A6 bs'.length c6))
        have HC4 := Lib.hid (HC3.out.frm HF4.out (fun c hc => by omega))
        have HBB := Lib.hid ((((Below.refl q w2).alloc (by omega) (.cells #[.int .i64 k] 3)).trans (hb4.mono (by omega))).setCell (p := ⟨q, 1, none⟩) (Nat.le_refl _) (.slice A6 bs'.length c6))
        clear hown4 hb4
        go_wp2_with fail
        go_roundw
        case rel =>
          refine ⟨k + 1, .slice A6 bs'.length c6, bs', by omega, by go_num, by rw [← HBS.out]; exact HUP.out.snoc, HO4.out, HQ4.out, HR4.out, HC4.out, ?_, by simp [World.setCell]; omega⟩
          exact frm_below_new HF3.out HBB.out (by omega)
        case measure => simp [intOf]; omega
    · have hke : k = N := by omega
      subst hke
      obtain ⟨s0, s1, s2, s3, s4⟩ := HQ2.out
      obtain ⟨t0, t1, t2, t3, t4⟩ := HRR.out
      go_wp2_with fail
      refine bodyPost_ret (v := .agg #[.int .i64 k, .slice A5 bs.length c5]) (by simp [results, Tryz.results19, go_sem, t0, t1]) rfl ⟨⟨_, rfl, k, bs, A5, c5, rfl, HUP.out.rh hN1 (by omega), hN24, ?_, OwnI.cap_le HOW.out⟩, ?_⟩
      · exact (OwnI.rw_ ((HOW.out.far (p := ⟨w.heap.size, 0, none⟩) (by show w.heap.size < q + 1; omega) _).far (p := ⟨w.heap.size, 1, none⟩) (by show w.heap.size < q + 1; omega) _) (by have := HUP.out.1; omega)).mono (by omega)
      · exact frm_below_new HFR.out (((Below.refl w.heap.size wo).setCell (Nat.le_refl _) _).setCell (Nat.le_refl _) _) (Nat.le_refl _)

theorem rh_fits {N : Nat} {bs : List Int} (hok : RhOk N bs) : ∀ x ∈ bs, Fits x := fun x hx => by
  obtain ⟨i, hi, rfl⟩ := List.getElem_of_mem hx
  have := hok.2.2.1 i hi
  have := hok.2.1
  rw [List.getD_eq_getElem?_getD, List.getElem?_eq_getElem hi, Option.getD_some] at *
  unfold Fits; omega

set_option maxRecDepth 100000 in
set_option maxHeartbeats 1000000 in
theorem spec_MakeRhythm_any (A : Option Addr) (cap : Nat) (xs : List Int) (n most : Nat) (w : World) (hB : Byt w w.heap.size A xs) (hn : n ≤ 1000) (h1 : 2 ≤ most) (h2 : most ≤ 24) :
    Calls Tryz.prog 4 #[.slice A xs.length cap, .int .i64 n, .int .i64 most] w fun e w' => (∃ v, e = .returned v ∧ RhA most w' (w.heap.size + 1) v) ∧ Below w.heap.size w w' := by
  have HN := Lib.hid (fun V hV => spec_l31New_any A cap xs n V hV hn)
  have hBL := hB.lift ((Below.refl w.heap.size w).alloc (Nat.le_refl _) (.cells #[.int .i64 0, .slice none 0 0] 25))
  have HBL := Lib.hid hBL
  have HR0 := Lib.hid (Cells2.new w (.int .i64 0) (.slice none 0 0) 25)
  have hmn : min (most : Int) 24 = most := by omega
  have hmx : max 1 (most : Int) = most := by omega
  have hm1 : (1 : Int) < (most : Int) := by omega
  have hm2 : ¬ (most : Int) < 1 := by omega
  have hm3 : 1 < most := by omega
  clear hB hBL
  go_enter Tryz.func4, Tryz.ntmps4
  go_wp2_with fail
  refine (HN.out _ HBL.out).mono ?_
  rintro e w1 ⟨g, rfl, hg, hc, hb⟩
  simp only [World.size_alloc] at hg
  have HC := Lib.hid hc
  have HB := Lib.hid (((Below.refl w.heap.size w).alloc (Nat.le_refl _) (.cells #[.int .i64 0, .slice none 0 0] 25)).trans (hb.mono (by simp)))
  have HR1 := Lib.hid (HR0.out.below hb (by simp))
  clear hc hb
  go_wp2_with fail
  refine (spec_l02Draw_any g A cap xs most _ HC.out (by omega) h2).mono ?_
  rintro e w2 ⟨⟨v, rfl, N, bs, A2, c2, rfl, hok, hNm, hI, hcp⟩, hf2⟩
  have HB2 := Lib.hid (HB.out.trans (hf2.below (fun c hc => by subst hc; omega) HB.out.size))
  obtain ⟨t0, t1, t2, t3, t4⟩ := HR1.out.frm hf2 (by omega)
  go_wp2_with fail
  refine bodyPost_ret (v := .agg #[.int .i64 N, .slice A2 bs.length c2]) (by simp [results, Tryz.results4, go_sem, t0, t1]) rfl ⟨⟨_, rfl, N, bs, A2, c2, rfl, hok, hNm, ?_, hcp⟩, ?_⟩
  · exact ((hI.far (p := ⟨w.heap.size, 0, none⟩) (by show w.heap.size < _; have := HB.out.size; omega) _).far (p := ⟨w.heap.size, 1, none⟩) (by show w.heap.size < _; have := HB.out.size; omega) _).mono (by have := HB.out.size; omega)
  · exact (HB2.out.setCell (Nat.le_refl _) _).setCell (Nat.le_refl _) _

end Go.Proofs.YtcolbkgceaboaabGreatDoor

namespace Go.Proofs.YtcolbkgceaboaabGreatDoor
open Go.ChangeShapes Go.WideShapes Go.ChangeAt Go.RowKit Go.Joins
set_option linter.unusedVariables false
set_option linter.unusedSimpArgs false

theorem byte_of_wf {x : Int} (h : (Lit.int .u8 x).wf = true) : 0 ≤ x ∧ x < 256 := by
  simp [Lit.wf, IntKind.min, IntKind.max, IntKind.signed, IntKind.bits] at h
  exact ⟨by omega, by omega⟩

set_option maxRecDepth 100000 in
theorem open_bytelist {H : Type} {enc : TypeId × Value → H} {W : World} {r : Reach} {b0 : Nat} {v : Value} {d : DataW H} {p : List MemPlace}
    (hv : Value.okWide Tryz.prog W r b0 22 v) (h : DataW.Trod enc Tryz.prog W 0 (fun _ => true) true 22 v d p) :
    ∃ A cap xs, v = .slice A (List.length xs) cap ∧ Byt W W.heap.size A xs := by
  obtain ⟨a0, l0, c0, rfl⟩ := okWide_slice Tryz.underlying22 hv
  obtain ⟨fuel, hf⟩ := h
  rcases open_ints Tryz.underlying22 Tryz.underlying5 (by kernel_rfl) hf with ⟨hcs, _⟩ | ⟨x, l, c, zs, hcs, _, hl, hm, hz, _, hcell, hwz⟩
  · simp only [Value.cells] at hcs
    injection hcs with hcs _
    exact ⟨none, 0, [], hcs, by simp, fun x hx => by simp at hx, fun h => by simp at h⟩
  · simp only [Value.cells] at hcs
    injection hcs with hcs _
    simp only [if_true] at hz
    have e : (zs.take l).length = l := by rw [List.length_take]; omega
    refine ⟨some x, c, zs.take l, by rw [e]; exact hcs, by omega, fun n hn => byte_of_wf (hwz n (List.mem_of_mem_take hn)), fun h => ?_⟩
    obtain ⟨b, off, rfl, hc⟩ := ints_at hcell (by omega)
    have h0 := hc 0 (by omega)
    refine ⟨b, off, rfl, World.block_lt_of_cell? _ _ h0, fun i hi => ?_⟩
    rw [hc i (by omega), List.getD_eq_getElem?_getD, List.getD_eq_getElem?_getD, List.getElem?_take_of_lt (by omega)]

end Go.Proofs.YtcolbkgceaboaabGreatDoor

namespace Go.Proofs.YtcolbkgceaboaabGreatDoor
open Go.RowKit
set_option linter.unusedVariables false
set_option linter.unusedSimpArgs false

theorem ofInt_i64 (a : Nat) (ha : a < 9223372036854775808) : (BitVec.ofInt 64 (a : Int)).toNat = a := by
  rw [BitVec.ofInt_natCast, BitVec.toNat_ofNat]; exact Nat.mod_eq_of_lt (by omega)
theorem i64_and_nat (a b : Nat) (ha : a < 9223372036854775808) (hb : b < 9223372036854775808) : bits .and .i64 (a : Int) (b : Int) = ((a &&& b : Nat) : Int) := by
  have hx : a &&& b < 2 ^ 63 := Nat.and_lt_two_pow _ (by omega)
  show IntKind.i64.wrap ((BitVec.ofInt 64 (a : Int) &&& BitVec.ofInt 64 (b : Int)).toNat : Int) = _
  rw [BitVec.toNat_and, ofInt_i64 a ha, ofInt_i64 b hb, IntKind.wrap_i64]
  omega
theorem i64_or_nat (a b : Nat) (ha : a < 9223372036854775808) (hb : b < 9223372036854775808) : bits .or .i64 (a : Int) (b : Int) = ((a ||| b : Nat) : Int) := by
  have hx : a ||| b < 2 ^ 63 := Nat.or_lt_two_pow (by omega) (by omega)
  show IntKind.i64.wrap ((BitVec.ofInt 64 (a : Int) ||| BitVec.ofInt 64 (b : Int)).toNat : Int) = _
  rw [BitVec.toNat_or, ofInt_i64 a ha, ofInt_i64 b hb, IntKind.wrap_i64]
  omega

/-- The code written twice; the window at a pulse as a number; the windows met; whether they are all there. -/
def winT (S c : Nat) : Nat := c * 2 ^ S ||| c
def winV (S c p : Nat) : Nat := winT S c / 2 ^ p &&& (S - 1)
def metN (S c : Nat) : Nat → Nat
  | 0 => 0
  | p + 1 => metN S c p ||| 2 ^ winV S c p
def fullB (S c : Nat) : Bool := metN S c S == 2 ^ S - 1

theorem winT_lt (S c : Nat) (hS : S ≤ 16) (hc : c < 2 ^ S) : winT S c < 4294967296 := by
  have h1 : c * 2 ^ S < 2 ^ S * 2 ^ S := (Nat.mul_lt_mul_right (Nat.two_pow_pos S)).2 hc
  have h2 : 2 ^ S * 2 ^ S ≤ 2 ^ 32 := by
    rw [← Nat.pow_add]
    exact Nat.pow_le_pow_right (by omega) (by omega)
  have h3 : (2 : Nat) ^ S ≤ 2 ^ 32 := Nat.pow_le_pow_right (by omega) (by omega)
  exact Nat.or_lt_two_pow (n := 32) (by omega) (by omega)
theorem winV_lt (S c p : Nat) (hS : 0 < S) : winV S c p < S := by
  have : winV S c p ≤ S - 1 := Nat.and_le_right
  omega
theorem metN_lt (S c : Nat) : ∀ p, 0 < S → metN S c p < 2 ^ S
  | 0, _ => Nat.two_pow_pos S
  | p + 1, h => Nat.or_lt_two_pow (metN_lt S c p h) (Nat.pow_lt_pow_right (by omega) (winV_lt S c p h))
theorem winV_bits (S c p : Nat) (m : Int) (hm : ((S - 1 : Nat) : Int) = m) (hS : S ≤ 16) (hT : winT S c < 4294967296) : bits BinOp.and IntKind.i64 (↑(winT S c) / 2 ^ p) m = (winV S c p : Int) := by
  subst hm
  have hle : winT S c / 2 ^ p ≤ winT S c := Nat.div_le_self _ _
  have := i64_and_nat (winT S c / 2 ^ p) (S - 1) (by omega) (by omega)
  rw [Int.natCast_ediv, Int.natCast_pow] at this
  exact this
theorem i64_or_pow (m v : Nat) (hm : m < 65536) (hv : v < 16) : bits BinOp.or IntKind.i64 (m : Int) (wrap64 (2 ^ v)) = ((m ||| 2 ^ v : Nat) : Int) := by
  have h2 : (2 : Nat) ^ v < 2 ^ 16 := Nat.pow_lt_pow_right (by omega) hv
  have e : wrap64 (2 ^ v) = ((2 ^ v : Nat) : Int) := by
    rw [show ((2 : Int) ^ v) = ((2 ^ v : Nat) : Int) by simp]
    generalize 2 ^ v = x at h2
    unfold wrap64
    omega
  rw [e]
  exact i64_or_nat m (2 ^ v) (by omega) (by omega)
theorem fullB_eq (S c n : Nat) (h : 2 ^ S - 1 = n) : ((metN S c S : Int) == (n : Int)) = fullB S c := by
  unfold fullB
  rw [h, Bool.eq_iff_iff, beq_iff_eq, beq_iff_eq]
  omega

end Go.Proofs.YtcolbkgceaboaabGreatDoor

namespace Go.Proofs.YtcolbkgceaboaabGreatDoor
open Go.RowKit
set_option linter.unusedVariables false
set_option linter.unusedSimpArgs false

/-- Place i of a pattern is as it must be. -/
def patAt (xs : List Int) (i : Nat) : Bool := inB (xs.getD i 0) 0 12 && (if i = 0 then decide (xs.getD 0 0 = 0) else decide (xs.getD (i - 1) 0 < xs.getD i 0))
def patB (xs : List Int) : Bool := decide (0 < xs.length) && (List.range xs.length).all (patAt xs)
theorem pat_no {xs : List Int} {k : Nat} (hk : k < xs.length) (h : patAt xs k = false) : patB xs = false := by
  unfold patB
  rw [Bool.and_eq_false_iff]
  refine .inr ?_
  rw [List.all_eq_false]
  exact ⟨k, List.mem_range.2 hk, by rw [h]; decide⟩
theorem pat_end {xs : List Int} (h : ∀ j, j < xs.length → patAt xs j = true) : patB xs = decide (0 < xs.length) := by
  unfold patB
  rw [List.all_eq_true.2 (fun j hj => h j (List.mem_range.1 hj)), Bool.and_true]
theorem pat_all {xs : List Int} (h : patB xs = true) : 0 < xs.length ∧ ∀ j, j < xs.length → patAt xs j = true := by
  unfold patB at h
  rw [Bool.and_eq_true, decide_eq_true_eq, List.all_eq_true] at h
  exact ⟨h.1, fun j hj => h.2 j (List.mem_range.2 hj)⟩
theorem pat_in {xs : List Int} {j : Nat} (h : patAt xs j = true) : 0 ≤ xs.getD j 0 ∧ xs.getD j 0 ≤ 12 := by
  unfold patAt at h
  rw [Bool.and_eq_true] at h
  exact inB_iff.1 h.1
theorem pat_first {xs : List Int} (h : patAt xs 0 = true) : xs.getD 0 0 = 0 := by
  unfold patAt at h
  rw [Bool.and_eq_true, if_pos rfl, decide_eq_true_eq] at h
  exact h.2
theorem pat_asc {xs : List Int} {j : Nat} (h0 : 0 < j) (h : patAt xs j = true) : xs.getD (j - 1) 0 < xs.getD j 0 := by
  unfold patAt at h
  rw [Bool.and_eq_true, if_neg (by omega), decide_eq_true_eq] at h
  exact h.2

/-- The mask of the first k places. -/
def mkN (xs : List Int) : Nat → Nat
  | 0 => 0
  | k + 1 => mkN xs k + 2 ^ (xs.getD k 0).toNat
theorem mk_lt {xs : List Int} (h : ∀ j, j < xs.length → patAt xs j = true) : ∀ k, k < xs.length → mkN xs k < 2 ^ (xs.getD k 0).toNat
  | 0, _ => Nat.two_pow_pos _
  | k + 1, hk => by
    have ih := mk_lt h k (by omega)
    have h1 := pat_in (h k (by omega))
    have h2 := pat_asc (by omega) (h (k + 1) hk)
    rw [Nat.add_sub_cancel] at h2
    have h3 : 2 ^ ((xs.getD k 0).toNat + 1) ≤ 2 ^ (xs.getD (k + 1) 0).toNat := Nat.pow_le_pow_right (by omega) (by omega)
    have h4 : 2 ^ ((xs.getD k 0).toNat + 1) = 2 ^ (xs.getD k 0).toNat * 2 := Nat.pow_succ ..
    show mkN xs k + 2 ^ (xs.getD k 0).toNat < _
    omega
theorem mk_or {xs : List Int} (h : ∀ j, j < xs.length → patAt xs j = true) (k : Nat) (hk : k < xs.length) : mkN xs k ||| 2 ^ (xs.getD k 0).toNat = mkN xs (k + 1) := by
  have := Nat.two_pow_add_eq_or_of_lt (mk_lt h k hk) 1
  rw [Nat.mul_one] at this
  show _ = mkN xs k + 2 ^ (xs.getD k 0).toNat
  rw [Nat.or_comm, ← this, Nat.add_comm]
theorem mk_small {xs : List Int} (h : ∀ j, j < xs.length → patAt xs j = true) (k : Nat) (hk : k ≤ xs.length) : mkN xs k < 8192 := by
  cases k with
  | zero => exact (by decide : (0 : Nat) < 8192)
  | succ k =>
    have ih := mk_lt h k (by omega)
    have h1 := pat_in (h k (by omega))
    have h3 : 2 ^ ((xs.getD k 0).toNat + 1) ≤ 2 ^ 13 := Nat.pow_le_pow_right (by omega) (by omega)
    have h4 : 2 ^ ((xs.getD k 0).toNat + 1) = 2 ^ (xs.getD k 0).toNat * 2 := Nat.pow_succ ..
    show mkN xs k + 2 ^ (xs.getD k 0).toNat < _
    omega
theorem mk_odd {xs : List Int} (h : ∀ j, j < xs.length → patAt xs j = true) : ∀ k, 0 < k → k ≤ xs.length → mkN xs k % 2 = 1
  | 1, _, hk => by
    have := pat_first (h 0 (by omega))
    show (0 + 2 ^ (xs.getD 0 0).toNat) % 2 = 1
    rw [this]; rfl
  | k + 2, _, hk => by
    have ih := mk_odd h (k + 1) (by omega) (by omega)
    have h1 := pat_in (h k (by omega))
    have h2 := pat_asc (by omega) (h (k + 1) (by omega))
    rw [Nat.add_sub_cancel] at h2
    obtain ⟨e, he⟩ : ∃ e, (xs.getD (k + 1) 0).toNat = e + 1 := ⟨(xs.getD (k + 1) 0).toNat - 1, by omega⟩
    show (mkN xs (k + 1) + 2 ^ (xs.getD (k + 1) 0).toNat) % 2 = 1
    rw [he, Nat.pow_succ]
    omega

/-- The ones at the end of a number are struck off; how many they were. -/
def strF : Nat → Nat → Nat × Nat
  | 0, s => (s, 0)
  | f + 1, s => if s % 2 = 1 then ((strF f (s / 2)).1, (strF f (s / 2)).2 + 1) else (s, 0)
theorem strF_even {f s : Nat} (h : s % 2 = 0) : strF f s = (s, 0) := by
  cases f with
  | zero => rfl
  | succ f => show (if s % 2 = 1 then _ else _) = _; rw [if_neg (by omega)]
theorem strF_odd {f s : Nat} (h : s % 2 = 1) : strF (f + 1) s = ((strF f (s / 2)).1, (strF f (s / 2)).2 + 1) := by
  show (if s % 2 = 1 then _ else _) = _; rw [if_pos h]
theorem strF_lt : ∀ (f s : Nat), (strF f s).1 ≤ s ∧ (strF f s).2 ≤ f
  | 0, s => ⟨Nat.le_refl _, Nat.le_refl _⟩
  | f + 1, s => by
    unfold strF
    by_cases h : s % 2 = 1
    · rw [if_pos h]
      have := strF_lt f (s / 2)
      exact ⟨by show (strF f (s / 2)).1 ≤ s; omega, by show (strF f (s / 2)).2 + 1 ≤ f + 1; omega⟩
    · rw [if_neg h]; exact ⟨Nat.le_refl _, Nat.zero_le _⟩

/-- The block: what comes of laying (1: it fails, at the time; 2: it comes back, after the time, with the entries). -/
def runB : Nat → Nat → Nat → Nat → List Nat → Nat × Nat × List Nat
  | 0, _, _, _, _ => (0, 0, [])
  | f + 1, M, s, t, es => if s &&& M = 0 then (if (strF 14 (s + M)).1 = 0 then (2, t + (strF 14 (s + M)).2, es ++ [t]) else runB f M (strF 14 (s + M)).1 (t + (strF 14 (s + M)).2) (es ++ [t])) else (1, t, [])
theorem runB_fail {f M s t : Nat} {es : List Nat} (h : s &&& M ≠ 0) : runB (f + 1) M s t es = (1, t, []) := by unfold runB; rw [if_neg h]
theorem runB_back {f M s t n : Nat} {es : List Nat} (h : s &&& M = 0) (h2 : strF 14 (s + M) = (0, n)) : runB (f + 1) M s t es = (2, t + n, es ++ [t]) := by unfold runB; rw [if_pos h, h2, if_pos rfl]
theorem runB_on {f M s t s' n : Nat} {es : List Nat} (h : s &&& M = 0) (h2 : strF 14 (s + M) = (s', n)) (h0 : s' ≠ 0) : runB (f + 1) M s t es = runB f M s' (t + n) (es ++ [t]) := by
  show (if s &&& M = 0 then _ else _) = _
  rw [if_pos h, h2, if_neg h0]
def blk (M : Nat) : Nat × Nat × List Nat := runB 13 M 0 0 []

/-- Whether a shift by q leaves the entries. -/
def shB (p : Nat) (es : List Nat) (q : Nat) : Bool := es.all fun t => decide ((t + q) % p ∈ es)
def chkB (M : Nat) : Bool :=
  ((blk M).1 == 1 && decide ((blk M).2.1 ≤ 24)) ||
  ((blk M).1 == 2 && decide (1 ≤ (blk M).2.1) && decide ((blk M).2.1 ≤ 24) && decide ((blk M).2.2.length ≤ 13) && (blk M).2.2.all (fun t => decide (t < (blk M).2.1)) &&
    (List.range (blk M).2.1).all fun q => q == 0 || (blk M).2.1 % q != 0 || !(shB (blk M).2.1 (blk M).2.2 q))
theorem blk_chk : ((List.range 4096).all fun h => chkB (2 * h + 1)) = true := by decide +kernel
theorem blk_of {M : Nat} (h1 : M < 8192) (h2 : M % 2 = 1) : chkB M = true := by
  have := List.all_eq_true.1 blk_chk (M / 2) (List.mem_range.2 (by omega))
  rwa [show 2 * (M / 2) + 1 = M by omega] at this
theorem blk_cases {M : Nat} (h1 : M < 8192) (h2 : M % 2 = 1) :
    ((blk M).1 = 1 ∧ (blk M).2.1 ≤ 24) ∨
    ((blk M).1 = 2 ∧ 1 ≤ (blk M).2.1 ∧ (blk M).2.1 ≤ 24 ∧ (blk M).2.2.length ≤ 13 ∧ (∀ t ∈ (blk M).2.2, t < (blk M).2.1) ∧
      ∀ q, 0 < q → q < (blk M).2.1 → (blk M).2.1 % q = 0 → shB (blk M).2.1 (blk M).2.2 q = false) := by
  have h := blk_of h1 h2
  unfold chkB at h
  generalize blk M = r at h ⊢
  simp only [Bool.or_eq_true, Bool.and_eq_true, beq_iff_eq, decide_eq_true_eq, List.all_eq_true, bne_iff_ne, Bool.not_eq_true'] at h
  rcases h with h | ⟨⟨⟨⟨⟨a1, a2⟩, a3⟩, a4⟩, a5⟩, a6⟩
  · exact .inl h
  · refine .inr ⟨a1, a2, a3, a4, a5, fun q h0 hq hz => ?_⟩
    rcases a6 q (List.mem_range.2 hq) with (e | e) | e
    · omega
    · exact absurd hz e
    · exact e

theorem or_add {s M : Nat} (h : s &&& M = 0) (hs : s < 65536) (hM : M < 65536) : s ||| M = s + M := by
  have e := BitVec.add_eq_or_of_and_eq_zero (BitVec.ofNat 32 s) (BitVec.ofNat 32 M) (by
    apply BitVec.eq_of_toNat_eq
    rw [BitVec.toNat_and, BitVec.toNat_ofNat, BitVec.toNat_ofNat, Nat.mod_eq_of_lt (by omega), Nat.mod_eq_of_lt (by omega), h]; rfl)
  have e2 := congrArg BitVec.toNat e
  rw [BitVec.toNat_add, BitVec.toNat_or, BitVec.toNat_ofNat, BitVec.toNat_ofNat, Nat.mod_eq_of_lt (show s < 2 ^ 32 by omega), Nat.mod_eq_of_lt (show M < 2 ^ 32 by omega), Nat.mod_eq_of_lt (by omega)] at e2
  exact e2.symm

/-- What both say of a pattern. -/
def patM (xs : List Int) : Nat := mkN xs xs.length
def lcanV (xs : List Int) : Bool := patB xs && ((blk (patM xs)).1 == 2)
def lperV (xs : List Int) : Nat := if lcanV xs then (blk (patM xs)).2.1 else 0
def lentV (xs : List Int) : List Int := if lcanV xs then (blk (patM xs)).2.2.map (fun (t : Nat) => (t : Int)) else []
def lfailV (xs : List Int) : Int := if patB xs && !lcanV xs then (blk (patM xs)).2.1 else -1

end Go.Proofs.YtcolbkgceaboaabGreatDoor

namespace Go.Proofs.YtcolbkgceaboaabGreatDoor
open Go.RowKit
set_option linter.unusedVariables false
set_option linter.unusedSimpArgs false

theorem pat_step {xs : List Int} {k : Nat} (h : ∀ j, j < k → patAt xs j = true) (hk : patAt xs k = true) : ∀ j, j < k + 1 → patAt xs j = true := fun j hj => by
  by_cases e : j = k
  · subst e; exact hk
  · exact h j (by omega)

set_option maxRecDepth 100000 in
set_option maxHeartbeats 1000000 in
theorem impl_PatternOk_any (A : Option Addr) (cap : Nat) (xs : List Int) (w : World) (hA : Ints w w.heap.size A xs) :
    Calls Tryz.prog 27 #[.slice A xs.length cap] w fun e w' => e = .returned (.bool (patB xs)) ∧ w = w' := by
  obtain ⟨hlen, hfit, hcells⟩ := hA
  unfold maxLen at hlen
  have HC := Lib.hid hcells
  clear hfit hcells
  go_enter Tryz.func27, Tryz.ntmps27
  go_wp2
  go_loop [7] (fun i => ∃ k : Nat, k ≤ xs.length ∧ (∀ j, j < k → patAt xs j = true) ∧ i = .int .i64 k) (fun i => xs.length - (intOf i).toNat)
  case atStart => exact ⟨0, Nat.zero_le _, fun j hj => by omega, rfl⟩
  case round =>
    obtain ⟨k, hk, hall, rfl⟩ := hrel
    have HALL := Lib.hid hall
    clear hall
    by_cases hlt : k < xs.length
    · obtain ⟨b, off, rfl, hB, hc⟩ := HC.out (by omega)
      have hcell := hc k hlt
      have hcell1 := hc (k - 1) (by omega)
      obtain ⟨x, hx⟩ : ∃ x, xs.getD k 0 = x := ⟨_, rfl⟩
      obtain ⟨y, hy⟩ : ∃ y, xs.getD (k - 1) 0 = y := ⟨_, rfl⟩
      rw [hx] at hcell
      rw [hy] at hcell1
      have HX := Lib.hid hx
      have HY := Lib.hid hy
      clear hx hy hc
      cases hin : inB x 0 12
      · have HV := Lib.hid (pat_no hlt (show patAt xs k = false by unfold patAt; rw [HX.out, hin]; rfl))
        go_wp2_with (go_at_call 46; refine (within_any _ _ _ _).mono ?_; rintro e w' ⟨rfl, rfl⟩)
        go_ret
        exact ⟨ret_bool HV.out.symm, rfl⟩
      · by_cases h0 : k = 0
        · subst h0
          simp only [Nat.add_zero] at hcell
          by_cases hx0 : x = 0
          · have HV := Lib.hid (show patAt xs 0 = true by unfold patAt; rw [if_pos rfl, HX.out, hin, decide_eq_true hx0]; rfl)
            have hxn : (x != 0) = false := by simp [hx0]
            clear hx0
            go_wp2_with (go_at_call 46; refine (within_any _ _ _ _).mono ?_; rintro e w' ⟨rfl, rfl⟩)
            go_round
            case rel => exact ⟨1, by omega, pat_step HALL.out HV.out, by go_num⟩
            case measure => simp [intOf]; omega
          · have HV := Lib.hid (pat_no hlt (show patAt xs 0 = false by unfold patAt; rw [if_pos rfl, HX.out, hin, decide_eq_false hx0]; rfl))
            have hxn : (x != 0) = true := by simp [hx0]
            clear hx0
            go_wp2_with (go_at_call 46; refine (within_any _ _ _ _).mono ?_; rintro e w' ⟨rfl, rfl⟩)
            go_ret
            exact ⟨ret_bool HV.out.symm, rfl⟩
        · have hk0 : ((k : Int) == 0) = false := beq_eq_false_iff_ne.2 (by omega)
          have hk1 : (0 : Int) < (k : Int) := by omega
          have hk2 : decide ((0 : Int) < (k : Int)) = true := decide_eq_true hk1
          have hk3 : 0 < k := by omega
          by_cases hxy : y < x
          · have HV := Lib.hid (show patAt xs k = true by unfold patAt; rw [if_neg h0, HX.out, HY.out, hin, decide_eq_true hxy]; rfl)
            have hle : decide (x ≤ y) = false := decide_eq_false (by omega)
            have hle2 : ¬ x ≤ y := by omega
            go_wp2_with (go_at_call 46; refine (within_any _ _ _ _).mono ?_; rintro e w' ⟨rfl, rfl⟩)
            go_round
            case rel => exact ⟨k + 1, by omega, pat_step HALL.out HV.out, by go_num⟩
            case measure => simp [intOf]; omega
          · have HV := Lib.hid (pat_no hlt (show patAt xs k = false by unfold patAt; rw [if_neg h0, HX.out, HY.out, hin, decide_eq_false hxy]; rfl))
            have hle : decide (x ≤ y) = true := decide_eq_true (by omega)
            have hle2 : x ≤ y := by omega
            go_wp2_with (go_at_call 46; refine (within_any _ _ _ _).mono ?_; rintro e w' ⟨rfl, rfl⟩)
            go_ret
            exact ⟨ret_bool HV.out.symm, rfl⟩
    · have hke : k = xs.length := by omega
      subst hke
      have HV := Lib.hid (show patB xs = decide ((0 : Int) < (xs.length : Int)) by rw [pat_end HALL.out, decide_eq_decide]; omega)
      go_wp2_with (go_at_call 46; refine (within_any _ _ _ _).mono ?_; rintro e w' ⟨rfl, rfl⟩)
      go_ret
      exact ⟨by rw [HV.out]; first | rfl | simp, rfl⟩

/-- Block g is a row of times: the time, the times taken, the pattern. -/
def Lin3 (w : World) (g : Nat) (t s M : Int) : Prop :=
  g < w.heap.size ∧ w.cell? ⟨g, 0, none⟩ = some (.int .i64 t) ∧ w.cell? ⟨g, 1, none⟩ = some (.int .i64 s) ∧ w.cell? ⟨g, 2, none⟩ = some (.int .i64 M) ∧
    w.frozen? ⟨g, 0, none⟩ = false ∧ w.frozen? ⟨g, 1, none⟩ = false
section
variable {w w' : World} {g : Nat} {t s M : Int} {S : Nat → Prop}
theorem Lin3.frm (h : Lin3 w g t s M) (hf : Frm S w w') (hS : ¬ S g) : Lin3 w' g t s M :=
  ⟨Nat.lt_of_lt_of_le h.1 hf.size, (hf.cell h.1 hS).trans h.2.1, (hf.cell h.1 hS).trans h.2.2.1, (hf.cell h.1 hS).trans h.2.2.2.1, (hf.frozen h.1 hS).trans h.2.2.2.2.1, (hf.frozen h.1 hS).trans h.2.2.2.2.2⟩
theorem Lin3.below {B : Nat} (h : Lin3 w g t s M) (hb : Below B w w') (hg : g < B) : Lin3 w' g t s M :=
  h.frm (Frm.of_below (S := fun c => B ≤ c) hb (fun c _ h => h)) (by omega)
theorem Lin3.set0 (h : Lin3 w g t s M) (u : Int) : Lin3 (w.setCell ⟨g, 0, none⟩ (.int .i64 u)) g u s M :=
  ⟨by simpa [World.setCell] using h.1, World.cell?_setCell_same w _ _ h.2.1, (World.cell?_setCell_other w ⟨g, 0, none⟩ ⟨g, 1, none⟩ _ (fun q => by injection q; omega)).trans h.2.2.1,
    (World.cell?_setCell_other w ⟨g, 0, none⟩ ⟨g, 2, none⟩ _ (fun q => by injection q; omega)).trans h.2.2.2.1, (World.frozen?_setCell _ _ _ _).trans h.2.2.2.2.1, (World.frozen?_setCell _ _ _ _).trans h.2.2.2.2.2⟩
theorem Lin3.set1 (h : Lin3 w g t s M) (u : Int) : Lin3 (w.setCell ⟨g, 1, none⟩ (.int .i64 u)) g t u M :=
  ⟨by simpa [World.setCell] using h.1, (World.cell?_setCell_other w ⟨g, 1, none⟩ ⟨g, 0, none⟩ _ (fun q => by injection q; omega)).trans h.2.1, World.cell?_setCell_same w _ _ h.2.2.1,
    (World.cell?_setCell_other w ⟨g, 1, none⟩ ⟨g, 2, none⟩ _ (fun q => by injection q; omega)).trans h.2.2.2.1, (World.frozen?_setCell _ _ _ _).trans h.2.2.2.2.1, (World.frozen?_setCell _ _ _ _).trans h.2.2.2.2.2⟩
end

theorem lin3_new (w : World) (m : Int) : Lin3 (w.alloc (.cells #[.int .i64 0, .int .i64 0, .int .i64 m] 61)) w.heap.size 0 0 m := by
  have hh : (w.alloc (.cells #[.int .i64 0, .int .i64 0, .int .i64 m] 61)).heap[w.heap.size]? = some (.cells #[.int .i64 0, .int .i64 0, .int .i64 m] 61 (0, 0)) := heap_alloc_new w _
  exact ⟨by simp, by rw [cell_of_row _ _ _ _ _ _ hh]; rfl, by rw [cell_of_row _ _ _ _ _ _ hh]; rfl, by rw [cell_of_row _ _ _ _ _ _ hh]; rfl, frozen_of_row _ _ _ _ _ hh, frozen_of_row _ _ _ _ _ hh⟩

theorem shl_small (v : Nat) (hv : v < 16) : wrap64 (2 ^ v) = ((2 ^ v : Nat) : Int) := by
  have h2 : (2 : Nat) ^ v < 2 ^ 16 := Nat.pow_lt_pow_right (by omega) hv
  rw [show ((2 : Int) ^ v) = ((2 ^ v : Nat) : Int) by simp]
  generalize 2 ^ v = x at h2
  unfold wrap64
  omega

set_option maxRecDepth 100000 in
set_option maxHeartbeats 1000000 in
theorem impl_newLine_ok (A : Option Addr) (cap : Nat) (xs : List Int) (w : World) (hA : Ints w w.heap.size A xs) (hp : patB xs = true) :
    Calls Tryz.prog 44 #[.slice A xs.length cap] w fun e w' => e = .returned (.pointer (some ⟨w.heap.size, 0, none⟩)) ∧ Lin3 w' w.heap.size 0 0 (patM xs) ∧ Below w.heap.size w w' := by
  obtain ⟨hpos, hpat⟩ := pat_all hp
  obtain ⟨hlen, hfit, hcells⟩ := hA
  unfold maxLen at hlen
  have HC := Lib.hid hcells
  have HP := Lib.hid hpat
  clear hfit hcells hpat hp
  go_enter Tryz.func44, Tryz.ntmps44
  go_wp2
  go_loop [3, 8] (fun m i => ∃ k : Nat, k ≤ xs.length ∧ m = .int .i64 (mkN xs k) ∧ i = .int .i64 k) (fun _ i => xs.length - (intOf i).toNat)
  case atStart => exact ⟨0, Nat.zero_le _, rfl, rfl⟩
  case round =>
    obtain ⟨k, hk, rfl, rfl⟩ := hrel
    by_cases hlt : k < xs.length
    · obtain ⟨b, off, rfl, hB, hc⟩ := HC.out (by omega)
      have hcell := hc k hlt
      have hin := pat_in (HP.out k hlt)
      have hor0 := mk_or HP.out k hlt
      have hsm := mk_small HP.out k (by omega)
      obtain ⟨v, hv⟩ := Int.eq_ofNat_of_zero_le hin.1
      rw [hv] at hcell hor0 hin
      have hor := i64_or_pow (mkN xs k) v (by omega) (by omega)
      rw [show mkN xs k ||| 2 ^ v = mkN xs (k + 1) from hor0] at hor
      obtain ⟨m', hm'⟩ : ∃ x, mkN xs (k + 1) = x := ⟨_, rfl⟩
      rw [hm'] at hor
      have HM := Lib.hid hm'
      generalize mkN xs k = m at hor ⊢
      have hv16 : v < 16 := by omega
      have hv0 : (0 : Int) ≤ (v : Int) := Int.natCast_nonneg _
      clear hc hv hin hor0 hsm hm'
      go_wp2
      go_round
      case rel => exact ⟨k + 1, by omega, by rw [HM.out], by go_num⟩
      case measure => simp [intOf]; omega
    · have hke : k = xs.length := by omega
      subst hke
      have HL := Lib.hid (lin3_new w (mkN xs xs.length))
      go_wp2
      go_ret
      exact ⟨rfl, HL.out, (Below.refl _ _).alloc (Nat.le_refl _) _⟩

set_option maxRecDepth 100000 in
set_option maxHeartbeats 1000000 in
theorem impl_lay_no (g t s M : Nat) (w : World) (hL : Lin3 w g t s M) (hs : s < 8192) (hM : M < 8192) (h : s &&& M ≠ 0) :
    Calls Tryz.prog 45 #[.pointer (some ⟨g, 0, none⟩)] w fun e w' => e = .returned (.bool false) ∧ Below w.heap.size w w' := by
  obtain ⟨hg, c0, c1, c2, f0, f1⟩ := hL
  have hand := i64_and_nat s M (by omega) (by omega)
  obtain ⟨a, ha⟩ : ∃ a, s &&& M = a := ⟨_, rfl⟩
  rw [ha] at hand h
  have han : ((a : Int) != 0) = true := by rw [bne_iff_ne]; omega
  have han2 : ¬ (a : Int) = 0 := by omega
  clear ha
  go_enter Tryz.func45, Tryz.ntmps45
  go_wp2_with fail
  go_quiet (fail)
  go_wp2_with fail
  go_ret
  exact ⟨rfl, by first | exact Below.drewN_ (Below.refl _ _) _ | exact Below.refl _ _⟩

set_option maxRecDepth 100000 in
set_option maxHeartbeats 2000000 in
theorem impl_lay_yes (g t s M s' n : Nat) (w : World) (hL : Lin3 w g t s M) (hs : s < 8192) (hM : M < 8192) (h : s &&& M = 0) (ht : t ≤ 1000) (hn : strF 14 (s + M) = (s', n)) :
    Calls Tryz.prog 45 #[.pointer (some ⟨g, 0, none⟩)] w fun e w' => e = .returned (.bool true) ∧ Lin3 w' g (t + n : Nat) s' M ∧ Frm (fun c => c = g) w w' := by
  have HL := Lib.hid hL
  obtain ⟨hg, c0, c1, c2, f0, f1⟩ := hL
  have hand := i64_and_nat s M (by omega) (by omega)
  rw [h] at hand
  have hor := i64_or_nat s M (by omega) (by omega)
  rw [or_add h (by omega) (by omega)] at hor
  obtain ⟨z, hz⟩ : ∃ z, s + M = z := ⟨_, rfl⟩
  rw [hz] at hor hn
  have hzs : z < 16384 := by omega
  have HN := Lib.hid hn
  have hn14 : n ≤ 14 := by have := (strF_lt 14 z).2; rw [hn] at this; exact this
  clear hz hn h
  go_enter Tryz.func45, Tryz.ntmps45
  go_wp2_with fail
  go_quiet (fail)
  go_wp2_with fail
  have HF := Lib.hid (Frm.drewN (Frm.refl (fun c => c = g) w) nq)
  have HL1 := Lib.hid (show Lin3 (w.drewN nq) g t s M from HL.out)
  clear c0 c1 c2 f0 f1 hg hand
  generalize w.drewN nq = W at *
  obtain ⟨hg, c0, c1, c2, f0, f1⟩ := HL1.out
  go_still_tail 11, (by kernel_rfl)
  change wpList _ _ _ _ _ W.drew
  have HF2 := Lib.hid (Frm.drew HF.out)
  have HL2 := Lib.hid (show Lin3 W.drew g t s M from HL1.out)
  clear c0 c1 c2 f0 f1 hg
  generalize W.drew = W2 at *
  obtain ⟨hg, c0, c1, c2, f0, f1⟩ := HL2.out
  have HF3 := Lib.hid (Frm.setCell (p := ⟨g, 1, none⟩) HF2.out rfl (.int .i64 z))
  have HL3 := Lib.hid (HL2.out.set1 z)
  go_wp2_with fail
  generalize W2.setCell ⟨g, 1, none⟩ (.int .i64 z) = W3 at *
  clear c0 c1 c2 f0 f1 hg
  go_loopg [] z (fun k wr => ∃ (u T r f : Nat), u = k ∧ u < 2 ^ f ∧ f ≤ 14 ∧ strF f u = (s', r) ∧ T + r = t + n ∧ r ≤ 14 ∧ Lin3 wr g T u M ∧ Frm (fun c => c = g) w wr)
  case atStart => exact ⟨z, t, n, 14, rfl, hzs, Nat.le_refl _, HN.out, rfl, by have := (strF_lt 14 z).2; rw [HN.out] at this; exact this, HL3.out, HF3.out⟩
  case round =>
    obtain ⟨u, T, r, f, rfl, hu, hf, hst, hT, hr, hlin, hfr⟩ := hrel
    obtain ⟨wo, rfl⟩ : ∃ wo : World, wo = wr := ⟨_, rfl⟩
    have HL := Lib.hid hlin
    have HFR := Lib.hid hfr
    obtain ⟨hg, c0, c1, c2, f0, f1⟩ := hlin
    have hul : u < 16384 := Nat.lt_of_lt_of_le hu (Nat.pow_le_pow_right (by omega) hf)
    have hand := i64_and_nat u 1 (by omega) (by omega)
    rw [Nat.and_one_is_mod] at hand
    by_cases hodd : u % 2 = 1
    · rw [hodd] at hand
      have hand : bits .and .i64 (u : Int) 1 = 1 := hand
      obtain ⟨f', rfl⟩ : ∃ f', f = f' + 1 := by
        cases f with
        | zero => rw [Nat.pow_zero] at hu; omega
        | succ f => exact ⟨f, rfl⟩
      rw [strF_odd hodd] at hst
      have e1 := congrArg Prod.fst hst
      have e2 := congrArg Prod.snd hst
      obtain ⟨q, hq⟩ : ∃ q, u / 2 = q := ⟨_, rfl⟩
      rw [hq] at e1 e2
      have HE := Lib.hid (And.intro e1 e2)
      have hqi : (u : Int) / 2 = (q : Int) := by rw [← hq]; rfl
      have hqu : q < u := by omega
      have hqf : q < 2 ^ f' := by rw [Nat.pow_succ] at hu; omega
      have hwT : IntKind.i64.wrap ((T : Int) + 1) = (T : Int) + 1 := i64w (by omega)
      have hL1 := HL.out.set1 (q : Int)
      have d0 := hL1.2.1
      have d1 := hL1.2.2.2.2.1
      have HL2 := Lib.hid (hL1.set0 ((T : Int) + 1))
      have HF2 := Lib.hid (Frm.setCell (p := ⟨g, 0, none⟩) (Frm.setCell (p := ⟨g, 1, none⟩) HFR.out rfl (.int .i64 (q : Int))) rfl (.int .i64 ((T : Int) + 1)))
      clear hfr hst e1 e2 hq hL1 hodd
      go_wp2_with fail
      go_roundg q
      case measure => exact hqu
      case rel => exact ⟨q, T + 1, r - 1, f', rfl, hqf, by omega, Prod.ext HE.out.1 (by have := HE.out.2; show (strF f' q).2 = r - 1; omega), by have := HE.out.2; omega, by omega, HL2.out, HF2.out⟩
    · have h0 : u % 2 = 0 := by omega
      rw [h0] at hand
      have hand : bits .and .i64 (u : Int) 1 = 0 := hand
      rw [strF_even h0] at hst
      have e1 : u = s' := congrArg Prod.fst hst
      have e2 : 0 = r := congrArg Prod.snd hst
      have hTe : T = t + n := by omega
      subst e1
      subst hTe
      clear hst hodd h0 e2 hT hr
      go_wp2_with fail
      go_ret
      exact ⟨rfl, HL.out, HFR.out⟩

end Go.Proofs.YtcolbkgceaboaabGreatDoor

namespace Go.Proofs.YtcolbkgceaboaabGreatDoor
open Go.RowKit
set_option linter.unusedVariables false
set_option linter.unusedSimpArgs false

theorem str_half {z : Nat} (h : z % 2 = 1) (hz : z < 16384) : (strF 14 z).1 < 8192 := by
  rw [strF_odd (f := 13) h]
  have := (strF_lt 13 (z / 2)).1
  show (strF 13 (z / 2)).1 < 8192
  omega
theorem sum_odd {s M : Nat} (h : s &&& M = 0) (hM : M % 2 = 1) : (s + M) % 2 = 1 := by
  by_cases hs : s % 2 = 1
  · exfalso
    have e := Nat.testBit_and s M 0
    rw [h, Nat.testBit_zero, Nat.testBit_zero, Nat.testBit_zero, decide_eq_true hs, decide_eq_true hM] at e
    exact absurd e (by decide)
  · omega
theorem OwnI.frm3 {w w' : World} {base : Nat} {v : Value} {xs : List Int} {S : Nat → Prop} (h : OwnI w base v xs) (hf : Frm S w w') (hS : ∀ c, base ≤ c → ¬ S c) : OwnI w' base v xs := by
  refine ⟨h.1, ?_⟩
  rcases h.2 with h0 | ⟨g, cap, cur, e, hg, hh, rest⟩
  · exact .inl h0
  · have hlt : g < w.heap.size := (Array.getElem?_eq_some_iff.1 hh).1
    exact .inr ⟨g, cap, cur, e, hg, by rw [hf.block g hlt (hS g hg)]; exact hh, rest⟩
def castL (es : List Nat) : List Int := es.map fun (t : Nat) => (t : Int)
theorem castL_len (es : List Nat) : (castL es).length = es.length := by simp [castL]
theorem castL_snoc (es : List Nat) (t : Nat) : castL (es ++ [t]) = castL es ++ [(t : Int)] := by simp [castL]
theorem lentV_fits (xs : List Int) : (∀ x ∈ lentV xs, 0 ≤ x ∧ x < 24) ∧ (lentV xs).length ≤ 13 := by
  unfold lentV
  cases hc : lcanV xs
  · exact ⟨fun x hx => by simp at hx, by simp⟩
  · rw [if_pos rfl]
    unfold lcanV at hc
    rw [Bool.and_eq_true, beq_iff_eq] at hc
    obtain ⟨hpos, hpat⟩ := pat_all hc.1
    rcases blk_cases (mk_small hpat xs.length (Nat.le_refl _)) (mk_odd hpat xs.length hpos (Nat.le_refl _)) with ⟨h, _⟩ | ⟨_, h1, h2, h3, h4, _⟩
    · have := hc.2; unfold patM at this; omega
    · refine ⟨fun x hx => ?_, ?_⟩
      · obtain ⟨t, ht, rfl⟩ := List.mem_map.1 hx
        have := h4 t ht
        unfold patM at *
        omega
      · rw [List.length_map]; exact h3

/-- What the block of a pattern tells. -/
def blkT (xs : List Int) : Nat := if patB xs then (blk (patM xs)).2.1 else 0
theorem blkT_le (xs : List Int) : blkT xs ≤ 24 := by
  unfold blkT
  cases hp : patB xs
  · exact Nat.zero_le _
  · rw [if_pos rfl]
    obtain ⟨hpos, hpat⟩ := pat_all hp
    rcases blk_cases (mk_small hpat xs.length (Nat.le_refl _)) (mk_odd hpat xs.length hpos (Nat.le_refl _)) with ⟨_, h⟩ | ⟨_, _, h, _⟩
    · exact h
    · exact h
def RetBlk (w : World) (t : Int) (es : List Int) (ok : Bool) (e : Ending) (w' : World) : Prop := ∃ A cap, e = .returned (.tuple #[.int .i64 t, .slice A es.length cap, .bool ok]) ∧ Ints w' w'.heap.size A es ∧ Below w.heap.size w w'
theorem ints_none (w : World) (B : Nat) : Ints w B none [] := ⟨Nat.zero_le _, fun x hx => by simp at hx, fun h => by simp at h⟩

set_option maxRecDepth 100000 in
set_option maxHeartbeats 2000000 in
theorem impl_block_any (A : Option Addr) (cap : Nat) (xs : List Int) (w : World) (hA : Ints w w.heap.size A xs) :
    Calls Tryz.prog 26 #[.slice A xs.length cap] w (RetBlk w (blkT xs) (lentV xs) (lcanV xs)) := by
  have HPO := Lib.hid (impl_PatternOk_any A cap xs w hA)
  cases hp : patB xs
  · rw [hp] at HPO
    have HV := Lib.hid (show blkT xs = 0 ∧ lentV xs = [] ∧ lcanV xs = false by unfold blkT lentV lcanV; rw [hp]; exact ⟨rfl, rfl, rfl⟩)
    obtain ⟨e1, e2, e3⟩ := HV.out
    rw [e1, e2, e3]
    clear e1 e2 e3 hA hp HV
    go_enter Tryz.func26, Tryz.ntmps26
    go_wp2_with fail
    refine HPO.out.mono ?_
    rintro e w1 ⟨rfl, rfl⟩
    go_wp2_with fail
    refine bodyPost_ret (v := .tuple #[.int .i64 0, .slice none 0 0, .bool false]) (by simp [results, Tryz.results26, go_sem]) rfl ⟨none, 0, rfl, ints_none _ _, Below.refl _ _⟩
  rw [hp] at HPO
  have HNL := Lib.hid (impl_newLine_ok A cap xs w hA hp)
  obtain ⟨hpos, hpat⟩ := pat_all hp
  have hMs : patM xs < 8192 := mk_small hpat xs.length (Nat.le_refl _)
  have hMo : patM xs % 2 = 1 := mk_odd hpat xs.length hpos (Nat.le_refl _)
  have hbc := blk_cases hMs hMo
  have HEF := Lib.hid (lentV_fits xs)
  obtain ⟨M, hM⟩ : ∃ M, patM xs = M := ⟨_, rfl⟩
  have HV := Lib.hid (show blkT xs = (blk M).2.1 ∧ lentV xs = (if (blk M).1 = 2 then castL (blk M).2.2 else []) ∧ lcanV xs = ((blk M).1 == 2) by
    unfold blkT lentV lcanV castL
    rw [hp, hM]
    refine ⟨rfl, ?_, rfl⟩
    by_cases h2 : (blk M).1 = 2
    · rw [if_pos h2, h2]; rfl
    · rw [if_neg h2, beq_eq_false_iff_ne.2 h2]; rfl)
  rw [hM] at HNL hMs hMo hbc
  have HBC := Lib.hid hbc
  generalize blkT xs = T at HV ⊢
  generalize lentV xs = L at HV HEF ⊢
  generalize lcanV xs = B at HV ⊢
  clear hA hp hpos hpat hM hbc
  go_enter Tryz.func26, Tryz.ntmps26
  go_wp2_with fail
  refine HPO.out.mono ?_
  rintro e w1 ⟨rfl, rfl⟩
  go_wp2_with fail
  refine HNL.out.mono ?_
  rintro e w1 ⟨rfl, hl1, hb1⟩
  have HL1 := Lib.hid hl1
  have HB1 := Lib.hid hb1
  obtain ⟨g, hg⟩ : ∃ g, w.heap.size = g := ⟨_, rfl⟩
  rw [hg] at HL1 ⊢
  clear hl1 hb1
  go_wp2_with fail
  have hg1 : g + 1 ≤ w1.heap.size := HL1.out.1
  go_loopg [6] 13 (fun f v wr => ∃ (s t : Nat) (es : List Nat), es.length + f = 13 ∧ t + 14 * f ≤ 182 ∧ runB f M s t es = blk M ∧ s < 8192 ∧ OwnI wr (g + 1) v (castL es) ∧ Lin3 wr g t s M ∧ Below w.heap.size w wr ∧ g + 1 ≤ wr.heap.size)
  case atStart => exact ⟨0, 0, [], rfl, by omega, rfl, by omega, OwnI.nil _ _, HL1.out, HB1.out, hg1⟩
  case round =>
    obtain ⟨s, t, es, hel, ht, hrun, hs, hown, hlin, hbel, hgs⟩ := hrel
    obtain ⟨wo, rfl⟩ : ∃ wo : World, wo = wr := ⟨_, rfl⟩
    cases gk with
    | zero =>
      exfalso
      have e0 : (0 : Nat) = (blk M).1 := congrArg Prod.fst hrun
      rcases HBC.out with h | h <;> omega
    | succ f =>
      have HOW := Lib.hid hown
      have HLI := Lib.hid hlin
      have HBE := Lib.hid hbel
      have HRU := Lib.hid hrun
      obtain ⟨A5, c5, rfl⟩ := hown.form
      obtain ⟨_, c0, c1, c2, f0, f1⟩ := hlin
      have hcl : (castL es).length ≤ 13 := by rw [castL_len]; omega
      have HSN := Lib.hid (castL_snoc es t)
      have HCL := Lib.hid (castL_len es)
      generalize castL es = ys at HOW hcl HSN HCL
      have hle : (ys.length : Int) ≤ 8192 := by omega
      clear hown hbel hrun f0 f1
      go_wp2_with (at_builtin; refine wpList_append_int rfl (.tmp 15) (.tmp 20) rfl (g + 1) _ ys rfl (HOW.out.alloc _) wo.heap.size t (by rfl) (cell_new1 _ _ _) (by omega) (by simp only [World.size_alloc]; omega) ?_; intro v2 w2 hown2 hb2)
      obtain ⟨ys', hys'⟩ : ∃ l, ys ++ [(t : Int)] = l := ⟨_, rfl⟩
      rw [hys'] at hown2 HSN
      have HO2 := Lib.hid hown2
      have HB2 := Lib.hid ((HBE.out.alloc HBE.out.size (.cells #[.int .i64 t] 3)).trans (hb2.mono (by omega)))
      have HL2 := Lib.hid ((HLI.out.frm (Frm.pure ((Below.refl _ _).alloc (Nat.le_refl _) (.cells #[.int .i64 t] 3)) (fun _ => False)) (fun h => h)).below hb2 (Nat.lt_succ_self _))
      have hg2 : g + 1 ≤ w2.heap.size := by have := hb2.size; simp only [World.size_alloc] at this; omega
      obtain ⟨A6, c6, rfl⟩ := hown2.form
      clear hown2 hb2 c0 c1 c2 hys'
      go_wp2_with fail
      by_cases hsm : s &&& M = 0
      · have hzo := sum_odd hsm hMo
        obtain ⟨s', hs'⟩ : ∃ z, (strF 14 (s + M)).1 = z := ⟨_, rfl⟩
        obtain ⟨n, hn⟩ : ∃ z, (strF 14 (s + M)).2 = z := ⟨_, rfl⟩
        have hst : strF 14 (s + M) = (s', n) := Prod.ext hs' hn
        have hsl := str_half hzo (by omega)
        have hnl := (strF_lt 14 (s + M)).2
        rw [hs'] at hsl
        rw [hn] at hnl
        have HLY := Lib.hid (impl_lay_yes g t s M s' n w2 HL2.out hs hMs hsm (by omega) hst)
        refine HLY.out.mono ?_
        rintro e w3 ⟨rfl, hl3, hf3⟩
        obtain ⟨u, hu⟩ : ∃ u, t + n = u := ⟨_, rfl⟩
        rw [hu] at hl3
        have HL3 := Lib.hid hl3
        have HO3 := Lib.hid (HO2.out.frm3 hf3 (fun c hc e => by omega))
        have HB3 := Lib.hid (HB2.out.trans (hf3.below (B := w.heap.size) (fun c hc => by omega) (by omega)))
        have hg3 : g + 1 ≤ w3.heap.size := Nat.le_trans hg2 hf3.size
        obtain ⟨_, c0, c1, c2, f0, f1⟩ := hl3
        clear hf3 f0 f1
        by_cases hz : s' = 0
        · have HRR := Lib.hid (runB_back (f := f) (t := t) (es := es) hsm (by rw [hst, hz] : strF 14 (s + M) = (0, n)))
          subst hz
          have hr := HRU.out.symm.trans HRR.out
          obtain ⟨e1, e2, e3⟩ := HV.out
          rw [hr] at e1 e2 e3
          have a2 : L = castL (es ++ [t]) := e2
          have a3 : B = true := e3
          have a1 : T = u := e1.trans hu
          rw [HSN.out] at a2
          clear e1 e2 e3
          subst a1 a2 a3
          have HI3 := Lib.hid (HO3.out.ints (fun x hx => by have := HEF.out.1 x hx; unfold Fits; omega))
          clear hst hs' hn hsm hzo hr hu hsl hnl
          go_wp2_with fail
          refine bodyPost_ret (v := .tuple #[.int .i64 T, .slice A6 L.length c6, .bool true]) (by simp [results, Tryz.results26, go_sem]) rfl ⟨A6, c6, rfl, HI3.out, HB3.out⟩
        · have HRR := Lib.hid (runB_on (f := f) (t := t) (es := es) hsm hst hz)
          have hzn : ((s' : Int) == 0) = false := beq_eq_false_iff_ne.2 (by omega)
          have hzn2 : ¬ (s' : Int) = 0 := by omega
          have HU := Lib.hid hu
          clear hst hs' hn hsm hzo hz hu
          go_wp2_with fail
          go_roundg f
          case measure => exact Nat.lt_succ_self _
          case rel => exact ⟨s', u, es ++ [t], by rw [List.length_append]; show es.length + 1 + f = 13; omega, by have := HU.out; omega, by rw [← HU.out]; exact HRR.out.symm.trans HRU.out, hsl, by rw [HSN.out]; exact HO3.out, HL3.out, HB3.out, hg3⟩
      · have HLY := Lib.hid (impl_lay_no g t s M w2 HL2.out hs hMs hsm)
        have hr := HRU.out.symm.trans (runB_fail (f := f) (t := t) (es := es) hsm)
        obtain ⟨e1, e2, e3⟩ := HV.out
        rw [hr] at e1 e2 e3
        have a2 : L = [] := e2
        have a3 : B = false := e3
        have a1 : T = t := e1
        clear e1 e2 e3
        subst a1 a2 a3
        clear hsm hr
        refine HLY.out.mono ?_
        rintro e w3 ⟨rfl, hb3⟩
        have HB3 := Lib.hid (HB2.out.trans (hb3.mono HB2.out.size))
        obtain ⟨_, c0, c1, c2, f0, f1⟩ := HL2.out.below hb3 (by omega)
        clear hb3 f0 f1
        go_wp2_with fail
        refine bodyPost_ret (v := .tuple #[.int .i64 T, .slice none 0 0, .bool false]) (by simp [results, Tryz.results26, go_sem]) rfl ⟨none, 0, rfl, ints_none _ _, HB3.out⟩

end Go.Proofs.YtcolbkgceaboaabGreatDoor

namespace Go.Proofs.YtcolbkgceaboaabGreatDoor
open Go.RowKit
set_option linter.unusedVariables false
set_option linter.unusedSimpArgs false

theorem lperV_blk (xs : List Int) : lperV xs = if lcanV xs then blkT xs else 0 := by
  unfold lperV blkT
  cases hc : lcanV xs
  · rfl
  · have : patB xs = true := by unfold lcanV at hc; rw [Bool.and_eq_true] at hc; exact hc.1
    rw [this]; rfl
theorem lfailV_blk (xs : List Int) : lfailV xs = if lcanV xs then -1 else if patB xs then (blkT xs : Int) else -1 := by
  unfold lfailV blkT
  cases hc : lcanV xs <;> cases hp : patB xs <;> rfl

set_option maxHeartbeats 400000 in
theorem impl_CanGoOn_any (A : Option Addr) (cap : Nat) (xs : List Int) (w : World) (hA : Ints w w.heap.size A xs) :
    Calls Tryz.prog 9 #[.slice A xs.length cap] w fun e w' => e = .returned (.bool (lcanV xs)) ∧ Below w.heap.size w w' := by
  have HB := Lib.hid (impl_block_any A cap xs w hA)
  generalize lcanV xs = b at HB ⊢
  clear hA
  go_enter Tryz.func9, Tryz.ntmps9
  go_wp2_with fail
  refine HB.out.mono ?_
  rintro e w1 ⟨A1, c1, rfl, hi1, hb1⟩
  go_wp2_with fail
  go_ret
  exact ⟨rfl, hb1⟩

set_option maxHeartbeats 400000 in
theorem impl_LinePeriod_any (A : Option Addr) (cap : Nat) (xs : List Int) (w : World) (hA : Ints w w.heap.size A xs) :
    Calls Tryz.prog 10 #[.slice A xs.length cap] w fun e w' => e = .returned (.int .i64 (lperV xs)) ∧ Below w.heap.size w w' := by
  have HB := Lib.hid (impl_block_any A cap xs w hA)
  rw [lperV_blk]
  cases hc : lcanV xs <;> rw [hc] at HB <;> clear hA hc
  · go_enter Tryz.func10, Tryz.ntmps10
    go_wp2_with fail
    refine HB.out.mono ?_
    rintro e w1 ⟨A1, c1, rfl, hi1, hb1⟩
    go_wp2_with fail
    go_ret
    exact ⟨rfl, hb1⟩
  · go_enter Tryz.func10, Tryz.ntmps10
    go_wp2_with fail
    refine HB.out.mono ?_
    rintro e w1 ⟨A1, c1, rfl, hi1, hb1⟩
    go_wp2_with fail
    go_ret
    exact ⟨rfl, hb1⟩

set_option maxHeartbeats 400000 in
theorem impl_PeriodEntries_any (A : Option Addr) (cap : Nat) (xs : List Int) (w : World) (hA : Ints w w.heap.size A xs) :
    Calls Tryz.prog 12 #[.slice A xs.length cap] w (RetInts w (lentV xs)) := by
  have HB := Lib.hid (impl_block_any A cap xs w hA)
  cases hc : lcanV xs
  · have he : lentV xs = [] := by unfold lentV; rw [hc]; rfl
    rw [hc] at HB
    rw [he]
    clear hA hc he
    go_enter Tryz.func12, Tryz.ntmps12
    go_wp2_with fail
    refine HB.out.mono ?_
    rintro e w1 ⟨A1, c1, rfl, hi1, hb1⟩
    go_wp2_with fail
    go_ret
    exact ⟨none, 0, rfl, ints_none _ _, hb1⟩
  · rw [hc] at HB
    generalize lentV xs = L at HB ⊢
    clear hA hc
    go_enter Tryz.func12, Tryz.ntmps12
    go_wp2_with fail
    refine HB.out.mono ?_
    rintro e w1 ⟨A1, c1, rfl, hi1, hb1⟩
    have HI := Lib.hid hi1
    clear hi1
    go_wp2_with fail
    go_ret
    exact ⟨A1, c1, rfl, HI.out, hb1⟩

set_option maxHeartbeats 400000 in
theorem impl_FailTime_any (A : Option Addr) (cap : Nat) (xs : List Int) (w : World) (hA : Ints w w.heap.size A xs) :
    Calls Tryz.prog 8 #[.slice A xs.length cap] w fun e w' => e = .returned (.int .i64 (lfailV xs)) ∧ Below w.heap.size w w' := by
  have HB := Lib.hid (impl_block_any A cap xs w hA)
  have HP := Lib.hid (fun V h => impl_PatternOk_any A cap xs V h)
  have HA := Lib.hid hA
  rw [lfailV_blk]
  cases hc : lcanV xs
  · cases hp : patB xs <;> rw [hc] at HB <;> rw [hp] at HP <;> clear hA hc hp
    · go_enter Tryz.func8, Tryz.ntmps8
      go_wp2_with fail
      refine HB.out.mono ?_
      rintro e w1 ⟨A1, c1, rfl, hi1, hb1⟩
      go_wp2_with fail
      refine (HP.out _ (HA.out.lift hb1)).mono ?_
      rintro e w2 ⟨rfl, rfl⟩
      go_wp2_with fail
      go_ret
      exact ⟨rfl, hb1⟩
    · go_enter Tryz.func8, Tryz.ntmps8
      go_wp2_with fail
      refine HB.out.mono ?_
      rintro e w1 ⟨A1, c1, rfl, hi1, hb1⟩
      go_wp2_with fail
      refine (HP.out _ (HA.out.lift hb1)).mono ?_
      rintro e w2 ⟨rfl, rfl⟩
      go_wp2_with fail
      go_ret
      exact ⟨rfl, hb1⟩
  · rw [hc] at HB
    clear hA hc
    go_enter Tryz.func8, Tryz.ntmps8
    go_wp2_with fail
    refine HB.out.mono ?_
    rintro e w1 ⟨A1, c1, rfl, hi1, hb1⟩
    go_wp2_with fail
    go_ret
    exact ⟨rfl, hb1⟩

end Go.Proofs.YtcolbkgceaboaabGreatDoor

namespace Go.Proofs.YtcolbkgceaboaabGreatDoor
open Go.RowKit
set_option linter.unusedVariables false
set_option linter.unusedSimpArgs false

end Go.Proofs.YtcolbkgceaboaabGreatDoor

namespace Go.Proofs.YtcolbkgceaboaabGreatDoor
open Go.RowKit
set_option linter.unusedVariables false
set_option linter.unusedSimpArgs false

def RetPer (w : World) (p : Int) (es : List Int) (t : Int) (e : Ending) (w' : World) : Prop := ∃ A cap, e = .returned (.tuple #[.int .i64 p, .slice A es.length cap, .int .i64 t]) ∧ Ints w' w'.heap.size A es ∧ Below w.heap.size w w'

end Go.Proofs.YtcolbkgceaboaabGreatDoor

namespace Go.Proofs.YtcolbkgceaboaabGreatDoor
open Go.RowKit
set_option linter.unusedVariables false
set_option linter.unusedSimpArgs false

def goodN (p : Nat) (es : List Nat) (q i : Nat) : Bool := (es.take i).all fun t => decide ((t + q) % p ∈ es)
theorem goodN_succ (p : Nat) (es : List Nat) (q i : Nat) (h : i < es.length) : goodN p es q (i + 1) = (goodN p es q i && decide ((es.getD i 0 + q) % p ∈ es)) := by
  unfold goodN
  rw [List.take_succ_eq_append_getElem h, List.all_append, List.getD_eq_getElem?_getD, List.getElem?_eq_getElem h]
  simp
theorem goodN_all (p : Nat) (es : List Nat) (q : Nat) : goodN p es q es.length = shB p es q := by
  unfold goodN shB
  rw [List.take_of_length_le (Nat.le_refl _)]
theorem hasB_cast (es : List Nat) (x : Nat) : hasB (castL es) (x : Int) = decide (x ∈ es) := by
  unfold hasB castL
  rw [decide_eq_decide, List.mem_map]
  constructor
  · rintro ⟨t, ht, e⟩
    obtain rfl : t = x := by omega
    exact ht
  · exact fun h => ⟨x, h, rfl⟩
theorem castL_at (es : List Nat) (i : Nat) (h : i < es.length) : (castL es).getD i 0 = ((es.getD i 0 : Nat) : Int) := by
  unfold castL
  rw [List.getD_eq_getElem?_getD, List.getD_eq_getElem?_getD, List.getElem?_map, List.getElem?_eq_getElem h]
  rfl

end Go.Proofs.YtcolbkgceaboaabGreatDoor

namespace Go.Proofs.YtcolbkgceaboaabGreatDoor
open Go.RowKit
set_option linter.unusedVariables false
set_option linter.unusedSimpArgs false

def lentN (xs : List Int) : List Nat := if lcanV xs then (blk (patM xs)).2.2 else []
theorem lentV_N (xs : List Int) : lentV xs = castL (lentN xs) := by
  unfold lentV lentN
  cases lcanV xs <;> rfl
theorem lperV_le (xs : List Int) : lperV xs ≤ 24 := by
  rw [lperV_blk]
  have := blkT_le xs
  split
  · exact this
  · exact Nat.zero_le _
theorem lfailV_fit (xs : List Int) : -1 ≤ lfailV xs ∧ lfailV xs ≤ 24 := by
  rw [lfailV_blk]
  have := blkT_le xs
  split
  · omega
  · split <;> omega
theorem least_facts (xs : List Int) : (lentN xs).length ≤ 13 ∧ (∀ t ∈ lentN xs, t < lperV xs) ∧ (∀ q, 0 < q → q < lperV xs → lperV xs % q = 0 → shB (lperV xs) (lentN xs) q = false) ∧ decide ((0 : Int) < (lperV xs : Int)) = lcanV xs := by
  cases hc : lcanV xs
  · have h1 : lperV xs = 0 := by unfold lperV; rw [hc]; rfl
    have h2 : lentN xs = [] := by unfold lentN; rw [hc]; rfl
    rw [h1, h2]
    exact ⟨Nat.zero_le _, fun t ht => (by simp at ht), fun q _ hq => by omega, rfl⟩
  · have h1 : lperV xs = (blk (patM xs)).2.1 := by unfold lperV; rw [hc]; rfl
    have h2 : lentN xs = (blk (patM xs)).2.2 := by unfold lentN; rw [hc]; rfl
    unfold lcanV at hc
    rw [Bool.and_eq_true, beq_iff_eq] at hc
    obtain ⟨hpos, hpat⟩ := pat_all hc.1
    rw [h1, h2]
    rcases blk_cases (M := patM xs) (mk_small hpat xs.length (Nat.le_refl _)) (mk_odd hpat xs.length hpos (Nat.le_refl _)) with ⟨h, _⟩ | ⟨_, a1, a2, a3, a4, a5⟩
    · have := hc.2; omega
    · exact ⟨a3, a4, a5, decide_eq_true (by omega)⟩

def lliV (xs : List Int) : Txt :=
  if patB xs then (if lcanV xs then [112, 101, 114, 105, 111, 100, 32] ++ itoL (lperV xs) ++ [32, 101, 110, 116, 114, 105, 101, 115, 32] ++ numsT (lentV xs) else [102, 97, 105, 108, 115, 32] ++ itoL (lfailV xs))
  else [110, 111, 110, 101]
theorem numsT_len3 {xs : List Int} (h : ∀ x ∈ xs, Fits x) (hl : xs.length ≤ 24) : (numsT xs).length ≤ 504 := by
  unfold numsT
  split
  · simp
  · have hjl := joinT_len [44] 20 (xs.map itoL) (nums_mem h)
    rw [List.length_map] at hjl
    have : xs.length * (20 + 1) ≤ 24 * 21 := Nat.mul_le_mul hl (Nat.le_refl _)
    exact Nat.le_trans hjl this

set_option maxRecDepth 100000 in
set_option maxHeartbeats 2000000 in
theorem impl_LineLine_any (A : Option Addr) (cap : Nat) (xs : List Int) (w : World) (hA : Ints w w.heap.size A xs) (hP : Pow w) :
    Calls Tryz.prog 17 #[.slice A xs.length cap] w fun e w' => e = .returned (.string (mkS (lliV xs))) ∧ Below w.heap.size w w' := by
  have HA := Lib.hid hA
  have HPO := Lib.hid (fun V h => impl_PatternOk_any A cap xs V h)
  have HCG := Lib.hid (fun V h => impl_CanGoOn_any A cap xs V h)
  cases hp : patB xs
  · have HV := Lib.hid (show lliV xs = [110, 111, 110, 101] by unfold lliV; rw [hp]; rfl)
    rw [hp] at HPO
    generalize lliV xs = v at HV ⊢
    clear hA hp
    go_enter Tryz.func17, Tryz.ntmps17
    go_wp2_with fail
    refine (HPO.out _ HA.out).mono ?_
    rintro e w1 ⟨rfl, rfl⟩
    go_wp2_with fail
    go_ret
    exact ⟨ret_str (by rw [HV.out]; rfl), Below.refl _ _⟩
  rw [hp] at HPO
  cases hc : lcanV xs
  · rw [hc] at HCG
    have HFT := Lib.hid (fun V h => impl_FailTime_any A cap xs V h)
    have hff : Fits (lfailV xs) := by have := lfailV_fit xs; unfold Fits; omega
    have HV := Lib.hid (show lliV xs = [102, 97, 105, 108, 115, 32] ++ itoL (lfailV xs) by unfold lliV; rw [hp, hc]; rfl)
    obtain ⟨t, ht⟩ : ∃ t, lfailV xs = t := ⟨_, rfl⟩
    rw [ht] at HFT HV hff
    have HFI := Lib.hid (fun V (hb : Below w.heap.size w V) => impl_FormatInt_any t hff V (hP.below hb))
    have hsz : (mkS (itoL t)).size ≤ 20 := by rw [mkS_size]; exact itoL_len t hff
    have HS := Lib.hid (str_mk (itoL t))
    generalize mkS (itoL t) = S at HFI hsz HS
    have HRES := Lib.hid (show (⟨#[102, 97, 105, 108, 115, 32]⟩ : ByteArray) ++ S = mkS (lliV xs) by
      rw [HV.out]
      exact Str.eq (Str.app (show Str ⟨#[102, 97, 105, 108, 115, 32]⟩ [102, 97, 105, 108, 115, 32] from rfl) HS.out))
    generalize mkS (lliV xs) = R at HRES ⊢
    clear hA hp hc ht hff HV
    go_enter Tryz.func17, Tryz.ntmps17
    go_wp2_with fail
    refine (HPO.out _ HA.out).mono ?_
    rintro e w1 ⟨rfl, rfl⟩
    go_wp2_with fail
    refine (HCG.out _ HA.out).mono ?_
    rintro e w1 ⟨rfl, hb⟩
    have HB1 := Lib.hid hb
    clear hb
    go_wp2_with fail
    refine (HFT.out _ (HA.out.lift HB1.out)).mono ?_
    rintro e w2 ⟨rfl, hb⟩
    have HB2 := Lib.hid (HB1.out.trans (hb.mono HB1.out.size))
    clear hb
    go_wp2_with fail
    refine (HFI.out _ HB2.out).mono ?_
    rintro e w3 ⟨rfl, hb⟩
    have HB3 := Lib.hid (HB2.out.trans (hb.mono HB2.out.size))
    clear hb
    go_wp2_with fail
    go_ret
    exact ⟨ret_str HRES.out, HB3.out⟩
  · rw [hc] at HCG
    have HLP := Lib.hid (fun V h => impl_LinePeriod_any A cap xs V h)
    have HPE := Lib.hid (fun V h => impl_PeriodEntries_any A cap xs V h)
    have hff : Fits (lperV xs : Int) := by have := lperV_le xs; unfold Fits; omega
    have hen := lentV_fits xs
    have HV := Lib.hid (show lliV xs = [112, 101, 114, 105, 111, 100, 32] ++ itoL (lperV xs) ++ [32, 101, 110, 116, 114, 105, 101, 115, 32] ++ numsT (lentV xs) by unfold lliV; rw [hp, hc]; rfl)
    obtain ⟨t, ht⟩ : ∃ t : Int, (lperV xs : Int) = t := ⟨_, rfl⟩
    obtain ⟨L, hL⟩ : ∃ L, lentV xs = L := ⟨_, rfl⟩
    rw [ht] at HLP HV hff
    rw [hL] at HPE HV hen
    have HFI := Lib.hid (fun V (hb : Below w.heap.size w V) => impl_FormatInt_any t hff V (hP.below hb))
    have HFN := Lib.hid (fun A c V (hi : Ints V V.heap.size A L) (hb : Below w.heap.size w V) => impl_FormatNumbers_any A c L V hi (by omega) (hP.below hb))
    have hsz : (mkS (itoL t)).size ≤ 20 := by rw [mkS_size]; exact itoL_len t hff
    have hsn : (mkS (numsT L)).size ≤ 504 := by rw [mkS_size]; exact numsT_len3 (fun x hx => by have := hen.1 x hx; unfold Fits; omega) (by omega)
    have HS := Lib.hid (str_mk (itoL t))
    have HN := Lib.hid (str_mk (numsT L))
    generalize mkS (itoL t) = S at HFI hsz HS
    generalize mkS (numsT L) = U at HFN hsn HN
    have HRES := Lib.hid (show (⟨#[112, 101, 114, 105, 111, 100, 32]⟩ : ByteArray) ++ S ++ ⟨#[32, 101, 110, 116, 114, 105, 101, 115, 32]⟩ ++ U = mkS (lliV xs) by
      rw [HV.out]
      exact Str.eq (Str.app (Str.app (Str.app (show Str ⟨#[112, 101, 114, 105, 111, 100, 32]⟩ [112, 101, 114, 105, 111, 100, 32] from rfl) HS.out) (show Str ⟨#[32, 101, 110, 116, 114, 105, 101, 115, 32]⟩ [32, 101, 110, 116, 114, 105, 101, 115, 32] from rfl)) HN.out))
    have hz1 : ((⟨#[112, 101, 114, 105, 111, 100, 32]⟩ : ByteArray) ++ S).size ≤ 27 := by rw [ByteArray.size_append]; show 7 + S.size ≤ 27; omega
    have hz2 : ((⟨#[112, 101, 114, 105, 111, 100, 32]⟩ : ByteArray) ++ S ++ ⟨#[32, 101, 110, 116, 114, 105, 101, 115, 32]⟩).size ≤ 36 := by rw [ByteArray.size_append]; show _ + 9 ≤ 36; omega
    generalize mkS (lliV xs) = R at HRES ⊢
    clear hA hp hc ht hL hff hen HV
    go_enter Tryz.func17, Tryz.ntmps17
    go_wp2_with fail
    refine (HPO.out _ HA.out).mono ?_
    rintro e w1 ⟨rfl, rfl⟩
    go_wp2_with fail
    refine (HCG.out _ HA.out).mono ?_
    rintro e w1 ⟨rfl, hb⟩
    have HB1 := Lib.hid hb
    clear hb
    go_wp2_with fail
    refine (HLP.out _ (HA.out.lift HB1.out)).mono ?_
    rintro e w2 ⟨rfl, hb⟩
    have HB2 := Lib.hid (HB1.out.trans (hb.mono HB1.out.size))
    clear hb
    go_wp2_with fail
    refine (HFI.out _ HB2.out).mono ?_
    rintro e w3 ⟨rfl, hb⟩
    have HB3 := Lib.hid (HB2.out.trans (hb.mono HB2.out.size))
    clear hb
    go_wp2_with fail
    refine (HPE.out _ (HA.out.lift HB3.out)).mono ?_
    rintro e w4 ⟨A4, c4, rfl, hi4, hb⟩
    have HB4 := Lib.hid (HB3.out.trans (hb.mono HB3.out.size))
    have HI4 := Lib.hid hi4
    clear hb hi4
    go_wp2_with fail
    refine (HFN.out _ _ _ HI4.out HB4.out).mono ?_
    rintro e w5 ⟨rfl, hb⟩
    have HB5 := Lib.hid (HB4.out.trans (hb.mono HB4.out.size))
    clear hb
    go_wp2_with fail
    go_ret
    exact ⟨ret_str HRES.out, HB5.out⟩

end Go.Proofs.YtcolbkgceaboaabGreatDoor

namespace Go.Proofs.YtcolbkgceaboaabGreatDoor
open Go.RowKit
set_option linter.unusedVariables false
set_option linter.unusedSimpArgs false

set_option maxRecDepth 100000 in
set_option maxHeartbeats 4000000 in
theorem impl_FormatRhythm_ok (N : Nat) (A : Option Addr) (cap : Nat) (bs : List Int) (w : World) (hA : Ints w w.heap.size A bs) (hok : RhOk N bs) :
    Calls Tryz.prog 14 #[.agg #[.int .i64 N, .slice A bs.length cap]] w fun e w' => e = .returned (.string (mkS (textF N bs (fun _ => 120)))) ∧ Below w.heap.size w w' := by
  have hfN : Fits (N : Int) := by have h1 := hok.1; have h2 := hok.2.1; unfold Fits; omega
  have HRO := Lib.hid (fun V h => impl_RhythmOk_any N A cap bs V hfN h)
  rw [rhB_iff.2 hok] at HRO
  have HVE := Lib.hid (fun V h => impl_text_any N A cap bs V h hok)
  generalize mkS (textF N bs (fun _ => 120)) = per at HVE ⊢
  obtain ⟨c0, c1⟩ := box2 (Below.refl (w.heap.size + 1) (w.alloc (.cells #[.int .i64 N, .slice A bs.length cap] 25)))
  have HB0 := Lib.hid ((Below.refl w.heap.size w).alloc (Nat.le_refl _) (.cells #[.int .i64 N, .slice A bs.length cap] 25))
  have HC0 := Lib.hid (Cells2.new w (.int .i64 N) (.slice A bs.length cap) 25)
  have HI0 := Lib.hid (hA.lift HB0.out)
  clear hA hok
  go_enter Tryz.func14, Tryz.ntmps14
  go_wp2_with fail
  refine (HRO.out _ HI0.out).mono ?_
  rintro e w1 ⟨rfl, hb⟩
  have HB1 := Lib.hid (HB0.out.trans (hb.mono HB0.out.size))
  have HC1 := Lib.hid (HC0.out.below hb HC0.out.2.2.2.2)
  have HI1 := Lib.hid (HI0.out.lift hb)
  clear hb c0 c1
  obtain ⟨c0, c1, _, _, _⟩ := HC1.out
  go_wp2_with fail
  refine (HVE.out _ HI1.out).mono ?_
  rintro e w2 ⟨rfl, hb⟩
  have HB2 := Lib.hid (HB1.out.trans (hb.mono HB1.out.size))
  have HC2 := Lib.hid (HC1.out.below hb HC1.out.2.2.2.2)
  have HI2 := Lib.hid (HI1.out.lift hb)
  clear hb c0 c1
  obtain ⟨c0, c1, _, _, _⟩ := HC2.out
  go_wp2_with fail
  go_ret
  exact ⟨rfl, HB2.out⟩

set_option maxRecDepth 100000 in
set_option maxHeartbeats 4000000 in
theorem impl_PeriodOf_ok (N : Nat) (A : Option Addr) (cap : Nat) (bs : List Int) (w : World) (hA : Ints w w.heap.size A bs) (hok : RhOk N bs) :
    Calls Tryz.prog 15 #[.agg #[.int .i64 N, .slice A bs.length cap]] w fun e w' => e = .returned (.int .i64 (perV N bs)) ∧ Below w.heap.size w w' := by
  have hfN : Fits (N : Int) := by have h1 := hok.1; have h2 := hok.2.1; unfold Fits; omega
  have HRO := Lib.hid (fun V h => impl_RhythmOk_any N A cap bs V hfN h)
  rw [rhB_iff.2 hok] at HRO
  have HVE := Lib.hid (fun V h => impl_period_any N A cap bs V h hok)
  generalize perV N bs = per at HVE ⊢
  obtain ⟨c0, c1⟩ := box2 (Below.refl (w.heap.size + 1) (w.alloc (.cells #[.int .i64 N, .slice A bs.length cap] 25)))
  have HB0 := Lib.hid ((Below.refl w.heap.size w).alloc (Nat.le_refl _) (.cells #[.int .i64 N, .slice A bs.length cap] 25))
  have HC0 := Lib.hid (Cells2.new w (.int .i64 N) (.slice A bs.length cap) 25)
  have HI0 := Lib.hid (hA.lift HB0.out)
  clear hA hok
  go_enter Tryz.func15, Tryz.ntmps15
  go_wp2_with fail
  refine (HRO.out _ HI0.out).mono ?_
  rintro e w1 ⟨rfl, hb⟩
  have HB1 := Lib.hid (HB0.out.trans (hb.mono HB0.out.size))
  have HC1 := Lib.hid (HC0.out.below hb HC0.out.2.2.2.2)
  have HI1 := Lib.hid (HI0.out.lift hb)
  clear hb c0 c1
  obtain ⟨c0, c1, _, _, _⟩ := HC1.out
  go_wp2_with fail
  refine (HVE.out _ HI1.out).mono ?_
  rintro e w2 ⟨rfl, hb⟩
  have HB2 := Lib.hid (HB1.out.trans (hb.mono HB1.out.size))
  have HC2 := Lib.hid (HC1.out.below hb HC1.out.2.2.2.2)
  have HI2 := Lib.hid (HI1.out.lift hb)
  clear hb c0 c1
  obtain ⟨c0, c1, _, _, _⟩ := HC2.out
  go_wp2_with fail
  go_ret
  exact ⟨rfl, HB2.out⟩

set_option maxRecDepth 100000 in
set_option maxHeartbeats 4000000 in
theorem impl_VectorOf_ok (N : Nat) (A : Option Addr) (cap : Nat) (bs : List Int) (w : World) (hA : Ints w w.heap.size A bs) (hok : RhOk N bs) (hcap : bs.length ≤ cap) :
    Calls Tryz.prog 16 #[.agg #[.int .i64 N, .slice A bs.length cap]] w (RetInts w (vecV N bs)) := by
  have hfN : Fits (N : Int) := by have h1 := hok.1; have h2 := hok.2.1; unfold Fits; omega
  have HRO := Lib.hid (fun V h => impl_RhythmOk_any N A cap bs V hfN h)
  rw [rhB_iff.2 hok] at HRO
  have HVE := Lib.hid (fun V h => impl_vector_any N A cap bs V h hok hcap)
  generalize vecV N bs = vec at HVE ⊢
  obtain ⟨c0, c1⟩ := box2 (Below.refl (w.heap.size + 1) (w.alloc (.cells #[.int .i64 N, .slice A bs.length cap] 25)))
  have HB0 := Lib.hid ((Below.refl w.heap.size w).alloc (Nat.le_refl _) (.cells #[.int .i64 N, .slice A bs.length cap] 25))
  have HC0 := Lib.hid (Cells2.new w (.int .i64 N) (.slice A bs.length cap) 25)
  have HI0 := Lib.hid (hA.lift HB0.out)
  clear hA hok hcap
  go_enter Tryz.func16, Tryz.ntmps16
  go_wp2_with fail
  refine (HRO.out _ HI0.out).mono ?_
  rintro e w1 ⟨rfl, hb⟩
  have HB1 := Lib.hid (HB0.out.trans (hb.mono HB0.out.size))
  have HC1 := Lib.hid (HC0.out.below hb HC0.out.2.2.2.2)
  have HI1 := Lib.hid (HI0.out.lift hb)
  clear hb c0 c1
  obtain ⟨c0, c1, _, _, _⟩ := HC1.out
  go_wp2_with fail
  refine (HVE.out _ HI1.out).mono ?_
  rintro e w2 ⟨A2, c2, rfl, hI, hb⟩
  have HV := Lib.hid hI
  clear hI
  have HB2 := Lib.hid (HB1.out.trans (hb.mono HB1.out.size))
  have HC2 := Lib.hid (HC1.out.below hb HC1.out.2.2.2.2)
  have HI2 := Lib.hid (HI1.out.lift hb)
  clear hb c0 c1
  obtain ⟨c0, c1, _, _, _⟩ := HC2.out
  go_wp2_with fail
  go_ret
  exact ⟨A2, c2, rfl, HV.out, HB2.out⟩

set_option maxHeartbeats 400000 in
theorem impl_MetersOf_one (w : World) :
    Calls Tryz.prog 51 #[.int .i64 1] w fun e w' => e = .returned (.slice none 0 0) ∧ w = w' := by
  have hin : inB 1 2 24 = false := by decide
  go_enter Tryz.func51, Tryz.ntmps51
  go_wp2_with (go_at_call 46; refine (within_any _ _ _ _).mono ?_; rintro e w' ⟨rfl, rfl⟩)
  go_ret
  exact ⟨rfl, rfl⟩

set_option maxRecDepth 100000 in
set_option maxHeartbeats 1000000 in
theorem impl_BestMeter_one (w : World) :
    Calls Tryz.prog 33 #[.agg #[.int .i64 1, .slice none 0 0]] w fun e w' => e = .returned (.tuple #[.slice none 0 0, .bool false]) ∧ Below w.heap.size w w' := by
  have hok : RhOk 1 [] := ⟨by decide, by decide, fun i hi => by simp at hi, fun i hi => by simp at hi⟩
  have HRO := Lib.hid (fun V (h : Ints V V.heap.size none []) => show Calls Tryz.prog 28 #[.agg #[.int .i64 1, .slice none 0 0]] V fun e w' => e = .returned (.bool true) ∧ Below V.heap.size V w' by
    have := impl_RhythmOk_any 1 none 0 [] V (by unfold Fits; omega) h
    rwa [rhB_iff.2 hok] at this)
  have HB0 := Lib.hid ((Below.refl w.heap.size w).alloc (Nat.le_refl _) (.cells #[.int .i64 1, .slice none 0 0] 25))
  have HC0 := Lib.hid (Cells2.new w (.int .i64 1) (.slice none 0 0) 25)
  obtain ⟨c0, c1, _, _, _⟩ := HC0.out
  clear hok
  have hneq : ∀ V : World, (binOp .neq 23 (.slice none 0 0) (.slice none 0 0)).run Tryz.prog V = .ok (.bool false) V := fun V => run_neq_slice_nil_any V _ _ none 0 0 0 0 Tryz.underlying23
  go_enter Tryz.func33, Tryz.ntmps33
  go_wp2_with fail
  refine (HRO.out _ ⟨Nat.zero_le _, fun x hx => by simp at hx, fun h => by simp at h⟩).mono ?_
  rintro e w1 ⟨rfl, hb⟩
  have HB1 := Lib.hid (HB0.out.trans (hb.mono HB0.out.size))
  have HC1 := Lib.hid (HC0.out.below hb HC0.out.2.2.2.2)
  clear hb c0 c1
  obtain ⟨c0, c1, _, _, _⟩ := HC1.out
  go_wp2_with fail
  refine (impl_MetersOf_one _).mono ?_
  rintro e w2 ⟨rfl, rfl⟩
  go_wp2_with fail
  go_loopw [4, 14] (fun b i wr => b = .slice none 0 0 ∧ i = .int .i64 0 ∧ Below w.heap.size w wr) (fun _ _ _ => 0)
  case atStart => exact ⟨rfl, rfl, HB1.out⟩
  case round =>
    obtain ⟨rfl, rfl, hbel⟩ := hrel
    have HB2 := Lib.hid hbel
    clear hbel
    go_wp2_with fail
    refine bodyPost_ret (v := .tuple #[.slice none 0 0, .bool false]) (by simp [results, Tryz.results33, go_sem]) rfl ⟨rfl, HB2.out⟩

set_option maxHeartbeats 400000 in
theorem impl_MeterLine_one (w : World) :
    Calls Tryz.prog 18 #[.agg #[.int .i64 1, .slice none 0 0]] w fun e w' => e = .returned (.string ⟨#[110, 111, 110, 101]⟩) ∧ Below w.heap.size w w' := by
  have HB0 := Lib.hid ((Below.refl w.heap.size w).alloc (Nat.le_refl _) (.cells #[.int .i64 1, .slice none 0 0] 25))
  obtain ⟨c0, c1, _, _, _⟩ := Cells2.new w (.int .i64 1) (.slice none 0 0) 25
  go_enter Tryz.func18, Tryz.ntmps18
  go_wp2_with fail
  refine (impl_BestMeter_one _).mono ?_
  rintro e w1 ⟨rfl, hb⟩
  have HB1 := Lib.hid (HB0.out.trans (hb.mono HB0.out.size))
  clear hb c0 c1
  go_wp2_with fail
  go_ret
  exact ⟨rfl, HB1.out⟩

end Go.Proofs.YtcolbkgceaboaabGreatDoor

namespace Go.Proofs.YtcolbkgceaboaabGreatDoor
open Go.RowKit
set_option linter.unusedVariables false
set_option linter.unusedSimpArgs false

/-- A slice that is a pattern. -/
def RetPat (w' : World) (e : Ending) : Prop := ∃ (ps : List Int) (A : Option Addr) (c : Nat), e = .returned (.slice A ps.length c) ∧ patB ps = true ∧ ps.length ≤ 13 ∧ Ints w' w'.heap.size A ps

theorem pat_fits {ps : List Int} (h : patB ps = true) : ∀ x ∈ ps, Fits x := fun x hx => by
  obtain ⟨i, hi, rfl⟩ := List.getElem_of_mem hx
  have := pat_in ((pat_all h).2 i hi)
  rw [List.getD_eq_getElem?_getD, List.getElem?_eq_getElem hi, Option.getD_some] at this
  unfold Fits; omega
theorem ints_lit (w : World) (ps : List Int) (hl : ps.length ≤ 1048576) (hf : ∀ x ∈ ps, Fits x) : Ints (w.alloc (.cells (ps.map (Value.int .i64)).toArray 3)) (w.heap.size + 1) (some ⟨w.heap.size, 0, none⟩) ps := by
  refine ⟨by unfold maxLen; omega, hf, fun hn => ⟨w.heap.size, 0, rfl, Nat.lt_succ_self _, fun i hi => ?_⟩⟩
  have hh : (w.alloc (.cells (ps.map (Value.int .i64)).toArray 3)).heap[w.heap.size]? = some (.cells (ps.map (Value.int .i64)).toArray 3 (0, 0)) := heap_alloc_new w _
  rw [cell_of_row _ _ _ _ _ _ hh]
  simp [List.getD_eq_getElem?_getD, hi]

set_option maxRecDepth 100000 in
set_option maxHeartbeats 1000000 in
theorem spec_l13Good_any (g : Nat) (A : Option Addr) (cap : Nat) (xs : List Int) (w : World) (hC : Cur w g A cap xs) :
    Calls Tryz.prog 40 #[.pointer (some ⟨g, 0, none⟩)] w fun e w' => RetPat w' e ∧ Frm (fun c => c = g) w w' := by
  have HB := Lib.hid (spec_l01Below_any g A cap xs 5 w hC (by decide) (by decide))
  clear hC
  go_enter Tryz.func40, Tryz.ntmps40
  go_wp2_with fail
  refine HB.out.mono ?_
  rintro e w1 ⟨⟨x, rfl, hx⟩, hc1, hf1⟩
  have HF := Lib.hid hf1
  clear hc1 hf1
  rcases (show x = 0 ∨ x = 1 ∨ x = 2 ∨ x = 3 ∨ x = 4 by omega) with rfl | rfl | rfl | rfl | rfl
  · go_wp2_with fail
    go_ret
    exact ⟨⟨[0, 2], _, _, rfl, by decide, by decide, by simpa using ints_lit w1 [0, 2] (by decide) (pat_fits (by decide))⟩, HF.out.alloc _⟩
  · go_wp2_with fail
    go_ret
    exact ⟨⟨[0, 1, 4, 5], _, _, rfl, by decide, by decide, by simpa using ints_lit w1 [0, 1, 4, 5] (by decide) (pat_fits (by decide))⟩, HF.out.alloc _⟩
  · go_wp2_with fail
    go_ret
    exact ⟨⟨[0, 3, 6], _, _, rfl, by decide, by decide, by simpa using ints_lit w1 [0, 3, 6] (by decide) (pat_fits (by decide))⟩, HF.out.alloc _⟩
  · go_wp2_with fail
    go_ret
    exact ⟨⟨[0, 1, 2, 6, 7, 8], _, _, rfl, by decide, by decide, by simpa using ints_lit w1 [0, 1, 2, 6, 7, 8] (by decide) (pat_fits (by decide))⟩, HF.out.alloc _⟩
  · go_wp2_with fail
    go_ret
    exact ⟨⟨[0, 4, 8], _, _, rfl, by decide, by decide, by simpa using ints_lit w1 [0, 4, 8] (by decide) (pat_fits (by decide))⟩, HF.out.alloc _⟩

/-- What the drawn list is, when its last is x. -/
def PatU (ps : List Int) (x : Nat) : Prop := 0 < ps.length ∧ (∀ j, j < ps.length → patAt ps j = true) ∧ ps.getD (ps.length - 1) 0 = x
theorem PatU.snoc {ps : List Int} {x y : Nat} (h : PatU ps x) (hy : x < y) (h12 : y ≤ 12) : PatU (ps ++ [(y : Int)]) y := by
  obtain ⟨h1, h2, h3⟩ := h
  have hget : ∀ j, j < ps.length → (ps ++ [(y : Int)]).getD j 0 = ps.getD j 0 := fun j hj => by
    rw [List.getD_eq_getElem?_getD, List.getD_eq_getElem?_getD, List.getElem?_append_left hj]
  have hlast : (ps ++ [(y : Int)]).getD ps.length 0 = y := by
    rw [List.getD_eq_getElem?_getD, List.getElem?_append_right (Nat.le_refl _), Nat.sub_self]; rfl
  refine ⟨by rw [List.length_append]; omega, fun j hj => ?_, ?_⟩
  · rw [List.length_append] at hj
    have hj : j < ps.length + 1 := hj
    by_cases e : j = ps.length
    · subst e
      unfold patAt
      rw [hlast, if_neg (by omega), hget (ps.length - 1) (by omega), h3, inB_true ⟨by omega, by omega⟩, decide_eq_true (by omega)]; rfl
    · have hlt : j < ps.length := by omega
      have := h2 j hlt
      unfold patAt at this ⊢
      rw [hget j hlt, hget 0 h1, hget (j - 1) (by omega)]
      exact this
  · rw [List.length_append]
    exact hlast

theorem own_zero (w : World) : OwnI (w.alloc (.cells #[.int .i64 0] 3)) w.heap.size (.slice (some ⟨w.heap.size, 0, none⟩) 1 1) [0] :=
  ⟨rfl, .inr ⟨w.heap.size, 1, #[.int .i64 0], rfl, Nat.le_refl _, heap_alloc_new w _, Nat.le_refl _, by unfold maxLen; omega, rfl, rfl⟩⟩

set_option maxRecDepth 100000 in
set_option maxHeartbeats 2000000 in
theorem spec_l13Draw_any (g : Nat) (A : Option Addr) (cap : Nat) (xs : List Int) (w : World) (hC : Cur w g A cap xs) :
    Calls Tryz.prog 21 #[.pointer (some ⟨g, 0, none⟩)] w fun e w' => RetPat w' e ∧ Frm (fun c => c = g) w w' := by
  have hgw : g < w.heap.size := hC.2.1
  have HO := Lib.hid (spec_l01Once_any g A cap xs 3 w hC (by decide) (by decide))
  have HBW := Lib.hid (fun V (hV : Cur V g A cap xs) => spec_l01Below_any g A cap xs 4 V hV (by decide) (by decide))
  clear hC
  go_enter Tryz.func21, Tryz.ntmps21
  go_wp2_with fail
  refine HO.out.mono ?_
  rintro e w1 ⟨⟨b, rfl⟩, hc1, hf1⟩
  have HC1 := Lib.hid hc1
  have HF1 := Lib.hid hf1
  have hz1 := hf1.size
  clear hc1 hf1
  cases b
  rotate_left
  · go_wp2_with fail
    refine (spec_l13Good_any g A cap xs w1 HC1.out).mono ?_
    rintro e w2 ⟨⟨ps, A2, c2, rfl, hp, hl, hi⟩, hf2⟩
    have HI := Lib.hid hi
    have HP := Lib.hid hp
    have HF2 := Lib.hid (HF1.out.trans hf2)
    clear hi hp hf2
    go_wp2_with fail
    go_ret
    exact ⟨⟨ps, A2, c2, rfl, HP.out, hl, HI.out⟩, HF2.out⟩
  · have HAL := Lib.hid ((Below.refl w1.heap.size w1).alloc (Nat.le_refl _) (.cells #[.int .i64 0] 3))
    have HC2 := Lib.hid (HC1.out.frm (Frm.pure HAL.out (fun _ => False)) (fun _ h => h.elim))
    have HF2 := Lib.hid (HF1.out.alloc (.cells #[.int .i64 0] 3))
    have HO2 := Lib.hid (own_zero w1)
    go_wp2_with fail
    refine (HBW.out _ HC2.out).mono ?_
    rintro e w3 ⟨⟨n, rfl, hn⟩, hc3, hf3⟩
    have HC3 := Lib.hid hc3
    have HF3 := Lib.hid (HF2.out.trans hf3)
    have HO3 := Lib.hid (HO2.out.frm3 hf3 (fun c hc e => by omega))
    have hz3 := hf3.size
    simp only [World.size_alloc] at hz3
    clear hc3 hf3
    go_wp2_with fail
    go_loopw [3, 4, 5] (fun v a b wr => ∃ (x k : Nat) (ps : List Int), a = .int .i64 x ∧ b = .int .i64 k ∧ k ≤ 3 ∧ x + 4 * k ≤ 12 ∧ ps.length + k ≤ 4 ∧ PatU ps x ∧ OwnI wr w1.heap.size v ps ∧ Cur wr g A cap xs ∧ Frm (fun c => c = g) w wr ∧ w1.heap.size ≤ wr.heap.size) (fun _ _ b _ => (intOf b).toNat)
    case atStart => exact ⟨0, n, [0], rfl, rfl, by omega, by omega, by show 1 + n ≤ 4; omega, ⟨by decide, fun j hj => by
      have : j = 0 := by have : j < 1 := hj; omega
      subst this; decide, rfl⟩, HO3.out, HC3.out, HF3.out, by omega⟩
    case round =>
      obtain ⟨x, k, ps, rfl, rfl, hk, hxk, hpl, hpu, hown, hcur, hfrm, hws⟩ := hrel
      obtain ⟨wo, rfl⟩ : ∃ wo : World, wo = wr := ⟨_, rfl⟩
      have HOW := Lib.hid hown
      have HCU := Lib.hid hcur
      have HFR := Lib.hid hfrm
      have HPU := Lib.hid hpu
      obtain ⟨A5, c5, rfl⟩ := hown.form
      clear hown hcur hfrm hpu
      by_cases hk0 : 0 < k
      · have hk0i : (0 : Int) < (k : Int) := by omega
        go_wp2_with fail
        refine (HBW.out _ HCU.out).mono ?_
        rintro e w4 ⟨⟨d, rfl, hd⟩, hc4, hf4⟩
        have HC4 := Lib.hid hc4
        have HF4 := Lib.hid (HFR.out.trans hf4)
        have HO4 := Lib.hid (HOW.out.frm3 hf4 (fun c hc e => by omega))
        have hz4 := hf4.size
        obtain ⟨y, hy⟩ : ∃ y, x + 1 + d = y := ⟨_, rfl⟩
        have hyi : (x : Int) + 1 + (d : Int) = (y : Int) := by omega
        have hw1 : IntKind.i64.wrap ((x : Int) + 1) = (x : Int) + 1 := i64w (by omega)
        have hw2 : IntKind.i64.wrap (y : Int) = (y : Int) := i64w (by omega)
        have hkw : IntKind.i64.wrap ((k : Int) - 1) = ((k - 1 : Nat) : Int) := by rw [show (k : Int) - 1 = ((k - 1 : Nat) : Int) by omega]; exact i64w (by omega)
        have hkw2 : (k : Int) - 1 = ((k - 1 : Nat) : Int) := by omega
        have hy1 : x < y := by omega
        have hy2 : y + 4 * (k - 1) ≤ 12 := by omega
        clear hc4 hf4 hy
        go_wp2_with (at_builtin; refine wpList_append_int rfl (.tmp 22) (.tmp 24) rfl w1.heap.size _ ps rfl (HO4.out.alloc _) w4.heap.size y (by rfl) (cell_new1 _ _ _) (by omega) (by simp only [World.size_alloc]; omega) ?_; intro v2 w5 hown5 hb5)
        have HO5 := Lib.hid hown5
        have hbb := ((Below.refl w1.heap.size w4).alloc (by omega) (.cells #[.int .i64 y] 3)).trans hb5
        have HF5 := Lib.hid (frm_below_new HF4.out hbb (by omega))
        have HC5 := Lib.hid (HC4.out.frm (Frm.of_below (S := fun c => w1.heap.size ≤ c) hbb (fun c h1 h2 => h2)) (fun c hc => by omega))
        have hz5 := hbb.size
        clear hown5 hb5 hbb
        go_wp2_with fail
        go_roundw
        case rel => exact ⟨y, k - 1, ps ++ [(y : Int)], rfl, by go_num, by omega, by omega, by rw [List.length_append]; show ps.length + 1 + (k - 1) ≤ 4; omega, HPU.out.snoc hy1 (by omega), HO5.out, HC5.out, HF5.out, by omega⟩
        case measure => simp [intOf]; omega
      · have hk0i : ¬ (0 : Int) < (k : Int) := by omega
        have HV := Lib.hid (show patB ps = true by rw [pat_end HPU.out.2.1, decide_eq_true HPU.out.1])
        have HI := Lib.hid (HOW.out.ints (pat_fits HV.out))
        go_wp2_with fail
        go_ret
        exact ⟨⟨ps, A5, c5, rfl, HV.out, by omega, HI.out⟩, HFR.out⟩

set_option maxRecDepth 100000 in
set_option maxHeartbeats 1000000 in
theorem spec_MakePattern_any (A : Option Addr) (cap : Nat) (xs : List Int) (n : Nat) (w : World) (hB : Byt w w.heap.size A xs) (hn : n ≤ 1000) :
    Calls Tryz.prog 5 #[.slice A xs.length cap, .int .i64 n] w fun e w' => RetPat w' e ∧ Below w.heap.size w w' := by
  have HN := Lib.hid (spec_l31New_any A cap xs n w hB hn)
  clear hB
  go_enter Tryz.func5, Tryz.ntmps5
  go_wp2_with fail
  refine HN.out.mono ?_
  rintro e w1 ⟨g, rfl, hg, hc, hb⟩
  have HC := Lib.hid hc
  have HB := Lib.hid hb
  clear hc hb
  go_wp2_with fail
  refine (spec_l13Draw_any g A cap xs _ HC.out).mono ?_
  rintro e w2 ⟨⟨ps, A2, c2, rfl, hp, hl, hi⟩, hf2⟩
  have HI := Lib.hid hi
  have HP := Lib.hid hp
  have HB2 := Lib.hid (HB.out.trans (hf2.below (fun c hc => by subst hc; omega) HB.out.size))
  clear hi hp hf2
  go_wp2_with fail
  go_ret
  exact ⟨⟨ps, A2, c2, rfl, HP.out, hl, HI.out⟩, HB2.out⟩

end Go.Proofs.YtcolbkgceaboaabGreatDoor

