/-
  ParseRhythm of the program at a text of x and . ; the reference's even rhythm.
-/
import Derived.Test.YtinmhjeljkiefaaDoorSpcR
import Derived.Test.YtinmhjeljkiefaaDoorRead
import Derived.Test.YtinmhjeljkiefaaDoorShT
namespace Go.Proofs.YtinmhjeljkiefaaDoor
open Go.RowKit Go.Shelf
set_option linter.unusedVariables false
set_option linter.unusedSimpArgs false

theorem Tryd.info116 : (Tryd.prog.info? (Tryd.lays160_ren.t 116)).map (fun i => (i.zero, i.size)) = some (some (.agg (Array.replicate 256 (.bool false))), 256) := by kernel_rfl

def posX (s : ByteArray) (q : Nat) : List Int := ((List.range q).filter (fun t : Nat => decide (chr s t = 120))).map Int.ofNat
theorem posX_yes {s : ByteArray} {q : Nat} (h : chr s q = 120) : posX s (q + 1) = posX s q ++ [(q : Int)] := by
  unfold posX; rw [List.range_succ, List.filter_append]; simp [h]
theorem posX_no {s : ByteArray} {q : Nat} (h : chr s q ≠ 120) : posX s (q + 1) = posX s q := by
  unfold posX; rw [List.range_succ, List.filter_append]; simp [h]
theorem posX_len (s : ByteArray) (q : Nat) : (posX s q).length ≤ q := by
  unfold posX
  rw [List.length_map]
  exact Nat.le_trans (List.length_filter_le _ _) (by simp)

set_option maxRecDepth 100000 in
set_option maxHeartbeats 1000000 in
theorem impl_ParseRhythm_ok (s : ByteArray) (w : World) (h1 : 1 ≤ s.size) (h2 : s.size ≤ 24) (ht : Lib.trimS s.data.toList [120, 46] = []) :
    Calls Tryd.prog 36 #[.string s] w (RetRh2 w s.size (posX s s.size) true) := by
  have hin : inB (s.size : Int) 1 24 = true := inB_true ⟨by omega, by omega⟩
  have htr := fun V : World => Any.strings_Trim_laid Tryd.lays160 Tryd.info116 s ⟨#[120, 46]⟩ V (by omega) (by decide) (ascii_of_all (by decide))
  rw [show (⟨#[120, 46]⟩ : ByteArray).data.toList = [120, 46] from rfl, ht] at htr
  have HTR := Lib.hid htr
  have HC1 := Lib.hid (Cells2.new w (.int .i64 0) (.slice none 0 0) 29)
  clear htr
  go_enter Tryd.func36, Tryd.ntmps36
  go_wp2_with (first
    | (go_at_call 53; refine (within_any _ _ _ _).mono ?_; rintro e w' ⟨rfl, rfl⟩)
    | (go_at_call 54; refine (HTR.out _).mono ?_; rintro e w1 ⟨rfl, hb1⟩))
  have hz1 : w.heap.size + 1 ≤ w1.heap.size := by have := hb1.size; simpa using this
  have HB1 := Lib.hid (((Below.refl w.heap.size w).alloc (Nat.le_refl _) (.cells #[.int .i64 0, .slice none 0 0] 29)).trans (hb1.mono (by simp)))
  have HC2 := Lib.hid (HC1.out.below hb1 (by simp))
  clear hb1
  obtain ⟨h, hh⟩ : ∃ h, w1.heap.size = h := ⟨_, rfl⟩
  rw [hh] at hz1 ⊢
  have HH := Lib.hid hh
  clear hh
  go_loopw [21] (fun sp wr => ∃ (q : Nat) (v : Value), q ≤ s.size ∧ sp = .int .i64 q ∧ Cells2 wr h (.int .i64 s.size) v ∧ OwnI wr (h + 1) v (posX s q) ∧ (∃ u1 u2, Cells2 wr w.heap.size u1 u2) ∧ Below w.heap.size w wr ∧ h + 1 ≤ wr.heap.size) (fun sp _ => s.size - (intOf sp).toNat)
  case atStart =>
    refine ⟨0, .slice none 0 0, Nat.zero_le _, rfl, Cells2.new_at _ _ _ _ _ HH.out, OwnI.nil _ _, ⟨_, _, HC2.out.alloc _⟩, ?_, by have := HH.out; simp; omega⟩
    exact HB1.out.alloc (by have := HH.out; omega) _
  case round =>
    obtain ⟨q, v, hq, rfl, hc2, hown, ⟨u1, u2, hc1⟩, hbel, hsz⟩ := hrel
    obtain ⟨wo, rfl⟩ : ∃ wo : World, wo = wr := ⟨_, rfl⟩
    have hple := posX_len s q
    have HC2 := Lib.hid hc2
    have HC1 := Lib.hid hc1
    obtain ⟨g0, g1, g2, g3, g4⟩ := HC2.out
    obtain ⟨A1, c1, rfl⟩ := hown.form
    by_cases hlt : q < s.size
    · obtain ⟨x, hx⟩ : ∃ x, chr s q = x := ⟨_, rfl⟩
      have hxc : ((s[q]'hlt).toNat : Int) = x := by rw [← hx, chr_at hlt]
      by_cases h120 : x = 120
      · have HS := Lib.hid (posX_yes (s := s) (q := q) (hx.trans h120))
        generalize posX s q = L at hown hple HS HC2 hc2 g1
        subst h120
        clear hx
        go_wp2_with (at_builtin; refine wpList_append_int rfl _ _ rfl (h + 1) _ L rfl (hown.alloc _) _ _ rfl (cell_new1 _ _ _) (by omega) (by first | exact Nat.le_refl _ | (simp; done) | (simp; omega) | omega) ?_; intro v' w2 hown1 hg1; obtain ⟨A2, c2, rfl⟩ := hown1.form; obtain ⟨j0, j1, j2, j3, j4⟩ := (HC2.out.alloc (Obj.cells #[Value.int .i64 q] 3)).below hg1 (by omega))
        clear g0 g1 g2 g3 hown
        have hw1 : h + 1 ≤ w2.heap.size := by have := hg1.size; simp only [World.size_alloc] at this; omega
        have HD2 := Lib.hid (Cells2.set1 (((HC2.out.alloc (Obj.cells #[Value.int .i64 q] 3)).below hg1 (by omega))) (.slice A2 (L ++ [(q : Int)]).length c2))
        have HD1 := Lib.hid (((HC1.out.alloc (Obj.cells #[Value.int .i64 q] 3)).below hg1 (by omega)).far (p := ⟨h, 1, none⟩) (by simp; omega) (.slice A2 (L ++ [(q : Int)]).length c2))
        have HOW := Lib.hid (hown1.far (p := ⟨h, 1, none⟩) (by simp) (.slice A2 (L ++ [(q : Int)]).length c2))
        have HBW := Lib.hid ((((hbel.alloc (by omega) _).trans (hg1.mono (by omega))).setCell (p := ⟨h, 1, none⟩) (by simp; omega) (.slice A2 (L ++ [(q : Int)]).length c2)))
        clear j0 j1 j2 j3 j4 hg1 hown1 hbel g4 hc2 hc1
        have hlen : (L ++ [(q : Int)]).length = L.length + 1 := by simp
        rw [hlen] at HD1 HD2 HOW HBW
        clear hlen
        go_wp2_with fail
        go_roundw
        case rel =>
          refine ⟨q + 1, _, by omega, by go_num, HD2.out, by rw [HS.out]; exact HOW.out, ⟨u1, u2, HD1.out⟩, HBW.out, by simpa [World.setCell] using hw1⟩
        case measure => simp [intOf]; omega
      · have hxb : (x == 120) = false := beq_eq_false_iff_ne.2 h120
        have HS := Lib.hid (posX_no (s := s) (q := q) (fun e => h120 (hx.symm.trans e)))
        have HO := Lib.hid hown
        clear hx hown hc1 hc2 h120
        go_wp2_with fail
        go_roundw
        case rel => exact ⟨q + 1, _, by omega, by go_num, HC2.out, by rw [HS.out]; exact HO.out, ⟨u1, u2, HC1.out⟩, hbel, hsz⟩
        case measure => simp [intOf]; omega
    · have hqe : q = s.size := by omega
      subst hqe
      obtain ⟨f0, f1, f2, f3, f4⟩ := HC1.out
      clear hc1 hc2
      go_wp2_with fail
      refine bodyPost_ret (v := .tuple #[.agg #[.int .i64 s.size, .slice A1 (posX s s.size).length c1], .bool true]) (by simp [results, Tryd.results36, go_sem, f0, f1]) rfl ?_
      refine ⟨A1, c1, rfl, ?_, ?_⟩
      · exact (((hown.far (p := ⟨w.heap.size, 0, none⟩) (by simp; omega) _).far (p := ⟨w.heap.size, 1, none⟩) (by simp; omega) _).rw_ (by omega)).mono (by omega)
      · exact (hbel.setCell (Nat.le_refl _) _).setCell (Nat.le_refl _) _

end Go.Proofs.YtinmhjeljkiefaaDoor
