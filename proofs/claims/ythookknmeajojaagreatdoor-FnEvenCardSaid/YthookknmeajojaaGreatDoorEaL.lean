/-
  Several texts of this proof in one: Pars, PRh.
-/
import Derived.Test.YthookknmeajojaaGreatDoorEaC
import Derived.Test.YthookknmeajojaaGreatDoorEaK
import Derived.Test.YthookknmeajojaaGreatDoorShT
namespace Go.Proofs.YthookknmeajojaaGreatDoor
open Go.RowKit Go.Shelf
set_option linter.unusedVariables false
set_option linter.unusedSimpArgs false

theorem Tryz.info116 : (Tryz.prog.info? (Tryz.lays160_ren.t 116)).map (fun i => (i.zero, i.size)) = some (some (.agg (Array.replicate 256 (.bool false))), 256) := by kernel_rfl

def posX (s : ByteArray) (q : Nat) : List Int := ((List.range q).filter (fun t : Nat => decide (chr s t = 120))).map Int.ofNat
theorem posX_yes {s : ByteArray} {q : Nat} (h : chr s q = 120) : posX s (q + 1) = posX s q ++ [(q : Int)] := by
  unfold posX; rw [List.range_succ, List.filter_append]; simp [h]
theorem posX_no {s : ByteArray} {q : Nat} (h : chr s q ≠ 120) : posX s (q + 1) = posX s q := by
  unfold posX; rw [List.range_succ, List.filter_append]; simp [h]
theorem posX_len (s : ByteArray) (q : Nat) : (posX s q).length ≤ q := by
  unfold posX
  rw [List.length_map]
  exact Nat.le_trans (List.length_filter_le _ _) (by simp)

set_option maxRecDepth 100000 in
set_option maxHeartbeats 1000000 in
theorem impl_ParseRhythm_ok (s : ByteArray) (w : World) (h1 : 1 ≤ s.size) (h2 : s.size ≤ 24) (ht : Lib.trimS s.data.toList [120, 46] = []) :
    Calls Tryz.prog 26 #[.string s] w (RetRh2 w s.size (posX s s.size) true) := by
  have hin : inB (s.size : Int) 1 24 = true := inB_true ⟨by omega, by omega⟩
  have htr := fun V : World => Any.strings_Trim_laid Tryz.lays160 Tryz.info116 s ⟨#[120, 46]⟩ V (by omega) (by decide) (ascii_of_all (by decide))
  rw [show (⟨#[120, 46]⟩ : ByteArray).data.toList = [120, 46] from rfl, ht] at htr
  have HTR := Lib.hid htr
  have HC1 := Lib.hid (Cells2.new w (.int .i64 0) (.slice none 0 0) 26)
  clear htr
  go_enter Tryz.func26, Tryz.ntmps26
  go_wp2_with (first
    | (go_at_call 39; refine (within_any _ _ _ _).mono ?_; rintro e w' ⟨rfl, rfl⟩)
    | (go_at_call 61; refine (HTR.out _).mono ?_; rintro e w1 ⟨rfl, hb1⟩))
  have hz1 : w.heap.size + 1 ≤ w1.heap.size := by have := hb1.size; simpa using this
  have HB1 := Lib.hid (((Below.refl w.heap.size w).alloc (Nat.le_refl _) (.cells #[.int .i64 0, .slice none 0 0] 26)).trans (hb1.mono (by simp)))
  have HC2 := Lib.hid (HC1.out.below hb1 (by simp))
  clear hb1
  obtain ⟨h, hh⟩ : ∃ h, w1.heap.size = h := ⟨_, rfl⟩
  rw [hh] at hz1 ⊢
  have HH := Lib.hid hh
  clear hh
  go_loopw [21] (fun sp wr => ∃ (q : Nat) (v : Value), q ≤ s.size ∧ sp = .int .i64 q ∧ Cells2 wr h (.int .i64 s.size) v ∧ OwnI wr (h + 1) v (posX s q) ∧ (∃ u1 u2, Cells2 wr w.heap.size u1 u2) ∧ Below w.heap.size w wr ∧ h + 1 ≤ wr.heap.size) (fun sp _ => s.size - (intOf sp).toNat)
  case atStart =>
    refine ⟨0, .slice none 0 0, Nat.zero_le _, rfl, Cells2.new_at _ _ _ _ _ HH.out, OwnI.nil _ _, ⟨_, _, HC2.out.alloc _⟩, ?_, by have := HH.out; simp; omega⟩
    exact HB1.out.alloc (by have := HH.out; omega) _
  case round =>
    obtain ⟨q, v, hq, rfl, hc2, hown, ⟨u1, u2, hc1⟩, hbel, hsz⟩ := hrel
    obtain ⟨wo, rfl⟩ : ∃ wo : World, wo = wr := ⟨_, rfl⟩
    have hple := posX_len s q
    have HC2 := Lib.hid hc2
    have HC1 := Lib.hid hc1
    obtain ⟨g0, g1, g2, g3, g4⟩ := HC2.out
    obtain ⟨A1, c1, rfl⟩ := hown.form
    by_cases hlt : q < s.size
    · obtain ⟨x, hx⟩ : ∃ x, chr s q = x := ⟨_, rfl⟩
      have hxc : ((s[q]'hlt).toNat : Int) = x := by rw [← hx, chr_at hlt]
      by_cases h120 : x = 120
      · have HS := Lib.hid (posX_yes (s := s) (q := q) (hx.trans h120))
        generalize posX s q = L at hown hple HS HC2 hc2 g1
        subst h120
        clear hx
        go_wp2_with (at_builtin; refine wpList_append_int rfl _ _ rfl (h + 1) _ L rfl (hown.alloc _) _ _ rfl (cell_new1 _ _ _) (by omega) (by first | exact Nat.le_refl _ | (simp; done) | (simp; omega) | omega) ?_; intro v' w2 hown1 hg1; obtain ⟨A2, c2, rfl⟩ := hown1.form; obtain ⟨j0, j1, j2, j3, j4⟩ := (HC2.out.alloc (Obj.cells #[Value.int .i64 q] 3)).below hg1 (by omega))
        clear g0 g1 g2 g3 hown
        have hw1 : h + 1 ≤ w2.heap.size := by have := hg1.size; simp only [World.size_alloc] at this; omega
        have HD2 := Lib.hid (Cells2.set1 (((HC2.out.alloc (Obj.cells #[Value.int .i64 q] 3)).below hg1 (by omega))) (.slice A2 (L ++ [(q : Int)]).length c2))
        have HD1 := Lib.hid (((HC1.out.alloc (Obj.cells #[Value.int .i64 q] 3)).below hg1 (by omega)).far (p := ⟨h, 1, none⟩) (by simp; omega) (.slice A2 (L ++ [(q : Int)]).length c2))
        have HOW := Lib.hid (hown1.far (p := ⟨h, 1, none⟩) (by simp) (.slice A2 (L ++ [(q : Int)]).length c2))
        have HBW := Lib.hid ((((hbel.alloc (by omega) _).trans (hg1.mono (by omega))).setCell (p := ⟨h, 1, none⟩) (by simp; omega) (.slice A2 (L ++ [(q : Int)]).length c2)))
        clear j0 j1 j2 j3 j4 hg1 hown1 hbel g4 hc2 hc1
        have hlen : (L ++ [(q : Int)]).length = L.length + 1 := by simp
        rw [hlen] at HD1 HD2 HOW HBW
        clear hlen
        go_wp2_with fail
        go_roundw
        case rel =>
          refine ⟨q + 1, _, by omega, by go_num, HD2.out, by rw [HS.out]; exact HOW.out, ⟨u1, u2, HD1.out⟩, HBW.out, by simpa [World.setCell] using hw1⟩
        case measure => simp [intOf]; omega
      · have hxb : (x == 120) = false := beq_eq_false_iff_ne.2 h120
        have HS := Lib.hid (posX_no (s := s) (q := q) (fun e => h120 (hx.symm.trans e)))
        have HO := Lib.hid hown
        clear hx hown hc1 hc2 h120
        go_wp2_with fail
        go_roundw
        case rel => exact ⟨q + 1, _, by omega, by go_num, HC2.out, by rw [HS.out]; exact HO.out, ⟨u1, u2, HC1.out⟩, hbel, hsz⟩
        case measure => simp [intOf]; omega
    · have hqe : q = s.size := by omega
      subst hqe
      obtain ⟨f0, f1, f2, f3, f4⟩ := HC1.out
      clear hc1 hc2
      go_wp2_with fail
      refine bodyPost_ret (v := .tuple #[.agg #[.int .i64 s.size, .slice A1 (posX s s.size).length c1], .bool true]) (by simp [results, Tryz.results26, go_sem, f0, f1]) rfl ?_
      refine ⟨A1, c1, rfl, ?_, ?_⟩
      · exact (((hown.far (p := ⟨w.heap.size, 0, none⟩) (by simp; omega) _).far (p := ⟨w.heap.size, 1, none⟩) (by simp; omega) _).rw_ (by omega)).mono (by omega)
      · exact (hbel.setCell (Nat.le_refl _) _).setCell (Nat.le_refl _) _

end Go.Proofs.YthookknmeajojaaGreatDoor

namespace Go.Proofs.YthookknmeajojaaGreatDoor
open Go.RowKit Go.Shelf
set_option linter.unusedVariables false
set_option linter.unusedSimpArgs false

def xdB (s : ByteArray) : Bool := s.data.toList.all fun c => c == 120 || c == 46
def prhB (s : ByteArray) : Bool := decide (1 ≤ s.size ∧ s.size ≤ 24) && xdB s
def prhN (s : ByteArray) : Int := if prhB s then s.size else 0
def prhL (s : ByteArray) : List Int := if prhB s then posX s s.size else []
theorem dropWhile_all {α : Type} (p : α → Bool) : ∀ l : List α, l.dropWhile p = [] ↔ l.all p = true
  | [] => by simp
  | x :: r => by
    rw [List.dropWhile_cons, List.all_cons]
    cases h : p x
    · simp
    · simpa using dropWhile_all p r
theorem trim_nil (l cs : List UInt8) : Lib.trimS l cs = [] ↔ l.all (fun c => cs.contains c) = true := by
  have key : ∀ r : List UInt8, (r.dropWhile (fun c => cs.contains c)).reverse.all (fun c => cs.contains c) = true ↔ r.all (fun c => cs.contains c) = true := by
    intro r
    rw [List.all_reverse]
    induction r with
    | nil => simp
    | cons x r ih =>
      rw [List.dropWhile_cons, List.all_cons]
      cases h : cs.contains x
      · have hm : x ∉ cs := by simpa using h
        simp [hm]
      · simpa using ih
  unfold Lib.trimS Lib.trimLeftS Lib.trimRightS
  rw [dropWhile_all, key, List.all_reverse]
theorem xdB_trim (s : ByteArray) : xdB s = true ↔ Lib.trimS s.data.toList [120, 46] = [] := by
  rw [trim_nil]
  unfold xdB
  have e : (fun c : UInt8 => c == 120 || c == 46) = fun c => [120, 46].contains c := by funext c; simp only [List.contains_cons, List.contains_nil, Bool.or_false]
  rw [e]

set_option maxRecDepth 100000 in
set_option maxHeartbeats 1000000 in
theorem impl_ParseRhythm_any (s : ByteArray) (w : World) (hs : s.size ≤ maxLen) :
    Calls Tryz.prog 26 #[.string s] w (RetRh2 w (prhN s) (prhL s) (prhB s)) := by
  unfold maxLen at hs
  by_cases hin : 1 ≤ s.size ∧ s.size ≤ 24
  · cases hx : xdB s
    · have hpb : prhB s = false := by unfold prhB; rw [hx, Bool.and_false]
      have htr := fun V : World => Any.strings_Trim_laid Tryz.lays160 Tryz.info116 s ⟨#[120, 46]⟩ V (by omega) (by decide) (ascii_of_all (by decide))
      rw [show (⟨#[120, 46]⟩ : ByteArray).data.toList = [120, 46] from rfl] at htr
      have hne : Lib.trimS s.data.toList [120, 46] ≠ [] := fun e => by have := (xdB_trim s).2 e; rw [hx] at this; cases this
      generalize Lib.trimS s.data.toList [120, 46] = T at htr hne
      have heq : (((⟨T.toArray⟩ : ByteArray).toList == []) : Bool) = false := by
        rw [beq_eq_false_iff_ne, Lib.toList_data]
        simpa using hne
      have hem : (⟨T.toArray⟩ : ByteArray).toList.isEmpty = false := by
        rw [Lib.toList_data]
        cases T with
        | nil => exact absurd rfl hne
        | cons x r => rfl
      have HTR := Lib.hid htr
      have hin' : inB (s.size : Int) 1 24 = true := inB_true ⟨by omega, by omega⟩
      have HP := Lib.hid hpb
      have HC1 := Lib.hid (Cells2.new w (.int .i64 0) (.slice none 0 0) 26)
      clear htr hx hpb
      generalize (⟨T.toArray⟩ : ByteArray) = X at *
      go_enter Tryz.func26, Tryz.ntmps26
      go_wp2_with (first
        | (go_at_call 39; refine (within_any _ _ _ _).mono ?_; rintro e w' ⟨rfl, rfl⟩)
        | (go_at_call 61; refine (HTR.out _).mono ?_; rintro e w1 ⟨rfl, hb1⟩; have hz1 := hb1.size; obtain ⟨f0, f1, f2, f3, f4⟩ := HC1.out.below hb1 (by simp)))
      refine bodyPost_ret (v := .tuple #[.agg #[.int .i64 0, .slice none 0 0], .bool false]) (by simp [results, Tryz.results26, go_sem, f0, f1]) rfl ?_
      unfold prhN prhL
      rw [HP.out]
      exact ⟨none, 0, rfl, ⟨by simp, fun h => by simp at h⟩, ((((Below.refl w.heap.size w).alloc (Nat.le_refl _) _).trans (hb1.mono (by simp))).setCell (Nat.le_refl _) _).setCell (Nat.le_refl _) _⟩
    · have hpb : prhB s = true := by unfold prhB; rw [hx, decide_eq_true hin]; rfl
      unfold prhN prhL
      rw [hpb]
      exact impl_ParseRhythm_ok s w hin.1 hin.2 ((xdB_trim s).1 hx)
  · have hpb : prhB s = false := by unfold prhB; rw [decide_eq_false hin, Bool.false_and]
    have hin' : inB (s.size : Int) 1 24 = false := inB_false (by omega)
    have HP := Lib.hid hpb
    obtain ⟨f0, f1, f2, f3, f4⟩ := Cells2.new w (.int .i64 0) (.slice none 0 0) 26
    clear hpb
    go_enter Tryz.func26, Tryz.ntmps26
    go_wp2_with (go_at_call 39; refine (within_any _ _ _ _).mono ?_; rintro e w' ⟨rfl, rfl⟩)
    refine bodyPost_ret (v := .tuple #[.agg #[.int .i64 0, .slice none 0 0], .bool false]) (by simp [results, Tryz.results26, go_sem, f0, f1]) rfl ?_
    unfold prhN prhL
    rw [HP.out]
    exact ⟨none, 0, rfl, ⟨by simp, fun h => by simp at h⟩, (Below.refl w.heap.size w).alloc (Nat.le_refl _) _⟩

end Go.Proofs.YthookknmeajojaaGreatDoor

