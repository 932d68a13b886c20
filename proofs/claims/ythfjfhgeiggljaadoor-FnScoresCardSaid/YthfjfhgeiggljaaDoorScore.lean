/-
  readScore of the program, l26All of the reference; ScoreOk of both.
-/
import Derived.Test.YthfjfhgeiggljaaDoorPlay
namespace Go.Proofs.YthfjfhgeiggljaaDoor
open Go.RowKit
set_option linter.unusedVariables false
set_option linter.unusedSimpArgs false

def scoreR (s : ByteArray) : Option (List Int × Int) := if s.size ≤ 60 then scoreOf (chr s) s.size else none

def ScRet (w : World) (r : Option (List Int × Int)) (e : Ending) (w' : World) : Prop :=
  ∃ (A : Option Addr) (cap : Nat) (p : List Int) (dd : Int) (ok : Bool), e = .returned (.tuple #[.agg #[.slice A p.length cap, .int .i64 dd], .bool ok]) ∧ Ints w' w'.heap.size A p ∧ Below w.heap.size w w' ∧
    (ok = true → r = some (p, dd)) ∧ (ok = false → r = none ∧ p = [] ∧ A = none ∧ cap = 0 ∧ dd = 0)

theorem ints_far {w : World} {B : Nat} {A : Option Addr} {xs : List Int} (h : Ints w B A xs) (p : Addr) (u : Value) (hp : ∀ b off, A = some ⟨b, off, none⟩ → b ≠ p.block) : Ints (w.setCell p u) B A xs := by
  refine ⟨h.1, h.2.1, fun hn => ?_⟩
  obtain ⟨b, off, e, hb, hc⟩ := h.2.2 hn
  have hh : (w.setCell p u).heap[b]? = w.heap[b]? := Below.heap_setCell w p u b (hp b off e)
  exact ⟨b, off, e, hb, fun i hi => by rw [World.cell?_of_block (a := ⟨b, off + i, none⟩) hh]; exact hc i hi⟩

set_option maxRecDepth 100000 in
set_option maxHeartbeats 1000000 in
theorem impl_readScore_any (s : ByteArray) (w : World) (hs : s.size ≤ maxLen) :
    Calls Tryd.prog 28 #[.string s] w (ScRet w (scoreR s)) := by
  unfold maxLen at hs
  obtain ⟨R, hR⟩ : ∃ R, scoreR s = R := ⟨_, rfl⟩
  rw [hR]
  have HR := Lib.hid hR
  clear hR
  by_cases h60 : s.size ≤ 60
  · have hrd : ∀ V : World, Calls Tryd.prog 56 #[.string s, .int .i64 0, .int .i64 0] V (RowRet V (rowR (chr s) s.size 3 0)) := fun V => by
      have := impl_readRow_any s h60 3 (by omega) 0 V (Nat.zero_le _)
      simpa using this
    have HRD := Lib.hid hrd
    have HS := Lib.hid (show scoreR s = scoreOf (chr s) s.size from if_pos h60)
    clear hrd
    go_enter Tryd.func28, Tryd.ntmps28
    go_wp2_with fail
    refine (HRD.out _).mono ?_
    rintro e w1 ⟨A2, c2, p, dd, en, ok, rfl, hI, hb, hok, hno, hfr⟩
    have hz := hb.size
    simp only [World.size_alloc] at hz
    have HC := Lib.hid (((Cells2.new w (.slice none 0 0) (.int .i64 0) 44).below hb (by simp)).alloc (.cells #[.slice A2 p.length c2, .int .i64 dd] 44))
    have HG := Lib.hid (Cells2.new w1 (.slice A2 p.length c2) (.int .i64 dd) 44)
    have HBE := Lib.hid ((((Below.refl w.heap.size w).alloc (Nat.le_refl _) _).trans (hb.mono (by simp))).alloc (by omega) (.cells #[.slice A2 p.length c2, .int .i64 dd] 44))
    have HI := Lib.hid (hI.alloc (Nat.le_refl _) (.cells #[.slice A2 p.length c2, .int .i64 dd] 44))
    have HOK := Lib.hid hok
    have HNO := Lib.hid hno
    have hpl : p.length ≤ 9223372036854775807 := by have := hI.1; unfold maxLen at this; omega
    clear hI hb hok hno
    obtain ⟨f0, f1, f2, f3, f4⟩ := HC.out
    obtain ⟨m0, m1, m2, m3, m4⟩ := HG.out
    cases ok
    · have HRES := Lib.hid (show R = none by rw [← HR.out, HS.out]; unfold scoreOf; rw [(HNO.out rfl).1])
      go_wp2_with fail
      refine bodyPost_ret (v := .tuple #[.agg #[.slice none 0 0, .int .i64 0], .bool false]) (by simp [results, Tryd.results28, go_sem, f0, f1]) rfl ⟨none, 0, [], 0, false, rfl, ints_nil _ _ _, ?_, (fun h => by cases h), fun _ => ⟨HRES.out, rfl, rfl, rfl, rfl⟩⟩
      exact (HBE.out.setCell (Nat.le_refl _) _).setCell (Nat.le_refl _) _
    · obtain ⟨e1, hr, rfl⟩ := HOK.out rfl
      have HRG := Lib.hid hr
      clear hr
      by_cases he : e1 < s.size
      · have HRES := Lib.hid (show R = none by rw [← HR.out, HS.out]; unfold scoreOf; rw [HRG.out]; exact if_pos (.inl he))
        go_wp2_with fail
        refine bodyPost_ret (v := .tuple #[.agg #[.slice none 0 0, .int .i64 0], .bool false]) (by simp [results, Tryd.results28, go_sem, f0, f1]) rfl ⟨none, 0, [], 0, false, rfl, ints_nil _ _ _, ?_, (fun h => by cases h), fun _ => ⟨HRES.out, rfl, rfl, rfl, rfl⟩⟩
        exact (HBE.out.setCell (Nat.le_refl _) _).setCell (Nat.le_refl _) _
      by_cases hp : 500 < p.length
      · have HRES := Lib.hid (show R = none by rw [← HR.out, HS.out]; unfold scoreOf; rw [HRG.out]; exact if_pos (.inr hp))
        go_wp2_with fail
        refine bodyPost_ret (v := .tuple #[.agg #[.slice none 0 0, .int .i64 0], .bool false]) (by simp [results, Tryd.results28, go_sem, f0, f1]) rfl ⟨none, 0, [], 0, false, rfl, ints_nil _ _ _, ?_, (fun h => by cases h), fun _ => ⟨HRES.out, rfl, rfl, rfl, rfl⟩⟩
        exact (HBE.out.setCell (Nat.le_refl _) _).setCell (Nat.le_refl _) _
      · have HRES := Lib.hid (show R = some (p, dd) by rw [← HR.out, HS.out]; unfold scoreOf; rw [HRG.out]; exact if_neg (by omega))
        go_wp2_with fail
        refine bodyPost_ret (v := .tuple #[.agg #[.slice A2 p.length c2, .int .i64 dd], .bool true]) (by simp [results, Tryd.results28, go_sem, f0, f1]) rfl ⟨A2, c2, p, dd, true, rfl, ?_, ?_, (fun _ => HRES.out), fun h => by cases h⟩
        · exact ints_far (ints_far (HI.out.mono (by simp [World.setCell])) ⟨w.heap.size, 0, none⟩ _ (fun b off h => by have := hfr b (by rw [h]; rfl); simp at this; simp; omega)) ⟨w.heap.size, 1, none⟩ _ (fun b off h => by have := hfr b (by rw [h]; rfl); simp at this; simp; omega)
        · exact (HBE.out.setCell (Nat.le_refl _) _).setCell (Nat.le_refl _) _
  · have HRES := Lib.hid (show R = none by rw [← HR.out]; exact if_neg h60)
    go_enter Tryd.func28, Tryd.ntmps28
    go_wp2_with fail
    refine bodyPost_ret (v := .tuple #[.agg #[.slice none 0 0, .int .i64 0], .bool false]) (by simp [results, Tryd.results28, go_sem]) rfl ⟨none, 0, [], 0, false, rfl, ints_nil _ _ _, ?_, (fun h => by cases h), fun _ => ⟨HRES.out, rfl, rfl, rfl, rfl⟩⟩
    exact (by repeat (first | exact Below.refl _ _ | assumption | (refine Below.alloc ?_ (by first | exact Nat.le_refl _ | (simp; done) | (simp; omega) | omega) _) | (refine Below.drew ?_) | (refine Below.setCell ?_ (by first | exact Nat.le_refl _ | (simp; done) | (simp; omega) | omega) _)))

set_option maxRecDepth 100000 in
set_option maxHeartbeats 400000 in
theorem spec_l26All_any (s : ByteArray) (w : World) (hs : s.size ≤ maxLen) :
    Calls Tryd.prog 27 #[.string s] w (RetS w ((scoreR s).map (fun r => r.1))) := by
  unfold maxLen at hs
  obtain ⟨R, hR⟩ : ∃ R, (scoreR s).map (fun r => r.1) = R := ⟨_, rfl⟩
  rw [hR]
  by_cases h60 : s.size ≤ 60
  · have hpl : ∀ V : World, Calls Tryd.prog 55 #[.string s, .int .i64 0, .int .i64 s.size, .int .i64 0] V (RetS V R) := fun V => by
      have := spec_l26Play_any s h60 3 (by omega) 0 s.size V (Nat.zero_le _) (Nat.le_refl _)
      rw [scoreOf_S, show scoreOf (chr s) s.size = scoreR s from (if_pos h60).symm, hR] at this
      simpa using this
    have HPL := Lib.hid hpl
    clear hpl hR
    go_enter Tryd.func27, Tryd.ntmps27
    go_wp2_with fail
    refine (HPL.out _).mono ?_
    rintro e w1 ⟨A2, c2, p, ok, rfl, hI, hb, hok, hno, hfr⟩
    go_wp2_with fail
    go_ret2
    exact ⟨A2, c2, p, ok, rfl, hI, hb, hok, hno, hfr⟩
  · have HRES := Lib.hid (show R = none by rw [← hR, show scoreR s = none from if_neg h60]; rfl)
    clear hR
    go_enter Tryd.func27, Tryd.ntmps27
    go_wp2_with fail
    go_ret2
    exact ⟨none, 0, [], false, rfl, ints_nil _ _ _, Below.refl _ _, (fun h => by cases h), (fun _ => ⟨HRES.out, rfl, rfl, rfl⟩), fun k hk => by cases hk⟩

set_option maxHeartbeats 400000 in
theorem spec_ScoreOk_any (s : ByteArray) (w : World) (hs : s.size ≤ maxLen) :
    Calls Tryd.prog 7 #[.string s] w fun e w' => e = .returned (.bool (scoreR s).isSome) ∧ Below w.heap.size w w' := by
  have HRS := Lib.hid (fun V => spec_l26All_any s V hs)
  generalize scoreR s = R at HRS ⊢
  go_enter Tryd.func7, Tryd.ntmps7
  go_wp2_with fail
  refine (HRS.out _).mono ?_
  rintro e w1 ⟨A, c, p, ok, rfl, hI, hb, hok, hno, hfr⟩
  have hf : R.isSome = ok := by
    cases R with
    | none =>
      cases ok
      · rfl
      · have := hok rfl; simp at this
    | some r =>
      cases ok
      · have := (hno rfl).1; simp at this
      · rfl
  have HF := Lib.hid hf
  clear hok hno hI hfr hf
  go_wp2_with fail
  go_ret
  exact ⟨ret_bool HF.out.symm, hb⟩

end Go.Proofs.YthfjfhgeiggljaaDoor
