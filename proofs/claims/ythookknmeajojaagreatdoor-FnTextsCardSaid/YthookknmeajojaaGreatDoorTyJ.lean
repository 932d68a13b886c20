/-
  Several texts of this proof in one: BarQ, MetF, MetP.
-/
import Derived.Test.YthookknmeajojaaGreatDoorTyI
import Derived.Test.YthookknmeajojaaGreatDoorTyE
import Derived.Test.YthookknmeajojaaGreatDoorShP
import Derived.Test.YthookknmeajojaaGreatDoorTyG
import Derived.Shelf.Strings.Replace
import Derived.Lib.SplitLaws
namespace Go.Proofs.YthookknmeajojaaGreatDoor
open Go.RowKit Go.Shelf
set_option linter.unusedVariables false
set_option linter.unusedSimpArgs false

def pbarV (s : ByteArray) : Option (List Int) := if s.data.toList ≠ [] ∧ barB (pbyV 43 12 s) = true ∧ fmtB (pbyV 43 12 s) = s.data.toList then some (pbyV 43 12 s) else none
theorem str_empty (s : ByteArray) : s.toList.isEmpty = decide (s.data.toList = []) := by
  rw [Lib.toList_data]
  cases s.data.toList <;> rfl
theorem str_same (T : List UInt8) (s : ByteArray) : ((mkS T).toList == s.toList) = decide (T = s.data.toList) := by
  rw [Lib.toList_data, Lib.toList_data, show (mkS T).data.toList = T from str_mk _]
  by_cases h : T = s.data.toList
  · rw [h]; simp
  · rw [decide_eq_false h, beq_eq_false_iff_ne]; exact h

set_option maxRecDepth 100000 in
set_option maxHeartbeats 1000000 in
theorem impl_ParseBar_any (s : ByteArray) (w : World) (hs : s.size ≤ 1048576) (hE : Errs w) (hP : Pow w) (hM : MaxL w) :
    Calls Tryz.prog 30 #[.string s] w (RetNumO w (pbarV s)) := by
  have HPB := Lib.hid (impl_parsedBy_any 43 12 s w hs (Nat.le_refl _) hE hP hM)
  have HFX := Lib.hid (pby_fits 43 12 s)
  have HV := Lib.hid (show pbarV s = if s.data.toList ≠ [] ∧ barB (pbyV 43 12 s) = true ∧ fmtB (pbyV 43 12 s) = s.data.toList then some (pbyV 43 12 s) else none from rfl)
  generalize pbarV s = pv at HV ⊢
  generalize pbyV 43 12 s = xs at *
  have HFB := Lib.hid (fun A c V h (hb : Below w.heap.size w V) => impl_FormatBar_any A c xs V h (hP.below hb) (hM.below hb))
  have HSE := Lib.hid (str_same (fbarV xs) s)
  clear hE hP hM
  by_cases h0 : s.data.toList = []
  · have hse : s.toList.isEmpty = true := by rw [str_empty, decide_eq_true h0]
    have HN := Lib.hid (show pv = none by rw [HV.out, if_neg (fun h => h.1 h0)])
    clear h0 HV
    go_enter Tryz.func30, Tryz.ntmps30
    go_wp2_with (go_at_call 63; refine HPB.out.mono ?_; rintro e w1 ⟨A1, c1, rfl, ho1, hb1⟩)
    go_ret2
    rw [HN.out]
    exact ⟨none, 0, rfl, OwnI.nil _ _, by simp, hb1⟩
  · have hse : s.toList.isEmpty = false := by rw [str_empty, decide_eq_false h0]
    by_cases hok : barB xs = true ∧ fmtB xs = s.data.toList
    · have HN := Lib.hid (show pv = some xs by rw [HV.out, if_pos ⟨h0, hok.1, hok.2⟩])
      have heq : ((mkS (fbarV xs)).toList == s.toList) = true := by rw [HSE.out]; unfold fbarV; rw [if_pos hok.1]; exact decide_eq_true hok.2
      clear h0 HV hok HSE
      generalize mkS (fbarV xs) = X at *
      go_enter Tryz.func30, Tryz.ntmps30
      go_wp2_with (first
        | (go_at_call 63; refine HPB.out.mono ?_; rintro e w1 ⟨A1, c1, rfl, ho1, hb1⟩)
        | (go_at_call 31; refine (HFB.out _ _ _ (ho1.ints HFX.out) hb1).mono ?_; rintro e w2 ⟨rfl, hb2⟩))
      go_ret2
      rw [HN.out]
      exact ⟨A1, c1, rfl, ho1.grown hb2, HFX.out, hb1.trans (hb2.mono hb1.size)⟩
    · have HN := Lib.hid (show pv = none by rw [HV.out, if_neg (fun h => hok h.2)])
      have heq : ((mkS (fbarV xs)).toList == s.toList) = false := by
        rw [HSE.out, decide_eq_false_iff_not]
        unfold fbarV
        split
        · rename_i hb; exact fun e => hok ⟨hb, e⟩
        · exact fun e => h0 e.symm
      clear h0 HV hok HSE
      generalize mkS (fbarV xs) = X at *
      go_enter Tryz.func30, Tryz.ntmps30
      go_wp2_with (first
        | (go_at_call 63; refine HPB.out.mono ?_; rintro e w1 ⟨A1, c1, rfl, ho1, hb1⟩)
        | (go_at_call 31; refine (HFB.out _ _ _ (ho1.ints HFX.out) hb1).mono ?_; rintro e w2 ⟨rfl, hb2⟩))
      go_ret2
      rw [HN.out]
      exact ⟨none, 0, rfl, OwnI.nil _ _, by simp, hb1.trans (hb2.mono hb1.size)⟩

end Go.Proofs.YthookknmeajojaaGreatDoor

namespace Go.Proofs.YthookknmeajojaaGreatDoor
open Go.RowKit Go.Shelf
set_option linter.unusedVariables false
set_option linter.unusedSimpArgs false

def starC (c : UInt8) : UInt8 := if c = 44 then 42 else c
theorem map_star {l : Txt} (h : ∀ c ∈ l, c ≠ 44) : l.map starC = l := by
  conv => rhs; rw [← List.map_id l]
  exact List.map_congr_left fun c hc => by unfold starC; rw [if_neg (h c hc)]; rfl
theorem star_join (xs : List Int) : (joinT (xs.map itoL) [44]).map starC = joinT (xs.map itoL) [42] := by
  have htail : ∀ r : List Int, (Lib.joinTail [44] (r.map itoL)).map starC = Lib.joinTail [42] (r.map itoL) := by
    intro r
    induction r with
    | nil => rfl
    | cons y r ih =>
      have e : ∀ sep : Txt, Lib.joinTail sep ((y :: r).map itoL) = (sep ++ itoL y) ++ Lib.joinTail sep (r.map itoL) := fun sep => by unfold Lib.joinTail; simp
      rw [e, e, List.map_append, List.map_append, ih, map_star (itoL_char y)]
      rfl
  cases xs with
  | nil => rfl
  | cons x r =>
    have e : ∀ sep : Txt, joinT ((x :: r).map itoL) sep = itoL x ++ Lib.joinTail sep (r.map itoL) := fun sep => by
      unfold joinT; rw [List.map_cons, Lib.join_cons]
    rw [e, e, List.map_append, htail, map_star (itoL_char x)]
noncomputable def fmtM (xs : List Int) : Txt := joinT (xs.map itoL) [42]
theorem fmtM_len {xs : List Int} (h : MetOk xs) : (fmtM xs).length ≤ 105 := by
  have hf : ∀ x ∈ xs, Fits x := fun x hx => by have := h.2.2.1 x hx; unfold Fits; omega
  have := joinT_len [42] 20 (xs.map itoL) (nums_mem hf)
  rw [List.length_map] at this
  have h5 : xs.length * (20 + 1) ≤ 5 * 21 := Nat.mul_le_mul h.2.1 (Nat.le_refl _)
  exact Nat.le_trans this h5

set_option maxRecDepth 100000 in
set_option maxHeartbeats 1000000 in
theorem impl_FormatMeter_any (A : Option Addr) (cap : Nat) (xs : List Int) (w : World) (hA : Ints w w.heap.size A xs) (hm : MetOk xs) (hP : Pow w) (hM : MaxL w) :
    Calls Tryz.prog 29 #[.slice A xs.length cap] w fun e w' => e = .returned (.string (mkS (fmtM xs))) ∧ Below w.heap.size w w' := by
  have hx5 := hm.2.1
  have hf : ∀ x ∈ xs, Fits x := fun x hx => by have := hm.2.2.1 x hx; unfold Fits; omega
  have HMO := Lib.hid (fun V h => impl_MeterOk_any A cap xs V h hm)
  have HNT := Lib.hid (fun V h hb => impl_numbersText_any A cap xs V h (by omega) (hP.below hb))
  have HA := Lib.hid hA
  have HM := Lib.hid hM
  have HV := Lib.hid (show fmtM xs = (joinT (xs.map itoL) [44]).map starC from (star_join xs).symm)
  have hjl := joinT_len [44] 20 (xs.map itoL) (nums_mem hf)
  rw [List.length_map] at hjl
  have HJL := Lib.hid (show (joinT (xs.map itoL) [44]).length ≤ 24 * 21 by
    have : xs.length * (20 + 1) ≤ 24 * 21 := Nat.mul_le_mul (by omega) (Nat.le_refl _)
    exact Nat.le_trans hjl this)
  generalize fmtM xs = v at HV ⊢
  generalize joinT (xs.map itoL) [44] = T at *
  clear hA hP hM hjl hf hm
  have HR := Lib.hid (fun (V : World) (hb : Below w.heap.size w V) => by
    obtain ⟨m, hm⟩ := HM.out.below hb
    have hsz : (mkS T).size ≤ 504 := by rw [mkS_size]; exact HJL.out
    have hcnt := Lib.countB_le (⟨#[44]⟩ : ByteArray) (by decide) (mkS T).size (mkS T) (Nat.le_refl _)
    have := Any.strings_ReplaceAll Tryz.lays155 Tryz.bx155 (mkS T) ⟨#[44]⟩ ⟨#[42]⟩ m V (by omega) hm (by decide) (by have h1 : (⟨#[42]⟩ : ByteArray).size = 1 := rfl; rw [h1]; omega)
    rw [show (⟨#[44]⟩ : ByteArray).data.toList = [44] from rfl, show (⟨#[42]⟩ : ByteArray).data.toList = [42] from rfl, replAll1, show (mkS T).data.toList = T from str_mk _] at this
    exact this)
  go_enter Tryz.func29, Tryz.ntmps29
  go_wp2_with fail
  refine (HMO.out _ HA.out).mono ?_
  rintro e w1 ⟨rfl, hb1⟩
  have HB1 := Lib.hid hb1
  clear hb1
  go_wp2_with fail
  refine (HNT.out _ (HA.out.lift HB1.out) HB1.out).mono ?_
  rintro e w2 ⟨rfl, hb2⟩
  have HB2 := Lib.hid (HB1.out.trans (hb2.mono HB1.out.size))
  clear hb2
  go_wp2_with fail
  refine (HR.out _ HB2.out).mono ?_
  rintro e w3 ⟨rfl, hb3⟩
  have HB3 := Lib.hid (HB2.out.trans (hb3.mono HB2.out.size))
  clear hb3
  go_wp2_with fail
  go_ret
  exact ⟨ret_str (by rw [HV.out]; rfl), HB3.out⟩

end Go.Proofs.YthookknmeajojaaGreatDoor

namespace Go.Proofs.YthookknmeajojaaGreatDoor
open Go.RowKit Go.Shelf
set_option linter.unusedVariables false
set_option linter.unusedSimpArgs false

set_option maxRecDepth 100000 in
set_option maxHeartbeats 1000000 in
theorem impl_ParseMeter_ok (xs : List Int) (w : World) (hm : MetOk xs) (hE : Errs w) (hP : Pow w) (hM : MaxL w) :
    Calls Tryz.prog 28 #[.string (mkS (fmtM xs))] w (RetNumO w (some xs)) := by
  have hf : ∀ x ∈ xs, Fits x := fun x hx => by have := hm.2.2.1 x hx; unfold Fits; omega
  have hl := fmtM_len hm
  have hsz : (mkS (fmtM xs)).size ≤ 1048576 := by rw [mkS_size]; omega
  have hpb := impl_parsedBy_any 42 5 (mkS (fmtM xs)) w hsz (by decide) hE hP hM
  have hne : xs ≠ [] := fun e => by subst e; have := hm.1; simp at this
  rw [show pbyV 42 5 (mkS (fmtM xs)) = xs from pby_join 42 5 xs hne hm.2.1 hf (by decide) (by decide)] at hpb
  have HPB := Lib.hid hpb
  have HFX := Lib.hid hf
  have HFB := Lib.hid (fun A c V h (hb : Below w.heap.size w V) => impl_FormatMeter_any A c xs V h hm (hP.below hb) (hM.below hb))
  have hse : (mkS (fmtM xs)).toList.isEmpty = false := by
    rw [str_empty, decide_eq_false_iff_not, show (mkS (fmtM xs)).data.toList = fmtM xs from str_mk _]
    intro e
    have h1 := pby_join 42 5 xs hne hm.2.1 hf (by decide) (by decide)
    rw [show joinT (xs.map itoL) [42] = [] from e] at h1
    have h2 := (dec_dig 0).2.2
    have h3 : pbyV 42 5 (mkS []) = [0] := by
      unfold pbyV splT
      rw [show (mkS []).data.toList = [] from str_mk _]
      simp only [splF, List.map_cons, List.map_nil, List.length_cons, List.length_nil]
      rw [if_pos (by decide)]
      cases hp : pintV (mkS []) with
      | none => rfl
      | some v => 
        have := (pint_iff (mkS []) v).1 hp
        rw [show (mkS []).data.toList = [] from str_mk _] at this
        obtain ⟨N, hN | hN⟩ := Int.eq_nat_or_neg v
        · rw [hN, itoL_pos] at this; exact absurd this.2 (dec_dig N).2.2
        · by_cases h0 : 0 < N
          · rw [hN, itoL_neg N h0] at this; cases this.2
          · have hz : N = 0 := by omega
            subst hz
            rw [hN]; rfl
    rw [h3] at h1
    subst h1
    have := hm.2.2.1 0 (by simp)
    omega
  have heq : ((mkS (fmtM xs)).toList == (mkS (fmtM xs)).toList) = true := beq_self_eq_true _
  clear hl hsz hpb hE hP hM hf hne
  generalize mkS (fmtM xs) = X at *
  go_enter Tryz.func28, Tryz.ntmps28
  go_wp2_with (first
    | (go_at_call 63; refine HPB.out.mono ?_; rintro e w1 ⟨A1, c1, rfl, ho1, hb1⟩)
    | (go_at_call 29; refine (HFB.out _ _ _ (ho1.ints HFX.out) hb1).mono ?_; rintro e w2 ⟨rfl, hb2⟩))
  go_ret2
  exact ⟨A1, c1, rfl, ho1.grown hb2, HFX.out, hb1.trans (hb2.mono hb1.size)⟩

end Go.Proofs.YthookknmeajojaaGreatDoor

