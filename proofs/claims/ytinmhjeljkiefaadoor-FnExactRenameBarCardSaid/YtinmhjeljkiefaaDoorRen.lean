/-
  RenameBar of both.
-/
import Derived.Test.YtinmhjeljkiefaaDoorLett
import Derived.Test.YtinmhjeljkiefaaDoorRepl
import Derived.Test.YtinmhjeljkiefaaDoorShP
import Derived.Test.YtinmhjeljkiefaaDoorScoW
import Derived.Test.YtinmhjeljkiefaaDoorFoldT
import Derived.Shelf.Strings.Replace
import Derived.Lib.SplitLaws
namespace Go.Proofs.YtinmhjeljkiefaaDoor
open Go.RowKit Go.Shelf
set_option linter.unusedVariables false
set_option linter.unusedSimpArgs false

def renL (s a b : ByteArray) : List UInt8 := s.data.toList.map (fun c => if c = bytD a 0 then bytD b 0 else c)
theorem renL_len (s a b : ByteArray) : (renL s a b).length = s.size := by simp [renL]
theorem renL_snoc (s a b : ByteArray) (k : Nat) (h : k < s.size) : (renL s a b).take (k + 1) = (renL s a b).take k ++ [if s[k] = bytD a 0 then bytD b 0 else s[k]] := by
  rw [List.take_succ_eq_append_getElem (by rw [renL_len]; exact h)]
  simp [renL]
  rfl
def renOk (s a b : ByteArray) : Bool := (scoreR s).isSome && (letB a && letB b)
def renV (s a b : ByteArray) : List UInt8 := if renOk s a b then renL s a b else []
theorem letB_one {s : ByteArray} (h : letB s = true) : s.size = 1 ∧ s.data.toList = [bytD s 0] := by
  unfold letB at h
  have h := of_decide_eq_true h
  refine ⟨h.1, ?_⟩
  have := bytD_at (s := s) (i := 0) (by omega)
  unfold Str at this
  rw [Lib.extract_data] at this
  rw [show 0 + 1 - 0 = 1 from rfl, List.drop_zero] at this
  have h2 : s.data.toList.take 1 = s.data.toList := List.take_of_length_le (by simp; omega)
  rw [← h2]
  exact this
theorem letB_mk {s : ByteArray} (h : letB s = true) : s = mkS [bytD s 0] := by
  have := (letB_one h).2
  exact Str.eq (show Str s _ from this)
theorem scoreR_60 {s : ByteArray} (h : (scoreR s).isSome = true) : s.size ≤ 60 := by
  cases hr : scoreR s with
  | none => rw [hr] at h; cases h
  | some r => exact (scoreR_places hr).1

/-- internal/bytealg.MaxLen holds some number. -/
def MaxL (w : World) : Prop := ∃ m, w.cell? ⟨Tryd.lays155_ren.g 1, 0, none⟩ = some (.int .i64 m)
theorem MaxL.below {w w' : World} (h : MaxL w) (hb : Below w.heap.size w w') : MaxL w' := by
  obtain ⟨m, hm⟩ := h
  exact ⟨m, (hb.cell (p := ⟨Tryd.lays155_ren.g 1, 0, none⟩) (World.block_lt_of_cell? _ _ hm)).trans hm⟩

set_option maxHeartbeats 400000 in
theorem impl_ScoreOk_any (s : ByteArray) (w : World) (hs : s.size ≤ maxLen) :
    Calls Tryd.prog 28 #[.string s] w fun e w' => e = .returned (.bool (scoreR s).isSome) ∧ Below w.heap.size w w' := by
  have HRS := Lib.hid (fun V => impl_readScore_any s V hs)
  generalize scoreR s = R at HRS ⊢
  go_enter Tryd.func28, Tryd.ntmps28
  go_wp2_with fail
  refine (HRS.out _).mono ?_
  rintro e w1 ⟨A, c, p, dd, ok, rfl, hI, hb, hok, hno⟩
  have hf : R.isSome = ok := by
    cases ok
    · rw [(hno rfl).1]; rfl
    · rw [hok rfl]; rfl
  have HF := Lib.hid hf
  clear hok hno hI hf
  go_wp2_with fail
  go_ret
  exact ⟨ret_bool HF.out.symm, hb.alloc hb.size _⟩

set_option maxRecDepth 100000 in
set_option maxHeartbeats 400000 in
theorem impl_RenameBar_any (s a b : ByteArray) (w : World) (hs : s.size ≤ 1048576) (ha : a.size ≤ 1048576) (hb : b.size ≤ 1048576) (hM : MaxL w) :
    Calls Tryd.prog 9 #[.string s, .string a, .string b] w fun e w' => e = .returned (.tuple #[.string (mkS (renV s a b)), .bool (renOk s a b)]) ∧ Below w.heap.size w w' := by
  have HS := Lib.hid (fun V => impl_ScoreOk_any s V (by unfold maxLen; omega))
  have HM := Lib.hid hM
  clear hM
  cases h1 : (scoreR s).isSome
  · have HV := Lib.hid (show renOk s a b = false ∧ renV s a b = [] by unfold renV renOk; rw [h1]; exact ⟨rfl, rfl⟩)
    rw [h1] at HS
    go_enter Tryd.func9, Tryd.ntmps9
    go_wp2_with (go_at_call 28; refine (HS.out _).mono ?_; rintro e w1 ⟨rfl, hb1⟩)
    go_ret2
    exact ⟨by rw [HV.out.1, HV.out.2]; rfl, hb1⟩
  rw [h1] at HS
  cases h2 : letB a
  · have HV := Lib.hid (show renOk s a b = false ∧ renV s a b = [] by unfold renV renOk; rw [h1, h2]; exact ⟨rfl, rfl⟩)
    go_enter Tryd.func9, Tryd.ntmps9
    go_wp2_with (first | (go_at_call 28; refine (HS.out _).mono ?_; rintro e w1 ⟨rfl, hb1⟩) | (go_at_call 29; refine (impl_isLetter_any _ _ (by assumption)).mono ?_; rintro e w2 ⟨rfl, rfl⟩))
    go_ret2
    exact ⟨by rw [HV.out.1, HV.out.2]; rfl, hb1⟩
  cases h3 : letB b
  · have HV := Lib.hid (show renOk s a b = false ∧ renV s a b = [] by unfold renV renOk; rw [h1, h2, h3]; exact ⟨rfl, rfl⟩)
    go_enter Tryd.func9, Tryd.ntmps9
    go_wp2_with (first | (go_at_call 28; refine (HS.out _).mono ?_; rintro e w1 ⟨rfl, hb1⟩) | (go_at_call 29; refine (impl_isLetter_any _ _ (by assumption)).mono ?_; rintro e w2 ⟨rfl, rfl⟩))
    go_ret2
    exact ⟨by rw [HV.out.1, HV.out.2]; rfl, hb1⟩
  have h60 := scoreR_60 h1
  have HR := Lib.hid (fun (V : World) (hb : Below w.heap.size w V) => by
    obtain ⟨m, hm⟩ := HM.out.below hb
    have hcnt := Lib.countB_le a (by rw [(letB_one h2).1]; exact Nat.le_refl _) s.size s (Nat.le_refl _)
    have := Any.strings_ReplaceAll Tryd.lays155 Tryd.bx155 s a b m V (by omega) hm (by rw [(letB_one h2).1]; exact Nat.le_refl _) (by rw [(letB_one h3).1]; omega)
    rw [(letB_one h2).2, (letB_one h3).2, replAll1] at this
    exact this)
  have HV := Lib.hid (show renOk s a b = true ∧ renV s a b = renL s a b by unfold renV renOk; rw [h1, h2, h3]; exact ⟨rfl, rfl⟩)
  go_enter Tryd.func9, Tryd.ntmps9
  go_wp2_with (first | (go_at_call 28; refine (HS.out _).mono ?_; rintro e w1 ⟨rfl, hb1⟩) | (go_at_call 29; refine (impl_isLetter_any _ _ (by assumption)).mono ?_; rintro e w2 ⟨rfl, rfl⟩) | (go_at_call 30; refine (HR.out _ hb1).mono ?_; rintro e w4 ⟨rfl, hb4⟩))
  go_ret2
  exact ⟨by rw [HV.out.1, HV.out.2]; rfl, hb1.trans (hb4.mono hb1.size)⟩

set_option maxRecDepth 100000 in
set_option maxHeartbeats 400000 in
theorem spec_RenameBar_any (s a b : ByteArray) (w : World) (hs : s.size ≤ 1048576) (ha : a.size ≤ 1048576) (hb : b.size ≤ 1048576) :
    Calls Tryd.prog 8 #[.string s, .string a, .string b] w fun e w' => e = .returned (.tuple #[.string (mkS (renV s a b)), .bool (renOk s a b)]) ∧ Below w.heap.size w w' := by
  have HS := Lib.hid (fun V => spec_ScoreOk_any s V (by unfold maxLen; omega))
  cases h1 : (scoreR s).isSome
  · have HV := Lib.hid (show renOk s a b = false ∧ renV s a b = [] by unfold renV renOk; rw [h1]; exact ⟨rfl, rfl⟩)
    rw [h1] at HS
    go_enter Tryd.func8, Tryd.ntmps8
    go_wp2_with (go_at_call 26; refine (HS.out _).mono ?_; rintro e w1 ⟨rfl, hb1⟩)
    go_ret2
    exact ⟨by rw [HV.out.1, HV.out.2]; rfl, hb1⟩
  rw [h1] at HS
  cases h2 : letB a
  · have HV := Lib.hid (show renOk s a b = false ∧ renV s a b = [] by unfold renV renOk; rw [h1, h2]; exact ⟨rfl, rfl⟩)
    go_enter Tryd.func8, Tryd.ntmps8
    go_wp2_with (first | (go_at_call 26; refine (HS.out _).mono ?_; rintro e w1 ⟨rfl, hb1⟩) | (go_at_call 27; refine (spec_l26Letter_any _ _ (by assumption)).mono ?_; rintro e w2 ⟨rfl, rfl⟩))
    go_ret2
    exact ⟨by rw [HV.out.1, HV.out.2]; rfl, hb1⟩
  cases h3 : letB b
  · have HV := Lib.hid (show renOk s a b = false ∧ renV s a b = [] by unfold renV renOk; rw [h1, h2, h3]; exact ⟨rfl, rfl⟩)
    go_enter Tryd.func8, Tryd.ntmps8
    go_wp2_with (first | (go_at_call 26; refine (HS.out _).mono ?_; rintro e w1 ⟨rfl, hb1⟩) | (go_at_call 27; refine (spec_l26Letter_any _ _ (by assumption)).mono ?_; rintro e w2 ⟨rfl, rfl⟩))
    go_ret2
    exact ⟨by rw [HV.out.1, HV.out.2]; rfl, hb1⟩
  have h60 := scoreR_60 h1
  have hsz : b.size = 1 := (letB_one h3).1
  have hea := letB_mk h2
  have HBS := Lib.hid (show Str b [bytD b 0] from (letB_one h3).2)
  have HV := Lib.hid (show renOk s a b = true ∧ renV s a b = renL s a b by unfold renV renOk; rw [h1, h2, h3]; exact ⟨rfl, rfl⟩)
  have HEQ := Lib.hid (fun k (h : k < s.size) => show ((s.extract k (k + 1)).toList == a.toList) = decide (s[k] = bytD a 0) by
    have e1 : s.extract k (k + 1) = mkS [s[k]] := (str_at s k h).eq
    rw [e1, Lib.toList_data, Lib.toList_data, (letB_one h2).2, show (mkS [s[k]]).data.toList = [s[k]] from str_mk _]
    by_cases hc : s[k] = bytD a 0
    · rw [hc]; simp
    · rw [decide_eq_false hc, beq_eq_false_iff_ne]; simpa using hc)
  clear hea
  go_enter Tryd.func8, Tryd.ntmps8
  go_wp2_with (first | (go_at_call 26; refine (HS.out _).mono ?_; rintro e w1 ⟨rfl, hb1⟩) | (go_at_call 27; refine (spec_l26Letter_any _ _ (by assumption)).mono ?_; rintro e w2 ⟨rfl, rfl⟩))
  go_loop [8, 9] (fun t i => ∃ (k : Nat) (u : ByteArray), k ≤ s.size ∧ i = .int .i64 k ∧ t = .string u ∧ Str u ((renL s a b).take k)) (fun _ i => s.size - (intOf i).toNat)
  case atStart => exact ⟨0, _, Nat.zero_le _, rfl, rfl, str_nil⟩
  case round =>
    obtain ⟨k, u, hk, rfl, rfl, hu⟩ := hrel
    by_cases hlt : k < s.size
    · have husz : u.size ≤ 60 := by rw [hu.size, List.length_take]; omega
      have hsn := renL_snoc s a b k hlt
      have heq := HEQ.out k hlt
      have hst := str_at s k hlt
      by_cases hc : s[k] = bytD a 0
      · rw [if_pos hc] at hsn
        rw [decide_eq_true hc] at heq
        have HREL := Lib.hid (show Str (u ++ b) ((renL s a b).take (k + 1)) by rw [hsn]; exact hu.app HBS.out)
        clear hsn hu hst hc
        go_wp2
        go_round
        case rel => exact ⟨k + 1, _, by omega, by go_num, rfl, HREL.out⟩
        case measure => simp [intOf]; omega
      · rw [if_neg hc] at hsn
        rw [decide_eq_false hc] at heq
        have HREL := Lib.hid (show Str (u ++ s.extract k (k + 1)) ((renL s a b).take (k + 1)) by rw [hsn]; exact hu.app hst)
        clear hsn hu hst hc
        go_wp2
        go_round
        case rel => exact ⟨k + 1, _, by omega, by go_num, rfl, HREL.out⟩
        case measure => simp [intOf]; omega
    · have HU := Lib.hid (show u = mkS (renL s a b) by have := hu.eq; rwa [List.take_of_length_le (by rw [renL_len]; omega)] at this)
      clear hu
      go_wp2
      go_ret2
      exact ⟨by rw [HV.out.1, HV.out.2, HU.out]; rfl, hb1⟩

end Go.Proofs.YtinmhjeljkiefaaDoor
