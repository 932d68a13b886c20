/-
  Several texts of this proof in one: Lett, Repl, Ren, SclP, MkS.
-/
import Derived.Test.YthfjfhgeiggljaaDoorRead
import Derived.Test.YthfjfhgeiggljaaDoorChecked
import Derived.Lib.Replace
import Derived.Test.YthfjfhgeiggljaaDoorShP
import Derived.Test.YthfjfhgeiggljaaDoorScoW
import Derived.Test.YthfjfhgeiggljaaDoorFoldT
import Derived.Shelf.Strings.Replace
import Derived.Lib.SplitLaws
import Derived.Test.YthfjfhgeiggljaaDoorBarT
import Derived.Test.YthfjfhgeiggljaaDoorScoVals
import Derived.Test.YthfjfhgeiggljaaDoorDraw
import Derived.Test.YthfjfhgeiggljaaDoorFmtS
namespace Go.Proofs.YthfjfhgeiggljaaDoor
open Go.RowKit
set_option linter.unusedVariables false
set_option linter.unusedSimpArgs false

def letB (s : ByteArray) : Bool := decide (s.size = 1 ∧ 97 ≤ chr s 0 ∧ chr s 0 ≤ 122)

set_option maxHeartbeats 400000 in
theorem impl_isLetter_any (s : ByteArray) (w : World) (hs : s.size ≤ 1048576) : Calls Tryd.prog 34 #[.string s] w fun e w' => e = .returned (.bool (letB s)) ∧ w = w' := by
  by_cases h1 : s.size = 1
  · obtain ⟨x, hx⟩ : ∃ x, chr s 0 = x := ⟨_, rfl⟩
    have hxc : ((s[0]'(by omega)).toNat : Int) = x := by rw [← hx, chr_at (by omega)]
    have HL := Lib.hid (show letB s = decide (97 ≤ x ∧ x ≤ 122) by unfold letB; rw [hx]; simp [h1])
    have hb : ((s.size : Int) == 1) = true := beq_iff_eq.2 (by omega)
    have h0 : (0 : Int) < s.size := by omega
    by_cases ha : 97 ≤ x
    · by_cases hz : x ≤ 122
      · clear hx
        go_enter Tryd.func34, Tryd.ntmps34
        go_wp2_with fail
        go_ret
        exact ⟨ret_bool (by rw [HL.out]; simp [ha, hz]), rfl⟩
      · clear hx
        go_enter Tryd.func34, Tryd.ntmps34
        go_wp2_with fail
        go_ret
        exact ⟨ret_bool (by rw [HL.out]; simp [ha, hz]), rfl⟩
    · clear hx
      go_enter Tryd.func34, Tryd.ntmps34
      go_wp2_with fail
      go_ret
      exact ⟨ret_bool (by rw [HL.out, eq_comm, decide_eq_false_iff_not]; omega), rfl⟩
  · have HL := Lib.hid (show letB s = false by unfold letB; simp [h1])
    have hb : ((s.size : Int) == 1) = false := beq_eq_false_iff_ne.2 (by omega)
    clear h1
    go_enter Tryd.func34, Tryd.ntmps34
    go_wp2_with fail
    go_ret
    exact ⟨ret_bool HL.out.symm, rfl⟩

end Go.Proofs.YthfjfhgeiggljaaDoor

namespace Go.Proofs.YthfjfhgeiggljaaDoor
open Go.Lib
set_option linter.unusedVariables false
set_option linter.unusedSimpArgs false
theorem idx_cons (c a : UInt8) (l : List UInt8) : index (c :: l) [a] = if c = a then 0 else if index l [a] = -1 then -1 else index l [a] + 1 := by
  show (if ([a] : List UInt8).isPrefixOf (c :: l) then (0 : Int) else if index l [a] == -1 then -1 else index l [a] + 1) = _
  by_cases h : c = a
  · subst h; simp [List.isPrefixOf]
  · have : ([a] : List UInt8).isPrefixOf (c :: l) = false := by
      simp [List.isPrefixOf]; exact fun e => h e.symm
    rw [this, if_neg (by simp), if_neg h]
    by_cases h2 : index l [a] = -1
    · simp [h2]
    · rw [if_neg (by simpa using h2), if_neg h2]
theorem idx_none (a : UInt8) : ∀ l : List UInt8, index l [a] = -1 → a ∉ l
  | [], _ => by simp
  | c :: l, h => by
    rw [idx_cons] at h
    by_cases e : c = a
    · rw [if_pos e] at h; omega
    · rw [if_neg e] at h
      by_cases h2 : index l [a] = -1
      · have := idx_none a l h2
        simp; exact ⟨fun q => e q.symm, this⟩
      · rw [if_neg h2] at h; have := index_ge l [a]; omega
theorem map_none (a b : UInt8) (l : List UInt8) (h : a ∉ l) : l.map (fun c => if c = a then b else c) = l := by
  conv => rhs; rw [← List.map_id l]
  exact List.map_congr_left fun c hc => by
    have : ¬ c = a := fun e => h (e ▸ hc)
    simp [this]
theorem replK (a b : UInt8) : ∀ (s : List UInt8) (k : Nat), s.count a ≤ k → replaceK [a] [b] k s = s.map (fun c => if c = a then b else c)
  | s, 0, h => by
    show s = _
    rw [map_none]
    exact List.count_eq_zero.1 (by omega)
  | [], k + 1, _ => by simp [replaceK, index]
  | c :: l, k + 1, h => by
    by_cases e : c = a
    · subst e
      rw [replaceK_hit [c] [b] k (c :: l) 0 (by rw [idx_cons, if_pos rfl]; rfl)]
      have hl : l.count c ≤ k := by rw [List.count_cons_self] at h; omega
      simp
      exact replK c b l k hl
    · have hl : l.count a ≤ k + 1 := by rw [List.count_cons_of_ne (fun q => e q)] at h; exact h
      have ih := replK a b l (k + 1) hl
      by_cases h2 : index l [a] = -1
      · have hno := idx_none a l h2
        have : index (c :: l) [a] = -1 := by rw [idx_cons, if_neg e, if_pos h2]
        rw [replaceK, this, if_pos (by decide), map_none]
        simp; exact ⟨fun q => e q.symm, hno⟩
      · obtain ⟨i, hi⟩ := Int.eq_ofNat_of_zero_le (show 0 ≤ index l [a] by have := index_ge l [a]; omega)
        rw [replaceK_hit [a] [b] k (c :: l) (i + 1) (by rw [idx_cons, if_neg e, if_neg h2, hi]; rfl)]
        rw [replaceK_hit [a] [b] k l i hi] at ih
        simp [e] at ih ⊢
        exact ih
theorem replAll1 (a b : UInt8) (s : List UInt8) : replaceAll s [a] [b] = s.map (fun c => if c = a then b else c) := by
  unfold replaceAll replace
  by_cases h : a = b
  · subst h
    rw [if_pos (by simp)]
    conv => lhs; rw [← List.map_id s]
    exact List.map_congr_left fun c _ => by
      by_cases e : c = a
      · simp [e]
      · simp [e]
  · rw [if_neg (by simpa using h)]
    refine replK a b s _ ?_
    unfold replaceNum
    rw [if_pos (.inl (by decide)), count_one]
    exact Nat.le_refl _

end Go.Proofs.YthfjfhgeiggljaaDoor

namespace Go.Proofs.YthfjfhgeiggljaaDoor
open Go.RowKit Go.Shelf
set_option linter.unusedVariables false
set_option linter.unusedSimpArgs false

def renL (s a b : ByteArray) : List UInt8 := s.data.toList.map (fun c => if c = bytD a 0 then bytD b 0 else c)
theorem renL_len (s a b : ByteArray) : (renL s a b).length = s.size := by simp [renL]
theorem renL_snoc (s a b : ByteArray) (k : Nat) (h : k < s.size) : (renL s a b).take (k + 1) = (renL s a b).take k ++ [if s[k] = bytD a 0 then bytD b 0 else s[k]] := by
  rw [List.take_succ_eq_append_getElem (by rw [renL_len]; exact h)]
  simp [renL]
  rfl
def renOk (s a b : ByteArray) : Bool := (scoreR s).isSome && (letB a && letB b)
def renV (s a b : ByteArray) : List UInt8 := if renOk s a b then renL s a b else []
theorem letB_one {s : ByteArray} (h : letB s = true) : s.size = 1 ∧ s.data.toList = [bytD s 0] := by
  unfold letB at h
  have h := of_decide_eq_true h
  refine ⟨h.1, ?_⟩
  have := bytD_at (s := s) (i := 0) (by omega)
  unfold Str at this
  rw [Lib.extract_data] at this
  rw [show 0 + 1 - 0 = 1 from rfl, List.drop_zero] at this
  have h2 : s.data.toList.take 1 = s.data.toList := List.take_of_length_le (by simp; omega)
  rw [← h2]
  exact this
theorem letB_mk {s : ByteArray} (h : letB s = true) : s = mkS [bytD s 0] := by
  have := (letB_one h).2
  exact Str.eq (show Str s _ from this)
theorem scoreR_60 {s : ByteArray} (h : (scoreR s).isSome = true) : s.size ≤ 60 := by
  cases hr : scoreR s with
  | none => rw [hr] at h; cases h
  | some r => exact (scoreR_places hr).1

/-- internal/bytealg.MaxLen holds some number. -/
def MaxL (w : World) : Prop := ∃ m, w.cell? ⟨Tryd.lays155_ren.g 1, 0, none⟩ = some (.int .i64 m)
theorem MaxL.below {w w' : World} (h : MaxL w) (hb : Below w.heap.size w w') : MaxL w' := by
  obtain ⟨m, hm⟩ := h
  exact ⟨m, (hb.cell (p := ⟨Tryd.lays155_ren.g 1, 0, none⟩) (World.block_lt_of_cell? _ _ hm)).trans hm⟩

set_option maxHeartbeats 400000 in
theorem impl_ScoreOk_any (s : ByteArray) (w : World) (hs : s.size ≤ maxLen) :
    Calls Tryd.prog 10 #[.string s] w fun e w' => e = .returned (.bool (scoreR s).isSome) ∧ Below w.heap.size w w' := by
  have HRS := Lib.hid (fun V => impl_readScore_any s V hs)
  generalize scoreR s = R at HRS ⊢
  go_enter Tryd.func10, Tryd.ntmps10
  go_wp2_with fail
  refine (HRS.out _).mono ?_
  rintro e w1 ⟨A, c, p, dd, ok, rfl, hI, hb, hok, hno⟩
  have hf : R.isSome = ok := by
    cases ok
    · rw [(hno rfl).1]; rfl
    · rw [hok rfl]; rfl
  have HF := Lib.hid hf
  clear hok hno hI hf
  go_wp2_with fail
  go_ret
  exact ⟨ret_bool HF.out.symm, hb.alloc hb.size _⟩

set_option maxRecDepth 100000 in
set_option maxHeartbeats 400000 in
theorem impl_RenameBar_any (s a b : ByteArray) (w : World) (hs : s.size ≤ 1048576) (ha : a.size ≤ 1048576) (hb : b.size ≤ 1048576) (hM : MaxL w) :
    Calls Tryd.prog 15 #[.string s, .string a, .string b] w fun e w' => e = .returned (.tuple #[.string (mkS (renV s a b)), .bool (renOk s a b)]) ∧ Below w.heap.size w w' := by
  have HS := Lib.hid (fun V => impl_ScoreOk_any s V (by unfold maxLen; omega))
  have HM := Lib.hid hM
  clear hM
  cases h1 : (scoreR s).isSome
  · have HV := Lib.hid (show renOk s a b = false ∧ renV s a b = [] by unfold renV renOk; rw [h1]; exact ⟨rfl, rfl⟩)
    rw [h1] at HS
    go_enter Tryd.func15, Tryd.ntmps15
    go_wp2_with (go_at_call 10; refine (HS.out _).mono ?_; rintro e w1 ⟨rfl, hb1⟩)
    go_ret2
    exact ⟨by rw [HV.out.1, HV.out.2]; rfl, hb1⟩
  rw [h1] at HS
  cases h2 : letB a
  · have HV := Lib.hid (show renOk s a b = false ∧ renV s a b = [] by unfold renV renOk; rw [h1, h2]; exact ⟨rfl, rfl⟩)
    go_enter Tryd.func15, Tryd.ntmps15
    go_wp2_with (first | (go_at_call 10; refine (HS.out _).mono ?_; rintro e w1 ⟨rfl, hb1⟩) | (go_at_call 34; refine (impl_isLetter_any _ _ (by assumption)).mono ?_; rintro e w2 ⟨rfl, rfl⟩))
    go_ret2
    exact ⟨by rw [HV.out.1, HV.out.2]; rfl, hb1⟩
  cases h3 : letB b
  · have HV := Lib.hid (show renOk s a b = false ∧ renV s a b = [] by unfold renV renOk; rw [h1, h2, h3]; exact ⟨rfl, rfl⟩)
    go_enter Tryd.func15, Tryd.ntmps15
    go_wp2_with (first | (go_at_call 10; refine (HS.out _).mono ?_; rintro e w1 ⟨rfl, hb1⟩) | (go_at_call 34; refine (impl_isLetter_any _ _ (by assumption)).mono ?_; rintro e w2 ⟨rfl, rfl⟩))
    go_ret2
    exact ⟨by rw [HV.out.1, HV.out.2]; rfl, hb1⟩
  have h60 := scoreR_60 h1
  have HR := Lib.hid (fun (V : World) (hb : Below w.heap.size w V) => by
    obtain ⟨m, hm⟩ := HM.out.below hb
    have hcnt := Lib.countB_le a (by rw [(letB_one h2).1]; exact Nat.le_refl _) s.size s (Nat.le_refl _)
    have := Any.strings_ReplaceAll Tryd.lays155 Tryd.bx155 s a b m V (by omega) hm (by rw [(letB_one h2).1]; exact Nat.le_refl _) (by rw [(letB_one h3).1]; omega)
    rw [(letB_one h2).2, (letB_one h3).2, replAll1] at this
    exact this)
  have HV := Lib.hid (show renOk s a b = true ∧ renV s a b = renL s a b by unfold renV renOk; rw [h1, h2, h3]; exact ⟨rfl, rfl⟩)
  go_enter Tryd.func15, Tryd.ntmps15
  go_wp2_with (first | (go_at_call 10; refine (HS.out _).mono ?_; rintro e w1 ⟨rfl, hb1⟩) | (go_at_call 34; refine (impl_isLetter_any _ _ (by assumption)).mono ?_; rintro e w2 ⟨rfl, rfl⟩) | (go_at_call 35; refine (HR.out _ hb1).mono ?_; rintro e w4 ⟨rfl, hb4⟩))
  go_ret2
  exact ⟨by rw [HV.out.1, HV.out.2]; rfl, hb1.trans (hb4.mono hb1.size)⟩

end Go.Proofs.YthfjfhgeiggljaaDoor

namespace Go.Proofs.YthfjfhgeiggljaaDoor
set_option linter.unusedVariables false
set_option linter.unusedSimpArgs false

theorem loopR_up {c : Nat → Int} {L : Nat} {inner : Option (Nat → Row3)} (hin : ∀ g, inner = some g → ∀ i p d e, g i = some (p, d, e) → d ≤ 3) :
    ∀ (f i : Nat) (acc : List Int) (dep : Int) (p : List Int) (d : Int) (e : Nat), dep ≤ 3 → loopR c L inner f i acc dep = some (p, d, e) → d ≤ 3 := by
  intro f
  induction f with
  | zero => intro i acc dep p d e hd h; unfold loopR at h; cases h; exact hd
  | succ f ih =>
    intro i acc dep p d e hd h
    unfold loopR at h
    split at h
    · cases h; exact hd
    · split at h
      · cases inner with
        | none => cases h
        | some g =>
          simp only at h
          cases hg : g (i + 1) with
          | none => rw [hg] at h; cases h
          | some r =>
            obtain ⟨gp, gd, e1⟩ := r
            rw [hg] at h
            simp only at h
            split at h
            · cases h
            · exact ih _ _ _ _ _ _ (by have := hin g rfl _ _ _ _ hg; omega) h
      · split at h
        · exact ih _ _ _ _ _ _ hd h
        · cases h
theorem rowR_up (c : Nat → Int) (L : Nat) : ∀ (k i : Nat) (p : List Int) (d : Int) (e : Nat), rowR c L k i = some (p, d, e) → d ≤ 3
  | 0, i, p, d, e, h => loopR_up (fun g hg => by cases hg) _ _ _ _ _ _ _ (Int.le_refl _) h
  | k + 1, i, p, d, e, h => loopR_up (fun g hg i p d e h => by injection hg with hg; subst hg; exact rowR_up c L k i p d e h) _ _ _ _ _ _ _ (by omega) h

/-- What a good score is. -/
theorem score_some {s : ByteArray} (h : (scoreR s).isSome = true) : ∃ p d e, scoreR s = some (p, d) ∧ rowR (chr s) s.size 3 0 = some (p, d, e) ∧ ¬ (e < s.size ∨ 500 < p.length) ∧ s.size ≤ 60 := by
  have h60 := scoreR_60 h
  unfold scoreR at h ⊢
  rw [if_pos h60] at h ⊢
  unfold scoreOf at h ⊢
  cases hr : rowR (chr s) s.size 3 0 with
  | none => rw [hr] at h; cases h
  | some r =>
    obtain ⟨p, d, e⟩ := r
    rw [hr] at h
    simp only at h ⊢
    by_cases h4 : e < s.size ∨ 500 < p.length
    · rw [if_pos h4] at h; cases h
    · rw [if_neg h4]; exact ⟨p, d, e, rfl, rfl, h4, h60⟩
theorem dep_ok {s : ByteArray} (h : (scoreR s).isSome = true) : 0 ≤ depV s ∧ depV s ≤ 3 := by
  obtain ⟨p, d, e, h1, h2, _⟩ := score_some h
  have h3 := rowR_up _ _ _ _ _ _ _ h2
  have h4 := (rowR_dep (chr s) s.size 3 0 p d e (Nat.zero_le _) h2).1
  unfold depV
  rw [h1]
  exact ⟨by simpa using h4, h3⟩
theorem play_letters {s : ByteArray} {p : List Int} {d : Int} (h : scoreR s = some (p, d)) : ∀ x ∈ p, (0 ≤ x ∧ x < s.size) ∧ isLet (chr s x.toNat) = true := by
  obtain ⟨p', d', e, h1, h2, _⟩ := score_some (by rw [h]; rfl)
  rw [h] at h1
  injection h1 with h1
  injection h1 with e1 e2
  subst e1 e2
  exact (rowR_pass _ _ 3 0 _ _ _ (Nat.zero_le _) h2).2.2.2.2.2.1

/-! Renamed letters. -/
def SameC (c c' : Nat → Int) : Prop := ∀ i, c' i = c i ∨ (isLet (c i) = true ∧ isLet (c' i) = true)
theorem let_not {x : Int} (h : isLet x = true) : x ≠ 93 ∧ x ≠ 91 ∧ isDig x = false := by
  have := isLet_iff.1 h
  refine ⟨by omega, by omega, ?_⟩
  unfold isDig
  simp; omega
theorem same_sides {c c' : Nat → Int} (h : SameC c c') (i : Nat) : (c' i = 93 ↔ c i = 93) ∧ (c' i = 91 ↔ c i = 91) ∧ isLet (c' i) = isLet (c i) ∧ isDig (c' i) = isDig (c i) ∧ (isDig (c i) = true → c' i = c i) := by
  rcases h i with e | ⟨h1, h2⟩
  · rw [e]; exact ⟨Iff.rfl, Iff.rfl, rfl, rfl, fun _ => rfl⟩
  · obtain ⟨a1, a2, a3⟩ := let_not h1
    obtain ⟨b1, b2, b3⟩ := let_not h2
    exact ⟨⟨fun h => absurd h b1, fun h => absurd h a1⟩, ⟨fun h => absurd h b2, fun h => absurd h a2⟩, by rw [h1, h2], by rw [a3, b3], fun h => by rw [a3] at h; cases h⟩
theorem loopR_same {c c' : Nat → Int} (h : SameC c c') (L : Nat) (inner : Option (Nat → Row3)) : ∀ (f i : Nat) (acc : List Int) (dep : Int), loopR c' L inner f i acc dep = loopR c L inner f i acc dep := by
  intro f
  induction f with
  | zero => intro i acc dep; rfl
  | succ f ih =>
    intro i acc dep
    obtain ⟨h1, h2, h3, _, _⟩ := same_sides h i
    unfold loopR
    simp only [h1, h2, h3, ih]
    cases inner with
    | none => rfl
    | some g =>
      simp only
      cases g (i + 1) with
      | none => rfl
      | some r =>
        obtain ⟨gp, gd, e1⟩ := r
        obtain ⟨_, _, _, h4, h5⟩ := same_sides h (e1 + 1)
        simp only [h4]
        cases hd : isDig (c (e1 + 1))
        · simp
        · rw [h5 hd]
theorem rowR_same {c c' : Nat → Int} (h : SameC c c') (L : Nat) : ∀ k, rowR c' L k = rowR c L k
  | 0 => funext fun i => loopR_same h L none _ _ _ _
  | k + 1 => funext fun i => by
    show loopR c' L (some (rowR c' L k)) _ _ _ _ = loopR c L (some (rowR c L k)) _ _ _ _
    rw [rowR_same h L k]
    exact loopR_same h L _ _ _ _ _
theorem chr_mk (T : List UInt8) : chr (mkS T) = fun k => ((T.getD k 0).toNat : Int) := by
  funext k
  by_cases h : k < (mkS T).size
  · rw [chr_getD _ _ h]; rfl
  · unfold chr
    rw [dif_neg h, List.getD_eq_getElem?_getD, List.getElem?_eq_none (by rw [mkS_size] at h; omega)]
    rfl
theorem chr_text (s : ByteArray) : chr s = fun k => ((s.data.toList.getD k 0).toNat : Int) := by
  funext k
  by_cases h : k < s.size
  · exact chr_getD _ _ h
  · unfold chr
    rw [dif_neg h, List.getD_eq_getElem?_getD, List.getElem?_eq_none (by simpa using h)]
    rfl
def renC (a b : ByteArray) (c : UInt8) : UInt8 := if c = bytD a 0 then bytD b 0 else c
theorem letB_let {a : ByteArray} (h : letB a = true) : isLet ((bytD a 0).toNat : Int) = true := by
  have h1 := letB_one h
  unfold letB at h
  have h := of_decide_eq_true h
  rw [isLet_iff]
  have : chr a 0 = ((bytD a 0).toNat : Int) := by
    rw [chr_text]; simp only; rw [h1.2]; rfl
  rw [← this]; exact h.2
theorem renL_getD (s a b : ByteArray) (k : Nat) (h : k < s.size) : (renL s a b).getD k 0 = renC a b (s.data.toList.getD k 0) := by
  unfold renL renC
  rw [List.getD_eq_getElem?_getD, List.getD_eq_getElem?_getD, List.getElem?_map, List.getElem?_eq_getElem (by simpa using h)]
  rfl
theorem ren_same (s a b : ByteArray) (ha : letB a = true) (hb : letB b = true) : SameC (chr s) (chr (mkS (renL s a b))) := by
  intro k
  rw [chr_mk, chr_text]
  simp only
  by_cases hk : k < s.size
  · rw [renL_getD s a b k hk]
    unfold renC
    by_cases hc : s.data.toList.getD k 0 = bytD a 0
    · rw [if_pos hc, hc]; exact .inr ⟨letB_let ha, letB_let hb⟩
    · rw [if_neg hc]; exact .inl rfl
  · left
    rw [List.getD_eq_getElem?_getD, List.getElem?_eq_none (by rw [renL_len]; omega), List.getD_eq_getElem?_getD, List.getElem?_eq_none (by simpa using hk)]
theorem ren_score (s a b : ByteArray) (ha : letB a = true) (hb : letB b = true) : scoreR (mkS (renL s a b)) = scoreR s := by
  unfold scoreR
  rw [mkS_size, renL_len]
  unfold scoreOf
  rw [rowR_same (ren_same s a b ha hb)]
theorem ren_play {s : ByteArray} (h : (scoreR s).isSome = true) (a b : ByteArray) (ha : letB a = true) (hb : letB b = true) : plaV (mkS (renL s a b)) = (plaV s).map (renC a b) := by
  obtain ⟨p, d, e, h1, _⟩ := score_some h
  have hp := play_letters h1
  unfold plaV
  rw [ren_score s a b ha hb, h1]
  simp only
  unfold letL
  rw [List.map_map]
  refine List.map_congr_left (fun x hx => ?_)
  have hx := (hp x hx).1
  exact renL_getD s a b x.toNat (by omega)

/-! Runs folded. -/
def AllLet (s : ByteArray) : Prop := ∀ i, i < s.size → isLet (chr s i) = true
theorem runF_spec (s : ByteArray) (i : Nat) : ∀ f r, 1 ≤ r → r ≤ 9 → i + r ≤ s.size → (∀ t, t < r → chr s (i + t) = chr s i) →
    1 ≤ runF s i f r ∧ runF s i f r ≤ 9 ∧ i + runF s i f r ≤ s.size ∧ ∀ t, t < runF s i f r → chr s (i + t) = chr s i := by
  intro f
  induction f with
  | zero => intro r h1 h2 h3 h4; exact ⟨h1, h2, h3, h4⟩
  | succ f ih =>
    intro r h1 h2 h3 h4
    cases hc : contB s i r
    · rw [runF_stop hc]; exact ⟨h1, h2, h3, h4⟩
    · rw [runF_go hc]
      unfold contB at hc
      have hc := of_decide_eq_true hc
      refine ih (r + 1) (by omega) (by omega) (by omega) (fun t ht => ?_)
      by_cases e : t = r
      · subst e; exact hc.2.2
      · exact h4 t (by omega)
theorem runN_spec (s : ByteArray) (i : Nat) (h : i < s.size) : 1 ≤ runN s i ∧ runN s i ≤ 9 ∧ i + runN s i ≤ s.size ∧ ∀ t, t < runN s i → chr s (i + t) = chr s i :=
  runF_spec s i 9 1 (Nat.le_refl _) (by omega) (by omega) (fun t ht => by rw [show t = 0 by omega]; rfl)
theorem foldT_len (s : ByteArray) : ∀ f i, (foldT s f i).length ≤ 2 * (s.size - i) := by
  intro f
  induction f with
  | zero => intro i; simp [foldT]
  | succ f ih =>
    intro i
    by_cases h : i < s.size
    · rw [foldT_go h, List.length_append]
      obtain ⟨h1, h2, h3, _⟩ := runN_spec s i h
      have := ih (i + runN s i)
      have hp : (pieT (bytD s i) (runN s i)).length ≤ 2 * runN s i := by
        by_cases e : runN s i = 1
        · rw [e]; simp [pieT]
        · have := pieT_len (bytD s i) (runN s i); omega
      omega
    · rw [foldT_end h]; simp
theorem drop_cons {T R : List UInt8} {i : Nat} {x : UInt8} (h : T.drop i = x :: R) : i < T.length ∧ T.getD i 0 = x ∧ T.drop (i + 1) = R := by
  have hl : i < T.length := by
    apply Nat.lt_of_not_le
    intro hn
    rw [List.drop_eq_nil_of_le hn] at h
    cases h
  rw [List.drop_eq_getElem_cons hl] at h
  injection h with h1 h2
  exact ⟨hl, by rw [List.getD_eq_getElem?_getD, List.getElem?_eq_getElem hl]; exact h1, h2⟩
theorem bytD_chr (s : ByteArray) (j : Nat) (h : j < s.size) : ((bytD s j).toNat : Int) = chr s j := by
  unfold bytD; rw [dif_pos h, chr_at h]
theorem text_run (s : ByteArray) (j : Nat) (h : j < s.size) : ∀ r, j + r ≤ s.size → (∀ t, t < r → chr s (j + t) = chr s j) → s.data.toList.drop j = List.replicate r (bytD s j) ++ s.data.toList.drop (j + r) := by
  intro r
  induction r with
  | zero => intro _ _; simp
  | succ r ih =>
    intro hr ht
    rw [ih (by omega) (fun t h => ht t (by omega)), List.replicate_succ', List.append_assoc]
    congr 1
    have hl : j + r < s.data.toList.length := by simp; omega
    rw [List.drop_eq_getElem_cons hl]
    have h1 := ht r (by omega)
    rw [← bytD_chr s (j + r) (by omega), ← bytD_chr s j h] at h1
    have h2 : bytD s (j + r) = bytD s j := UInt8.toNat_inj.1 (by omega)
    rw [← h2]
    unfold bytD
    rw [dif_pos (show j + r < s.size by omega)]
    rfl
def txt (T : List UInt8) (k : Nat) : Int := ((T.getD k 0).toNat : Int)
theorem rep_map (T : List UInt8) (k : Nat) (r : Nat) : (rep [((k : Nat) : Int)] r).map (fun x => T.getD x.toNat 0) = List.replicate r (T.getD k 0) := by
  induction r with
  | zero => rfl
  | succ r ih => rw [rep, List.map_append, ih, List.replicate_succ']; rfl
/-- A row within brackets, that is one letter. -/
theorem row_one (T : List UInt8) (i : Nat) (h1 : i + 1 < T.length) (hl : isLet (txt T i) = true) (h2 : txt T (i + 1) = 93) : rowR (txt T) T.length 2 i = some ([(i : Int)], 1, i + 1) := by
  obtain ⟨a1, a2, _⟩ := let_not hl
  obtain ⟨f, hf⟩ : ∃ f, T.length - i = f + 1 + 1 := ⟨T.length - i - 2, by omega⟩
  show loopR (txt T) T.length (some (rowR (txt T) T.length 1)) (T.length - i) i [] (3 - ((1 : Nat) + 1)) = _
  rw [hf]
  unfold loopR
  rw [if_neg (by omega), if_neg a2, if_pos hl]
  unfold loopR
  rw [if_pos (.inr h2)]
  rfl
theorem digT_val (r : Nat) (h : r < 10) : ((UInt8.ofNat (48 + r)).toNat : Int) = 48 + r := by rw [UInt8.toNat_ofNat']; omega
theorem fold_loop (s : ByteArray) (hs : AllLet s) (T : List UInt8) : ∀ (f i j F : Nat) (acc : List Int) (dep : Int), T.drop i = foldT s f j → i ≤ T.length → j ≤ s.size → s.size - j < f → T.length - i ≤ F → dep ≤ 1 →
    ∃ (acc' : List Int) (dep' : Int), loopR (txt T) T.length (some (rowR (txt T) T.length 2)) F i acc dep = some (acc ++ acc', dep', T.length) ∧ dep' ≤ 1 ∧ acc'.map (fun x => T.getD x.toNat 0) = s.data.toList.drop j := by
  intro f
  induction f with
  | zero => intro i j F acc dep _ _ _ h; omega
  | succ f ih =>
    intro i j F acc dep hT hi hj hf hF hd
    by_cases h : j < s.size
    · rw [foldT_go h] at hT
      obtain ⟨r1, r9, rs, rt⟩ := runN_spec s j h
      have hrun := text_run s j h _ rs rt
      have hlet := hs j h
      rw [← bytD_chr s j h] at hlet
      generalize runN s j = r at *
      by_cases e : r = 1
      · subst e
        obtain ⟨hlt, hg, hdr⟩ := drop_cons (show T.drop i = bytD s j :: foldT s f (j + 1) from hT)
        have hx : txt T i = ((bytD s j).toNat : Int) := by unfold txt; rw [hg]
        obtain ⟨a1, a2, _⟩ := let_not hlet
        obtain ⟨F', rfl⟩ : ∃ F', F = F' + 1 := ⟨F - 1, by omega⟩
        obtain ⟨acc', dep', q1, q2, q3⟩ := ih (i + 1) (j + 1) F' (acc ++ [(i : Int)]) dep hdr (by omega) (by omega) (by omega) (by omega) hd
        refine ⟨(i : Int) :: acc', dep', ?_, q2, ?_⟩
        · unfold loopR
          rw [if_neg (by rw [hx]; omega), if_neg (by rw [hx]; exact a2), if_pos (by rw [hx]; exact hlet), q1, List.append_assoc]
          rfl
        · rw [hrun, List.map_cons, q3, show ((i : Int)).toNat = i from rfl, hg]; rfl
      · rw [pieT_more e] at hT
        obtain ⟨l0, g0, d0⟩ := drop_cons (show T.drop i = 91 :: bytD s j :: 93 :: UInt8.ofNat (48 + r) :: foldT s f (j + r) from hT)
        obtain ⟨l1, g1, d1⟩ := drop_cons d0
        obtain ⟨l2, g2, d2⟩ := drop_cons d1
        obtain ⟨l3, g3, d3⟩ := drop_cons d2
        have x0 : txt T i = 91 := by unfold txt; rw [g0]; rfl
        have x1 : txt T (i + 1) = ((bytD s j).toNat : Int) := by unfold txt; rw [g1]
        have x2 : txt T (i + 1 + 1) = 93 := by unfold txt; rw [g2]; rfl
        have x3 : txt T (i + 1 + 1 + 1) = 48 + r := by unfold txt; rw [g3]; exact digT_val r (by omega)
        have hrow := row_one T (i + 1) l2 (by rw [x1]; exact hlet) x2
        obtain ⟨F', rfl⟩ : ∃ F', F = F' + 1 := ⟨F - 1, by omega⟩
        obtain ⟨acc', dep', q1, q2, q3⟩ := ih (i + 1 + 1 + 1 + 1) (j + r) F' (acc ++ rep [((i + 1 : Nat) : Int)] r) (max dep 1) d3 (by omega) (by omega) (by omega) (by omega) (by omega)
        refine ⟨rep [((i + 1 : Nat) : Int)] r ++ acc', dep', ?_, q2, ?_⟩
        · unfold loopR
          rw [if_neg (by rw [x0]; omega), if_pos x0]
          simp only [hrow]
          rw [if_neg (by
            rw [x3]
            intro hh
            rcases hh with hh | hh | hh
            · cases hh
            · omega
            · have := isDig_iff.2 (show (50 : Int) ≤ 48 + r ∧ 48 + (r : Int) ≤ 57 by omega)
              rw [this] at hh; cases hh)]
          rw [x3, show ((48 : Int) + r - 48).toNat = r by omega, ← List.append_assoc]
          exact q1
        · rw [hrun, List.map_append, rep_map, q3, g1]
    · rw [foldT_end h] at hT
      have hL : T.length ≤ i := by
        apply Nat.le_of_not_lt
        intro hn
        rw [List.drop_eq_getElem_cons hn] at hT
        cases hT
      have hiL : i = T.length := by omega
      refine ⟨[], dep, ?_, hd, by rw [List.drop_eq_nil_of_le (by simp; omega)]; rfl⟩
      subst hiL
      cases F with
      | zero => unfold loopR; rw [List.append_nil]
      | succ F => unfold loopR; rw [if_pos (.inl (Nat.le_refl _)), List.append_nil]
theorem fold_row (s : ByteArray) (hs : AllLet s) (h5 : s.size ≤ 500) : ∃ p d, rowR (chr (mkS (foldT s 501 0))) (mkS (foldT s 501 0)).size 3 0 = some (p, d, (mkS (foldT s 501 0)).size) ∧ d ≤ 1 ∧ letL (mkS (foldT s 501 0)) p = s.data.toList := by
  rw [mkS_size, chr_mk]
  generalize hT : foldT s 501 0 = T
  obtain ⟨p, d, q1, q2, q3⟩ := fold_loop s hs T 501 0 0 (T.length - 0) [] 0 (by rw [hT]; rfl) (Nat.zero_le _) (Nat.zero_le _) (by omega) (Nat.le_refl _) (by omega)
  exact ⟨p, d, q1, q2, q3⟩
theorem fold_score {s : ByteArray} (hs : AllLet s) (h5 : s.size ≤ 500) {p : List Int} {d : Int} (h : scoreR (mkS (foldT s 501 0)) = some (p, d)) : d ≤ 1 := by
  obtain ⟨p', d', e, h1, h2, _⟩ := score_some (by rw [h]; rfl)
  rw [h] at h1
  injection h1 with h1
  injection h1 with e1 e2
  subst e1 e2
  obtain ⟨p2, d2, h3, h4, _⟩ := fold_row s hs h5
  rw [h2] at h3
  injection h3 with h3
  injection h3 with _ h3
  injection h3 with h3 _
  omega
theorem fold_dep {s : ByteArray} (hs : AllLet s) (h : foldV s ≠ []) : plaV (mkS (foldV s)) = s.data.toList ∧ depV (mkS (foldV s)) ≤ 1 := by
  unfold foldV at h ⊢
  by_cases h5 : s.size ≤ 500
  · rw [if_pos h5] at h ⊢
    unfold foldW at h ⊢
    by_cases hp : plaV (mkS (foldT s 501 0)) = s.data.toList
    · rw [if_pos hp]
      refine ⟨hp, ?_⟩
      unfold depV
      cases hr : scoreR (mkS (foldT s 501 0)) with
      | none => decide
      | some r => exact fold_score hs h5 hr
    · rw [if_neg hp] at h; exact absurd rfl h
  · rw [if_neg h5] at h; exact absurd rfl h
theorem fold_some {s : ByteArray} (hs : AllLet s) (h0 : 0 < s.size) (h30 : s.size ≤ 30) : foldV s ≠ [] := by
  have hlen := foldT_len s 501 0
  obtain ⟨p, d, h1, h2, h3⟩ := fold_row s hs (by omega)
  have hpl : p.length = s.size := by
    have := congrArg List.length h3
    rw [letL_len] at this
    simpa using this
  have hsc : scoreR (mkS (foldT s 501 0)) = some (p, d) := by
    unfold scoreR
    rw [if_pos (by rw [mkS_size]; omega)]
    unfold scoreOf
    rw [h1]
    simp only
    rw [if_neg (by omega)]
  have hp : plaV (mkS (foldT s 501 0)) = s.data.toList := by unfold plaV; rw [hsc]; exact h3
  unfold foldV
  rw [if_pos (by omega)]
  unfold foldW
  rw [if_pos hp]
  intro hT
  rw [hT] at hp
  have hz : plaV (mkS []) = [] := by decide +kernel
  rw [hz] at hp
  have := congrArg List.length hp
  simp at this
  omega
theorem play_all {s : ByteArray} (h : (scoreR s).isSome = true) : AllLet (mkS (plaV s)) ∧ (plaV s).length ≤ 500 ∧ ((plaV s).length : Int) = cntP s := by
  obtain ⟨p, d, e, h1, _, h3, _⟩ := score_some h
  have hp := play_letters h1
  have hv : plaV s = letL s p := by unfold plaV; rw [h1]
  refine ⟨fun i hi => ?_, by rw [hv, letL_len]; omega, by rw [hv, letL_len]; unfold cntP; rw [h1]⟩
  rw [chr_mk]
  simp only
  rw [mkS_size, hv, letL_len] at hi
  rw [hv]
  unfold letL
  rw [List.getD_eq_getElem?_getD, List.getElem?_map, List.getElem?_eq_getElem hi]
  have := hp _ (List.getElem_mem hi)
  have h2 := this.2
  rw [chr_text] at h2
  exact h2
theorem place_at {s : ByteArray} (h : (scoreR s).isSome = true) {i : Nat} (hi : i < (plaV s).length) : ∃ k : Nat, plcV s i = k ∧ k < s.size ∧ chr s k = (((plaV s).getD i 0).toNat : Int) := by
  obtain ⟨p, d, e, h1, _⟩ := score_some h
  have hp := play_letters h1
  have hv : plaV s = letL s p := by unfold plaV; rw [h1]
  rw [hv, letL_len] at hi
  have hpi := (hp _ (List.getElem_mem hi)).1
  have hg : p.getD i 0 = p[i] := by rw [List.getD_eq_getElem?_getD, List.getElem?_eq_getElem hi]; rfl
  refine ⟨(p[i]).toNat, ?_, by omega, ?_⟩
  · unfold plcV
    rw [h1]
    simp only
    rw [if_pos (by unfold inB; simp; omega), Int.toNat_natCast, hg]
    omega
  · rw [hv, chr_text]
    unfold letL
    rw [List.getD_eq_getElem?_getD (l := List.map _ _), List.getElem?_map, List.getElem?_eq_getElem hi]
    rfl
theorem place_out {s : ByteArray} (h : (scoreR s).isSome = true) : plcV s ((plaV s).length : Int) = -1 := by
  obtain ⟨p, d, e, h1, _⟩ := score_some h
  have hv : plaV s = letL s p := by unfold plaV; rw [h1]
  unfold plcV
  rw [h1, hv, letL_len]
  simp only
  rw [if_neg (by unfold inB; simp; omega)]
theorem bar_in {s : ByteArray} (h : (scoreR s).isSome = true) (c : UInt8) (hc : c ∈ barV s) : c ∈ plaV s := by
  obtain ⟨p, d, e, h1, _⟩ := score_some h
  unfold barV at hc
  unfold plaV
  rw [h1] at hc ⊢
  exact (scoreR_mem h1 c).2 hc
theorem bar_asc (s : ByteArray) {i : Nat} (h0 : 0 < i) (h : i < (barV s).length) : ((barV s).getD (i - 1) 0).toNat < ((barV s).getD i 0).toNat := by
  have hp : (barV s).Pairwise (fun a b => a.toNat < b.toNat) := by
    unfold barV
    cases scoreR s with
    | none => exact .nil
    | some r => exact abcB_asc.filter _
  rw [List.getD_eq_getElem?_getD, List.getD_eq_getElem?_getD, List.getElem?_eq_getElem h, List.getElem?_eq_getElem (show i - 1 < (barV s).length by omega)]
  exact List.pairwise_iff_getElem.1 hp (i - 1) i (by omega) h (by omega)

end Go.Proofs.YthfjfhgeiggljaaDoor

namespace Go.Proofs.YthfjfhgeiggljaaDoor
open Go.RowKit
set_option linter.unusedVariables false
set_option linter.unusedSimpArgs false

/-- A block of short texts. -/
def Txts (w : World) (b n : Nat) : Prop := b < w.heap.size ∧ ∀ i, i < n → ∃ u : ByteArray, w.cell? ⟨b, i, none⟩ = some (.string u) ∧ u.size ≤ 2
theorem Txts.frm {w w' : World} {b n : Nat} {S : Nat → Prop} (h : Txts w b n) (hf : Frm S w w') (hS : ¬ S b) : Txts w' b n :=
  ⟨Nat.lt_of_lt_of_le h.1 hf.size, fun i hi => by obtain ⟨u, h1, h2⟩ := h.2 i hi; exact ⟨u, (hf.cell h.1 hS).trans h1, h2⟩⟩

theorem txts_new (w : World) (us : List ByteArray) (t : TypeId) (h : ∀ u ∈ us, u.size ≤ 2) : Txts (w.alloc (.cells (us.map Value.string).toArray t)) w.heap.size us.length := by
  refine ⟨by rw [World.size_alloc]; exact Nat.lt_succ_self _, fun i hi => ⟨us[i], ?_, h _ (List.getElem_mem hi)⟩⟩
  rw [cell_of_row _ _ _ _ _ _ (heap_alloc_new w _)]
  simp [List.getElem?_eq_getElem hi]
theorem Cur.alloc {w : World} {g : Nat} {A : Option Addr} {cap : Nat} {xs : List Int} (h : Cur w g A cap xs) (o : Obj) : Cur (w.alloc o) g A cap xs :=
  h.frm (Frm.pure ((Below.refl w.heap.size w).alloc (Nat.le_refl _) o) (fun _ => False)) (fun _ h => h.elim)

set_option maxRecDepth 100000 in
set_option maxHeartbeats 1000000 in
theorem spec_l01Str_any (g b c n : Nat) (A : Option Addr) (cap : Nat) (xs : List Int) (w : World) (hC : Cur w g A cap xs) (hT : Txts w b n) (hbg : b ≠ g) (h1 : 1 ≤ n) (h2 : n ≤ 256) :
    Calls Tryd.prog 51 #[.pointer (some ⟨g, 0, none⟩), .slice (some ⟨b, 0, none⟩) n c] w fun e w' => (∃ u : ByteArray, e = .returned (.string u) ∧ u.size ≤ 2) ∧ Cur w' g A cap xs ∧ Frm (fun c => c = g) w w' := by
  have HB := Lib.hid (spec_l01Below_any g A cap xs n w hC h1 h2)
  have HT := Lib.hid (fun V (hf : Frm (fun c => c = g) w V) => hT.frm hf hbg)
  clear hC hT
  go_enter Tryd.func51, Tryd.ntmps51
  go_wp2_with fail
  refine HB.out.mono ?_
  rintro e w1 ⟨⟨x, rfl, hx⟩, hc1, hf1⟩
  obtain ⟨u, hcell, hu⟩ := (HT.out w1 hf1).2 x hx
  go_wp2_with fail
  go_ret
  exact ⟨⟨u, rfl, hu⟩, hc1, hf1⟩

set_option maxRecDepth 100000 in
set_option maxHeartbeats 4000000 in
theorem spec_l26Draw_step (g : Nat) (A : Option Addr) (cap : Nat) (xs : List Int) (k d : Nat) (w : World) (hd : d + k = 3) (hC : Cur w g A cap xs)
    (hih : ∀ k', k = k' + 1 → ∀ V, Cur V g A cap xs → Calls Tryd.prog 25 #[.pointer (some ⟨g, 0, none⟩), .int .i64 ((d : Int) + 1)] V fun e w' => (∃ u : ByteArray, e = .returned (.string u) ∧ u.size ≤ 6 + 12 * k') ∧ Cur w' g A cap xs ∧ Frm (fun c => c = g) V w') :
    Calls Tryd.prog 25 #[.pointer (some ⟨g, 0, none⟩), .int .i64 d] w fun e w' => (∃ u : ByteArray, e = .returned (.string u) ∧ u.size ≤ 6 + 12 * k) ∧ Cur w' g A cap xs ∧ Frm (fun c => c = g) w w' := by
  have HIH := Lib.hid hih
  have HB := Lib.hid (spec_l01Below_any g A cap xs 4 w hC (by decide) (by decide))
  clear hih hC
  go_enter Tryd.func25, Tryd.ntmps25
  go_wp2_with fail
  refine HB.out.mono ?_
  rintro e w1 ⟨⟨x, rfl, hx⟩, hc1, hf1⟩
  have HC1 := Lib.hid hc1
  have HF1 := Lib.hid hf1
  clear hc1 hf1
  go_wp2_with fail
  go_loopw [5, 6] (fun t p wr => ∃ (j : Nat) (u : ByteArray), p = .int .i64 j ∧ j ≤ 3 ∧ t = .string u ∧ u.size ≤ 2 * (3 - j) ∧ Cur wr g A cap xs ∧ Frm (fun c => c = g) w wr) (fun _ p _ => (intOf p).toNat)
  case atStart => exact ⟨x, _, rfl, by omega, rfl, Nat.zero_le _, HC1.out, HF1.out⟩
  case round =>
    obtain ⟨j, u, rfl, hj, rfl, hu, hcur, hfrm⟩ := hrel
    have HCU := Lib.hid hcur
    have HFR := Lib.hid hfrm
    have HU := Lib.hid hu
    clear hcur hfrm hu
    by_cases hlt : 0 < j
    · obtain ⟨j, rfl⟩ : ∃ j', j = j' + 1 := ⟨j - 1, by omega⟩
      have hlt' : (0 : Int) < ((j + 1 : Nat) : Int) := by omega
      have hu6 : u.size ≤ 6 := by have := HU.out; omega
      go_wp2_with fail
      refine (spec_l01Str_any g wr.heap.size 5 5 A cap xs _ (HCU.out.alloc _) (txts_new wr [⟨#[97]⟩, ⟨#[98]⟩, ⟨#[99]⟩, ⟨#[97, 98]⟩, ⟨#[97, 97]⟩] 9 (by decide)) (by have := HCU.out.2.1; omega) (by decide) (by decide)).mono ?_
      rintro e w2 ⟨⟨v, rfl, hv⟩, hc2, hf2⟩
      have HC2 := Lib.hid hc2
      have HF2 := Lib.hid ((HFR.out.alloc _).trans hf2)
      have HV := Lib.hid (show (u ++ v).size ≤ 2 * (3 - j) by rw [ByteArray.size_append]; have := HU.out; omega)
      clear hc2 hf2
      go_wp2_with fail
      go_roundw
      case rel => exact ⟨j, _, by go_num, by omega, rfl, HV.out, HC2.out, HF2.out⟩
      case measure => simp [intOf]
    · have hj0 : j = 0 := by omega
      subst hj0
      have hu6 : u.size ≤ 6 := by have := HU.out; omega
      by_cases hd3 : (d : Int) < 3
      · obtain ⟨k, rfl⟩ : ∃ k', k = k' + 1 := ⟨k - 1, by omega⟩
        go_wp2_with fail
        refine (spec_l01Once_any g A cap xs 2 _ HCU.out (by decide) (by decide)).mono ?_
        rintro e w2 ⟨⟨b, rfl⟩, hc2, hf2⟩
        have HC2 := Lib.hid hc2
        have HF2 := Lib.hid (HFR.out.trans hf2)
        clear hc2 hf2
        cases b
        · go_wp2_with fail
          go_ret
          exact ⟨⟨u, rfl, by omega⟩, HC2.out, HF2.out⟩
        · go_wp2_with fail
          refine (HIH.out k rfl _ HC2.out).mono ?_
          rintro e w3 ⟨⟨v, rfl, hv⟩, hc3, hf3⟩
          have HC3 := Lib.hid hc3
          have HF3 := Lib.hid (HF2.out.trans hf3)
          have hv42 : v.size ≤ 42 := by omega
          clear hc3 hf3
          go_wp2_with fail
          · obtain ⟨U1, hU1⟩ : ∃ U1 : ByteArray, u ++ ⟨#[91]⟩ ++ v ++ ⟨#[93]⟩ = U1 := ⟨_, rfl⟩
            have HU1 := Lib.hid (show U1.size = u.size + v.size + 2 by rw [← hU1]; simp only [ByteArray.size_append]; rw [show (⟨#[91]⟩ : ByteArray).size = 1 from rfl, show (⟨#[93]⟩ : ByteArray).size = 1 from rfl]; omega)
            have hu1 : U1.size ≤ 50 := by have := HU1.out; omega
            simp only [hU1]
            clear hU1
            refine (spec_l01Below_any g A cap xs 4 _ HC3.out (by decide) (by decide)).mono ?_
            rintro e w4 ⟨⟨y, rfl, hy⟩, hc4, hf4⟩
            have HC4 := Lib.hid hc4
            have HF4 := Lib.hid (HF3.out.trans hf4)
            obtain ⟨r, hr⟩ : ∃ r, 2 + y = r := ⟨_, rfl⟩
            have hwr : IntKind.i64.wrap (2 + (y : Int)) = (r : Int) := by rw [← hr, Int.natCast_add]; exact i64w (by omega)
            have hr10 : r < 10 := by omega
            clear hc4 hf4 hr
            go_wp2_with fail
            refine (spec_FormatInt_dig r hr10 _).mono ?_
            rintro e w5 ⟨rfl, hb5⟩
            have HC5 := Lib.hid (HC4.out.frm (Frm.pure hb5 (fun _ => False)) (fun _ h => h.elim))
            have HF5 := Lib.hid (HF4.out.trans (Frm.pure hb5 _))
            have hdz : (mkS (digT r)).size = 1 := by rw [mkS_size]; rfl
            generalize mkS (digT r) = D at hdz ⊢
            clear hb5
            go_wp2_with fail
            refine (spec_l01Str_any g w5.heap.size 3 3 A cap xs _ (HC5.out.alloc _) (txts_new w5 [⟨#[]⟩, ⟨#[100]⟩, ⟨#[101]⟩] 9 (by decide)) (by have := HC5.out.2.1; omega) (by decide) (by decide)).mono ?_
            rintro e w6 ⟨⟨z, rfl, hz⟩, hc6, hf6⟩
            have HC6 := Lib.hid hc6
            have HF6 := Lib.hid ((HF5.out.alloc _).trans hf6)
            have HZ := Lib.hid (show (U1 ++ D ++ z).size ≤ 6 + 12 * (k + 1) by simp only [ByteArray.size_append]; have := HU1.out; omega)
            clear hc6 hf6
            go_wp2_with fail
            go_ret
            exact ⟨⟨_, rfl, HZ.out⟩, HC6.out, HF6.out⟩
          · go_ret
            exact ⟨⟨u, rfl, by omega⟩, HC3.out, HF3.out⟩
      · go_wp2_with fail
        go_ret
        exact ⟨⟨u, rfl, by omega⟩, HCU.out, HFR.out⟩
theorem spec_l26Draw_any (g : Nat) (A : Option Addr) (cap : Nat) (xs : List Int) : ∀ (k d : Nat) (w : World), d + k = 3 → Cur w g A cap xs →
    Calls Tryd.prog 25 #[.pointer (some ⟨g, 0, none⟩), .int .i64 d] w fun e w' => (∃ u : ByteArray, e = .returned (.string u) ∧ u.size ≤ 6 + 12 * k) ∧ Cur w' g A cap xs ∧ Frm (fun c => c = g) w w' := by
  intro k
  induction k with
  | zero => exact fun d w hd hC => spec_l26Draw_step g A cap xs 0 d w hd hC (fun k' h => by omega)
  | succ k ih => exact fun d w hd hC => spec_l26Draw_step g A cap xs (k + 1) d w hd hC (fun k' h V hV => by
      have hk : k' = k := by omega
      subst hk
      exact ih (d + 1) V (by omega) hV)

set_option maxHeartbeats 1000000 in
theorem spec_MakeScore_any (A : Option Addr) (cap : Nat) (xs : List Int) (w : World) (hB : Byt w w.heap.size A xs) :
    Calls Tryd.prog 6 #[.slice A xs.length cap, .int .i64 0] w fun e w' => (∃ u : ByteArray, e = .returned (.string u) ∧ u.size ≤ 42) ∧ Below w.heap.size w w' := by
  have HN := Lib.hid (spec_l31New_any A cap xs 0 w hB (by omega))
  clear hB
  go_enter Tryd.func6, Tryd.ntmps6
  go_wp2_with fail
  refine HN.out.mono ?_
  rintro e w1 ⟨g, rfl, hg, hc, hb⟩
  have HC := Lib.hid hc
  have HB := Lib.hid hb
  clear hc hb
  go_wp2_with fail
  refine (spec_l26Draw_any g A cap xs 3 0 _ rfl HC.out).mono ?_
  rintro e w2 ⟨⟨u, rfl, hu⟩, hc2, hf2⟩
  have HB2 := Lib.hid (HB.out.trans (hf2.below (fun c hc => by subst hc; exact hg) HB.out.size))
  clear hc2 hf2
  go_wp2_with fail
  go_ret
  exact ⟨⟨u, rfl, hu⟩, HB2.out⟩

end Go.Proofs.YthfjfhgeiggljaaDoor

