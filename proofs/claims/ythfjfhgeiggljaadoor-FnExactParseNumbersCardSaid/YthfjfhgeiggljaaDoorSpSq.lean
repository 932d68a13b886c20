/-
  strings.SplitSeq at a comma: the pieces come one by one.
-/
import Derived.RangeFuncBound
import Derived.RangeFuncCalls
import Derived.RangeFuncLeaves
import Derived.Shelf.Abstract
import Derived.Shelf.RegionOpen
import Derived.WalkKit
import Derived.OwnWalkIn
import Derived.TacticsInMore
import Derived.LoopNIn
import Derived.LoopIn
import Derived.Shelf.Strings.Search3
import Derived.Test.YthfjfhgeiggljaaDoorShP
import Derived.Test.YthfjfhgeiggljaaDoorSplA
namespace Go.Proofs.YthfjfhgeiggljaaDoor
open Go.RowKit Go.Shelf
set_option linter.unusedVariables false
set_option linter.unusedSimpArgs false

theorem spl_none : ∀ (l cur : List UInt8), Lib.indexByte l 44 = -1 → splF cur l = [cur ++ l]
  | [], cur, _ => by simp [splF]
  | c :: r, cur, h => by
    unfold Lib.indexByte at h
    by_cases hc : c = 44
    · subst hc; simp at h
    · have hb : (c == 44) = false := by simpa using hc
      rw [hb] at h
      simp only [Bool.false_eq_true, if_false] at h
      have : Lib.indexByte r 44 = -1 := by
        by_cases h2 : (Lib.indexByte r 44 == -1) = true
        · simpa using h2
        · rw [if_neg h2] at h; have := Lib.indexByte_ge r 44; omega
      rw [splF_other _ _ hc, spl_none r _ this]
      simp
theorem spl_some : ∀ (l cur : List UInt8) (o : Nat), Lib.indexByte l 44 = o → o < l.length ∧ splF cur l = (cur ++ l.take o) :: splF [] (l.drop (o + 1))
  | [], cur, o, h => by unfold Lib.indexByte at h; omega
  | c :: r, cur, o, h => by
    unfold Lib.indexByte at h
    by_cases hc : c = 44
    · subst hc
      simp at h
      have : o = 0 := by omega
      subst this
      exact ⟨by simp, by rw [splF_comma]; simp⟩
    · have hb : (c == 44) = false := by simpa using hc
      rw [hb] at h
      simp only [Bool.false_eq_true, if_false] at h
      by_cases h2 : (Lib.indexByte r 44 == -1) = true
      · rw [if_pos h2] at h; omega
      · rw [if_neg h2] at h
        have h3 := Lib.indexByte_ge r 44
        have h4 : Lib.indexByte r 44 ≠ -1 := by simpa using h2
        obtain ⟨q, hq⟩ : ∃ q : Nat, o = q + 1 := ⟨o - 1, by omega⟩
        subst hq
        obtain ⟨k1, k2⟩ := spl_some r (cur ++ [c]) q (by omega)
        refine ⟨by simp; omega, ?_⟩
        rw [splF_other _ _ hc, k2]
        simp
theorem splT_none (r : ByteArray) (h : Lib.indexByte r.data.toList 44 = -1) : splT r = [r] := by
  unfold splT
  rw [spl_none _ _ h]
  simp only [List.nil_append, List.map_cons, List.map_nil]
  rw [← (str_self r).eq]
theorem splT_some (r : ByteArray) (o : Nat) (h : Lib.indexByte r.data.toList 44 = o) : o < r.size ∧ splT r = r.extract 0 o :: splT (r.extract (o + 1) r.size) := by
  obtain ⟨h1, h2⟩ := spl_some r.data.toList [] o h
  have hl : r.data.toList.length = r.size := by simp
  refine ⟨by omega, ?_⟩
  unfold splT
  rw [h2, List.map_cons]
  have e1 : r.extract 0 o = mkS ([] ++ r.data.toList.take o) := by
    have : Str (r.extract 0 o) ([] ++ r.data.toList.take o) := by unfold Str; rw [Lib.extract_data]; simp
    exact this.eq
  have e2 : (r.extract (o + 1) r.size).data.toList = r.data.toList.drop (o + 1) := by
    rw [Lib.extract_data, List.take_of_length_le]
    rw [List.length_drop]; omega
  rw [e1, e2]

def boxT (W : World) (b : Nat) : Nat := match W.cell? ⟨b, 0, none⟩ with
  | some (.string r) => r.size
  | _ => 0
theorem boxT_eq {W : World} {b : Nat} {r : ByteArray} (h : W.cell? ⟨b, 0, none⟩ = some (.string r)) : boxT W b = r.size := by unfold boxT; rw [h]

set_option maxRecDepth 100000 in
set_option maxHeartbeats 2000000 in
theorem splitSeq1_any (n l bs bp bv : Nat) (us : List ByteArray) (J : List ByteArray → World → Prop) (Jx : World → Prop)
    (hJs : ∀ pre W v, J pre W → J pre (W.setCell ⟨bs, 0, none⟩ v))
    (hJc : ∀ pre W, J pre W → W.cell? ⟨bp, 0, none⟩ = some (.string ⟨#[44]⟩) ∧ W.cell? ⟨bv, 0, none⟩ = some (.int .i64 0) ∧ W.frozen? ⟨bs, 0, none⟩ = false)
    (hY : ∀ pre x W, J pre W → (∃ post, us = pre ++ x :: post) → YieldAt Fence.wide (n - 1) Tryd.prog l #[.string x] W fun e W' =>
      (e = .returned (.bool true) ∧ J (pre ++ [x]) W' ∧ W'.cell? ⟨bs, 0, none⟩ = W.cell? ⟨bs, 0, none⟩) ∨ (e = .returned (.bool false) ∧ Jx W'))
    (s : ByteArray) (hs : s.size ≤ 1048576) (W : World) (hc : W.cell? ⟨bs, 0, none⟩ = some (.string s)) (h0 : J [] W) (hu : splT s = us) (hn : 1 ≤ n) :
    CallsIn Fence.wide n Tryd.prog 105 #[.func (.yield l) #[] #[], .pointer (some ⟨bp, 0, none⟩), .pointer (some ⟨bs, 0, none⟩), .pointer (some ⟨bv, 0, none⟩)] W fun e W' =>
      (∃ v, e = .returned v) ∧ (J us W' ∨ Jx W') := by
  have HU := Lib.hid hu
  have HJS := Lib.hid hJs
  have HJC := Lib.hid hJc
  have HY := Lib.hid hY
  have HJ0 := Lib.hid h0
  obtain ⟨hp0, hv0, hfz0⟩ := hJc [] W h0
  clear hJs hJc hY hu h0
  refine callsIn_of_wp Tryd.func105 rfl trivial ?_ rfl
  simp only [Tryd.ntmps105, List.size_toArray, List.length_cons, List.length_nil, Nat.reduceAdd, Nat.reduceSub, Array.replicate_succ, Array.replicate_zero, List.push_toArray, List.append_toArray, List.nil_append, List.cons_append]
  gi_wp2
  gi_loopw [7] (fun _ wr => ∃ (pre : List ByteArray) (r : ByteArray), wr.cell? ⟨bs, 0, none⟩ = some (.string r) ∧ r.size ≤ 1048576 ∧ J pre wr ∧ us = pre ++ splT r) (fun _ wr => boxT wr bs)
  case atStart => exact ⟨[], s, hc, hs, HJ0.out, by rw [HU.out]; rfl⟩
  case round =>
    obtain ⟨pre, r, hcr, hrs, hJr, hur⟩ := hrel
    obtain ⟨hpc, hvc, hfc⟩ := HJC.out _ _ hJr
    have HIX := Lib.hid (fun V => (callsIn_wide (n := n - 1)).2 (Any.strings_Index_one { Tryd.lays155 with } r 44 V))
    have HUR := Lib.hid hur
    have HJR := Lib.hid hJr
    have HRS := Lib.hid hrs
    clear hur hJr hc hp0 hv0 hfz0
    cases hix : decide (Lib.indexByte r.data.toList 44 = -1) with
    | true =>
      have hix' := of_decide_eq_true hix
      rw [hix'] at HIX
      have hsp := splT_none r hix'
      clear hix hix'
      obtain ⟨fn, tmps, assign, body, hy, hR⟩ := HY.out pre r wr HJR.out ⟨[], by rw [HUR.out, hsp]⟩
      have HUE := Lib.hid (show us = pre ++ [r] by rw [HUR.out, hsp])
      clear hsp
      gi_wp2_with (refine ⟨trivial, ?_⟩; gi_at_call 93; refine (HIX.out _).mono ?_; rintro e w' ⟨rfl, rfl⟩)
      refine hR.mono ?_
      rintro e W3 (⟨rfl, hJ3, hk3⟩ | ⟨rfl, hJx3⟩)
      · gi_wp2
        go_end0
        exact ⟨⟨_, rfl⟩, .inl (by rw [HUE.out]; exact hJ3)⟩
      · gi_wp2
        go_end0
        exact ⟨⟨_, rfl⟩, .inr hJx3⟩
    | false =>
      have hix' := of_decide_eq_false hix
      obtain ⟨o, ho⟩ : ∃ o : Nat, Lib.indexByte r.data.toList 44 = o := ⟨(Lib.indexByte r.data.toList 44).toNat, by have := Lib.indexByte_ge r.data.toList 44; omega⟩
      rw [ho] at HIX
      obtain ⟨ho1, hsp⟩ := splT_some r o ho
      clear hix hix' ho
      obtain ⟨fn, tmps, assign, body, hy, hR⟩ := HY.out pre (r.extract 0 o) wr HJR.out ⟨_, by rw [HUR.out, hsp]⟩
      have HUE := Lib.hid (show us = (pre ++ [r.extract 0 o]) ++ splT (r.extract (o + 1) r.size) by rw [HUR.out, hsp]; simp)
      clear hsp
      have ho0 : (0 : Int) ≤ (o : Int) := Int.natCast_nonneg _
      gi_wp2_with (refine ⟨trivial, ?_⟩; gi_at_call 93; refine (HIX.out _).mono ?_; rintro e w' ⟨rfl, rfl⟩)
      refine hR.mono ?_
      rintro e W3 (⟨rfl, hJ3, hk3⟩ | ⟨rfl, hJx3⟩)
      · obtain ⟨hpc3, hvc3, hfc3⟩ := HJC.out _ _ hJ3
        have hcr3 := hk3.trans hcr
        gi_wp2
        have hcn := World.cell?_setCell_same W3 ⟨bs, 0, none⟩ (.string (r.extract (o + 1) r.size)) hcr3
        have hlt : (r.extract (o + 1) r.size).size < r.size := by simp; omega
        exact ⟨⟨pre ++ [r.extract 0 o], r.extract (o + 1) r.size, hcn, by have := HRS.out; omega, HJS.out _ _ _ hJ3, HUE.out⟩, by rw [boxT_eq hcn, boxT_eq hcr]; exact hlt⟩
      · gi_wp2
        refine bodyPost_ret (results_none rfl _ _ _) rfl ?_
        exact ⟨⟨_, rfl⟩, .inr hJx3⟩

end Go.Proofs.YthfjfhgeiggljaaDoor
