/-
  Several texts of this proof in one: OwnTx, SplA, SplB.
-/
import Derived.Test.YthookknmeajojaaGreatDoorOwn
import Derived.Test.YthookknmeajojaaGreatDoorStr
import Derived.Deep.QuietTactic
import Derived.BigQuiet
import Derived.Lib.SplitLaws
import Derived.Lib.IndexBytes
namespace Go.Proofs.YthookknmeajojaaGreatDoor
open Go.RowKit
set_option linter.unusedVariables false
set_option linter.unusedSimpArgs false

/-- v is a slice of the call's own, in blocks from base on, that holds the texts. -/
def OwnTx (w : World) (base : Nat) (v : Value) (us : List ByteArray) : Prop := w.ownsRow base 9 1 v us.length (us.map Value.string)
theorem OwnTx.empty (w : World) (base : Nat) (hb : base ≤ w.heap.size) : OwnTx (w.alloc (.cells #[] 9)) base (.slice (some ⟨w.heap.size, 0, none⟩) 0 0) [] :=
  ⟨rfl, .inr ⟨w.heap.size, 0, #[], rfl, hb, heap_alloc_new w _, Nat.le_refl _, Nat.zero_le _, rfl, rfl⟩⟩
theorem OwnTx.alloc {w : World} {base : Nat} {v : Value} {us : List ByteArray} (h : OwnTx w base v us) (o : Obj) : OwnTx (w.alloc o) base v us := World.ownsRow.alloc h o
theorem OwnTx.drewN {w : World} {base : Nat} {v : Value} {us : List ByteArray} (h : OwnTx w base v us) (n : Nat) : OwnTx (w.drewN n) base v us := h
theorem OwnTx.form {w : World} {base : Nat} {v : Value} {us : List ByteArray} (h : OwnTx w base v us) : ∃ A cap, v = .slice A us.length cap := by
  rcases h.2 with ⟨rfl, h0⟩ | ⟨g, cap, cur, rfl, _⟩
  · exact ⟨none, 0, by rw [h0]⟩
  · exact ⟨some ⟨g, 0, none⟩, cap, rfl⟩
theorem OwnTx.lt {w : World} {base : Nat} {v : Value} {us : List ByteArray} (h : OwnTx w base v us) : ∀ k, v.ownBlock = some k → base ≤ k ∧ k < w.heap.size := World.ownsRow.lt h
theorem infoTxt : (Tryz.prog.info? 9).map (fun i => (i.zero, i.size, i.bytes)) = some (some (.string ⟨#[]⟩), 1, 16) := by kernel_rfl

/-- 'append(s, y)' onto a slice of the call's own. -/
theorem wpList_append_txt {w : World} {ops : Array Oper} {rest : List Oper} {o : Oper} {a : Act} {Q : Exit → Act → World → Prop} (hgd : o.guard = none) (s x : Operand)
    (ho : o.op = .call { callee := .builtin .append, args := #[s, x], argTypes := #[61, 61] })
    (base : Nat) (v : Value) (us : List ByteArray) (hs : a.eval s = v) (hown : OwnTx w base v us) (g : Nat) (y : ByteArray) (hx : a.eval x = .slice (some ⟨g, 0, none⟩) 1 1)
    (hcell : w.cell? ⟨g, 0, none⟩ = some (.string y)) (hlen : us.length ≤ 2000000) (hbase : base ≤ w.heap.size)
    (h : ∀ v' w', OwnTx w' base v' (us ++ [y]) → Below base w w' → wpList Tryz.prog ops Q rest (a.put o.dst v') w') : wpList Tryz.prog ops Q (o :: rest) a w := by
  obtain ⟨i, hi, hz, hsz, hby⟩ := info_parts infoTxt
  refine wpList_append_own _ hgd s x _ ho base 9 i _ 1 16 Tryz.underlying61 hi hz hsz hby rfl (by omega) v us.length _ hs hown ⟨g, 0, none⟩ 1 1 [.string y] hx rfl ?_ ?_ (by unfold maxLen; omega) (by omega) hbase ?_
  · intro j u hj
    match j, hj with
    | 0, hj =>
      simp at hj
      subst hj
      exact hcell
  · intro u hu
    simp at hu
    subst hu
    rfl
  · intro v' w' hown' hgrow _
    refine h v' w' ?_ ?_
    · unfold OwnTx
      simpa using hown'
    · exact (Below.refl base w).grown hgrow hbase (fun k hk => (hown.lt k hk).1)

end Go.Proofs.YthookknmeajojaaGreatDoor

namespace Go.Proofs.YthookknmeajojaaGreatDoor
open Go.RowKit
set_option linter.unusedVariables false
set_option linter.unusedSimpArgs false

/-- The pieces between separators; cur is the piece under way. -/
def splF (d : UInt8) : List UInt8 → List UInt8 → List (List UInt8)
  | cur, [] => [cur]
  | cur, c :: r => if c = d then cur :: splF d [] r else splF d (cur ++ [c]) r
theorem splF_comma (d : UInt8) (cur r : List UInt8) : splF d cur (d :: r) = cur :: splF d [] r := by rw [splF, if_pos rfl]
theorem splF_other {d : UInt8} (cur r : List UInt8) {c : UInt8} (h : c ≠ d) : splF d cur (c :: r) = splF d (cur ++ [c]) r := by rw [splF, if_neg h]
theorem splF_len (d : UInt8) : ∀ (l cur : List UInt8), (splF d cur l).length ≤ l.length + 1
  | [], cur => by simp [splF]
  | c :: r, cur => by
    by_cases h : c = d
    · subst h; rw [splF_comma]; have := splF_len c r []; simp; omega
    · rw [splF_other _ _ h]; have := splF_len d r (cur ++ [c]); simp; omega
theorem Below.drewS_ {B : Nat} {a w : World} (h : Below B a w) (n : Nat) : Below B a (w.drewN n) := ⟨h.os, h.tape, h.output, h.size, h.block⟩
def splT (d : UInt8) (s : ByteArray) : List ByteArray := (splF d [] s.data.toList).map mkS
theorem piece_next (s : ByteArray) (f i : Nat) (hf : f ≤ i) (hi : i < s.size) : (s.data.toList.drop f).take (i + 1 - f) = (s.data.toList.drop f).take (i - f) ++ [s[i]] := by
  have hl : i < s.data.toList.length := by simpa using hi
  rw [show i + 1 - f = (i - f) + 1 by omega, List.take_succ_eq_append_getElem (by rw [List.length_drop]; omega), List.getElem_drop]
  congr 2
  show s.data.toList[f + (i - f)] = s[i]
  have e : f + (i - f) = i := by omega
  simp only [e]
  rfl
theorem piece_text (s : ByteArray) (f i : Nat) (hf : f ≤ i) : s.extract f i = mkS ((s.data.toList.drop f).take (i - f)) := by
  have : Str (s.extract f i) ((s.data.toList.drop f).take (i - f)) := by unfold Str; rw [Lib.extract_data]
  exact this.eq

theorem splT_size (d : UInt8) (s u : ByteArray) (h : u ∈ splT d s) : u.size ≤ s.size := by
  have key : ∀ (l cur x : List UInt8), x ∈ splF d cur l → x.length ≤ cur.length + l.length := by
    intro l
    induction l with
    | nil => intro cur x hx; rw [splF, List.mem_singleton] at hx; subst hx; simp
    | cons c r ih =>
      intro cur x hx
      by_cases hc : c = d
      · subst hc
        rw [splF_comma] at hx
        rcases List.mem_cons.1 hx with rfl | hx
        · simp
        · have := ih [] x hx; simp at this ⊢; omega
      · rw [splF_other _ _ hc] at hx
        have := ih (cur ++ [c]) x hx
        simp at this ⊢; omega
  unfold splT at h
  obtain ⟨x, hx, rfl⟩ := List.mem_map.1 h
  have := key _ _ _ hx
  rw [mkS_size]
  simpa using this

end Go.Proofs.YthookknmeajojaaGreatDoor

namespace Go.Proofs.YthookknmeajojaaGreatDoor
set_option linter.unusedVariables false
set_option linter.unusedSimpArgs false

theorem spl_none (d : UInt8) : ∀ (l cur : List UInt8), Lib.indexByte l d = -1 → splF d cur l = [cur ++ l]
  | [], cur, _ => by simp [splF]
  | c :: r, cur, h => by
    unfold Lib.indexByte at h
    by_cases hc : c = d
    · subst hc; simp at h
    · have hb : (c == d) = false := by simpa using hc
      rw [hb] at h
      simp only [Bool.false_eq_true, if_false] at h
      have : Lib.indexByte r d = -1 := by
        by_cases h2 : (Lib.indexByte r d == -1) = true
        · simpa using h2
        · rw [if_neg h2] at h; have := Lib.indexByte_ge r d; omega
      rw [splF_other _ _ hc, spl_none d r _ this]
      simp
theorem spl_some (d : UInt8) : ∀ (l cur : List UInt8) (o : Nat), Lib.indexByte l d = o → o < l.length ∧ splF d cur l = (cur ++ l.take o) :: splF d [] (l.drop (o + 1))
  | [], cur, o, h => by unfold Lib.indexByte at h; omega
  | c :: r, cur, o, h => by
    unfold Lib.indexByte at h
    by_cases hc : c = d
    · subst hc
      simp at h
      have : o = 0 := by omega
      subst this
      exact ⟨by simp, by rw [splF_comma]; simp⟩
    · have hb : (c == d) = false := by simpa using hc
      rw [hb] at h
      simp only [Bool.false_eq_true, if_false] at h
      by_cases h2 : (Lib.indexByte r d == -1) = true
      · rw [if_pos h2] at h; omega
      · rw [if_neg h2] at h
        have h3 := Lib.indexByte_ge r d
        have h4 : Lib.indexByte r d ≠ -1 := by simpa using h2
        obtain ⟨q, hq⟩ : ∃ q : Nat, o = q + 1 := ⟨o - 1, by omega⟩
        subst hq
        obtain ⟨k1, k2⟩ := spl_some d r (cur ++ [c]) q (by omega)
        refine ⟨by simp; omega, ?_⟩
        rw [splF_other _ _ hc, k2]
        simp
theorem splT_none (d : UInt8) (r : ByteArray) (h : Lib.indexByte r.data.toList d = -1) : splT d r = [r] := by
  unfold splT
  rw [spl_none d _ _ h]
  simp only [List.nil_append, List.map_cons, List.map_nil]
  rw [← (str_self r).eq]
theorem splT_some (d : UInt8) (r : ByteArray) (o : Nat) (h : Lib.indexByte r.data.toList d = o) : o < r.size ∧ splT d r = r.extract 0 o :: splT d (r.extract (o + 1) r.size) := by
  obtain ⟨h1, h2⟩ := spl_some d r.data.toList [] o h
  have hl : r.data.toList.length = r.size := by simp
  refine ⟨by omega, ?_⟩
  unfold splT
  rw [h2, List.map_cons]
  have e1 : r.extract 0 o = mkS ([] ++ r.data.toList.take o) := by
    have : Str (r.extract 0 o) ([] ++ r.data.toList.take o) := by unfold Str; rw [Lib.extract_data]; simp
    exact this.eq
  have e2 : (r.extract (o + 1) r.size).data.toList = r.data.toList.drop (o + 1) := by
    rw [Lib.extract_data, List.take_of_length_le]
    rw [List.length_drop]; omega
  rw [e1, e2]
theorem splitB_T (d : UInt8) : ∀ (k : Nat) (s : ByteArray), Lib.countB s ⟨#[d]⟩ = k → Lib.splitB ⟨#[d]⟩ 0 k s = splT d s := by
  have hix : ∀ s : ByteArray, Lib.indexB s ⟨#[d]⟩ = Lib.indexByte s.data.toList d := fun s => Lib.index_one s.data.toList d
  intro k
  induction k with
  | zero =>
    intro s hk
    have h1 : Lib.indexB s ⟨#[d]⟩ = -1 := by
      rcases Lib.indexB_cases s ⟨#[d]⟩ with h | ⟨i, h, _⟩
      · exact h
      · have := Lib.countB_hit s ⟨#[d]⟩ i (Nat.le_refl 1) h; omega
    rw [splT_none d s (by rw [← hix]; exact h1)]
    rfl
  | succ k ih =>
    intro s hk
    rcases Lib.indexB_cases s ⟨#[d]⟩ with h | ⟨i, h, _⟩
    · have := Lib.countB_miss s ⟨#[d]⟩ h; omega
    · have hc := Lib.countB_hit s ⟨#[d]⟩ i (Nat.le_refl 1) h
      have e : (⟨#[d]⟩ : ByteArray).size = 1 := rfl
      rw [Lib.splitB_hit _ 0 k s i h, (splT_some d s i (by rw [← hix]; exact h)).2]
      rw [e] at hc ⊢
      rw [ih _ (by omega), Nat.add_zero]

end Go.Proofs.YthookknmeajojaaGreatDoor

