/-
  RhythmLine of both.
-/
import Derived.Test.YtbmnebmlnmccpaaGreatDoorFmtR
import Derived.Test.YtbmnebmlnmccpaaGreatDoorVecW
import Derived.Test.YtbmnebmlnmccpaaGreatDoorSpcP
import Derived.Test.YtbmnebmlnmccpaaGreatDoorEqs
import Derived.Test.YtbmnebmlnmccpaaGreatDoorCells
import Derived.Deep.AppendLies
namespace Go.Proofs.YtbmnebmlnmccpaaGreatDoor
open Go.RowKit
set_option linter.unusedVariables false
set_option linter.unusedSimpArgs false

set_option maxRecDepth 100000 in
/-- 'append(s, y)' onto a slice of strings of the call's own; an old block that is not its own stays as it was, and is not its own. -/
theorem wpList_append_str_away {w : World} {ops : Array Oper} {rest : List Oper} {o : Oper} {a : Act} {Q : Exit → Act → World → Prop} (hgd : o.guard = none) (s x : Operand)
    (ho : o.op = .call { callee := .builtin .append, args := #[s, x], argTypes := #[42, 42] })
    (base : Nat) (v : Value) (xs : List Txt) (hs : a.eval s = v) (hown : OwnS w base v xs) (g : Nat) (y : Txt) (hx : a.eval x = .slice (some ⟨g, 0, none⟩) 1 1)
    (hcell : w.cell? ⟨g, 0, none⟩ = some (emS y)) (hlen : xs.length < 1048576) (hbase : base ≤ w.heap.size) (b0 : Nat) (hb0 : b0 < w.heap.size) (hne : ∀ g, v.ownBlock = some g → g ≠ b0)
    (h : ∀ v' w', OwnS w' base v' (xs ++ [y]) → Below base w w' → w'.heap[b0]? = w.heap[b0]? → (∀ g, v'.ownBlock = some g → g ≠ b0) → b0 < w'.heap.size → wpList Tryz.prog ops Q rest (a.put o.dst v') w') : wpList Tryz.prog ops Q (o :: rest) a w := by
  obtain ⟨i, hi, hz, hsz, hby⟩ := info_parts Tryz.infoString
  refine wpList_append_lies w hgd s x _ ho base 9 i _ 1 16 Tryz.underlying42 hi hz hsz hby rfl (by omega) v xs.length _ hs hown ⟨g, 0, none⟩ 1 1 [emS y] hx rfl ?_ ?_ (by omega) (by unfold maxLen; omega) (by omega) hbase _ rfl ?_
  · intro j u hj
    match j, hj with
    | 0, hj => simp at hj; subst hj; exact hcell
  · intro u hu
    simp at hu
    subst hu; rfl
  · intro g' cap w' hown' hgrow hat hlt'
    refine h _ w' ?_ ((Below.refl base w).grown hgrow hbase (fun k hk => (World.ownsRow.lt hown k hk).1)) (hgrow.block b0 hb0 (fun e => hne _ e.symm rfl)) ?_ (Nat.lt_of_lt_of_le hb0 hgrow.size)
    · unfold OwnS
      rw [List.length_append, List.map_append]
      exact hown'
    · intro g2 hg2
      have : g' = g2 := by simpa [Value.ownBlock] using hg2
      subst this
      rcases hat with h1 | h1
      · exact hne g' h1
      · omega

set_option maxRecDepth 100000 in
set_option maxHeartbeats 1000000 in
theorem spec_FormatSteps_any (n : Int) (A : Option Addr) (cap : Nat) (bs : List Int) (w : World) (hA : Ints w w.heap.size A bs) :
    Calls Tryz.prog 11 #[.agg #[.int .i64 n, .slice A bs.length cap]] w fun e w' => e = .returned (.string (mkS (stpV n bs))) ∧ Below w.heap.size w w' := by
  have HSO := Lib.hid (fun V h => spec_StepsOf_any n A cap bs V h)
  have hsf := stepsOf_fit n bs
  have HF := Lib.hid (show ∀ x ∈ stepsOf n bs, Fits x from fun x hx => by have := hsf.2 x hx; unfold Fits; omega)
  have HLL := Lib.hid hsf.1
  have HA := Lib.hid hA
  have HV := Lib.hid (show stpV n bs = joinT ((stepsOf n bs).map itoL) [43] from rfl)
  generalize stpV n bs = v at HV ⊢
  generalize stepsOf n bs = xs at HSO HF HLL HV
  have hsep : (⟨#[43]⟩ : ByteArray) = mkS [43] := rfl
  have hxl : xs.length ≤ 24 := HLL.out
  have HW0 := Lib.hid (((Below.refl w.heap.size w).alloc (Nat.le_refl _) (.cells #[.int .i64 n, .slice A bs.length cap] 27)).alloc (by first | exact Nat.le_refl _ | (simp; done) | (simp; omega) | omega) (.cells #[] 9))
  obtain ⟨c0, c1⟩ := box2 ((Below.refl (w.heap.size + 1) (w.alloc (.cells #[.int .i64 n, .slice A bs.length cap] 27))).alloc (by first | exact Nat.le_refl _ | (simp; done) | (simp; omega) | omega) (.cells #[] 9))
  have HE := Lib.hid (OwnS.empty_at (w.alloc (.cells #[.int .i64 n, .slice A bs.length cap] 27)) w.heap.size (w.heap.size + 1) (by simp) (by omega))
  clear hA hsf
  go_enter Tryz.func11, Tryz.ntmps11
  go_wp2_with fail
  refine (HSO.out _ (HA.out.lift HW0.out)).mono ?_
  rintro e w1 ⟨A1, cap1, rfl, hI1, hb1⟩
  have HB1 := Lib.hid (HW0.out.trans (hb1.mono HW0.out.size))
  have HC := Lib.hid hI1.2.2
  have HE1 := Lib.hid (HE.out.grown hb1)
  have hbk : 0 < xs.length → ∃ b off, A1 = some ⟨b, off, none⟩ ∧ b < w1.heap.size ∧ b ≠ w.heap.size + 1 ∧ ∀ i, i < xs.length → w1.cell? ⟨b, off + i, none⟩ = some (.int .i64 (xs.getD i 0)) := fun h0 => by
    obtain ⟨b, off, e, hb, hc⟩ := hI1.2.2 h0
    refine ⟨b, off, e, hb, fun e2 => ?_, hc⟩
    have h1 := hc 0 h0
    rcases HE1.out.2 with ⟨h3, _⟩ | ⟨g, cp, cur, h3, _, hh, _, _, hs, _⟩
    · cases h3
    · injection h3 with h4 _ h6
      injection h4 with h4
      injection h4 with h4
      subst h4 h6 e2
      unfold World.cell? at h1
      rw [hh] at h1
      simp at hs
      simp [hs] at h1
  have HBK := Lib.hid hbk
  clear hI1 hb1 c0 c1 hbk
  go_wp2_with fail
  go_loopw [3, 10] (fun so si wr => ∃ (k : Nat), k ≤ xs.length ∧ si = .int .i64 k ∧ OwnS wr w.heap.size so ((xs.take k).map itoL) ∧ Below w.heap.size w wr ∧ w1.heap.size ≤ wr.heap.size ∧ ∀ b off, 0 < xs.length → A1 = some ⟨b, off, none⟩ → (∀ g, so.ownBlock = some g → g ≠ b) ∧ wr.heap[b]? = w1.heap[b]?) (fun _ si _ => xs.length - (intOf si).toNat)
  case atStart =>
    refine ⟨0, Nat.zero_le _, rfl, HE1.out, HB1.out, Nat.le_refl _, fun b off h0 e => ⟨fun g hg => ?_, rfl⟩⟩
    obtain ⟨b', off', e', _, hne, _⟩ := HBK.out h0
    rw [e] at e'
    injection e' with e'
    injection e' with e1 _
    simp [Value.ownBlock] at hg
    omega
  case round =>
    obtain ⟨k, hk, rfl, hown, hbel, hsz, hkeep⟩ := hrel
    obtain ⟨wo, rfl⟩ : ∃ wo : World, wo = wr := ⟨_, rfl⟩
    have hln : ((xs.take k).map itoL).length = k := by rw [List.length_map, List.length_take]; omega
    obtain ⟨ys, hys⟩ : ∃ ys, (xs.take k).map itoL = ys := ⟨_, rfl⟩
    rw [hys] at hown hln
    have HYS := Lib.hid hys
    have HOW := Lib.hid hown
    have HBE := Lib.hid hbel
    have HLN := Lib.hid hln
    have HKP := Lib.hid hkeep
    clear hys hln hkeep
    obtain ⟨A5, c5, rfl, hlc, _, _⟩ := hown.form
    by_cases hlt : k < xs.length
    · obtain ⟨b, off, rfl, hBo, hbne, hc⟩ := HBK.out (by omega)
      obtain ⟨hoff, hsame⟩ := HKP.out b off (by omega) rfl
      have hcell := hc k hlt
      rw [← World.cell?_of_block (a := ⟨b, off + k, none⟩) hsame] at hcell
      have HX := Lib.hid (fits_at HF.out hlt)
      have HTK := Lib.hid (show (xs.take (k + 1)).map itoL = ys ++ [itoL (xs.getD k 0)] by rw [nums_take xs k hlt, HYS.out])
      generalize xs.getD k 0 = x at hcell HX HTK
      have HFI := Lib.hid (spec_FormatInt_any x HX.out wo)
      have HSM := Lib.hid hsame
      have HOF := Lib.hid hoff
      clear hc hown hbel hsame hoff
      go_wp2_with fail
      refine HFI.out.mono ?_
      rintro e w2 ⟨rfl, hb1⟩
      have HO1 := Lib.hid (HOW.out.grown hb1)
      have hz1 := hb1.size
      have HB2 := Lib.hid (HBE.out.trans (hb1.mono HBE.out.size))
      have HS2 := Lib.hid ((hb1.block b (by omega)).trans HSM.out)
      obtain ⟨T, hT⟩ : ∃ T, mkS (itoL x) = T := ⟨_, rfl⟩
      rw [hT]
      have HT := Lib.hid hT
      have hbs := HB2.out.size
      clear hb1 hT
      go_wp2_with (at_builtin; refine wpList_append_str_away rfl (.tmp 14) (.tmp 17) rfl w.heap.size _ ys rfl (HO1.out.alloc _) w2.heap.size (itoL x) (by rfl) (by unfold emS; rw [HT.out]; exact cell_new1 _ _ _) (by rw [HLN.out]; have := HLL.out; omega) (by simp only [World.size_alloc]; omega) b (by simp only [World.size_alloc]; omega) HOF.out ?_; intro v2 w3 hown2 hb2 hk2 hn2 hl2)
      have HO2 := Lib.hid hown2
      have HB3 := Lib.hid ((HB2.out.alloc hbs _).trans hb2)
      have HK2 := Lib.hid (hk2.trans ((((Below.refl w2.heap.size w2).alloc (Nat.le_refl _) (.cells #[.string T] 9)).block b (by omega)).trans HS2.out))
      have HN2 := Lib.hid hn2
      have hz3 := hb2.size
      simp only [World.size_alloc] at hz3
      clear hown2 hb2 hk2 hn2
      go_wp2_with fail
      go_roundw
      case rel =>
        refine ⟨k + 1, by omega, by go_num, by rw [HTK.out]; exact HO2.out, HB3.out, by omega, fun b' off' _ e => ?_⟩
        injection e with e
        injection e with e1 _
        subst e1
        exact ⟨HN2.out, HK2.out⟩
      case measure => simp [intOf]; omega
    · have hke : k = xs.length := by omega
      have hall : ys = xs.map itoL := by rw [← HYS.out, List.take_of_length_le (by omega)]
      have HJ := Lib.hid (fun W (hS : Strs W W.heap.size A5 ys) => spec_Join_any A5 c5 ys [43] 20 W hS (by rw [hall]; exact nums_mem HF.out) (by simp))
      have HST := Lib.hid (HOW.out.strs (by rw [HLN.out]; have := HLL.out; omega))
      obtain ⟨X, hX⟩ : ∃ X, mkS (joinT ys [43]) = X := ⟨_, rfl⟩
      rw [hX] at HJ
      have HX := Lib.hid (show X = mkS v by rw [HV.out, ← hX, hall])
      clear hown hbel hall hke hX
      go_wp2_with fail
      try rw [hsep]
      refine (HJ.out _ HST.out).mono ?_
      rintro e w2 ⟨rfl, rfl⟩
      go_wp2_with fail
      go_ret
      exact ⟨ret_str HX.out, HBE.out⟩

/-- The steps as they stand in the line. -/
noncomputable def stpL (n : Int) (bs : List Int) : Txt := if stpV n bs = [] then [45] else stpV n bs
noncomputable def linL (N : Nat) (bs : List Int) : Txt := joinT [textF N bs (fun _ => 120), [115, 116, 101, 112, 115], stpL N bs, [112, 101, 114, 105, 111, 100], itoL (perV N bs), [118, 101, 99, 116, 111, 114], numsT (vecV N bs)] [32]
noncomputable def linV (n : Int) (bs : List Int) : Txt := if rhB n bs = true then linL n.toNat bs else [110, 111, 110, 101]

theorem stpV_len (n : Int) (bs : List Int) : (stpV n bs).length ≤ 504 := by
  have hsf := stepsOf_fit n bs
  have hjl := joinT_len [43] 20 ((stepsOf n bs).map itoL) (nums_mem (fun x hx => by have := hsf.2 x hx; unfold Fits; omega))
  rw [List.length_map] at hjl
  have : (stepsOf n bs).length * (20 + 1) ≤ 24 * 21 := Nat.mul_le_mul hsf.1 (Nat.le_refl _)
  exact Nat.le_trans hjl this
theorem stpL_len (n : Int) (bs : List Int) : (stpL n bs).length ≤ 504 := by
  unfold stpL
  split
  · simp
  · exact stpV_len n bs
theorem numsT_len {xs : List Int} (h : ∀ x ∈ xs, Fits x) (hl : xs.length ≤ 24) : (numsT xs).length ≤ 504 := by
  unfold numsT
  split
  · simp
  · have hjl := joinT_len [44] 20 (xs.map itoL) (nums_mem h)
    rw [List.length_map] at hjl
    have : xs.length * (20 + 1) ≤ 24 * 21 := Nat.mul_le_mul hl (Nat.le_refl _)
    exact Nat.le_trans hjl this
theorem linL_eq (N : Nat) (bs : List Int) : linL N bs = textF N bs (fun _ => 120) ++ [32, 115, 116, 101, 112, 115, 32] ++ stpL N bs ++ [32, 112, 101, 114, 105, 111, 100, 32] ++ itoL (perV N bs) ++ [32, 118, 101, 99, 116, 111, 114, 32] ++ numsT (vecV N bs) := by
  unfold linL joinT
  rw [Lib.join_cons]
  unfold Lib.joinTail
  simp

end Go.Proofs.YtbmnebmlnmccpaaGreatDoor
