/-
  SplitAny of the reference at a comma.
-/
import Derived.Test.YthfjfhgeiggljaaDoorOwnTx
import Derived.Test.YthfjfhgeiggljaaDoorStr
import Derived.Deep.QuietTactic
import Derived.BigQuiet
namespace Go.Proofs.YthfjfhgeiggljaaDoor
open Go.RowKit
set_option linter.unusedVariables false
set_option linter.unusedSimpArgs false

/-- The pieces between commas; cur is the piece under way. -/
def splF : List UInt8 → List UInt8 → List (List UInt8)
  | cur, [] => [cur]
  | cur, c :: r => if c = 44 then cur :: splF [] r else splF (cur ++ [c]) r
theorem splF_comma (cur r : List UInt8) : splF cur (44 :: r) = cur :: splF [] r := by rw [splF, if_pos rfl]
theorem splF_other (cur r : List UInt8) {c : UInt8} (h : c ≠ 44) : splF cur (c :: r) = splF (cur ++ [c]) r := by rw [splF, if_neg h]
theorem splF_len : ∀ (l cur : List UInt8), (splF cur l).length ≤ l.length + 1
  | [], cur => by simp [splF]
  | c :: r, cur => by
    by_cases h : c = 44
    · subst h; rw [splF_comma]; have := splF_len r []; simp; omega
    · rw [splF_other _ _ h]; have := splF_len r (cur ++ [c]); simp; omega
theorem Below.drewS_ {B : Nat} {a w : World} (h : Below B a w) (n : Nat) : Below B a (w.drewN n) := ⟨h.os, h.tape, h.output, h.size, h.block⟩
def splT (s : ByteArray) : List ByteArray := (splF [] s.data.toList).map mkS
theorem piece_next (s : ByteArray) (f i : Nat) (hf : f ≤ i) (hi : i < s.size) : (s.data.toList.drop f).take (i + 1 - f) = (s.data.toList.drop f).take (i - f) ++ [s[i]] := by
  have hl : i < s.data.toList.length := by simpa using hi
  rw [show i + 1 - f = (i - f) + 1 by omega, List.take_succ_eq_append_getElem (by rw [List.length_drop]; omega), List.getElem_drop]
  congr 2
  show s.data.toList[f + (i - f)] = s[i]
  have e : f + (i - f) = i := by omega
  simp only [e]
  rfl
theorem piece_text (s : ByteArray) (f i : Nat) (hf : f ≤ i) : s.extract f i = mkS ((s.data.toList.drop f).take (i - f)) := by
  have : Str (s.extract f i) ((s.data.toList.drop f).take (i - f)) := by unfold Str; rw [Lib.extract_data]
  exact this.eq

set_option maxRecDepth 100000 in
set_option maxHeartbeats 2000000 in
theorem spec_SplitAny_any (s : ByteArray) (w : World) (hs : s.size ≤ 1048576) :
    Calls Tryd.prog 46 #[.string s, .string ⟨#[44]⟩] w fun e w' => ∃ A cap, e = .returned (.slice A (splT s).length cap) ∧ OwnTx w' w.heap.size (.slice A (splT s).length cap) (splT s) ∧ Below w.heap.size w w' := by
  have HO := Lib.hid (OwnTx.empty w w.heap.size (Nat.le_refl _))
  go_enter Tryd.func46, Tryd.ntmps46
  go_wp2_with fail
  go_loopw [5, 6, 7] (fun sv sf si wr => ∃ (us : List ByteArray) (f i : Nat), sf = .int .i64 f ∧ si = .int .i64 i ∧ f ≤ i ∧ i ≤ s.size ∧ us.length ≤ i ∧ OwnTx wr w.heap.size sv us ∧ Below w.heap.size w wr ∧ splT s = us ++ (splF ((s.data.toList.drop f).take (i - f)) (s.data.toList.drop i)).map mkS) (fun _ _ si _ => s.size - (intOf si).toNat)
  case atStart => exact ⟨[], 0, 0, rfl, rfl, Nat.le_refl _, Nat.zero_le _, Nat.le_refl _, HO.out, (Below.refl _ _).alloc (Nat.le_refl _) _, rfl⟩
  case round =>
    obtain ⟨us, f, i, rfl, rfl, hf, hi, hu, hown, hb, hsp⟩ := hrel
    obtain ⟨wo, rfl⟩ : ∃ wo : World, wo = wr := ⟨_, rfl⟩
    obtain ⟨A1, c1, rfl⟩ := hown.form
    have HOW := Lib.hid hown
    have HB := Lib.hid hb
    have HSP := Lib.hid hsp
    clear hown hb hsp
    by_cases hlt : i < s.size
    · go_wp2_with fail
      go_loopw [5, 6, 8] (fun sv sf sk wr2 => ∃ k : Nat, k ≤ 1 ∧ sk = .int .i64 k ∧ sv = .slice A1 us.length c1 ∧ sf = .int .i64 f ∧ OwnTx wr2 w.heap.size (.slice A1 us.length c1) us ∧ Below w.heap.size w wr2 ∧ (k = 1 → (s[i]'hlt) ≠ 44)) (fun _ _ sk _ => 1 - (intOf sk).toNat)
      case atStart => exact ⟨0, Nat.zero_le _, rfl, rfl, rfl, HOW.out, HB.out, fun h => by omega⟩
      case round =>
        obtain ⟨k, hk, rfl, rfl, rfl, hown2, hb2, hne⟩ := hrel
        have HO2 := Lib.hid hown2
        have HB2 := Lib.hid hb2
        have HNE := Lib.hid hne
        clear hown2 hb2 hne
        by_cases hk0 : k = 0
        · subst hk0
          by_cases hc : s[i]'hlt = 44
          · have heq : (((s[i]'hlt).toNat : Int) == (((⟨#[44]⟩ : ByteArray)[0]'(by decide)).toNat : Int)) = true := by rw [hc]; rfl
            have HC0 := Lib.hid hc
            clear hc
            go_wp2_with fail
            go_quiet (fail)
            have hcx := Lib.hid (show splT s = (us ++ [s.extract f i]) ++ (splF [] (s.data.toList.drop (i + 1))).map mkS by
              rw [HSP.out, piece_text s f i hf, List.drop_eq_getElem_cons (i := i) (l := s.data.toList) (by simpa using hlt), show s.data.toList[i]'(by simpa using hlt) = 44 from HC0.out, splF_comma]
              simp)
            have hbz := HB2.out.size
            go_wp2_with (at_builtin; refine wpList_append_txt rfl (.tmp 29) (.tmp 34) rfl w.heap.size _ us rfl ((HO2.out.drewN nq).alloc _) _ (s.extract f i) (by rfl) (cell_new1 _ _ _) (by omega) (by simp only [World.size_alloc]; exact Nat.le_succ_of_le hbz) ?_; intro v' w4 hown4 hb4; obtain ⟨A6, c6, rfl⟩ := hown4.form)
            exact ⟨⟨us ++ [s.extract f i], i + 1, i + 1, by go_num, by go_num, Nat.le_refl _, by omega, by simp; omega, by simpa using hown4, (((Below.drewS_ HB2.out nq).alloc hbz _).trans hb4), by rw [hcx.out, Nat.sub_self, List.take_zero]⟩, by simp [intOf]; omega⟩
          · have heq : (((s[i]'hlt).toNat : Int) == (((⟨#[44]⟩ : ByteArray)[0]'(by decide)).toNat : Int)) = false := by
              rw [beq_eq_false_iff_ne]
              intro h
              have h : ((s[i]'hlt).toNat : Int) = 44 := h
              exact hc (UInt8.toNat_inj.1 (show (s[i]'hlt).toNat = 44 by omega))
            have HC := Lib.hid hc
            clear hc
            go_wp2_with fail
            go_quiet (fail)
            go_wp2_with fail
            exact ⟨⟨1, Nat.le_refl _, rfl, rfl, rfl, HO2.out.drewN _, Below.drewS_ HB2.out _, fun _ => HC.out⟩, by simp [intOf]⟩
        · have hk1 : k = 1 := by omega
          subst hk1
          have hnc := HNE.out rfl
          have hcx := Lib.hid (show splT s = us ++ (splF ((s.data.toList.drop f).take (i + 1 - f)) (s.data.toList.drop (i + 1))).map mkS by
            rw [HSP.out, piece_next s f i hf hlt, List.drop_eq_getElem_cons (i := i) (l := s.data.toList) (by simpa using hlt), splF_other _ _ (show s.data.toList[i]'(by simpa using hlt) ≠ 44 from hnc)]
            rfl)
          clear hnc
          go_wp2_with fail
          exact ⟨⟨us, f, i + 1, rfl, by go_num, by omega, by omega, by omega, HO2.out, HB2.out, hcx.out⟩, by simp [intOf]; omega⟩
    · have hie : i = s.size := by omega
      subst hie
      have hfin : splT s = us ++ [s.extract f s.size] := by
        rw [HSP.out, show s.data.toList.drop s.size = [] from List.drop_eq_nil_of_le (by simp), piece_text s f s.size hf]
        rfl
      have HFIN := Lib.hid hfin
      have hbz := HB.out.size
      clear hfin
      go_wp2_with (at_builtin; refine wpList_append_txt rfl (.tmp 38) (.tmp 42) rfl w.heap.size _ us rfl (HOW.out.alloc _) wo.heap.size (s.extract f s.size) (by rfl) (cell_new1 _ _ _) (by omega) (by simp only [World.size_alloc]; omega) ?_; intro v' w4 hown4 hb4; rw [← HFIN.out] at hown4; obtain ⟨A6, c6, rfl⟩ := hown4.form)
      go_ret
      exact ⟨A6, c6, rfl, hown4, (HB.out.alloc hbz _).trans hb4⟩

end Go.Proofs.YthfjfhgeiggljaaDoor
