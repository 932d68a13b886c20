/-
  The reference's list of the different windows.
-/
import Derived.Test.YtjgbnmljbgadjaaAllD
import Derived.Test.YtjgbnmljbgadjaaStrs
import Derived.WalkLawsBesides
namespace Go.Proofs.Ytjgbnmljbgadjaa
open Go.RowKit
set_option linter.unusedVariables false
set_option linter.unusedSimpArgs false

def RetStr (w : World) (L : List Txt) (e : Ending) (w' : World) : Prop := ∃ v, e = .returned v ∧ OwnS w' w.heap.size v L ∧ Below w.heap.size w w'

theorem OwnS.pos {w : World} {base : Nat} {v : Value} {xs : List Txt} (h : OwnS w base v xs) (hp : 0 < xs.length) : ∃ g c, v = .slice (some ⟨g, 0, none⟩) xs.length c ∧ xs.length ≤ c ∧ c ≤ maxLen ∧ base ≤ g ∧ g < w.heap.size := by
  rcases h.2 with ⟨rfl, h0⟩ | ⟨g, cap, cur, rfl, hg, hh, hnc, hm, _⟩
  · omega
  · exact ⟨g, cap, rfl, hnc, hm, hg, (Array.getElem?_eq_some_iff.1 hh).1⟩

theorem toList_mkS (l : List UInt8) : (mkS l).toList = l := by
  rw [Lib.toList_data]; exact str_mk l
theorem less_ltL : ∀ a b : List UInt8, Op.bytesLess a b = ltL a b
  | [], [] => by simp [Op.bytesLess, ltL]
  | _ :: _, [] => by simp [Op.bytesLess, ltL]
  | [], _ :: _ => by simp [Op.bytesLess, ltL]
  | a :: x, b :: y => by
    rw [Op.bytesLess, less_ltL x y]
    unfold ltL
    rw [Bool.eq_iff_iff]
    simp [List.cons_lt_cons_iff]

/-- What the comparison of two texts gives, in the walk's words. -/
theorem gtr_yes {X W : ByteArray} {x t : List UInt8} (hX : mkS x = X) (hW : mkS t = W) (h : ltL t x = true) : Op.bytesLess X.toList W.toList = false ∧ (X.toList == W.toList) = false ∧ ¬ X = W := by
  subst hX hW
  rw [toList_mkS, toList_mkS, less_ltL]
  have hne : x ≠ t := fun e => by subst e; rw [ltL_irrefl] at h; cases h
  refine ⟨?_, beq_eq_false_iff_ne.2 hne, fun e => hne (mkS_inj e)⟩
  cases hh : ltL x t
  · rfl
  · have := ltL_trans h hh; rw [ltL_irrefl] at this; cases this
theorem gtr_same {X W : ByteArray} {x t : List UInt8} (hX : mkS x = X) (hW : mkS t = W) (h : x = t) : Op.bytesLess X.toList W.toList = false ∧ (X.toList == W.toList) = true ∧ X = W := by
  subst h
  subst hX hW
  rw [toList_mkS, less_ltL]
  exact ⟨ltL_irrefl _, beq_self_eq_true _, rfl⟩
theorem gtr_no {X W : ByteArray} {x t : List UInt8} (hX : mkS x = X) (hW : mkS t = W) (h : ltL t x = false) (hne : x ≠ t) : Op.bytesLess X.toList W.toList = true ∧ (X.toList == W.toList) = false ∧ ¬ X = W := by
  subst hX hW
  rw [toList_mkS, toList_mkS, less_ltL]
  exact ⟨ltL_tri h (fun e => hne e.symm), beq_eq_false_iff_ne.2 hne, fun e => hne (mkS_inj e)⟩

set_option maxRecDepth 100000 in
set_option maxHeartbeats 2000000 in
theorem spec_l28All_any (N : Nat) (A : Option Addr) (cap : Nat) (bs : List Int) (k : Nat) (w : World) (hA : Ints w w.heap.size A bs) (hn : 1 ≤ N) (hn24 : N ≤ 24) (hk : k ≤ 1000) :
    Calls Try.prog 34 #[.agg #[.int .i64 N, .slice A bs.length cap], .int .i64 k] w (RetStr w (allD N bs k N)) := by
  have HA := Lib.hid hA
  clear hA
  go_enter Try.func34, Try.ntmps34
  go_wp2_with fail
  go_loopw [5, 6] (fun so sp wr => ∃ (q g c : Nat), q ≤ N ∧ sp = .int .i64 q ∧ so = .slice (some ⟨g, 0, none⟩) (allD N bs k q).length c ∧ (allD N bs k q).length ≤ c ∧ c ≤ maxLen ∧ OwnS wr (w.heap.size + 1) (.slice (some ⟨g, 0, none⟩) (allD N bs k q).length c) (allD N bs k q) ∧ g < wr.heap.size ∧ Below (w.heap.size + 1) (w.alloc (.cells #[.int .i64 N, .slice A bs.length cap] 27)) wr) (fun _ sp _ => N - (intOf sp).toNat)
  case atStart => exact ⟨0, w.heap.size + 1, 0, Nat.zero_le _, rfl, rfl, Nat.le_refl _, Nat.zero_le _, OwnS.empty_at _ _ _ (by simp) (Nat.le_refl _), by simp, (Below.refl _ _).alloc (by simp) _⟩
  case round =>
    obtain ⟨q, g, c, hq, rfl, rfl, hlc, hcm, hown, hgs, hbel⟩ := hrel
    obtain ⟨wo, rfl⟩ : ∃ wo : World, wo = wr := ⟨_, rfl⟩
    have hll := allD_len (N : Int) bs k q
    have HSU := Lib.hid (show allD N bs k (q + 1) = insD (winL N bs q k) (allD N bs k q) from rfl)
    have HLN := Lib.hid (show 0 < (allD N bs k (q + 1)).length from List.length_pos_of_mem ((allD_mem _ _ _ _ (winL N bs q k)).2 ⟨q, by omega, rfl⟩))
    have hfin := q
    unfold maxLen at hcm
    by_cases hlt : q < N
    · obtain ⟨hc0, hc1⟩ := box2 hbel
      have HWW := Lib.hid (((Below.refl w.heap.size w).alloc (Nat.le_refl _) _).trans (hbel.mono (by omega)))
      have HBE := Lib.hid hbel
      have HOW := Lib.hid hown
      generalize allD N bs k q = L at hlc HOW HSU hll ⊢
      clear hown hbel
      go_wp2_with fail
      refine (spec_l28At_any N A cap bs q k _ (HA.out.lift HWW.out) (by omega) (by omega) (by omega) hk).mono ?_
      rintro e w1 ⟨rfl, hb1⟩
      have HO1 := Lib.hid (HOW.out.grown hb1)
      have HB1 := Lib.hid (HBE.out.trans (hb1.mono (by have := HBE.out.size; simpa using this)))
      have hz1 := hb1.size
      have HST := Lib.hid (HO1.out.strs (by omega))
      have hgs1 : g < w1.heap.size := by omega
      have hws1 : w.heap.size + 1 ≤ w1.heap.size := by have := HB1.out.size; simpa using this
      obtain ⟨W, hW⟩ : ∃ W, mkS (winL N bs q k) = W := ⟨_, rfl⟩
      rw [hW]
      obtain ⟨t, ht⟩ : ∃ t, winL N bs q k = t := ⟨_, rfl⟩
      rw [ht] at hW HSU
      have HW := Lib.hid hW
      clear hc0 hc1 hb1 hW ht
      go_wp2_with fail
      go_loop [8] (fun i => ∃ j : Nat, j ≤ L.length ∧ i = .int .i64 j ∧ ∀ u, u < j → ltL t (L.getD u []) = true) (fun i => L.length - (intOf i).toNat)
      case atStart => exact ⟨0, Nat.zero_le _, rfl, fun u h => by omega⟩
      case round =>
        obtain ⟨j, hj, rfl, hbefore⟩ := hrel
        have HBF := Lib.hid hbefore
        clear hbefore
        by_cases hjl : j < L.length
        · obtain ⟨b, off, e0, hB0, hcs⟩ := HST.out.2 (by omega)
          injection e0 with e0
          injection e0 with e1 e2
          subst e1 e2
          have hcell := hcs j hjl
          rw [Nat.zero_add] at hcell
          unfold emS at hcell
          obtain ⟨X, hX⟩ : ∃ X, mkS (L.getD j []) = X := ⟨_, rfl⟩
          rw [hX] at hcell
          have HX := Lib.hid hX
          clear hcs hX hB0
          cases hgt : ltL t (L.getD j [])
          · have HGT := Lib.hid hgt
            have hpos : posD t L = j := posD_unique t L j hj HBF.out (fun _ => hgt)
            clear hgt
            by_cases hsame : L.getD j [] = t
            · obtain ⟨hb1, hb2, hb3⟩ := gtr_same HX.out HW.out hsame
              have HI := Lib.hid (show insD t L = L by unfold insD; rw [if_pos ⟨by rw [hpos]; exact hjl, by rw [hpos]; exact hsame⟩])
              clear hpos hsame
              subst hb3
              go_wp2_with fail
              go_roundw
              case rel => exact ⟨q + 1, g, c, by omega, by go_num, by rw [HSU.out, HI.out], by rw [HSU.out, HI.out]; omega, by unfold maxLen; omega, by rw [HSU.out, HI.out]; exact HO1.out, hgs1, HB1.out⟩
              case measure => simp [intOf]; omega
            · obtain ⟨hb1, hb2, hb3⟩ := gtr_no HX.out HW.out HGT.out hsame
              have HI := Lib.hid (show insD t L = L.take j ++ [t] ++ L.drop j by unfold insD; rw [hpos, if_neg (fun h => hsame h.2)])
              have hsl : ¬ c = j := by omega
              have htl : (L.take j).length = j := by rw [List.length_take]; omega
              have hdl : (L.drop j).length = L.length - j := List.length_drop
              have HTL := Lib.hid htl
              have HDL := Lib.hid hdl
              clear hpos hsame htl hdl
              go_wp2_with (first
                | (at_builtin; refine wpList_append_strs rfl (.tmp 47) (.tmp 50) rfl w1.heap.size _ [] rfl (OwnS.empty_at _ _ _ rfl (Nat.le_refl _)) (some ⟨g, 0, none⟩) c (L.take j) (by rw [HTL.out]; rfl) w1.heap.size ((HST.out.take j).below ((Below.refl _ _).alloc (Nat.le_refl _) _)) (fun h => by cases h) (fun ad h => by injection h with h; exact ⟨g, 0, h.symm⟩) (by rw [HTL.out]; simp; omega) (by simp) ?_; intro v1 w2 hown1 hb2')
                | (at_builtin; refine wpList_append_str rfl (.tmp 52) (.tmp 54) rfl w1.heap.size _ _ rfl (hown1.alloc _) w2.heap.size t (by rfl) (by unfold emS; rw [HW.out]; exact cell_new1 _ _ _) (by rw [List.nil_append, HTL.out]; omega) (by have := hb2'.size; simp at this ⊢; omega) ?_; intro v2 w3 hown2 hb3')
                | (at_builtin; refine wpList_append_strs rfl (.tmp 56) (.tmp 59) rfl w1.heap.size _ _ rfl hown2 (some ⟨g, j, none⟩) (c - j) (L.drop j) (by rw [HDL.out]; first | rfl | (simp [Act.eval, Act.put]; done)) w1.heap.size ((((HST.out.drop j).below ((Below.refl _ _).alloc (Nat.le_refl _) _)).below hb2').below (((Below.refl _ _).alloc (by have := hb2'.size; simp at this; omega) _).trans hb3') |> fun h => by simpa using h) (fun h => by cases h) (fun ad h => by injection h with h; exact ⟨g, j, h.symm⟩) (by rw [HDL.out]; simp [HTL.out]; omega) (by have h1 := hb2'.size; have h2 := hb3'.size; simp at h1 h2 ⊢; omega) ?_; intro v3 w4 hown3 hb4'))
              have hb5 : Below w1.heap.size w1 w4 := ((((Below.refl w1.heap.size w1).alloc (Nat.le_refl _) _).trans hb2').alloc (by have := hb2'.size; simp at this; omega) _).trans hb3' |>.trans hb4'
              rw [List.nil_append, ← HI.out, ← HSU.out] at hown3
              obtain ⟨g', c', rfl, h1, h2, h3, h4⟩ := hown3.pos HLN.out
              have HR := Lib.hid (⟨h1, h2, hown3.mono hws1, h4, HB1.out.trans (hb5.mono hws1)⟩ : _ ∧ _ ∧ _ ∧ _ ∧ _)
              clear hown1 hown2 hown3 hb2' hb3' hb4' hb5 h1 h2 h3 h4
              go_wp2_with fail
              go_roundw
              case rel => exact ⟨q + 1, g', c', by omega, by go_num, rfl, HR.out⟩
              case measure => simp [intOf]; omega
          · obtain ⟨hb1, hb2, hb3⟩ := gtr_yes HX.out HW.out hgt
            have HGT := Lib.hid hgt
            clear hgt
            go_wp2_with fail
            go_round
            case rel =>
              refine ⟨j + 1, by omega, by go_num, fun u hu => ?_⟩
              by_cases e : u = j
              · subst e; exact HGT.out
              · exact HBF.out u (by omega)
            case measure => simp [intOf]; omega
        · have hje : j = L.length := by omega
          have hpos : posD t L = j := posD_unique t L j hj HBF.out (fun h => absurd h hjl)
          have HI := Lib.hid (show insD t L = L.take j ++ [t] ++ L.drop j by unfold insD; rw [hpos, if_neg (fun h => hjl h.1)])
          have htl : (L.take j).length = j := by rw [List.length_take]; omega
          have hdl : L.drop j = [] := by rw [hje]; exact List.drop_length
          have hlz : (((L.length : Int)) - (j : Int)).toNat = 0 := by omega
          have HTL := Lib.hid htl
          have HDL := Lib.hid hdl
          clear hpos htl hdl
          subst hje
          by_cases hsl : c = L.length
          · subst hsl
            go_wp2_with (first
                | (at_builtin; refine wpList_append_strs rfl (.tmp 47) (.tmp 50) rfl w1.heap.size _ [] rfl (OwnS.empty_at _ _ _ rfl (Nat.le_refl _)) (some ⟨g, 0, none⟩) L.length (L.take L.length) (by rw [HTL.out]; rfl) w1.heap.size ((HST.out.take _).below ((Below.refl _ _).alloc (Nat.le_refl _) _)) (fun h => by cases h) (fun ad h => by injection h with h; exact ⟨g, 0, h.symm⟩) (by rw [HTL.out]; simp; omega) (by simp) ?_; intro v1 w2 hown1 hb2')
                | (at_builtin; refine wpList_append_str rfl (.tmp 52) (.tmp 54) rfl w1.heap.size _ _ rfl (hown1.alloc _) w2.heap.size t (by rfl) (by unfold emS; rw [HW.out]; exact cell_new1 _ _ _) (by rw [List.nil_append, HTL.out]; omega) (by have := hb2'.size; simp at this ⊢; omega) ?_; intro v2 w3 hown2 hb3')
                | (at_builtin; refine wpList_append_strs rfl (.tmp 56) (.tmp 59) rfl w1.heap.size _ _ rfl hown2 (some ⟨g, 0, none⟩) (L.length - L.length) [] (by first | (simp [Act.eval, Act.put]; done) | (simp [Act.eval, Act.put]; omega)) w1.heap.size (Strs.nil _ _ _) (fun h => by cases h) (fun ad h => by injection h with h; exact ⟨g, _, h.symm⟩) (by simp [HTL.out]; omega) (by have h1 := hb2'.size; have h2 := hb3'.size; simp at h1 h2 ⊢; omega) ?_; intro v3 w4 hown3 hb4'))
            have hb5 : Below w1.heap.size w1 w4 := ((((Below.refl w1.heap.size w1).alloc (Nat.le_refl _) _).trans hb2').alloc (by have := hb2'.size; simp at this; omega) _).trans hb3' |>.trans hb4'
            rw [List.nil_append, show L.take L.length ++ [t] ++ [] = allD N bs k (q + 1) by rw [HSU.out, HI.out, HDL.out]] at hown3
            obtain ⟨g', c', rfl, h1, h2, h3, h4⟩ := hown3.pos HLN.out
            have HR := Lib.hid (⟨h1, h2, hown3.mono hws1, h4, HB1.out.trans (hb5.mono hws1)⟩ : _ ∧ _ ∧ _ ∧ _ ∧ _)
            clear hown1 hown2 hown3 hb2' hb3' hb4' hb5 h1 h2 h3 h4
            go_wp2_with fail
            go_roundw
            case rel => exact ⟨q + 1, g', c', by omega, by go_num, rfl, HR.out⟩
            case measure => simp [intOf]; omega
          · go_wp2_with (first
                | (at_builtin; refine wpList_append_strs rfl (.tmp 47) (.tmp 50) rfl w1.heap.size _ [] rfl (OwnS.empty_at _ _ _ rfl (Nat.le_refl _)) (some ⟨g, 0, none⟩) c (L.take L.length) (by rw [HTL.out]; rfl) w1.heap.size ((HST.out.take _).below ((Below.refl _ _).alloc (Nat.le_refl _) _)) (fun h => by cases h) (fun ad h => by injection h with h; exact ⟨g, 0, h.symm⟩) (by rw [HTL.out]; simp; omega) (by simp) ?_; intro v1 w2 hown1 hb2')
                | (at_builtin; refine wpList_append_str rfl (.tmp 52) (.tmp 54) rfl w1.heap.size _ _ rfl (hown1.alloc _) w2.heap.size t (by rfl) (by unfold emS; rw [HW.out]; exact cell_new1 _ _ _) (by rw [List.nil_append, HTL.out]; omega) (by have := hb2'.size; simp at this ⊢; omega) ?_; intro v2 w3 hown2 hb3')
                | (at_builtin; refine wpList_append_strs rfl (.tmp 56) (.tmp 59) rfl w1.heap.size _ _ rfl hown2 (some ⟨g, L.length, none⟩) (c - L.length) [] (by first | (simp [Act.eval, Act.put, hsl]; done) | (simp [Act.eval, Act.put, hsl]; omega)) w1.heap.size (Strs.nil _ _ _) (fun h => by cases h) (fun ad h => by injection h with h; exact ⟨g, _, h.symm⟩) (by simp [HTL.out]; omega) (by have h1 := hb2'.size; have h2 := hb3'.size; simp at h1 h2 ⊢; omega) ?_; intro v3 w4 hown3 hb4'))
            have hb5 : Below w1.heap.size w1 w4 := ((((Below.refl w1.heap.size w1).alloc (Nat.le_refl _) _).trans hb2').alloc (by have := hb2'.size; simp at this; omega) _).trans hb3' |>.trans hb4'
            rw [List.nil_append, show L.take L.length ++ [t] ++ [] = allD N bs k (q + 1) by rw [HSU.out, HI.out, HDL.out]] at hown3
            obtain ⟨g', c', rfl, h1, h2, h3, h4⟩ := hown3.pos HLN.out
            have HR := Lib.hid (⟨h1, h2, hown3.mono hws1, h4, HB1.out.trans (hb5.mono hws1)⟩ : _ ∧ _ ∧ _ ∧ _ ∧ _)
            clear hown1 hown2 hown3 hb2' hb3' hb4' hb5 h1 h2 h3 h4
            go_wp2_with fail
            go_roundw
            case rel => exact ⟨q + 1, g', c', by omega, by go_num, rfl, HR.out⟩
            case measure => simp [intOf]; omega
    · have hqe : q = N := by omega
      obtain ⟨hc0, hc1⟩ := box2 hbel
      have HF := Lib.hid (hown.mono (Nat.le_succ _))
      have HB := Lib.hid (((Below.refl w.heap.size w).alloc (Nat.le_refl _) _).trans (hbel.mono (Nat.le_succ _)))
      subst hqe
      clear hown hbel
      go_wp2_with fail
      go_ret
      exact ⟨_, rfl, HF.out, HB.out⟩

end Go.Proofs.Ytjgbnmljbgadjaa
