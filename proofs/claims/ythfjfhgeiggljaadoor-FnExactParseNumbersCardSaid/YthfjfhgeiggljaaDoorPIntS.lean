/-
  ParseInt of the reference (IsDigits first).
-/
import Derived.Test.YthfjfhgeiggljaaDoorPIntT
import Derived.Deep.CutRange
namespace Go.Proofs.YthfjfhgeiggljaaDoor
open Go.RowKit Go.Shelf
set_option linter.unusedVariables false
set_option linter.unusedSimpArgs false

def digsB (s : ByteArray) : Bool := decide (0 < s.size) && s.data.toList.all digB
theorem digs_no {s : ByteArray} {k : Nat} (h : k < s.size) (hk : digB s[k] = false) : digsB s = false := by
  unfold digsB
  rw [Bool.and_eq_false_iff]
  right
  rw [List.all_eq_false]
  exact ⟨s[k], by show (s.data)[k] ∈ s.data.toList; simp, by rw [hk]; simp⟩
theorem digs_yes {s : ByteArray} (h : ∀ k (hk : k < s.size), digB s[k] = true) : digsB s = decide (0 < s.size) := by
  unfold digsB
  rw [show s.data.toList.all digB = true from ?_, Bool.and_true]
  rw [List.all_eq_true]
  intro c hc
  obtain ⟨k, hk, e⟩ := List.getElem_of_mem hc
  rw [← e]
  exact h k (by simpa using hk)

set_option maxRecDepth 100000 in
set_option maxHeartbeats 1000000 in
theorem spec_IsDigits_any (s : ByteArray) (w : World) (hs : s.size ≤ maxLen) :
    Calls Tryd.prog 74 #[.string s] w fun e w' => e = .returned (.bool (digsB s)) ∧ w = w' := by
  unfold maxLen at hs
  have HN := Lib.hid (fun k (h : k < s.size) hk => digs_no (s := s) h hk)
  have HY := Lib.hid (digs_yes (s := s))
  generalize digsB s = r at HN HY ⊢
  go_enter Tryd.func74, Tryd.ntmps74
  go_wp2_with fail
  go_loop [3] (fun i => ∃ k : Nat, k ≤ s.size ∧ i = .int .i64 k ∧ ∀ x (hx : x < s.size), x < k → digB s[x] = true) (fun i => s.size - (intOf i).toNat)
  case atStart => exact ⟨0, Nat.zero_le _, rfl, fun x hx h => by omega⟩
  case round =>
    obtain ⟨k, hk, rfl, hd⟩ := hrel
    have HD := Lib.hid hd
    clear hd
    by_cases hlt : k < s.size
    · cases hc : digB s[k]
      · have HR := Lib.hid (HN.out k hlt hc)
        have hor : ((s[k]'hlt).toNat : Int) < 48 ∨ (¬ ((s[k]'hlt).toNat : Int) < 48 ∧ (57 : Int) < ((s[k]'hlt).toNat : Int)) := by
          have h : ¬ (48 ≤ (s[k]'hlt).toNat ∧ (s[k]'hlt).toNat ≤ 57) := of_decide_eq_false hc
          omega
        clear hc
        rcases hor with h1 | ⟨h1, h2⟩
        · go_wp2_with fail
          go_ret
          exact ⟨ret_bool HR.out.symm, rfl⟩
        · go_wp2_with fail
          go_ret
          exact ⟨ret_bool HR.out.symm, rfl⟩
      · have h := digB_iff.1 hc
        have h1 : ¬ ((s[k]'hlt).toNat : Int) < 48 := by omega
        have h2 : ¬ (57 : Int) < ((s[k]'hlt).toNat : Int) := by omega
        have HC := Lib.hid hc
        clear h hc
        go_wp2_with fail
        go_round
        case rel => exact ⟨k + 1, by omega, by go_num, fun x hx hxk => by
          by_cases e : x = k
          · subst e; exact HC.out
          · exact HD.out x hx (by omega)⟩
        case measure => simp [intOf]; omega
    · have HR := Lib.hid (HY.out (fun x hx => HD.out x hx (by omega)))
      go_wp2_with fail
      go_ret
      exact ⟨ret_bool (by rw [HR.out]), rfl⟩

theorem pint_shape {s : ByteArray} {v : Int} (h : pintV s = some v) :
    (∃ N : Nat, v = N ∧ s.data.toList = Lib.decDigits N ∧ N ≤ 9223372036854775807) ∨ (∃ N : Nat, 0 < N ∧ v = -(N : Int) ∧ s.data.toList = 45 :: Lib.decDigits N ∧ N ≤ 9223372036854775808) := by
  obtain ⟨hf, he⟩ := (pint_iff s v).1 h
  unfold Fits at hf
  by_cases h0 : 0 ≤ v
  · obtain ⟨N, rfl⟩ := Int.eq_ofNat_of_zero_le h0
    exact .inl ⟨N, rfl, by rw [← he, itoL_pos], by omega⟩
  · obtain ⟨N, hN⟩ := Int.eq_ofNat_of_zero_le (show 0 ≤ -v by omega)
    obtain rfl : v = -(N : Int) := by omega
    exact .inr ⟨N, by omega, rfl, by rw [← he, itoL_neg N (by omega)], by omega⟩
def negB (s : ByteArray) : Bool := decide (s.data.toList.head? = some 45)
def bodT (s : ByteArray) : ByteArray := if negB s then s.extract 1 s.size else s
theorem bod_neg {s : ByteArray} {l : List UInt8} (h : s.data.toList = 45 :: l) : negB s = true ∧ (bodT s).data.toList = l := by
  have hn : negB s = true := by unfold negB; rw [h]; rfl
  refine ⟨hn, ?_⟩
  unfold bodT
  rw [if_pos hn, Lib.extract_data, h, List.drop_one, List.tail_cons]
  have hl : s.size = l.length + 1 := by have := congrArg List.length h; simpa using this
  exact List.take_of_length_le (by omega)
theorem bod_pos {s : ByteArray} {N : Nat} (h : s.data.toList = Lib.decDigits N) : negB s = false ∧ (bodT s).data.toList = Lib.decDigits N := by
  have hn : negB s = false := by
    unfold negB
    rw [h]
    obtain ⟨h1, _, h3⟩ := dec_dig N
    cases hd : Lib.decDigits N with
    | nil => exact absurd hd h3
    | cons c r =>
      have := digB_iff.1 (h1 c (by rw [hd]; simp))
      apply decide_eq_false
      intro e
      injection e with e
      subst e
      exact absurd this (by decide)
  refine ⟨hn, ?_⟩
  unfold bodT
  rw [hn]
  exact h
theorem digs_of {t : ByteArray} {N : Nat} (h : t.data.toList = Lib.decDigits N) (hN : N ≤ 9223372036854775808) : digsB t = true ∧ t.size ≤ 19 ∧ decV 0 t.data.toList = N := by
  obtain ⟨h1, h2, h3⟩ := dec_dig N
  have hs : t.size = (Lib.decDigits N).length := by rw [← h]; simp
  have hl := decD_len 18 N (by omega)
  refine ⟨?_, by omega, by rw [h]; exact h2⟩
  unfold digsB
  rw [h, List.all_eq_true.2 h1, Bool.and_true, decide_eq_true_eq, hs]
  exact List.length_pos_iff.2 h3
/-- What is read has digits, no more than nineteen, and is what they spell. -/
theorem pint_tail {s : ByteArray} {v : Int} (h : pintV s = some v) : digsB (bodT s) = true ∧ (bodT s).size ≤ 19 ∧
    (negB s = false → v = decV 0 (bodT s).data.toList ∧ decV 0 (bodT s).data.toList ≤ 9223372036854775807) ∧ (negB s = true → v = -(decV 0 (bodT s).data.toList : Int) ∧ decV 0 (bodT s).data.toList ≤ 9223372036854775808) := by
  rcases pint_shape h with ⟨N, hv, hl, hN⟩ | ⟨N, h0, hv, hl, hN⟩
  · obtain ⟨hn, hb⟩ := bod_pos hl
    obtain ⟨d1, d2, d3⟩ := digs_of hb (by omega)
    exact ⟨d1, d2, fun _ => ⟨by rw [d3]; exact hv, by rw [d3]; exact hN⟩, fun e => by rw [hn] at e; cases e⟩
  · obtain ⟨hn, hb⟩ := bod_neg hl
    obtain ⟨d1, d2, d3⟩ := digs_of hb hN
    exact ⟨d1, d2, fun e => (by rw [hn] at e; cases e), fun _ => ⟨by rw [d3]; exact hv, by rw [d3]; exact hN⟩⟩

theorem tdiv10 (d : Nat) (h : d ≤ 9) : (-9223372036854775808 + (d : Int)).tdiv 10 = -(((9223372036854775808 - d) / 10 : Nat) : Int) := by
  rw [show (-9223372036854775808 + (d : Int)) = -((9223372036854775808 - d : Nat) : Int) by omega, Int.neg_tdiv]
  rfl

set_option maxRecDepth 100000 in
set_option maxHeartbeats 2000000 in
theorem spec_ParseInt_any (s : ByteArray) (hs : s.size ≤ 1048576) (w : World) :
    Calls Tryd.prog 47 #[.string s] w fun e w' => e = .returned (.tuple #[.int .i64 ((pintV s).getD 0), .bool (pintV s).isSome]) ∧ Below w.heap.size w w' := by
  have HT := Lib.hid (fun v (h : pintV s = some v) => pint_tail h)
  have HI := Lib.hid (fun v => pint_iff s v)
  have hneg : negB s = if h : 0 < s.size then ((s[0]'h).toNat : Int) == 45 else false := by
    unfold negB
    split
    · rename_i h
      have h' : 0 < s.data.toList.length := by simpa using h
      have e1 : s.data.toList.head? = some s[0] := by
        rw [List.head?_eq_getElem?, List.getElem?_eq_getElem h']; rfl
      rw [e1]
      by_cases hc : s[0] = 45
      · rw [hc]; decide
      · rw [decide_eq_false (fun e => hc (Option.some.inj e))]
        symm
        rw [beq_eq_false_iff_ne]
        intro e
        exact hc (UInt8.toNat_inj.1 (show (s[0]).toNat = 45 by omega))
    · rename_i h
      have : s.data.toList = [] := List.eq_nil_of_length_eq_zero (by simpa using (show s.size = 0 by omega))
      rw [this]; decide
  have hbod : bodT s = if negB s then s.extract 1 s.size else s := rfl
  have hbs : (bodT s).size ≤ s.size := by
    rw [hbod]; split
    · simp
    · exact Nat.le_refl _
  generalize pintV s = pv at HT HI ⊢
  generalize bodT s = T at HT hbod hbs
  generalize negB s = ng at HT hneg hbod
  by_cases h0 : 0 < s.size
  · have h0i : (0 : Int) < (s.size : Int) := by omega
    rw [dif_pos h0] at hneg
    have hng := hneg.symm
    clear hneg
    have HBO := Lib.hid hbod
    clear hbod
    go_enter Tryd.func47, Tryd.ntmps47
    go_upto_if 18 with fail
    go_cut [5] from 19 to 20 (fun s5 wx => s5 = .string T ∧ wx = w)
    case first =>
      cases ng
      · have hT : T = s := HBO.out
        subst hT
        go_wp2_with fail
        go_meet
        exact ⟨rfl, rfl⟩
      · have hT : T = s.extract 1 s.size := HBO.out
        subst hT
        go_wp2_with fail
        go_meet
        exact ⟨rfl, rfl⟩
    case rest =>
      obtain ⟨rfl, rfl⟩ := hcut
      have HDG := Lib.hid (fun V => spec_IsDigits_any T V (by unfold maxLen; omega))
      clear HBO
      cases hd : digsB T
      · have HPN := Lib.hid (show pv = none by
          cases pv with
          | none => rfl
          | some v => have := (HT.out v rfl).1; rw [hd] at this; cases this)
        rw [hd] at HDG
        clear hd
        go_wp2_with fail
        refine (HDG.out _).mono ?_
        rintro e w1 ⟨rfl, rfl⟩
        go_wp2_with fail
        go_ret2
        exact ⟨by rw [HPN.out]; rfl, Below.refl _ _⟩
      · rw [hd] at HDG
        have HDD := Lib.hid hd
        clear hd
        by_cases h19 : 19 < T.size
        · have HPN := Lib.hid (show pv = none by
            cases pv with
            | none => rfl
            | some v => have := (HT.out v rfl).2.1; omega)
          go_wp2_with fail
          refine (HDG.out _).mono ?_
          rintro e w1 ⟨rfl, rfl⟩
          go_wp2_with fail
          go_ret2
          exact ⟨by rw [HPN.out]; rfl, Below.refl _ _⟩
        · go_wp2_with fail
          refine (HDG.out _).mono ?_
          rintro e w1 ⟨rfl, rfl⟩
          go_wp2_with fail
          have HT2 := Lib.hid HT.out
          go_loop [6, 7] (fun n i => ∃ k : Nat, k ≤ T.size ∧ i = .int .i64 k ∧ n = .int .i64 (-(decV 0 (T.data.toList.take k) : Int)) ∧ decV 0 (T.data.toList.take k) ≤ 9223372036854775808) (fun _ i => T.size - (intOf i).toNat)
          case atStart => exact ⟨0, Nat.zero_le _, rfl, by simp [decV], by simp [decV]⟩
          case round =>
            obtain ⟨k, hk, rfl, rfl, hm⟩ := hrel
            by_cases hlt : k < T.size
            · have hdk : digB (T[k]'hlt) = true := by
                have := HDD.out
                unfold digsB at this
                rw [Bool.and_eq_true, List.all_eq_true] at this
                exact this.2 _ (by show (T.data)[k] ∈ T.data.toList; simp)
              have hdr := digB_iff.1 hdk
              obtain ⟨d, hd⟩ : ∃ d : Nat, (T[k]'hlt).toNat = 48 + d := ⟨(T[k]'hlt).toNat - 48, by omega⟩
              have hd9 : d ≤ 9 := by omega
              have hnx : decV 0 (T.data.toList.take (k + 1)) = decV 0 (T.data.toList.take k) * 10 + d := by
                rw [List.take_succ_eq_append_getElem (by simpa using hlt), decV_snoc]
                have : (T.data.toList[k]'(by simpa using hlt)).toNat = 48 + d := hd
                omega
              have hle := decV_take T.data.toList (k + 1)
              have hdi : ((T[k]'hlt).toNat : Int) = 48 + (d : Int) := by omega
              have HNX := Lib.hid hnx
              have HLE := Lib.hid hle
              generalize decV 0 (T.data.toList.take k) = m at hm HNX
              have hw1 : IntKind.i64.wrap (48 + (d : Int) - 48) = (d : Int) := by rw [show 48 + (d : Int) - 48 = d by omega]; exact i64w (by omega)
              clear hnx hle hdr hdk hd
              go_wp2_with fail
              · rename_i hq _
                rw [tdiv10 d hd9] at hq
                have HPN := Lib.hid (show pv = none by
                  cases pv with
                  | none => rfl
                  | some v =>
                    obtain ⟨_, _, h3, h4⟩ := HT.out v rfl
                    have := HNX.out
                    have := HLE.out
                    cases ng
                    · have := (h3 rfl).2; omega
                    · have := (h4 rfl).2; omega)
                go_ret2
                exact ⟨by rw [HPN.out]; rfl, Below.refl _ _⟩
              · rename_i hq
                rw [tdiv10 d hd9] at hq
                have hx := HNX.out
                refine ⟨⟨k + 1, by omega, by go_num, ?_, by omega⟩, by simp [intOf]; omega⟩
                rw [hx, show wrap64 (-(m : Int) * 10) = -(m : Int) * 10 by unfold wrap64; omega, show wrap64 (-(m : Int) * 10 - (d : Int)) = -((m * 10 + d : Nat) : Int) by unfold wrap64; omega]
            · have hke : k = T.size := by omega
              subst hke
              rw [List.take_of_length_le (by simp)] at hm ⊢
              obtain ⟨M, hM⟩ : ∃ M, decV 0 T.data.toList = M := ⟨_, rfl⟩
              rw [hM] at hm HT ⊢
              obtain ⟨V, hV⟩ : ∃ V : Int, (if ng then -(M : Int) else (M : Int)) = V := ⟨_, rfl⟩
              by_cases hbad : ng = false ∧ M = 9223372036854775808
              · obtain ⟨rfl, rfl⟩ := hbad
                have HPN := Lib.hid (show pv = none by
                  cases pv with
                  | none => rfl
                  | some v => have := ((HT.out v rfl).2.2.1 rfl).2; omega)
                go_wp2_with fail
                go_ret2
                exact ⟨by rw [HPN.out]; rfl, Below.refl _ _⟩
              · have hf : Fits V := by
                  unfold Fits
                  cases ng
                  · have : ¬ M = 9223372036854775808 := fun e => hbad ⟨rfl, e⟩
                    simp at hV; omega
                  · simp at hV; omega
                have HFM := Lib.hid (fun W => spec_FormatInt_any V hf W)
                have HEQ := Lib.hid (show ((mkS (itoL V)).toList == s.toList) = decide (itoL V = s.data.toList) by
                  rw [Lib.toList_data, Lib.toList_data, show (mkS (itoL V)).data.toList = itoL V from str_mk _]
                  by_cases h : itoL V = s.data.toList
                  · rw [h]; simp
                  · rw [decide_eq_false h, beq_eq_false_iff_ne]; exact h)
                have HPV := Lib.hid (show pv = if itoL V = s.data.toList then some V else none by
                  by_cases hc : itoL V = s.data.toList
                  · rw [if_pos hc]; exact (HI.out V).2 ⟨hf, hc⟩
                  · rw [if_neg hc]
                    cases pv with
                    | none => rfl
                    | some v =>
                      exfalso
                      obtain ⟨_, _, h3, h4⟩ := HT.out v rfl
                      have h5 := ((HI.out v).1 rfl).2
                      have hvv : v = V := by
                        cases ng
                        · rw [(h3 rfl).1, ← hV]; rfl
                        · rw [(h4 rfl).1, ← hV]; rfl
                      rw [hvv] at h5
                      exact hc h5)
                generalize mkS (itoL V) = X at HFM HEQ
                have HM1 := Lib.hid hM
                clear hM HT HI HT2
                obtain ⟨b, hb⟩ : ∃ b, decide (itoL V = s.data.toList) = b := ⟨_, rfl⟩
                have heq := HEQ.out
                rw [hb] at heq
                have HPW := Lib.hid (show pv = if b then some V else none by
                  rw [HPV.out, ← hb]
                  by_cases h : itoL V = s.data.toList
                  · rw [if_pos h, decide_eq_true h]; rfl
                  · rw [if_neg h, decide_eq_false h]; rfl)
                clear HEQ hb HPV hf
                cases ng
                · have hne : ¬ M = 9223372036854775808 := fun e => hbad ⟨rfl, e⟩
                  have hV' : V = (M : Int) := hV.symm
                  subst hV'
                  have hmb : ((-(M : Int)) == -9223372036854775808) = false := by rw [beq_eq_false_iff_ne]; omega
                  have hwn : IntKind.i64.wrap (- -(M : Int)) = (M : Int) := by rw [Int.neg_neg]; exact i64w (by omega)
                  clear hbad hV
                  go_wp2_with fail
                  refine (HFM.out _).mono ?_
                  rintro e w1 ⟨rfl, hb1⟩
                  cases b
                  · go_wp2_with fail
                    go_ret2
                    exact ⟨by rw [HPW.out]; rfl, hb1⟩
                  · go_wp2_with fail
                    go_ret2
                    exact ⟨by rw [HPW.out]; rfl, hb1⟩
                · have hV' : V = -(M : Int) := hV.symm
                  subst hV'
                  clear hbad hV
                  go_wp2_with fail
                  refine (HFM.out _).mono ?_
                  rintro e w1 ⟨rfl, hb1⟩
                  cases b
                  · go_wp2_with fail
                    go_ret2
                    exact ⟨by rw [HPW.out]; rfl, hb1⟩
                  · go_wp2_with fail
                    go_ret2
                    exact ⟨by rw [HPW.out]; rfl, hb1⟩
  · have hz : s.size = 0 := by omega
    have HD : digsB T = false := by
      unfold digsB
      rw [decide_eq_false (by omega), Bool.false_and]
    have HPN := Lib.hid (show pv = none by
      cases pv with
      | none => rfl
      | some v => have := (HT.out v rfl).1; rw [HD] at this; cases this)
    have hng : ng = false := by rw [hneg, dif_neg h0]
    subst hng
    have hTs : T = s := by rw [hbod]; rfl
    subst hTs
    have HDG := Lib.hid (fun V => spec_IsDigits_any T V (by unfold maxLen; omega))
    rw [HD] at HDG
    have h0i : ¬ (0 : Int) < (T.size : Int) := by omega
    clear hneg hbod hz HD h0
    go_enter Tryd.func47, Tryd.ntmps47
    go_wp2_with fail
    refine (HDG.out _).mono ?_
    rintro e w1 ⟨rfl, rfl⟩
    go_wp2_with fail
    go_ret2
    exact ⟨by rw [HPN.out]; rfl, Below.refl _ _⟩

end Go.Proofs.YthfjfhgeiggljaaDoor
