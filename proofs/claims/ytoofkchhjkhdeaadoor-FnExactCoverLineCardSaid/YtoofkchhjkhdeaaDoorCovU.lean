/-
  All covers, by the reference.
-/
import Derived.Test.YtoofkchhjkhdeaaDoorCovS
namespace Go.Proofs.YtoofkchhjkhdeaaDoor
open Go.RowKit Go.Shelf
set_option linter.unusedVariables false
set_option linter.unusedSimpArgs false

/-- 'append(out, rows...)' at a plain region. -/
theorem wpList_append_rowsC {w : World} {ops : Array Oper} {rest : List Oper} {o : Oper} {a : Act} {Q : Exit → Act → World → Prop} (hgd : o.guard = none) (s x : Operand)
    (ho : o.op = .call { callee := .builtin .append, args := #[s, x], argTypes := #[31, 31] })
    (base : Nat) (v : Value) (rs : List SV) (hs : a.eval s = v) (hown : OwnW w base v rs) (b off c : Nat) (news : List SV) (hx : a.eval x = .slice (some ⟨b, off, none⟩) news.length c)
    (hc : ∀ i (hi : i < news.length), w.cell? ⟨b, off + i, none⟩ = some news[i].slc) (hn : ∀ r ∈ news, r.Rd w v.ownBlock) (hm : 0 < news.length) (hlen : rs.length + news.length ≤ 1000000000) (hbase : base ≤ w.heap.size)
    (h : ∀ v' w', OwnW w' base v' (rs ++ news) → w.grownBy w' v.ownBlock → (∀ g, v'.ownBlock = some g → v.ownBlock = some g ∨ w.heap.size ≤ g) → wpList Tryd.prog ops Q rest (a.put o.dst v') w') : wpList Tryd.prog ops Q (o :: rest) a w := by
  obtain ⟨i, hi, hz, hsz, hby⟩ := info_parts Tryd.infoIntS
  refine wpList_append_lies w hgd s x _ ho base 22 i _ 1 24 Tryd.underlying31 hi hz hsz hby rfl (by omega) v rs.length _ hs hown.1 ⟨b, off, none⟩ news.length c (news.map SV.slc) hx (by simp) (news_rows hc).1 (news_rows hc).2 hm (by unfold maxLen; omega) (by omega) hbase _ rfl ?_
  intro g cap w' hown' hgrow hat hlt
  have := hown.appended hown' hgrow hat hn
  rw [List.length_append] at this
  exact h _ w' this hgrow (fun k hk => by
    have e : g = k := by simpa [Value.ownBlock] using hk
    subst e
    rcases hat with h1 | h1
    · exact .inl h1
    · exact .inr (by omega))


theorem OwnI.posC {w : World} {base : Nat} {v : Value} {xs : List Int} (h : OwnI w base v xs) (hp : 0 < xs.length) : ∃ g c, v = .slice (some ⟨g, 0, none⟩) xs.length c := by
  rcases h.2 with ⟨_, h0⟩ | ⟨g, cap, cur, e, _⟩
  · omega
  · exact ⟨g, cap, e⟩

theorem map_cons_castN (L : List (List Nat)) (x : Nat) (l : List Nat) : (L.map (List.cons x)).map (fun u => castN (l ++ u)) = L.map (fun u => castN ((l ++ [x]) ++ u)) := by
  rw [List.map_map]
  exact List.map_congr_left fun u _ => by simp
/-- What the search of the reference leaves. -/
def AllR (w : World) (base : Nat) (v : Value) (rs : List SV) (L : List (List Int)) (e : Ending) (w' : World) : Prop :=
  ∃ v' new, e = .returned v' ∧ OwnW w' base v' (rs ++ new) ∧ new.map SV.xs = L ∧ Frm (fun c => v.ownBlock = some c) w w' ∧ (∀ g, v'.ownBlock = some g → v.ownBlock = some g ∨ w.heap.size ≤ g)

set_option maxRecDepth 100000 in
set_option maxHeartbeats 4000000 in
theorem spec_l14All_any (n a b : Nat) (hn : n ≤ 24) (ha : a < 8192) (hb : b < 8192) (hao : a % 2 = 1) (hbo : b % 2 = 1) :
    ∀ (f t s : Nat) (l : List Nat) (bb ob c base : Nat) (v : Value) (rs : List SV) (w : World), n + 1 ≤ f + (t + stN (n - t) s) → f ≤ 30 → t ≤ n → s < 2 ^ (n - t) → l.length + f ≤ 1000 → (∀ x ∈ l, x < 100) → rs.length + 2 ^ f ≤ 100000000 →
      l.length ≤ c → Ints w w.heap.size (some ⟨bb, ob, none⟩) (castN l) → (0 < l.length → v.ownBlock ≠ some bb) → OwnW w base v rs → base ≤ w.heap.size →
      Calls Tryd.prog 24 #[.int .i64 a, .int .i64 b, .int .i64 n, .int .i64 t, .int .i64 s, .slice (some ⟨bb, ob, none⟩) (castN l).length c, v] w (AllR w base v rs ((covL n a b f t s).map fun u => castN (l ++ u))) := by
  intro f
  induction f with
  | zero => intro t s l bb ob c base v rs w h1; have := stN_le (n - t) s; intro _ h2; omega
  | succ f ih =>
    intro t s l bb ob c base v rs w hf hf30 ht hs hll hl100 hrl hlc hI hsep hown hbase
    have HIH := Lib.hid (fun t s l bb ob c base v rs w h1 h2 h3 h4 h5 h6 h7 h8 h9 h10 h11 h12 => ih t s l bb ob c base v rs w h1 h2 h3 h4 h5 h6 h7 h8 h9 h10 h11 h12)
    clear ih
    have hkl := stN_le (n - t) s
    have hs24 : s < 2 ^ 24 := Nat.lt_of_lt_of_le hs (Nat.pow_le_pow_right (by decide) (by omega))
    have hs' := strip_lt (k := stN (n - t) s) (show t + stN (n - t) s ≤ n by omega) hs
    have HGO := Lib.hid (fun k (hk : k ≤ stN (n - t) s) => stN_go hk)
    obtain ⟨m, hm⟩ : ∃ m, t + stN (n - t) s = m := ⟨_, rfl⟩
    obtain ⟨s1, hs1⟩ : ∃ s1, s / 2 ^ stN (n - t) s = s1 := ⟨_, rfl⟩
    rw [hm, hs1] at hs'
    obtain ⟨z, hz⟩ : ∃ z, stN (n - t) s = z := ⟨_, rfl⟩
    have HCE := Lib.hid (fun h => covL_end (a := a) (b := b) (f := f) (t := t) (s := s) (hm.trans h))
    have HCG := Lib.hid (fun h => covL_go (a := a) (b := b) (f := f) hm hs1 h)
    rw [hz] at HGO hs1 hm hkl
    have HZ := Lib.hid hz
    have HS1 := Lib.hid hs1
    have HMM := Lib.hid hm
    have HI := Lib.hid hI
    have HSEP := Lib.hid hsep
    have HOW := Lib.hid hown
    have HBA := Lib.hid hbase
    have HL1 := Lib.hid hl100
    have HLC := Lib.hid hlc
    have hcl := castN_len l
    have HCL := Lib.hid hcl
    have HRL := Lib.hid (And.intro hrl hll)
    have HRD := Lib.hid (show (⟨castN l, some ⟨bb, ob, none⟩, c⟩ : SV).Rd w v.ownBlock from ⟨by rw [hcl]; exact hlc, hI, fun hn b2 off2 t2 e hh => by
      injection e with e
      injection e with e1
      subst e1
      exact hsep (by rwa [hcl] at hn) hh⟩)
    clear hz hs1 hm hI hsep hown hbase hl100 hcl hrl hlc hll
    go_enter Tryd.func24, Tryd.ntmps24
    go_wp2_with fail
    go_loop [3, 4] (fun ti si => ∃ k : Nat, k ≤ z ∧ ti = .int .i64 ((t + k : Nat) : Int) ∧ si = .int .i64 ((s / 2 ^ k : Nat) : Int)) (fun ti _ => n - (intOf ti).toNat)
    case atStart => exact ⟨0, Nat.zero_le _, by simp, by simp⟩
    case round =>
      obtain ⟨k, hk, rfl, rfl⟩ := hrel
      have hgo := HGO.out k hk
      have hsk : s / 2 ^ k ≤ s := Nat.div_le_self _ _
      have hnx : s / 2 ^ (k + 1) = s / 2 ^ k / 2 := by rw [Nat.pow_succ, Nat.div_div_eq_div_mul]
      by_cases hlt : k < z
      · obtain ⟨h1, h2⟩ := hgo.1 (by have := HZ.out; omega)
        obtain ⟨u, hu⟩ : ∃ u, s / 2 ^ k = u := ⟨_, rfl⟩
        rw [hu] at hsk hnx h2 ⊢
        have hand := i64_and_nat u 1 (by omega) (by omega)
        rw [Nat.and_one_is_mod, h2] at hand
        have hand : bits .and .i64 (u : Int) 1 = 1 := hand
        obtain ⟨q, hq⟩ : ∃ q, u / 2 = q := ⟨_, rfl⟩
        rw [hq] at hnx
        have hqi : (u : Int) / 2 = (q : Int) := by rw [← hq]; rfl
        obtain ⟨tk, htk⟩ : ∃ tk, t + k = tk := ⟨_, rfl⟩
        have htn : (tk : Int) < (n : Int) := by omega
        have hwT : IntKind.i64.wrap ((tk : Int) + 1) = (tk : Int) + 1 := i64w (by omega)
        have HNX := Lib.hid hnx
        have HTK := Lib.hid htk
        rw [htk]
        clear hgo hu hnx h2 hq htk
        go_wp2_with fail
        go_round
        case rel => exact ⟨k + 1, hlt, by have := HTK.out; rw [show t + (k + 1) = tk + 1 by omega]; go_num, by rw [HNX.out]⟩
        case measure => simp [intOf]; omega
      · have hkz : k = z := by omega
        have hgo2 : ¬ (k < n - t ∧ s / 2 ^ k % 2 = 1) := fun h => hlt (by have := HZ.out; have := hgo.2 h; omega)
        rw [show s / 2 ^ k = s1 by rw [hkz]; exact HS1.out] at hgo2 hsk ⊢
        rw [show t + k = m by rw [hkz]; exact HMM.out]
        have hmn : m ≤ n := by have := HMM.out; omega
        have hand := i64_and_nat s1 1 (by omega) (by omega)
        rw [Nat.and_one_is_mod] at hand
        clear hgo hnx hkz hlt
        by_cases hme : m = n
        · have HL := Lib.hid (HCE.out hme)
          have hmi : ¬ (m : Int) < (n : Int) := by omega
          have hmd : decide ((m : Int) < (n : Int)) = false := decide_eq_false hmi
          have hmb : ((m : Int) == (n : Int)) = true := by rw [hme]; simp
          have hal := (Below.refl w.heap.size w).alloc (Nat.le_refl _) (.cells #[(⟨castN l, some ⟨bb, ob, none⟩, c⟩ : SV).slc] 22)
          have HO2 := Lib.hid (HOW.out.lift hal)
          have HRD2 := Lib.hid (HRD.out.lift hal)
          have hlen9 : rs.length + 1 ≤ 1000000000 := by have := HRL.out.1; have := Nat.two_pow_pos (f + 1); omega
          have HA2 := Lib.hid hal
          clear hme hgo2 hal
          go_wp2_with (at_builtin; refine wpList_append_rowsC rfl _ _ rfl base v rs rfl HO2.out w.heap.size 0 1 [⟨castN l, some ⟨bb, ob, none⟩, c⟩] rfl (fun i hi => by
            have h0 : i = 0 := by simp at hi; omega
            subst h0
            simp [SV.slc]) (fun r hr => by rw [List.mem_singleton] at hr; subst hr; exact HRD2.out) (by simp) hlen9 (by have := HBA.out; simp; omega) ?_; intro v2 w2 hown2 hgr2 hat2)
          have HO3 := Lib.hid hown2
          have HF3 := Lib.hid (frm_chainC (Frm.pure HA2.out (fun c => v.ownBlock = some c)) (T := fun c => v.ownBlock = some c) ⟨hgr2.os, hgr2.tape, hgr2.output, hgr2.size, fun c hc hS => hgr2.block c hc (fun e => hS e.symm)⟩ (fun _ _ h => h))
          have HT3 := Lib.hid (fun g (hg : v2.ownBlock = some g) => show v.ownBlock = some g ∨ w.heap.size ≤ g by
            rcases hat2 g hg with h | h
            · exact .inl h
            · exact .inr (Nat.le_trans (by simp) h))
          clear hown2 hgr2 hat2
          go_wp2_with fail
          go_ret
          exact ⟨v2, [⟨castN l, some ⟨bb, ob, none⟩, c⟩], rfl, HO3.out, by rw [HL.out]; simp, HF3.out, HT3.out⟩
        · have hodd : s1 % 2 = 0 := by have := HMM.out; omega
          rw [hodd] at hand
          have hand : bits .and .i64 (s1 : Int) 1 = 0 := hand
          have hmi : (m : Int) < (n : Int) := by omega
          have hmb : ((m : Int) == (n : Int)) = false := beq_eq_false_iff_ne.2 (by omega)
          have HL := Lib.hid (HCG.out hme)
          clear hgo2
          obtain ⟨d, hd⟩ : ∃ d, n - m = d := ⟨_, rfl⟩
          have hdw : IntKind.i64.wrap ((n : Int) - (m : Int)) = (d : Int) := by rw [show (n : Int) - (m : Int) = (d : Int) by omega]; exact i64w (by omega)
          have hd0 : (0 : Int) ≤ (d : Int) := Int.natCast_nonneg _
          have hd64 : d < 64 := by omega
          have HSL := Lib.hid (And.intro hs' (And.intro hs24 hsk))
          have HST := Lib.hid (fun (x : Nat) (hxo : x % 2 = 1) => show n + 1 ≤ f + (m + stN (n - m) (s1 ||| x)) from by
            have hm2 := HMM.out
            have hz2 := HZ.out
            have := stN_pos (d := n - m) (s := s1 ||| x) (by
              have := Nat.testBit_or s1 x 0
              rw [Nat.testBit_zero, Nat.testBit_zero, Nat.testBit_zero, decide_eq_true hxo, Bool.or_true] at this
              exact of_decide_eq_true this) (by omega)
            omega)
          have HFT := Lib.hid (fun (x : Nat) (hx2 : x / 2 ^ d = 0) => or_fit (s := s1) (m := x) (d := n - m) HSL.out.1 (by rw [hd]; exact hx2))
          have hand1 := i64_and_nat s1 a (by omega) (by omega)
          have hand2 := i64_and_nat s1 b (by omega) (by omega)
          have hor1 := i64_or_nat s1 a (by omega) (by omega)
          have hor2 := i64_or_nat s1 b (by omega) (by omega)
          obtain ⟨c0, hc0⟩ : ∃ c0, 2 * m = c0 := ⟨_, rfl⟩
          obtain ⟨c1, hc1⟩ : ∃ c1, c0 + 1 = c1 := ⟨_, rfl⟩
          have hwm : IntKind.i64.wrap (2 * (m : Int)) = (c0 : Int) := by rw [show 2 * (m : Int) = (c0 : Int) by omega]; exact i64w (by omega)
          have hwm1 : IntKind.i64.wrap ((c0 : Int) + 1) = (c1 : Int) := by rw [show (c0 : Int) + 1 = (c1 : Int) by omega]; exact i64w (by omega)
          have HC100 := Lib.hid (show c0 < 100 ∧ c1 < 100 from by omega)
          obtain ⟨qa1, hqa1⟩ : ∃ q, decide (s1 &&& a = 0) = q := ⟨_, rfl⟩
          obtain ⟨qa2, hqa2⟩ : ∃ q, decide (a / 2 ^ d = 0) = q := ⟨_, rfl⟩
          obtain ⟨qb0, hqb0⟩ : ∃ q, decide (b ≠ a) = q := ⟨_, rfl⟩
          obtain ⟨qb1, hqb1⟩ : ∃ q, decide (s1 &&& b = 0) = q := ⟨_, rfl⟩
          obtain ⟨qb2, hqb2⟩ : ∃ q, decide (b / 2 ^ d = 0) = q := ⟨_, rfl⟩
          have e1 : (bits .and .i64 (s1 : Int) (a : Int) == 0) = qa1 := by rw [hand1, ← hqa1, Bool.eq_iff_iff, beq_iff_eq, decide_eq_true_eq]; omega
          have e2 : ((a : Int) / 2 ^ d == 0) = qa2 := by rw [show (a : Int) / 2 ^ d = ((a / 2 ^ d : Nat) : Int) by simp, ← hqa2, Bool.eq_iff_iff, beq_iff_eq, decide_eq_true_eq]; omega
          have e3 : ((b : Int) != (a : Int)) = qb0 := by rw [← hqb0, Bool.eq_iff_iff, bne_iff_ne, decide_eq_true_eq]; omega
          have e4 : (bits .and .i64 (s1 : Int) (b : Int) == 0) = qb1 := by rw [hand2, ← hqb1, Bool.eq_iff_iff, beq_iff_eq, decide_eq_true_eq]; omega
          have e5 : ((b : Int) / 2 ^ d == 0) = qb2 := by rw [show (b : Int) / 2 ^ d = ((b / 2 ^ d : Nat) : Int) by simp, ← hqb2, Bool.eq_iff_iff, beq_iff_eq, decide_eq_true_eq]; omega
          obtain ⟨PA, hPA⟩ : ∃ PA, (if qa1 = true ∧ qa2 = true then (covL n a b f m (s1 ||| a)).map (fun u => castN ((l ++ [c0]) ++ u)) else []) = PA := ⟨_, rfl⟩
          obtain ⟨PB, hPB⟩ : ∃ PB, (if qb0 = true ∧ qb1 = true ∧ qb2 = true then (covL n a b f m (s1 ||| b)).map (fun u => castN ((l ++ [c1]) ++ u)) else []) = PB := ⟨_, rfl⟩
          have HLL := Lib.hid (show (covL n a b (f + 1) t s).map (fun u => castN (l ++ u)) = PA ++ PB from by
            rw [HL.out, List.map_append, ← hPA, ← hPB, ← hqa1, ← hqa2, ← hqb0, ← hqb1, ← hqb2, hd, hc0, hc1]
            simp only [decide_eq_true_eq]
            congr 1
            · split
              · exact map_cons_castN _ _ _
              · rfl
            · split
              · exact map_cons_castN _ _ _
              · rfl)
          have HPA := Lib.hid (show PA.length ≤ 2 ^ f from by
            rw [← hPA]
            split
            · rw [List.length_map]; exact covL_bnd n a b f m (s1 ||| a)
            · exact Nat.zero_le _)
          have HQA := Lib.hid (And.intro hqa1 hqa2)
          have HQB := Lib.hid (And.intro hqb0 (And.intro hqb1 hqb2))
          have HEA := Lib.hid hPA
          have HEB := Lib.hid hPB
          have HMN := Lib.hid hmn
          have HPW := Lib.hid (Nat.pow_succ 2 f)
          clear hand1 hand2 hqa1 hqa2 hqb0 hqb1 hqb2 hPA hPB hme hs24 hsk hs' hodd hc0 hc1 hmn
          cases qa1
          · have hz0 : PA = [] := by rw [← HEA.out]; rfl
            subst hz0
            have HO1 := Lib.hid (show OwnW w base v (rs ++ []) from by rw [List.append_nil]; exact HOW.out)
            have HK1 := Lib.hid (show ([] : List SV).map SV.xs = [] from rfl)
            have HF1 := Lib.hid (Frm.refl (fun c => v.ownBlock = some c) w)
            have HT1 := Lib.hid (show ∀ g, v.ownBlock = some g → v.ownBlock = some g ∨ w.heap.size ≤ g from fun g hg => .inl hg)
            have HR1 := Lib.hid HRD.out
            have HN1 := Lib.hid (show ([] : List SV).length ≤ 2 ^ f from Nat.zero_le _)
            cases qb0
            · skip
              have hz1 : PB = [] := by rw [← HEB.out]; rfl
              subst hz1
              go_wp2_with fail
              go_ret
              exact ⟨_, [], rfl, HO1.out, by rw [HLL.out, List.append_nil]; exact HK1.out, HF1.out, HT1.out⟩
            · cases qb1
              · skip
                have hz1 : PB = [] := by rw [← HEB.out]; rfl
                subst hz1
                go_wp2_with fail
                go_ret
                exact ⟨_, [], rfl, HO1.out, by rw [HLL.out, List.append_nil]; exact HK1.out, HF1.out, HT1.out⟩
              · cases qb2
                · skip
                  have hz1 : PB = [] := by rw [← HEB.out]; rfl
                  subst hz1
                  go_wp2_with fail
                  go_ret
                  exact ⟨_, [], rfl, HO1.out, by rw [HLL.out, List.append_nil]; exact HK1.out, HF1.out, HT1.out⟩
                · have hz1 : (covL n a b f m (s1 ||| b)).map (fun u => castN ((l ++ [c1]) ++ u)) = PB := by rw [← HEB.out]; rfl
                  have HIB := Lib.hid (fun g3 c3 V h1 h2 h3 h4 h5 => HIH.out m (s1 ||| b) (l ++ [c1]) g3 0 c3 base v (rs ++ []) V (HST.out b hbo) (by omega) HMN.out (HFT.out b (of_decide_eq_true HQB.out.2.2)) (by have := HRL.out.2; simp; omega) (fun x hx => by
                    rcases List.mem_append.1 hx with h | h
                    · exact HL1.out x h
                    · rw [List.mem_singleton] at h; have := HC100.out; omega) (by have := HRL.out.1; have := HPW.out; have := HN1.out; rw [List.length_append]; omega) h1 h2 h3 h4 h5)
                  rw [castN_snoc] at HIB
                  simp only [hz1] at HIB
                  clear hz1
                  have hal0 := (Below.refl (w).heap.size w).alloc (Nat.le_refl _) (.cells #[] 3)
                  have HCE := Lib.hid (ints_cellsK ((HR1).out.2.1.lift hal0))
                  have HA0 := Lib.hid hal0
                  clear hal0
                  go_wp2_with (first
                    | (at_builtin; refine wpList_append_ints rfl _ _ rfl (w).heap.size _ [] rfl (OwnI.empty_at w (w).heap.size (w).heap.size rfl (Nat.le_refl _)) bb ob c (castN l) rfl HCE.out (by have := HRL.out.2; have := HCL.out; simp; omega) (by simp) ?_; intro v2 w2 hown2 hb2 hg2)
                    | (at_builtin; refine wpList_append_int rfl _ _ rfl (w).heap.size _ (castN l) rfl ((show OwnI w2 (w).heap.size v2 (castN l) from hown2).alloc _) _ _ rfl (cell_new1 _ _ _) (by have := HRL.out.2; have := HCL.out; omega) (by have := hb2.size; simp at this; simp; omega) ?_; intro v3 w3 hown3 hb3))
                  obtain ⟨g3, c3, rfl⟩ := hown3.posC (by simp)
                  have HWB := Lib.hid (show Below (w).heap.size w w3 from ((HA0.out.trans hb2).alloc (by have := hb2.size; simp at this; omega) _).trans hb3)
                  refine (HIB.out g3 c3 w3 (by have h7 := hown3.capC; have h8 := HCL.out; simp at h7 ⊢; omega) (hown3.ints (fun x hx => by
                    rcases List.mem_append.1 hx with h | h
                    · obtain ⟨y, hy, rfl⟩ := List.mem_map.1 h
                      have := HL1.out y hy
                      unfold Fits
                      show _ ≤ ((y : Nat) : Int) ∧ ((y : Nat) : Int) ≤ _
                      omega
                    · rw [List.mem_singleton] at h; subst h; have := HC100.out; unfold Fits; omega)) (fun _ hh => by
                    have h1 := (hown3.lt g3 rfl).1
                    have h2 := ((HO1).out.lt g3 hh).2
                    omega) ((HO1).out.lift HWB.out) (by have := HWB.out.size; have := HBA.out; have := HF1.out.size; omega)).mono ?_
                  rintro e wB ⟨vB, newB, rfl, hoB, hkB, hfB, htB⟩
                  clear hown2 hb2 hg2 hown3 hb3
                  have HFIN := Lib.hid (show AllR w base v rs ([] ++ PB) (.returned vB) wB from ⟨vB, [] ++ newB, rfl, by rw [← List.append_assoc]; exact hoB, by rw [List.map_append, HK1.out, hkB], frm_chainC HF1.out (frm_chainC (Frm.pure HWB.out (fun c => (v).ownBlock = some c)) hfB (fun _ _ h => h)) (fun c hc h => by
                    rcases HT1.out c h with h2 | h2
                    · exact h2
                    · omega), fun g hg => by
                    rcases htB g hg with h | h
                    · exact HT1.out g h
                    · exact .inr (Nat.le_trans (Nat.le_trans HF1.out.size HWB.out.size) h)⟩)
                  clear hoB hkB hfB htB
                  go_wp2_with fail
                  go_ret
                  rw [HLL.out]
                  exact HFIN.out
          · cases qa2
            · have hz0 : PA = [] := by rw [← HEA.out]; rfl
              subst hz0
              have HO1 := Lib.hid (show OwnW w base v (rs ++ []) from by rw [List.append_nil]; exact HOW.out)
              have HK1 := Lib.hid (show ([] : List SV).map SV.xs = [] from rfl)
              have HF1 := Lib.hid (Frm.refl (fun c => v.ownBlock = some c) w)
              have HT1 := Lib.hid (show ∀ g, v.ownBlock = some g → v.ownBlock = some g ∨ w.heap.size ≤ g from fun g hg => .inl hg)
              have HR1 := Lib.hid HRD.out
              have HN1 := Lib.hid (show ([] : List SV).length ≤ 2 ^ f from Nat.zero_le _)
              cases qb0
              · skip
                have hz1 : PB = [] := by rw [← HEB.out]; rfl
                subst hz1
                go_wp2_with fail
                go_ret
                exact ⟨_, [], rfl, HO1.out, by rw [HLL.out, List.append_nil]; exact HK1.out, HF1.out, HT1.out⟩
              · cases qb1
                · skip
                  have hz1 : PB = [] := by rw [← HEB.out]; rfl
                  subst hz1
                  go_wp2_with fail
                  go_ret
                  exact ⟨_, [], rfl, HO1.out, by rw [HLL.out, List.append_nil]; exact HK1.out, HF1.out, HT1.out⟩
                · cases qb2
                  · skip
                    have hz1 : PB = [] := by rw [← HEB.out]; rfl
                    subst hz1
                    go_wp2_with fail
                    go_ret
                    exact ⟨_, [], rfl, HO1.out, by rw [HLL.out, List.append_nil]; exact HK1.out, HF1.out, HT1.out⟩
                  · have hz1 : (covL n a b f m (s1 ||| b)).map (fun u => castN ((l ++ [c1]) ++ u)) = PB := by rw [← HEB.out]; rfl
                    have HIB := Lib.hid (fun g3 c3 V h1 h2 h3 h4 h5 => HIH.out m (s1 ||| b) (l ++ [c1]) g3 0 c3 base v (rs ++ []) V (HST.out b hbo) (by omega) HMN.out (HFT.out b (of_decide_eq_true HQB.out.2.2)) (by have := HRL.out.2; simp; omega) (fun x hx => by
                      rcases List.mem_append.1 hx with h | h
                      · exact HL1.out x h
                      · rw [List.mem_singleton] at h; have := HC100.out; omega) (by have := HRL.out.1; have := HPW.out; have := HN1.out; rw [List.length_append]; omega) h1 h2 h3 h4 h5)
                    rw [castN_snoc] at HIB
                    simp only [hz1] at HIB
                    clear hz1
                    have hal0 := (Below.refl (w).heap.size w).alloc (Nat.le_refl _) (.cells #[] 3)
                    have HCE := Lib.hid (ints_cellsK ((HR1).out.2.1.lift hal0))
                    have HA0 := Lib.hid hal0
                    clear hal0
                    go_wp2_with (first
                      | (at_builtin; refine wpList_append_ints rfl _ _ rfl (w).heap.size _ [] rfl (OwnI.empty_at w (w).heap.size (w).heap.size rfl (Nat.le_refl _)) bb ob c (castN l) rfl HCE.out (by have := HRL.out.2; have := HCL.out; simp; omega) (by simp) ?_; intro v2 w2 hown2 hb2 hg2)
                      | (at_builtin; refine wpList_append_int rfl _ _ rfl (w).heap.size _ (castN l) rfl ((show OwnI w2 (w).heap.size v2 (castN l) from hown2).alloc _) _ _ rfl (cell_new1 _ _ _) (by have := HRL.out.2; have := HCL.out; omega) (by have := hb2.size; simp at this; simp; omega) ?_; intro v3 w3 hown3 hb3))
                    obtain ⟨g3, c3, rfl⟩ := hown3.posC (by simp)
                    have HWB := Lib.hid (show Below (w).heap.size w w3 from ((HA0.out.trans hb2).alloc (by have := hb2.size; simp at this; omega) _).trans hb3)
                    refine (HIB.out g3 c3 w3 (by have h7 := hown3.capC; have h8 := HCL.out; simp at h7 ⊢; omega) (hown3.ints (fun x hx => by
                      rcases List.mem_append.1 hx with h | h
                      · obtain ⟨y, hy, rfl⟩ := List.mem_map.1 h
                        have := HL1.out y hy
                        unfold Fits
                        show _ ≤ ((y : Nat) : Int) ∧ ((y : Nat) : Int) ≤ _
                        omega
                      · rw [List.mem_singleton] at h; subst h; have := HC100.out; unfold Fits; omega)) (fun _ hh => by
                      have h1 := (hown3.lt g3 rfl).1
                      have h2 := ((HO1).out.lt g3 hh).2
                      omega) ((HO1).out.lift HWB.out) (by have := HWB.out.size; have := HBA.out; have := HF1.out.size; omega)).mono ?_
                    rintro e wB ⟨vB, newB, rfl, hoB, hkB, hfB, htB⟩
                    clear hown2 hb2 hg2 hown3 hb3
                    have HFIN := Lib.hid (show AllR w base v rs ([] ++ PB) (.returned vB) wB from ⟨vB, [] ++ newB, rfl, by rw [← List.append_assoc]; exact hoB, by rw [List.map_append, HK1.out, hkB], frm_chainC HF1.out (frm_chainC (Frm.pure HWB.out (fun c => (v).ownBlock = some c)) hfB (fun _ _ h => h)) (fun c hc h => by
                      rcases HT1.out c h with h2 | h2
                      · exact h2
                      · omega), fun g hg => by
                      rcases htB g hg with h | h
                      · exact HT1.out g h
                      · exact .inr (Nat.le_trans (Nat.le_trans HF1.out.size HWB.out.size) h)⟩)
                    clear hoB hkB hfB htB
                    go_wp2_with fail
                    go_ret
                    rw [HLL.out]
                    exact HFIN.out
            · have hz0 : (covL n a b f m (s1 ||| a)).map (fun u => castN ((l ++ [c0]) ++ u)) = PA := by rw [← HEA.out]; rfl
              have HIA := Lib.hid (fun g3 c3 V h1 h2 h3 h4 h5 => HIH.out m (s1 ||| a) (l ++ [c0]) g3 0 c3 base v rs V (HST.out a hao) (by omega) HMN.out (HFT.out a (of_decide_eq_true HQA.out.2)) (by have := HRL.out.2; simp; omega) (fun x hx => by
                rcases List.mem_append.1 hx with h | h
                · exact HL1.out x h
                · rw [List.mem_singleton] at h; have := HC100.out; omega) (by have := HRL.out.1; have := HPW.out; omega) h1 h2 h3 h4 h5)
              rw [castN_snoc] at HIA
              simp only [hz0] at HIA
              clear hz0
              have hal0 := (Below.refl (w).heap.size w).alloc (Nat.le_refl _) (.cells #[] 3)
              have HCE := Lib.hid (ints_cellsK ((HRD).out.2.1.lift hal0))
              have HA0 := Lib.hid hal0
              clear hal0
              go_wp2_with (first
                | (at_builtin; refine wpList_append_ints rfl _ _ rfl (w).heap.size _ [] rfl (OwnI.empty_at w (w).heap.size (w).heap.size rfl (Nat.le_refl _)) bb ob c (castN l) rfl HCE.out (by have := HRL.out.2; have := HCL.out; simp; omega) (by simp) ?_; intro v2 w2 hown2 hb2 hg2)
                | (at_builtin; refine wpList_append_int rfl _ _ rfl (w).heap.size _ (castN l) rfl ((show OwnI w2 (w).heap.size v2 (castN l) from hown2).alloc _) _ _ rfl (cell_new1 _ _ _) (by have := HRL.out.2; have := HCL.out; omega) (by have := hb2.size; simp at this; simp; omega) ?_; intro v3 w3 hown3 hb3))
              obtain ⟨g3, c3, rfl⟩ := hown3.posC (by simp)
              have HWA := Lib.hid (show Below (w).heap.size w w3 from ((HA0.out.trans hb2).alloc (by have := hb2.size; simp at this; omega) _).trans hb3)
              refine (HIA.out g3 c3 w3 (by have h7 := hown3.capC; have h8 := HCL.out; simp at h7 ⊢; omega) (hown3.ints (fun x hx => by
                rcases List.mem_append.1 hx with h | h
                · obtain ⟨y, hy, rfl⟩ := List.mem_map.1 h
                  have := HL1.out y hy
                  unfold Fits
                  show _ ≤ ((y : Nat) : Int) ∧ ((y : Nat) : Int) ≤ _
                  omega
                · rw [List.mem_singleton] at h; subst h; have := HC100.out; unfold Fits; omega)) (fun _ hh => by
                have h1 := (hown3.lt g3 rfl).1
                have h2 := ((HOW).out.lt g3 hh).2
                omega) ((HOW).out.lift HWA.out) (by have := HWA.out.size; have := HBA.out; skip; omega)).mono ?_
              rintro e wA ⟨vA, newA, rfl, hoA, hkA, hfA, htA⟩
              clear hown2 hb2 hg2 hown3 hb3
              have HN1 := Lib.hid (show newA.length ≤ 2 ^ f from by
                have h1 := congrArg List.length hkA
                rw [List.length_map] at h1
                have := HPA.out
                omega)
              have HO1 := Lib.hid hoA
              have HK1 := Lib.hid hkA
              have HF1 := Lib.hid (show Frm (fun c => v.ownBlock = some c) w wA from frm_chainC (Frm.pure HWA.out (fun c => v.ownBlock = some c)) hfA (fun _ _ h => h))
              have HT1 := Lib.hid (show ∀ g, vA.ownBlock = some g → v.ownBlock = some g ∨ w.heap.size ≤ g from fun g hg => by
                rcases htA g hg with h | h
                · exact .inl h
                · exact .inr (Nat.le_trans HWA.out.size h))
              have HR1 := Lib.hid (show (⟨castN l, some ⟨bb, ob, none⟩, c⟩ : SV).Rd wA vA.ownBlock from HRD.out.frm HF1.out (fun b h => h) HT1.out)
              clear hoA hkA hfA htA
              cases qb0
              · skip
                have hz1 : PB = [] := by rw [← HEB.out]; rfl
                subst hz1
                go_wp2_with fail
                go_ret
                exact ⟨_, newA, rfl, HO1.out, by rw [HLL.out, List.append_nil]; exact HK1.out, HF1.out, HT1.out⟩
              · cases qb1
                · skip
                  have hz1 : PB = [] := by rw [← HEB.out]; rfl
                  subst hz1
                  go_wp2_with fail
                  go_ret
                  exact ⟨_, newA, rfl, HO1.out, by rw [HLL.out, List.append_nil]; exact HK1.out, HF1.out, HT1.out⟩
                · cases qb2
                  · skip
                    have hz1 : PB = [] := by rw [← HEB.out]; rfl
                    subst hz1
                    go_wp2_with fail
                    go_ret
                    exact ⟨_, newA, rfl, HO1.out, by rw [HLL.out, List.append_nil]; exact HK1.out, HF1.out, HT1.out⟩
                  · have hz1 : (covL n a b f m (s1 ||| b)).map (fun u => castN ((l ++ [c1]) ++ u)) = PB := by rw [← HEB.out]; rfl
                    have HIB := Lib.hid (fun g3 c3 V h1 h2 h3 h4 h5 => HIH.out m (s1 ||| b) (l ++ [c1]) g3 0 c3 base vA (rs ++ newA) V (HST.out b hbo) (by omega) HMN.out (HFT.out b (of_decide_eq_true HQB.out.2.2)) (by have := HRL.out.2; simp; omega) (fun x hx => by
                      rcases List.mem_append.1 hx with h | h
                      · exact HL1.out x h
                      · rw [List.mem_singleton] at h; have := HC100.out; omega) (by have := HRL.out.1; have := HPW.out; have := HN1.out; rw [List.length_append]; omega) h1 h2 h3 h4 h5)
                    rw [castN_snoc] at HIB
                    simp only [hz1] at HIB
                    clear hz1
                    have hal0 := (Below.refl (wA).heap.size wA).alloc (Nat.le_refl _) (.cells #[] 3)
                    have HCE := Lib.hid (ints_cellsK ((HR1).out.2.1.lift hal0))
                    have HA0 := Lib.hid hal0
                    clear hal0
                    go_wp2_with (first
                      | (at_builtin; refine wpList_append_ints rfl _ _ rfl (wA).heap.size _ [] rfl (OwnI.empty_at wA (wA).heap.size (wA).heap.size rfl (Nat.le_refl _)) bb ob c (castN l) rfl HCE.out (by have := HRL.out.2; have := HCL.out; simp; omega) (by simp) ?_; intro v2 w2 hown2 hb2 hg2)
                      | (at_builtin; refine wpList_append_int rfl _ _ rfl (wA).heap.size _ (castN l) rfl ((show OwnI w2 (wA).heap.size v2 (castN l) from hown2).alloc _) _ _ rfl (cell_new1 _ _ _) (by have := HRL.out.2; have := HCL.out; omega) (by have := hb2.size; simp at this; simp; omega) ?_; intro v3 w3 hown3 hb3))
                    obtain ⟨g3, c3, rfl⟩ := hown3.posC (by simp)
                    have HWB := Lib.hid (show Below (wA).heap.size wA w3 from ((HA0.out.trans hb2).alloc (by have := hb2.size; simp at this; omega) _).trans hb3)
                    refine (HIB.out g3 c3 w3 (by have h7 := hown3.capC; have h8 := HCL.out; simp at h7 ⊢; omega) (hown3.ints (fun x hx => by
                      rcases List.mem_append.1 hx with h | h
                      · obtain ⟨y, hy, rfl⟩ := List.mem_map.1 h
                        have := HL1.out y hy
                        unfold Fits
                        show _ ≤ ((y : Nat) : Int) ∧ ((y : Nat) : Int) ≤ _
                        omega
                      · rw [List.mem_singleton] at h; subst h; have := HC100.out; unfold Fits; omega)) (fun _ hh => by
                      have h1 := (hown3.lt g3 rfl).1
                      have h2 := ((HO1).out.lt g3 hh).2
                      omega) ((HO1).out.lift HWB.out) (by have := HWB.out.size; have := HBA.out; have := HF1.out.size; omega)).mono ?_
                    rintro e wB ⟨vB, newB, rfl, hoB, hkB, hfB, htB⟩
                    clear hown2 hb2 hg2 hown3 hb3
                    have HFIN := Lib.hid (show AllR w base v rs (PA ++ PB) (.returned vB) wB from ⟨vB, newA ++ newB, rfl, by rw [← List.append_assoc]; exact hoB, by rw [List.map_append, HK1.out, hkB], frm_chainC HF1.out (frm_chainC (Frm.pure HWB.out (fun c => (vA).ownBlock = some c)) hfB (fun _ _ h => h)) (fun c hc h => by
                      rcases HT1.out c h with h2 | h2
                      · exact h2
                      · omega), fun g hg => by
                      rcases htB g hg with h | h
                      · exact HT1.out g h
                      · exact .inr (Nat.le_trans (Nat.le_trans HF1.out.size HWB.out.size) h)⟩)
                    clear hoB hkB hfB htB
                    go_wp2_with fail
                    go_ret
                    rw [HLL.out]
                    exact HFIN.out

end Go.Proofs.YtoofkchhjkhdeaaDoor
