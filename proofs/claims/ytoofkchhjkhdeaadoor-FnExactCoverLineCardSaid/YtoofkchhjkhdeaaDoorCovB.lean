/-
  What stands round the search for covers: its boxes, the rows found so far, the list under way; the table that bits.TrailingZeros reads.
-/
import Derived.Test.YtoofkchhjkhdeaaDoorCovM
import Derived.Test.YtoofkchhjkhdeaaDoorIRow
import Derived.Test.YtoofkchhjkhdeaaDoorShZ
import Derived.Test.YtoofkchhjkhdeaaDoorFullC
namespace Go.Proofs.YtoofkchhjkhdeaaDoor
open Go.RowKit Go.Shelf
set_option linter.unusedVariables false
set_option linter.unusedSimpArgs false

/-- The table that bits.TrailingZeros reads lies where it lay. -/
def DeB (w : World) : Prop := 1 < w.heap.size ∧ TabAt 1 Lib.deBruijn64tab w
theorem DeB.frm {S : Nat → Prop} {w w' : World} (h : DeB w) (hf : Frm S w w') (hS : ¬ S 1) : DeB w' :=
  ⟨Nat.lt_of_lt_of_le h.1 hf.size, fun j hj => (hf.cell h.1 hS).trans (h.2 j hj)⟩
theorem DeB.below {w w' : World} (h : DeB w) (hb : Below w.heap.size w w') : DeB w' := h.frm (Frm.pure hb (fun _ => False)) (fun h => h)
theorem bits_TrailingZerosC (x : Nat) (hx : x < 18446744073709551616) (w : World) (hD : DeB w) :
    Calls Tryd.prog 32 #[.int .u64 x] w fun e w' => e = .returned (.int .i64 (Lib.ctz 64 x)) ∧ w' = w := Any7.bits_TrailingZeros Tryd.lays27 x hx w (fun _ => hD.2)

/-- The boxes of the search. -/
structure CovE (w : World) (base qn qo qk qp qx : Nat) (A : Option Addr) (cap : Nat) (xs : List Int) (n kinds : Nat) : Prop where
  bn : qn < base
  bo : qo < base
  bk : qk < base
  bp : qp < base
  bx : qx < base
  nn : qn ≠ qo
  nk : qk ≠ qo
  np : qp ≠ qo
  nx : qx ≠ qo
  cn : w.cell? ⟨qn, 0, none⟩ = some (.int .i64 n)
  ck : w.cell? ⟨qk, 0, none⟩ = some (.int .i64 kinds)
  cp : w.cell? ⟨qp, 0, none⟩ = some (.slice A xs.length cap)
  cx : w.cell? ⟨qx, 0, none⟩ = some (.func (.func 31) #[] #[.pointer (some ⟨qn, 0, none⟩), .pointer (some ⟨qo, 0, none⟩), .pointer (some ⟨qk, 0, none⟩), .pointer (some ⟨qp, 0, none⟩), .pointer (some ⟨qx, 0, none⟩)])
  ints : Ints w qo A xs
  deb : DeB w
  gb : 1 < qo
  size : base ≤ w.heap.size
theorem CovE.frm {S : Nat → Prop} {w w' : World} {base qn qo qk qp qx cap n kinds : Nat} {A : Option Addr} {xs : List Int} (h : CovE w base qn qo qk qp qx A cap xs n kinds) (hf : Frm S w w') (hS : ∀ c, S c → c = qo ∨ base ≤ c) : CovE w' base qn qo qk qp qx A cap xs n kinds := by
  have hq : ∀ q, q < base → q ≠ qo → w'.cell? ⟨q, 0, none⟩ = w.cell? ⟨q, 0, none⟩ := fun q h1 h2 => hf.cell (Nat.lt_of_lt_of_le h1 h.size) (fun hs => by rcases hS q hs with h3 | h3; exact h2 h3; omega)
  refine ⟨h.bn, h.bo, h.bk, h.bp, h.bx, h.nn, h.nk, h.np, h.nx, (hq qn h.bn h.nn).trans h.cn, (hq qk h.bk h.nk).trans h.ck, (hq qp h.bp h.np).trans h.cp, (hq qx h.bx h.nx).trans h.cx, ⟨h.ints.1, h.ints.2.1, fun hn => ?_⟩, h.deb.frm hf (fun hs => by have := h.gb; have := h.bo; rcases hS _ hs with h3 | h3 <;> omega), h.gb, Nat.le_trans h.size hf.size⟩
  obtain ⟨b, off, e, hb, hc⟩ := h.ints.2.2 hn
  have := h.bo
  exact ⟨b, off, e, hb, fun i hi => (hf.cell (Nat.lt_of_lt_of_le (by omega) h.size) (fun hs => by rcases hS b hs with h3 | h3 <;> omega)).trans (hc i hi)⟩
theorem CovE.below {w w' : World} {base qn qo qk qp qx cap n kinds : Nat} {A : Option Addr} {xs : List Int} (h : CovE w base qn qo qk qp qx A cap xs n kinds) (hb : Below w.heap.size w w') : CovE w' base qn qo qk qp qx A cap xs n kinds :=
  h.frm (Frm.pure hb (fun _ => False)) (fun _ h => h.elim)
theorem CovE.intsW {w : World} {base qn qo qk qp qx cap n kinds : Nat} {A : Option Addr} {xs : List Int} (h : CovE w base qn qo qk qp qx A cap xs n kinds) : Ints w w.heap.size A xs := h.ints.mono (by have := h.bo; have := h.size; omega)

/-- The rows lie in blocks of their own, beside o. -/
def RowsOff (w : World) (base : Nat) (o : Option Nat) (rs : List SV) : Prop := ∀ r ∈ rs, 0 < r.xs.length → ∀ b off t, r.A = some ⟨b, off, t⟩ → o ≠ some b ∧ base ≤ b ∧ b < w.heap.size
/-- The rows found so far, in their box. -/
structure OutC (w : World) (base qo : Nat) (vo : Value) (rs : List SV) (o : Option Nat) : Prop where
  cell : w.cell? ⟨qo, 0, none⟩ = some vo
  froz : w.frozen? ⟨qo, 0, none⟩ = false
  own : OwnW w base vo rs
  off : ∀ g, o = some g → vo.ownBlock ≠ some g
  rows : RowsOff w base o rs
  lt : qo < base
  size : base ≤ w.heap.size
section
variable {w w' : World} {base qo : Nat} {vo vo' : Value} {rs new : List SV} {o o' : Option Nat} {S : Nat → Prop}
theorem RowsOff.size {w2 : World} (h : RowsOff w base o rs) (hs : w.heap.size ≤ w2.heap.size) : RowsOff w2 base o rs := fun r hr hn b off t e => by
  obtain ⟨h1, h2, h3⟩ := h r hr hn b off t e
  exact ⟨h1, h2, by omega⟩
theorem RowsOff.app (h : RowsOff w base o rs) (k : RowsOff w base o new) : RowsOff w base o (rs ++ new) := fun r hr => by
  rcases List.mem_append.1 hr with h1 | h1
  · exact h r h1
  · exact k r h1
/-- The rows stay where neither they nor their slice are written. -/
theorem OwnW.keep (h : OwnW w base vo rs) (hf : Frm S w w') (h1 : ∀ g, vo.ownBlock = some g → ¬ S g) (h2 : ∀ r ∈ rs, 0 < r.xs.length → ∀ b off t, r.A = some ⟨b, off, t⟩ → ¬ S b) : OwnW w' base vo rs := by
  refine ⟨⟨h.1.1, ?_⟩, fun r hr => ?_⟩
  · rcases h.1.2 with h0 | ⟨g, cap, cur, e, hb, hh, rest⟩
    · exact .inl h0
    · have hlt : g < w.heap.size := (Array.getElem?_eq_some_iff.1 hh).1
      exact .inr ⟨g, cap, cur, e, hb, by rw [hf.block g hlt (h1 g (by rw [e]; rfl))]; exact hh, rest⟩
  · obtain ⟨k1, k2, k3⟩ := h.2 r hr
    refine ⟨k1, ⟨k2.1, k2.2.1, fun hn => ?_⟩, k3⟩
    obtain ⟨b, off, e, hb, hc⟩ := k2.2.2 hn
    exact ⟨b, off, e, Nat.lt_of_lt_of_le hb hf.size, fun i hi => (hf.cell hb (h2 r hr hn b off none e)).trans (hc i hi)⟩
theorem OutC.keep (h : OutC w base qo vo rs o) (hf : Frm S w w') (hq : ¬ S qo) (h1 : ∀ g, vo.ownBlock = some g → ¬ S g) (h2 : ∀ r ∈ rs, 0 < r.xs.length → ∀ b off t, r.A = some ⟨b, off, t⟩ → ¬ S b) : OutC w' base qo vo rs o :=
  ⟨(hf.cell (Nat.lt_of_lt_of_le h.lt h.size) hq).trans h.cell, (hf.frozen (Nat.lt_of_lt_of_le h.lt h.size) hq).trans h.froz, h.own.keep hf h1 h2, h.off, h.rows.size hf.size, h.lt, Nat.le_trans h.size hf.size⟩
theorem OutC.below (h : OutC w base qo vo rs o) (hb : Below w.heap.size w w') : OutC w' base qo vo rs o :=
  h.keep (Frm.pure hb (fun _ => False)) (fun h => h) (fun _ _ h => h) (fun _ _ _ _ _ _ _ h => h)
/-- The list grows: its block is another or the same. -/
theorem OutC.grown {v v' : Value} {m : Nat} (h : OutC w base qo vo rs v.ownBlock) (hv : ∀ k, v.ownBlock = some k → base ≤ k) (hg : w.grownBy w' v.ownBlock) (hr : SameRoom w w' v v' m) : OutC w' base qo vo rs v'.ownBlock := by
  have hf : Frm (fun c => v.ownBlock = some c) w w' := ⟨hg.os, hg.tape, hg.output, hg.size, fun c hc hS => hg.block c hc (fun e => hS e.symm)⟩
  have h0 := h.keep hf (fun hs => by have := hv _ hs; have := h.lt; omega) (fun g e hs => h.off g hs e) (fun r hr hn b off t e hs => (h.rows r hr hn b off t e).1 hs)
  refine ⟨h0.cell, h0.froz, h0.own, fun g e => ?_, fun r hr' hn b off t e => ?_, h0.lt, h0.size⟩
  · rcases hr with ⟨hr, _⟩ | ⟨g', cap, e1, e2⟩
    · rw [hr] at e
      injection e with e
      intro hh
      have := (h.own.lt g hh).2
      omega
    · refine h.off g ?_
      rw [← e, e1, e2]; rfl
  · obtain ⟨k1, k2, k3⟩ := h0.rows r hr' hn b off t e
    obtain ⟨_, _, k4⟩ := h.rows r hr' hn b off t e
    refine ⟨fun hh => ?_, k2, k3⟩
    rcases hr with ⟨hr, _⟩ | ⟨g', cap, e1, e2⟩
    · rw [hr] at hh
      injection hh with hh
      omega
    · refine k1 ?_
      rw [← hh, e1, e2]; rfl
end

theorem frm_chainC {S T : Nat → Prop} {w w1 w2 : World} (h : Frm S w w1) (k : Frm T w1 w2) (hT : ∀ c, c < w.heap.size → T c → S c) : Frm S w w2 :=
  ⟨k.os.trans h.os, k.tape.trans h.tape, k.output.trans h.output, Nat.le_trans h.size k.size, fun c hc hS => (k.block c (Nat.lt_of_lt_of_le hc h.size) (fun ht => hS (hT c hc ht))).trans (h.block c hc hS)⟩
def castN (l : List Nat) : List Int := l.map Int.ofNat
theorem castN_len (l : List Nat) : (castN l).length = l.length := List.length_map ..
theorem castN_snoc (l : List Nat) (c : Nat) : castN (l ++ [c]) = castN l ++ [(c : Int)] := by unfold castN; rw [List.map_append]; rfl
/-- What the search leaves. -/
def CovR (w : World) (base qo : Nat) (v vo : Value) (rs : List SV) (l : List Nat) (L : List (List Nat)) (w' : World) : Prop :=
  ∃ vo' new, OutC w' base qo vo' (rs ++ new) v.ownBlock ∧ new.map SV.xs = L.map (fun s => castN (l ++ s)) ∧ (∀ g, vo'.ownBlock = some g → vo.ownBlock = some g ∨ w.heap.size ≤ g) ∧ (∀ r ∈ new, 0 < r.xs.length → ∀ b off t, r.A = some ⟨b, off, t⟩ → w.heap.size ≤ b) ∧
    OwnI w' base v (castN l) ∧ Frm (fun c => c = qo ∨ v.ownBlock = some c ∨ vo.ownBlock = some c) w w'

/-- 'append(out, rows...)' of at least one row, at a step of a region that draws its order. -/
theorem step_append_rowsC {w : World} {ops : Array Oper} {o : Oper} {a : Act} {K : Act → World → Prop} {Q : Exit → Act → World → Prop} {E : Prop} (hgd : o.guard = none) (s x : Operand)
    (ho : o.op = .call { callee := .builtin .append, args := #[s, x], argTypes := #[31, 31] })
    (base : Nat) (v : Value) (rs : List SV) (hs : a.eval s = v) (hown : OwnW w base v rs) (b off c : Nat) (news : List SV) (hx : a.eval x = .slice (some ⟨b, off, none⟩) news.length c)
    (hc : ∀ i (hi : i < news.length), w.cell? ⟨b, off + i, none⟩ = some news[i].slc) (hn : ∀ r ∈ news, r.Rd w v.ownBlock) (hm : 0 < news.length) (hlen : rs.length + news.length ≤ 1000000000) (hbase : base ≤ w.heap.size)
    (h : ∀ v' w', OwnW w' base v' (rs ++ news) → w.grownBy w' v.ownBlock → (∀ g, v'.ownBlock = some g → v.ownBlock = some g ∨ w.heap.size ≤ g) → K (a.put o.dst v') w') :
    if Region.wanted o (yielded ops a.tmps) = true then Oper.wp Tryd.prog o a w K Q else E := by
  obtain ⟨i, hi, hz, hsz, hby⟩ := info_parts Tryd.infoIntS
  refine step_append_lies w hgd s x _ ho base 22 i _ 1 24 Tryd.underlying31 hi hz hsz hby rfl (by omega) v rs.length _ hs hown.1 ⟨b, off, none⟩ news.length c (news.map SV.slc) hx (by simp) (news_rows hc).1 (news_rows hc).2 hm (by unfold maxLen; omega) (by omega) hbase _ rfl ?_
  intro g cap w' hown' hgrow hat hlt
  have := hown.appended hown' hgrow hat hn
  rw [List.length_append] at this
  exact h _ w' this hgrow (fun k hk => by
    have e : g = k := by simpa [Value.ownBlock] using hk
    subst e
    rcases hat with h1 | h1
    · exact .inl h1
    · exact .inr (by omega))


theorem xor_ones (T : Nat) (h : T < 2 ^ 24) : IntKind.u64.wrap (bits BinOp.xor IntKind.i64 (-1) (T : Int)) = ((2 ^ 64 - 1 - T : Nat) : Int) := by
  have e : (BitVec.ofInt 64 (-1) ^^^ BitVec.ofInt 64 (T : Int)).toNat = 2 ^ 64 - 1 - T := by
    have h1 : BitVec.ofInt 64 (-1) = BitVec.allOnes 64 := by decide
    rw [h1, BitVec.allOnes_xor, BitVec.toNat_not]
    rw [BitVec.ofInt_natCast, BitVec.toNat_ofNat, Nat.mod_eq_of_lt (by omega)]
  have e2 : bits BinOp.xor IntKind.i64 (-1) (T : Int) = IntKind.i64.wrap ((2 ^ 64 - 1 - T : Nat) : Int) := by
    show IntKind.i64.wrap ((BitVec.ofInt 64 (-1) ^^^ BitVec.ofInt 64 (T : Int)).toNat : Int) = _
    rw [e]
  rw [e2, IntKind.wrap_i64, IntKind.wrap_u64]
  omega
theorem i64_or_pow3 (m v : Nat) (hm : m < 2 ^ 40) (hv : v < 40) : bits BinOp.or IntKind.i64 (m : Int) (wrap64 (2 ^ v)) = ((m ||| 2 ^ v : Nat) : Int) := by
  have h2 : (2 : Nat) ^ v < 2 ^ 40 := Nat.pow_lt_pow_right (by omega) hv
  have e : wrap64 (2 ^ v) = ((2 ^ v : Nat) : Int) := by
    rw [show ((2 : Int) ^ v) = ((2 ^ v : Nat) : Int) by simp]
    generalize 2 ^ v = x at h2
    unfold wrap64
    omega
  rw [e]
  exact i64_or_nat m (2 ^ v) (by omega) (by omega)
theorem shl_is (v : Nat) (hv : v < 40) : wrap64 (2 ^ v) = ((2 ^ v : Nat) : Int) := by
  have h2 : (2 : Nat) ^ v < 2 ^ 40 := Nat.pow_lt_pow_right (by omega) hv
  rw [show ((2 : Int) ^ v) = ((2 ^ v : Nat) : Int) by simp]
  generalize 2 ^ v = x at h2
  unfold wrap64
  omega

/-- The covers that begin with one of the first kinds. -/
def covK (n a b f m s1 : Nat) : Nat → List (List Nat)
  | 0 => []
  | k + 1 => covK n a b f m s1 k ++ (if s1 &&& (if k % 2 = 1 then b else a) = 0 ∧ (if k % 2 = 1 then b else a) / 2 ^ (n - m) = 0 then (covL n a b f m (s1 ||| (if k % 2 = 1 then b else a))).map (List.cons (2 * m + k)) else [])
theorem covL_two {n a b f t s m s1 : Nat} (hm : t + stN (n - t) s = m) (hs : s / 2 ^ stN (n - t) s = s1) (h : m ≠ n) (hab : b ≠ a) : covL n a b (f + 1) t s = covK n a b f m s1 2 := by
  rw [covL_go hm hs h]
  unfold covK covK covK
  simp [hab]
theorem covL_one {n a b f t s m s1 : Nat} (hm : t + stN (n - t) s = m) (hs : s / 2 ^ stN (n - t) s = s1) (h : m ≠ n) (hab : b = a) : covL n a b (f + 1) t s = covK n a b f m s1 1 := by
  rw [covL_go hm hs h]
  unfold covK covK
  simp [hab]

theorem covK_len (n a b f m s1 : Nat) : ∀ k, (covK n a b f m s1 k).length ≤ k * 2 ^ f
  | 0 => by simp [covK]
  | k + 1 => by
    have hk := covK_len n a b f m s1 k
    rw [covK, List.length_append, show (k + 1) * 2 ^ f = k * 2 ^ f + 2 ^ f from Nat.succ_mul _ _]
    obtain ⟨M, hM⟩ : ∃ M, (if k % 2 = 1 then b else a) = M := ⟨_, rfl⟩
    rw [hM]
    have := covL_bnd n a b f m (s1 ||| M)
    by_cases c : s1 &&& M = 0 ∧ M / 2 ^ (n - m) = 0
    · rw [if_pos c, List.length_map]; omega
    · rw [if_neg c, List.length_nil]; omega
theorem covK_yes {n a b f m s1 k M : Nat} (hM : (if k % 2 = 1 then b else a) = M) (h1 : s1 &&& M = 0) (h2 : M / 2 ^ (n - m) = 0) : covK n a b f m s1 (k + 1) = covK n a b f m s1 k ++ (covL n a b f m (s1 ||| M)).map (List.cons (2 * m + k)) := by
  rw [covK, hM, if_pos ⟨h1, h2⟩]
theorem covK_no {n a b f m s1 k M : Nat} (hM : (if k % 2 = 1 then b else a) = M) (h : ¬ (s1 &&& M = 0 ∧ M / 2 ^ (n - m) = 0)) : covK n a b f m s1 (k + 1) = covK n a b f m s1 k := by
  rw [covK, hM, if_neg h, List.append_nil]

section
variable {w w1 w2 w3 w4 : World} {base qo : Nat} {v vo v4 : Value} {rs : List SV} {l : List Nat}
theorem cov_none (hO : OutC w base qo vo rs v.ownBlock) (hX : OwnI w base v (castN l)) : CovR w base qo v vo rs l [] w :=
  ⟨vo, [], by rw [List.append_nil]; exact hO, rfl, fun g h => .inl h, (fun r hr => by cases hr), hX, Frm.refl _ _⟩
theorem CovR.below {L : List (List Nat)} (h : CovR w base qo v vo rs l L w1) (hb : Below w1.heap.size w1 w2) : CovR w base qo v vo rs l L w2 := by
  obtain ⟨vo1, new1, h1, h2, h3, h4, h5, h6⟩ := h
  exact ⟨vo1, new1, h1.below hb, h2, h3, h4, h5.grown hb, h6.trans (Frm.pure hb _)⟩
theorem CovR.mk {L : List (List Nat)} {vo1 : Value} {new1 : List SV} (h1 : OutC w1 base qo vo1 (rs ++ new1) v.ownBlock) (h2 : new1.map SV.xs = L.map (fun s => castN (l ++ s)) ∧ (∀ g, vo1.ownBlock = some g → vo.ownBlock = some g ∨ w.heap.size ≤ g) ∧ (∀ r ∈ new1, 0 < r.xs.length → ∀ b off t, r.A = some ⟨b, off, t⟩ → w.heap.size ≤ b))
    (h5 : OwnI w1 base v (castN l)) (h6 : Frm (fun c => c = qo ∨ v.ownBlock = some c ∨ vo.ownBlock = some c) w w1) : CovR w base qo v vo rs l L w1 := ⟨vo1, new1, h1, h2.1, h2.2.1, h2.2.2, h5, h6⟩
theorem CovR.frame {L : List (List Nat)} (h : CovR w base qo v vo rs l L w1) : Frm (fun c => c = qo ∨ v.ownBlock = some c ∨ vo.ownBlock = some c) w w1 := by
  obtain ⟨_, _, _, _, _, _, _, h6⟩ := h
  exact h6
/-- A cover found. -/
theorem cov_emit {A2 : Option Addr} {c2 : Nat} (hO : OutC w3 base qo vo rs v.ownBlock) (hX : OwnI w3 base v (castN l)) (hb : Below w.heap.size w w3) (hvb : ∀ k, v.ownBlock = some k → k < w.heap.size)
    (hA2 : 0 < l.length → ∀ b off t, A2 = some ⟨b, off, t⟩ → w.heap.size ≤ b ∧ b < w3.heap.size) (h4 : OwnW w4 base v4 (rs ++ [⟨castN l, A2, c2⟩])) (hg : w3.grownBy w4 vo.ownBlock)
    (hat : ∀ g, v4.ownBlock = some g → vo.ownBlock = some g ∨ w3.heap.size ≤ g) (hbase : base ≤ w.heap.size) : CovR w base qo v vo rs l [[]] (w4.setCell ⟨qo, 0, none⟩ v4) := by
  have hf4 : Frm (fun c => vo.ownBlock = some c) w3 w4 := ⟨hg.os, hg.tape, hg.output, hg.size, fun c hc hS => hg.block c hc (fun e => hS e.symm)⟩
  have hvo : ∀ g, vo.ownBlock = some g → base ≤ g := fun g e => (hO.own.lt g e).1
  have hlt := hO.lt
  have hq : ¬ vo.ownBlock = some qo := fun e => by have := hvo _ e; omega
  have hs3 := hb.size
  have hs4 := hg.size
  have hs5 : (w4.setCell ⟨qo, 0, none⟩ v4).heap.size = w4.heap.size := by simp [World.setCell]
  have hf5 : Frm (fun c => c = qo) w4 (w4.setCell ⟨qo, 0, none⟩ v4) := Frm.setCell (S := fun c => c = qo) (p := ⟨qo, 0, none⟩) (Frm.refl _ _) rfl _
  have hc4 : w4.cell? ⟨qo, 0, none⟩ = some vo := (hf4.cell (by omega) hq).trans hO.cell
  have hne : ∀ r ∈ rs ++ [(⟨castN l, A2, c2⟩ : SV)], 0 < r.xs.length → ∀ b off t, r.A = some ⟨b, off, t⟩ → v.ownBlock ≠ some b ∧ base ≤ b ∧ b < w4.heap.size := fun r hr hn b off t e => by
    rcases List.mem_append.1 hr with h1 | h1
    · obtain ⟨k1, k2, k3⟩ := hO.rows r h1 hn b off t e
      exact ⟨k1, k2, by omega⟩
    · rw [List.mem_singleton] at h1
      subst h1
      obtain ⟨k1, k2⟩ := hA2 (by rwa [castN_len] at hn) b off t e
      exact ⟨fun hh => by have := hvb b hh; omega, by omega, by omega⟩
  refine ⟨v4, [⟨castN l, A2, c2⟩], ⟨World.cell?_setCell_same w4 _ _ hc4, ?_, ?_, ?_, ?_, hlt, by omega⟩, by simp, fun g e => ?_, fun r hr hn b off t e => ?_, ?_, ?_⟩
  · rw [World.frozen?_setCell]
    exact (hf4.frozen (by omega) hq).trans hO.froz
  · refine h4.keep hf5 (fun g e hh => ?_) (fun r hr hn b off t e hh => ?_)
    · have := (h4.lt g e).1; omega
    · have := (hne r hr hn b off t e).2.1; omega
  · intro g e hh
    rcases hat g hh with h1 | h1
    · exact hO.off g e h1
    · have := hvb g e; omega
  · intro r hr hn b off t e
    obtain ⟨k1, k2, k3⟩ := hne r hr hn b off t e
    exact ⟨k1, k2, by omega⟩
  · rcases hat g e with h1 | h1
    · exact .inl h1
    · exact .inr (by omega)
  · rw [List.mem_singleton] at hr
    subst hr
    exact (hA2 (by rwa [castN_len] at hn) b off t e).1
  · exact (hX.frm hf4 (fun k e hh => hO.off k e hh)).frm hf5 (fun k e hh => by have := (hX.lt k e).1; omega)
  · exact ((Frm.pure hb _).trans (hf4.mono (fun c h => .inr (.inr h)))).trans (hf5.mono (fun c h => .inl h))
/-- The covers of one more kind. -/
theorem cov_push {L L' : List (List Nat)} {c : Nat} {v' vo1 : Value} {new1 : List SV} (hR : ∀ g, v.ownBlock = some g → g < w.heap.size) (hws : w.heap.size ≤ w1.heap.size)
    (h1 : OutC w1 base qo vo1 (rs ++ new1) v.ownBlock) (hk : new1.map SV.xs = L.map (fun s => castN (l ++ s))) (hvo : ∀ g, vo1.ownBlock = some g → vo.ownBlock = some g ∨ w.heap.size ≤ g) (hnw : ∀ r ∈ new1, 0 < r.xs.length → ∀ b off t, r.A = some ⟨b, off, t⟩ → w.heap.size ≤ b)
    (hX1 : OwnI w2 base v (castN l)) (hF1 : Frm (fun c => c = qo ∨ v.ownBlock = some c ∨ vo.ownBlock = some c) w w3)
    (hgr : Frm (fun c => v.ownBlock = some c) w2 w3) (hr : SameRoom w2 w3 v v' (castN l).length) (hw12 : w1.heap.size ≤ w2.heap.size)
    (h2 : CovR w3 base qo v' vo1 (rs ++ new1) (l ++ [c]) L' w4) : CovR w base qo v vo rs l (L ++ L'.map (List.cons c)) w4 := by
  obtain ⟨vo2, new2, hO2, hk2, hvo2, hnw2, hX2, hF2⟩ := h2
  have hw23 := hgr.size
  have hw34 := hF2.size
  have hown : v'.ownBlock = some w2.heap.size ∨ v'.ownBlock = v.ownBlock := by
    rcases hr with ⟨hr, _⟩ | ⟨g, cap, e1, e2⟩
    · exact .inl hr
    · exact .inr (by rw [e1, e2]; rfl)
  have hlt2 : ∀ g, v.ownBlock = some g → g < w2.heap.size := fun g e => by have := hR g e; omega
  refine ⟨vo2, new1 ++ new2, ?_, ?_, fun g e => ?_, fun r hr' hn b off t e => ?_, ?_, ?_⟩
  · rw [← List.append_assoc]
    refine ⟨hO2.cell, hO2.froz, hO2.own, fun g e hh => ?_, fun r hr' hn b off t e => ?_, hO2.lt, hO2.size⟩
    · rcases hvo2 g hh with h5 | h5
      · exact h1.off g e h5
      · have := hlt2 g e; omega
    · obtain ⟨k1, k2, k3⟩ := hO2.rows r hr' hn b off t e
      refine ⟨fun hh => ?_, k2, k3⟩
      rcases List.mem_append.1 hr' with h5 | h5
      · exact (h1.rows r h5 hn b off t e).1 hh
      · have := hnw2 r h5 hn b off t e
        have := hlt2 b hh
        omega
  · rw [List.map_append, List.map_append, hk, hk2, List.map_map]
    congr 1
    refine List.map_congr_left fun s _ => ?_
    simp
  · rcases hvo2 g e with h5 | h5
    · exact hvo g h5
    · exact .inr (by have := hF1.size; omega)
  · rcases List.mem_append.1 hr' with h5 | h5
    · exact hnw r h5 hn b off t e
    · have := hnw2 r h5 hn b off t e; have := hF1.size; omega
  · have hX2' : OwnI w4 base v' (castN l ++ [(c : Int)]) := by rw [← castN_snoc]; exact hX2
    refine hX1.back hr hX2' fun hn hol k e => ?_
    have hk2 := hlt2 k e
    rw [hF2.block k (by omega) (fun hh => by
      rcases hh with hh | hh | hh
      · have := (hX1.lt k e).1; have := h1.lt; omega
      · rw [hn] at hh; injection hh with hh; omega
      · exact h1.off k e hh)]
    exact hol k hk2
  · refine frm_chainC hF1 hF2 fun c hc hh => ?_
    rcases hh with hh | hh | hh
    · exact .inl hh
    · rcases hown with h5 | h5
      · rw [h5] at hh; injection hh with hh; omega
      · exact .inr (.inl (by rw [← h5]; exact hh))
    · rcases hvo c hh with h5 | h5
      · exact .inr (.inr h5)
      · omega
end
end Go.Proofs.YtoofkchhjkhdeaaDoor
