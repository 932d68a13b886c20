/-
  Several texts of this proof in one: FmtS, Strs, FmtI, Join, Nums.
-/
import Derived.Test.YtjoeglekcnaebaaGreatDoorShF
import Derived.Test.YtjoeglekcnaebaaGreatDoorTabU
import Derived.Test.YtjoeglekcnaebaaGreatDoorOwn
import Derived.Test.YtjoeglekcnaebaaGreatDoorStr
import Derived.Laws.AppendOwnNone
import Derived.Deep.RegionLaw
import Derived.Lib.SmallJoins
import Derived.Lib.AppendIntMem
import Derived.Test.YtjoeglekcnaebaaGreatDoorShJ
import Derived.Lib.Join
namespace Go.Proofs.YtjoeglekcnaebaaGreatDoor
open Go.RowKit Go.Shelf
set_option linter.unusedVariables false
set_option linter.unusedSimpArgs false

def digT (r : Nat) : List UInt8 := [UInt8.ofNat (48 + r)]

theorem impl_FormatInt_dig (r : Nat) (hr : r < 10) (w : World) :
    Calls Tryz.prog 24 #[.int .i64 r] w fun e w' => e = .returned (.string (mkS (digT r))) ∧ w = w' := by
  have HI := Lib.hid (Any.strconv_Itoa_small Tryz.lays171 r (by omega) w)
  have he : (⟨(Lib.decDigits r).toArray⟩ : ByteArray) = mkS (digT r) := by
    rw [Lib.decDigits, dif_pos hr]; rfl
  rw [he] at HI
  clear he
  generalize mkS (digT r) = X at HI ⊢
  go_enter Tryz.func24, Tryz.ntmps24
  go_wp2_with fail
  refine HI.out.mono ?_
  rintro e w' ⟨rfl, rfl⟩
  go_wp2_with fail
  go_ret
  exact ⟨rfl, rfl⟩

set_option maxRecDepth 100000 in
set_option maxHeartbeats 1000000 in
theorem spec_FormatInt_dig (r : Nat) (hr : r < 10) (w : World) :
    Calls Tryz.prog 17 #[.int .i64 r] w fun e w' => e = .returned (.string (mkS (digT r))) ∧ Below w.heap.size w w' := by
  have hw2 : IntKind.i64.wrap (48 + (r : Int)) = 48 + (r : Int) := i64w (by omega)
  have hw3 : IntKind.u8.wrap (48 + (r : Int)) = 48 + (r : Int) := by rw [IntKind.wrap_u8]; omega
  obtain ⟨c, hc⟩ : ∃ c : UInt8, UInt8.ofNat (48 + r) = c := ⟨_, rfl⟩
  have hcn : (c.toNat : Int) = 48 + (r : Int) := by rw [← hc, UInt8.toNat_ofNat']; omega
  have htb : TabU (w.alloc (.cells #[.int .u8 (48 + (r : Int))] 5)) w.heap.size 1 (fun _ => c) := by
    refine ⟨by simp, fun t ht => ?_⟩
    have ht0 : t = 0 := by omega
    subst ht0
    refine ⟨?_, frozen_of_row _ _ _ _ _ (heap_alloc_new w _)⟩
    rw [cell_new1, hcn]
  have hcv := htb.string 1
  have h1 : (mkS (tabL 1 fun _ => c)).size = 1 := by rw [mkS_size, tabL_len]
  have HC1 := Lib.hid (str_mk (tabL 1 fun _ => c))
  have HD := Lib.hid (show tabL 1 (fun _ => c) = digT r by unfold digT; rw [hc]; rfl)
  generalize mkS (tabL 1 fun _ => c) = C at hcv h1 HC1
  clear htb hcn hc
  have hr9 : ¬ 9 < r := by omega
  go_enter Tryz.func17, Tryz.ntmps17
  go_wp2_with fail
  refine wp_loop_rounds 1 ?_
  iterate 2 (first | (rw [rounds_succ]; go_wp2_with fail) | skip)
  go_ret
  refine ⟨ret_str ?_, (Below.refl w.heap.size w).alloc (Nat.le_refl _) _⟩
  have := HC1.out.app str_nil
  rw [List.append_nil, HD.out] at this
  exact this.eq

end Go.Proofs.YtjoeglekcnaebaaGreatDoor

namespace Go.Proofs.YtjoeglekcnaebaaGreatDoor
open Go.RowKit
set_option linter.unusedVariables false
set_option linter.unusedSimpArgs false

theorem Tryz.infoString : (Tryz.prog.info? 9).map (fun i => (i.zero, i.size, i.bytes)) = some (some (.string ByteArray.empty), 1, 16) := by kernel_rfl

abbrev Txt := List UInt8
def emS (l : Txt) : Value := .string (mkS l)

/-- A slice of strings that lies below block B and reads as the list. -/
def Strs (w : World) (B : Nat) (A : Option Addr) (xs : List Txt) : Prop :=
  xs.length ≤ 1048576 ∧ (0 < xs.length → ∃ b off, A = some ⟨b, off, none⟩ ∧ b < B ∧ ∀ i, i < xs.length → w.cell? ⟨b, off + i, none⟩ = some (emS (xs.getD i [])))
section
variable {w w' : World} {B B' : Nat} {A : Option Addr} {xs : List Txt}
theorem Strs.below (h : Strs w B A xs) (hb : Below B w w') : Strs w' B A xs :=
  ⟨h.1, fun hn => by
    obtain ⟨b, off, rfl, hlt, hc⟩ := h.2 hn
    exact ⟨b, off, rfl, hlt, fun i hi => (hb.cell (p := ⟨b, off + i, none⟩) hlt).trans (hc i hi)⟩⟩
theorem Strs.mono (h : Strs w B A xs) (hB : B ≤ B') : Strs w B' A xs :=
  ⟨h.1, fun hn => by
    obtain ⟨b, off, rfl, hlt, hc⟩ := h.2 hn
    exact ⟨b, off, rfl, by omega, hc⟩⟩
theorem Strs.lift (h : Strs w w.heap.size A xs) (hb : Below w.heap.size w w') : Strs w' w'.heap.size A xs := (h.below hb).mono hb.size
theorem Strs.drewN (h : Strs w B A xs) (n : Nat) : Strs (w.drewN n) B A xs := h
theorem Strs.nil (w : World) (B : Nat) (A : Option Addr) : Strs w B A [] := ⟨Nat.zero_le _, fun h => absurd h (by simp)⟩
theorem Strs.take (h : Strs w B A xs) (k : Nat) : Strs w B A (xs.take k) :=
  ⟨by rw [List.length_take]; have := h.1; omega, fun hn => by
    rw [List.length_take] at hn
    obtain ⟨b, off, rfl, hlt, hc⟩ := h.2 (by omega)
    refine ⟨b, off, rfl, hlt, fun i hi => ?_⟩
    rw [List.length_take] at hi
    rw [hc i (by omega), List.getD_eq_getElem?_getD, List.getD_eq_getElem?_getD, List.getElem?_take_of_lt (by omega)]⟩
theorem Strs.drop {b off : Nat} (h : Strs w B (some ⟨b, off, none⟩) xs) (k : Nat) : Strs w B (some ⟨b, off + k, none⟩) (xs.drop k) :=
  ⟨by rw [List.length_drop]; have := h.1; omega, fun hn => by
    rw [List.length_drop] at hn
    obtain ⟨b', off', e, hlt, hc⟩ := h.2 (by omega)
    injection e with e
    injection e with e1 e2
    subst e1 e2
    refine ⟨b, off + k, rfl, hlt, fun i hi => ?_⟩
    rw [List.length_drop] at hi
    rw [Nat.add_assoc, hc (k + i) (by omega), List.getD_eq_getElem?_getD, List.getD_eq_getElem?_getD, List.getElem?_drop]⟩
end

/-- v is a slice of strings of the call's own, in blocks from base on, that holds the list. -/
def OwnS (w : World) (base : Nat) (v : Value) (xs : List Txt) : Prop := w.ownsRow base 9 1 v xs.length (xs.map emS)
section
variable {w w' : World} {base : Nat} {v : Value} {xs : List Txt}
theorem OwnS.nil (w : World) (base : Nat) : OwnS w base (.slice none 0 0) [] := World.ownsRow_nil _ _ _ _
theorem OwnS.empty_at (w : World) (base g : Nat) (hg : w.heap.size = g) (hb : base ≤ g) : OwnS (w.alloc (.cells #[] 9)) base (.slice (some ⟨g, 0, none⟩) 0 0) [] := by
  subst hg
  exact ⟨rfl, .inr ⟨w.heap.size, 0, #[], rfl, hb, heap_alloc_new w _, Nat.le_refl _, Nat.zero_le _, rfl, rfl⟩⟩
theorem OwnS.alloc (h : OwnS w base v xs) (o : Obj) : OwnS (w.alloc o) base v xs := World.ownsRow.alloc h o
theorem OwnS.drew (h : OwnS w base v xs) : OwnS w.drew base v xs := h
theorem OwnS.drewN (h : OwnS w base v xs) (n : Nat) : OwnS (w.drewN n) base v xs := h
theorem OwnS.mono {base' : Nat} (h : OwnS w base v xs) (hb : base' ≤ base) : OwnS w base' v xs := by
  refine ⟨h.1, ?_⟩
  rcases h.2 with h | ⟨g, cap, cur, e, hg, r⟩
  · exact .inl h
  · exact .inr ⟨g, cap, cur, e, by omega, r⟩
theorem OwnS.form (h : OwnS w base v xs) : ∃ A cap, v = .slice A xs.length cap ∧ xs.length ≤ cap ∧ (0 < cap → ∃ g, A = some ⟨g, 0, none⟩ ∧ base ≤ g ∧ g < w.heap.size) ∧ cap ≤ maxLen := by
  rcases h.2 with ⟨rfl, h0⟩ | ⟨g, cap, cur, rfl, hg, hh, hnc, hm, _⟩
  · exact ⟨none, 0, by rw [h0], by omega, fun h => by omega, by unfold maxLen; omega⟩
  · exact ⟨some ⟨g, 0, none⟩, cap, rfl, hnc, fun _ => ⟨g, rfl, hg, (Array.getElem?_eq_some_iff.1 hh).1⟩, hm⟩
theorem OwnS.lt (h : OwnS w base v xs) : ∀ k, v.ownBlock = some k → base ≤ k ∧ k < w.heap.size := World.ownsRow.lt h
theorem OwnS.grown (h : OwnS w base v xs) (hb : Below w.heap.size w w') : OwnS w' base v xs := by
  refine ⟨h.1, ?_⟩
  rcases h.2 with ⟨rfl, h0⟩ | ⟨g, cap, cur, rfl, hg, hh, r⟩
  · exact .inl ⟨rfl, h0⟩
  · have hlt : g < w.heap.size := (Array.getElem?_eq_some_iff.1 hh).1
    exact .inr ⟨g, cap, cur, rfl, hg, by rw [hb.block g hlt]; exact hh, r⟩
theorem OwnS.strs {A : Option Addr} {cap : Nat} (h : OwnS w base (.slice A xs.length cap) xs) (hl : xs.length ≤ 1048576) : Strs w w.heap.size A xs := by
  rcases h.2 with ⟨hv, h0⟩ | ⟨g, cap', cur, hv, _, hh, hnc, hm, hsz, hxs⟩
  · exact ⟨hl, fun hn => absurd h0 (by omega)⟩
  · refine ⟨hl, fun hn => ?_⟩
    have hA : A = some ⟨g, 0, none⟩ := by injection hv
    subst hA
    have hlt := (h.lt g rfl).2
    refine ⟨g, 0, rfl, hlt, fun i hi => ?_⟩
    have := World.ownsRow.cells h (g := g) rfl i (emS (xs.getD i [])) (by rw [List.getElem?_map, List.getElem?_eq_getElem hi]; simp [List.getD_eq_getElem?_getD, hi])
    rwa [Go.WideShapes.add_plain] at this
end

theorem news_strs {w : World} {b off : Nat} {ys : List Txt} (hc : ∀ i, i < ys.length → w.cell? ⟨b, off + i, none⟩ = some (emS (ys.getD i []))) :
    (∀ j u, (ys.map emS)[j]? = some u → w.cell? ((⟨b, off, none⟩ : Addr).add j) = some u) ∧ ∀ u ∈ ys.map emS, u.oneCell' = true := by
  refine ⟨fun j u hu => ?_, fun u hu => ?_⟩
  · rw [List.getElem?_map] at hu
    have hj : j < ys.length := by
      apply Classical.byContradiction
      intro hh
      rw [List.getElem?_eq_none (by omega)] at hu
      cases hu
    rw [Addr.add_lit, hc j hj, List.getD_eq_getElem?_getD]
    rw [List.getElem?_eq_getElem hj] at hu ⊢
    exact hu
  · obtain ⟨t, _, rfl⟩ := List.mem_map.1 hu
    rfl

set_option maxRecDepth 100000 in
/-- 'append(s, ys...)' onto a slice of strings of the call's own; ys lies anywhere, nil let in. -/
theorem wpList_append_strs {w : World} {ops : Array Oper} {rest : List Oper} {o : Oper} {a : Act} {Q : Exit → Act → World → Prop} (hgd : o.guard = none) (s x : Operand)
    (ho : o.op = .call { callee := .builtin .append, args := #[s, x], argTypes := #[41, 41] })
    (base : Nat) (v : Value) (xs : List Txt) (hs : a.eval s = v) (hown : OwnS w base v xs) (A : Option Addr) (c : Nat) (ys : List Txt) (hx : a.eval x = .slice A ys.length c)
    (B : Nat) (hy : Strs w B A ys) (hform : A = none → c = 0) (hpl : ∀ ad, A = some ad → ∃ b off, ad = ⟨b, off, none⟩) (hlen : xs.length + ys.length ≤ 1048576) (hbase : base ≤ w.heap.size)
    (h : ∀ v' w', OwnS w' base v' (xs ++ ys) → Below base w w' → wpList Tryz.prog ops Q rest (a.put o.dst v') w') : wpList Tryz.prog ops Q (o :: rest) a w := by
  obtain ⟨i, hi, hz, hsz, hby⟩ := info_parts Tryz.infoString
  cases A with
  | none =>
    have h0 : ys = [] := by
      cases ys with
      | nil => rfl
      | cons y ys => obtain ⟨b, off, e, _⟩ := hy.2 (by simp); cases e
    subst h0
    have := hform rfl
    subst this
    refine wpList_append_own_none hgd s x _ ho base 9 i 1 Tryz.underlying41 hi v xs.length _ hs hown hx ?_
    exact h v w (by simpa using hown) (Below.refl _ _)
  | some ad =>
    obtain ⟨b, off, rfl⟩ := hpl ad rfl
    have hcells : ∀ i, i < ys.length → w.cell? ⟨b, off + i, none⟩ = some (emS (ys.getD i [])) := by
      intro i hi
      obtain ⟨b', off', e, _, hc⟩ := hy.2 (by omega)
      injection e with e
      injection e with e1 e2
      subst e1 e2
      exact hc i hi
    refine wpList_append_own _ hgd s x _ ho base 9 i _ 1 16 Tryz.underlying41 hi hz hsz hby rfl (by omega) v xs.length _ hs hown ⟨b, off, none⟩ ys.length c (ys.map emS) hx (by simp) (news_strs hcells).1 (news_strs hcells).2 (by unfold maxLen; omega) (by omega) hbase ?_
    intro v' w' hown' hgrow _
    refine h v' w' ?_ ?_
    · unfold OwnS
      rw [List.length_append, List.map_append]
      exact hown'
    · exact (Below.refl base w).grown hgrow hbase (fun k hk => (hown.lt k hk).1)

set_option maxRecDepth 100000 in
/-- 'append(s, y)'. -/
theorem wpList_append_str {w : World} {ops : Array Oper} {rest : List Oper} {o : Oper} {a : Act} {Q : Exit → Act → World → Prop} (hgd : o.guard = none) (s x : Operand)
    (ho : o.op = .call { callee := .builtin .append, args := #[s, x], argTypes := #[41, 41] })
    (base : Nat) (v : Value) (xs : List Txt) (hs : a.eval s = v) (hown : OwnS w base v xs) (g : Nat) (y : Txt) (hx : a.eval x = .slice (some ⟨g, 0, none⟩) 1 1)
    (hcell : w.cell? ⟨g, 0, none⟩ = some (emS y)) (hlen : xs.length < 1048576) (hbase : base ≤ w.heap.size)
    (h : ∀ v' w', OwnS w' base v' (xs ++ [y]) → Below base w w' → wpList Tryz.prog ops Q rest (a.put o.dst v') w') : wpList Tryz.prog ops Q (o :: rest) a w := by
  refine wpList_append_strs hgd s x ho base v xs hs hown (some ⟨g, 0, none⟩) 1 [y] hx (g + 1) ⟨by simp, fun _ => ⟨g, 0, rfl, Nat.lt_succ_self _, fun i hi => ?_⟩⟩ (fun h => by cases h) (fun ad h => by injection h with h; exact ⟨g, 0, h.symm⟩) (by simp; omega) hbase h
  have : i = 0 := by simpa using hi
  subst this
  exact hcell

theorem strs_cells (w : World) (g : Nat) (xs : List Txt) (hl : xs.length ≤ 1048576) (hg : w.heap.size = g) : Strs (w.alloc (.cells (xs.map emS).toArray 9)) (w.alloc (.cells (xs.map emS).toArray 9)).heap.size (some ⟨g, 0, none⟩) xs := by
  subst hg
  refine ⟨hl, fun _ => ⟨w.heap.size, 0, rfl, by simp, fun i hi => ?_⟩⟩
  rw [cell_of_row _ _ _ _ _ _ (heap_alloc_new w _), Nat.zero_add]
  rw [List.getElem?_toArray, List.getElem?_map, List.getElem?_eq_getElem hi, List.getD_eq_getElem?_getD, List.getElem?_eq_getElem hi]
  rfl

end Go.Proofs.YtjoeglekcnaebaaGreatDoor

namespace Go.Proofs.YtjoeglekcnaebaaGreatDoor
open Go.RowKit Go.Shelf
set_option linter.unusedVariables false
set_option linter.unusedSimpArgs false

/-- strconv's table of powers lies where it lay. -/
def Pow (w : World) : Prop := Lib.TabIs Tryz.prog w "internal/strconv.uint64pow10" .u64 Lib.pow10Tab
theorem Pow.below {w w' : World} (h : Pow w) (hb : Below w.heap.size w w') : Pow w' := by
  obtain ⟨g, hg⟩ : ∃ g, Tryz.prog.globalNamed "internal/strconv.uint64pow10" = some g := Option.isSome_iff_exists.1 (by kernel_rfl)
  exact Joins.tab_stays hg h hb (Nat.le_refl _)
theorem Pow.alloc {w : World} (h : Pow w) (o : Obj) : Pow (w.alloc o) := h.below ((Below.refl _ _).alloc (Nat.le_refl _) o)

def itoL (n : Int) : Txt := Lib.itoa n
theorem itoL_pos (N : Nat) : itoL (N : Int) = Lib.decDigits N := by
  unfold itoL Lib.itoa; rw [if_neg (by omega)]; rfl
theorem itoL_neg (N : Nat) (h : 0 < N) : itoL (-(N : Int)) = 45 :: Lib.decDigits N := by
  unfold itoL Lib.itoa; rw [if_pos (by omega)]; simp
theorem decD_small {k : Nat} (h : k < 10) : Lib.decDigits k = [UInt8.ofNat (48 + k)] := by rw [Lib.decDigits, dif_pos h]
theorem decD_big {k : Nat} (h : ¬ k < 10) : Lib.decDigits k = Lib.decDigits (k / 10) ++ [UInt8.ofNat (48 + k % 10)] := by rw [Lib.decDigits, dif_neg h]
theorem decD_len : ∀ (p k : Nat), k < 10 ^ (p + 1) → (Lib.decDigits k).length ≤ p + 1
  | 0, k, h => by rw [decD_small (by simpa using h)]; simp
  | p + 1, k, h => by
    by_cases h9 : k < 10
    · rw [decD_small h9]; simp
    · rw [decD_big h9, List.length_append]
      have := decD_len p (k / 10) (by rw [Nat.pow_succ] at h; omega)
      simp; omega
theorem itoL_len (n : Int) (h : Fits n) : (itoL n).length ≤ 20 := by
  unfold Fits at h
  obtain ⟨N, rfl | rfl⟩ := Int.eq_nat_or_neg n
  · rw [itoL_pos]
    have := decD_len 18 N (by omega)
    omega
  · by_cases h0 : 0 < N
    · rw [itoL_neg N h0]
      have := decD_len 18 N (by omega)
      simp; omega
    · have : N = 0 := by omega
      subst this
      rw [show (-((0 : Nat) : Int)) = ((0 : Nat) : Int) from rfl, itoL_pos, decD_small (by omega)]
      simp

theorem conv1 (V : World) (c : UInt8) (v : Int) (hv : (c.toNat : Int) = v) :
    (convert 50 9 (.slice (some ⟨V.heap.size, 0, none⟩) 1 1)).run Tryz.prog (V.alloc (.cells #[.int .u8 v] 5)) = .ok (.string (mkS [c])) (V.alloc (.cells #[.int .u8 v] 5)) := by
  have htb : TabU (V.alloc (.cells #[.int .u8 v] 5)) V.heap.size 1 (fun _ => c) := by
    refine ⟨by simp, fun t ht => ?_⟩
    have ht0 : t = 0 := by omega
    subst ht0
    refine ⟨?_, frozen_of_row _ _ _ _ _ (heap_alloc_new V _)⟩
    rw [cell_new1, hv]
  exact htb.string 1
theorem conv1b (V V' : World) (c : UInt8) (v : Int) (hv : (c.toNat : Int) = v) (hb : Below (V.alloc (.cells #[.int .u8 v] 5)).heap.size (V.alloc (.cells #[.int .u8 v] 5)) V') :
    (convert 50 9 (.slice (some ⟨V.heap.size, 0, none⟩) 1 1)).run Tryz.prog V' = .ok (.string (mkS [c])) V' := by
  have htb : TabU (V.alloc (.cells #[.int .u8 v] 5)) V.heap.size 1 (fun _ => c) := by
    refine ⟨by simp, fun t ht => ?_⟩
    have ht0 : t = 0 := by omega
    subst ht0
    refine ⟨?_, frozen_of_row _ _ _ _ _ (heap_alloc_new V _)⟩
    rw [cell_new1, hv]
  exact (htb.below hb (by simp)).string 1
theorem Below.undrew_ {B : Nat} {a w : World} (h : Below B a.drew w) : Below B a w := ⟨h.os, h.tape, h.output, h.size, h.block⟩
theorem dig_nat (r : Nat) (h : r < 10) : ((UInt8.ofNat (48 + r)).toNat : Int) = 48 + (r : Int) := by rw [UInt8.toNat_ofNat']; omega

theorem impl_FormatInt_any (n : Int) (hn : Fits n) (w : World) (hP : Pow w) :
    Calls Tryz.prog 24 #[.int .i64 n] w fun e w' => e = .returned (.string (mkS (itoL n))) ∧ Below w.heap.size w w' := by
  have HI := Lib.hid (Any.strconv_Itoa Tryz.laysM171 n hn.1 hn.2 w hP)
  have he : (⟨(Lib.itoa n).toArray⟩ : ByteArray) = mkS (itoL n) := rfl
  rw [he] at HI
  clear he
  generalize mkS (itoL n) = X at HI ⊢
  go_enter Tryz.func24, Tryz.ntmps24
  go_wp2_with fail
  refine HI.out.mono ?_
  rintro e w' ⟨rfl, k, os, rfl⟩
  have HB := Lib.hid (Lib.below_grow w.heap.size w (Nat.le_refl _) k os)
  generalize Sort.grow (w.drewN k) os = w2 at HB ⊢
  go_wp2_with fail
  go_ret
  exact ⟨rfl, HB.out⟩

set_option maxRecDepth 100000 in
set_option maxHeartbeats 1000000 in
theorem spec_FormatInt_pos (N : Nat) (hN : N ≤ 9223372036854775807) (w : World) :
    Calls Tryz.prog 17 #[.int .i64 N] w fun e w' => e = .returned (.string (mkS (Lib.decDigits N))) ∧ Below w.heap.size w w' := by
  obtain ⟨D, hD⟩ : ∃ D, Lib.decDigits N = D := ⟨_, rfl⟩
  have HD := Lib.hid hD
  have HL := Lib.hid (show D.length ≤ 19 by rw [← hD]; exact decD_len 18 N (by omega))
  rw [hD]
  clear hD
  go_enter Tryz.func17, Tryz.ntmps17
  go_wp2_with fail
  go_loopw [0, 3] (fun n t wr => ∃ (k : Nat) (u : ByteArray) (suf : Txt), n = .int .i64 k ∧ k ≤ N ∧ t = .string u ∧ Str u suf ∧ Lib.decDigits k ++ suf = D ∧ Below w.heap.size w wr) (fun n _ _ => (intOf n).toNat)
  case atStart => exact ⟨N, _, [], rfl, Nat.le_refl _, rfl, str_nil, by simpa using HD.out, Below.refl _ _⟩
  case round =>
    obtain ⟨k, u, suf, rfl, hkN, rfl, hu, hsuf, hbel⟩ := hrel
    obtain ⟨wo, rfl⟩ : ∃ wo : World, wo = wr := ⟨_, rfl⟩
    have hsl : suf.length ≤ 19 := by have h1 := HL.out; rw [← hsuf, List.length_append] at h1; omega
    have hus : u.size ≤ 19 := by rw [hu.size]; exact hsl
    have HU := Lib.hid hu
    have HSUF := Lib.hid hsuf
    have HBEL := Lib.hid hbel
    clear hu hsuf hbel hsl
    by_cases h9 : k < 10
    · have h9' : ¬ 9 < k := by omega
      have hw2 : IntKind.i64.wrap (48 + (k : Int)) = 48 + (k : Int) := i64w (by omega)
      have hw3 : IntKind.u8.wrap (48 + (k : Int)) = 48 + (k : Int) := by rw [IntKind.wrap_u8]; omega
      have hcv := conv1 wo (UInt8.ofNat (48 + k)) (48 + (k : Int)) (dig_nat k h9)
      have HS := Lib.hid (str_mk [UInt8.ofNat (48 + k)])
      have h1 : (mkS [UInt8.ofNat (48 + k)]).size = 1 := by rw [mkS_size]; rfl
      have HE := Lib.hid (show [UInt8.ofNat (48 + k)] ++ suf = D by rw [← decD_small h9]; exact HSUF.out)
      generalize [UInt8.ofNat (48 + k)] = cl at hcv h1 HE HS
      generalize mkS cl = C at hcv h1 HS
      clear h9
      go_wp2_with fail
      go_ret
      refine ⟨ret_str ?_, HBEL.out.alloc HBEL.out.size _⟩
      have := HS.out.app HU.out
      rw [HE.out] at this
      exact this.eq
    · have h9' : 9 < k := by omega
      have HST := Lib.hid (show Lib.decDigits (k / 10) ++ ([UInt8.ofNat (48 + k % 10)] ++ suf) = D by rw [← List.append_assoc, ← decD_big h9]; exact HSUF.out)
      obtain ⟨q, hq⟩ : ∃ q, k / 10 = q := ⟨_, rfl⟩
      obtain ⟨r, hr⟩ : ∃ r, k % 10 = r := ⟨_, rfl⟩
      have hr10 : r < 10 := by omega
      have hq1 : (k : Int).tdiv 10 = (q : Int) := by rw [← hq]; rfl
      have hr1 : (k : Int).tmod 10 = (r : Int) := by rw [← hr]; rfl
      have hq2 : (k : Int) / 10 = (q : Int) := by omega
      have hr2 : (k : Int) % 10 = (r : Int) := by omega
      have hqk : q < k := by omega
      rw [hq, hr] at HST
      have hw2 : IntKind.i64.wrap (48 + (r : Int)) = 48 + (r : Int) := i64w (by omega)
      have hw3 : IntKind.u8.wrap (48 + (r : Int)) = 48 + (r : Int) := by rw [IntKind.wrap_u8]; omega
      have hwq : IntKind.i64.wrap (q : Int) = (q : Int) := i64w (by omega)
      have hwr : IntKind.i64.wrap (r : Int) = (r : Int) := i64w (by omega)
      have hcv := conv1 wo (UInt8.ofNat (48 + r)) (48 + (r : Int)) (dig_nat r hr10)
      have HS := Lib.hid (str_mk [UInt8.ofNat (48 + r)])
      have h1 : (mkS [UInt8.ofNat (48 + r)]).size = 1 := by rw [mkS_size]; rfl
      generalize [UInt8.ofNat (48 + r)] = cl at hcv h1 HST HS
      generalize mkS cl = C at hcv h1 HS
      clear h9 hq hr
      go_wp2_with fail
      go_roundw
      case rel => exact ⟨q, _, cl ++ suf, rfl, by omega, rfl, HS.out.app HU.out, HST.out, HBEL.out.alloc HBEL.out.size _⟩
      case measure => simp [intOf]; omega

set_option maxRecDepth 100000 in
set_option maxHeartbeats 1000000 in
theorem spec_FormatInt_neg : ∀ (m N : Nat), N ≤ m → 0 < N → N ≤ 9223372036854775808 → ∀ w : World,
    Calls Tryz.prog 17 #[.int .i64 (-(N : Int))] w fun e w' => e = .returned (.string (mkS (45 :: Lib.decDigits N))) ∧ Below w.heap.size w w'
  | 0, N, h, h0, _, _ => by omega
  | m + 1, N, h, h0, hN, w => by
    have IH := Lib.hid (spec_FormatInt_neg m)
    obtain ⟨q, hq⟩ : ∃ q, N / 10 = q := ⟨_, rfl⟩
    obtain ⟨r, hr⟩ : ∃ r, N % 10 = r := ⟨_, rfl⟩
    have hr10 : r < 10 := by omega
    have hq1 : (-(N : Int)).tdiv 10 = -(q : Int) := by rw [Int.neg_tdiv, ← hq]; rfl
    have hr1 : (-(N : Int)).tmod 10 = -(r : Int) := by rw [Int.neg_tmod, ← hr]; rfl
    have hlt : -(N : Int) < 0 := by omega
    have hwq : IntKind.i64.wrap (-(q : Int)) = -(q : Int) := i64w (by omega)
    have hwr : IntKind.i64.wrap (-(r : Int)) = -(r : Int) := i64w (by omega)
    by_cases hq0 : q = 0
    · have hNr : N = r := by omega
      have hsub : (48 : Int) - (-(N : Int)) = 48 + (r : Int) := by omega
      have hsub2 : (48 : Int) + (N : Int) = 48 + (r : Int) := by omega
      have hw2 : IntKind.i64.wrap (48 + (r : Int)) = 48 + (r : Int) := i64w (by omega)
      have hw3 : IntKind.u8.wrap (48 + (r : Int)) = 48 + (r : Int) := by rw [IntKind.wrap_u8]; omega
      have hcv := conv1 w (UInt8.ofNat (48 + r)) (48 + (r : Int)) (dig_nat r hr10)
      have HS := Lib.hid (str_mk [UInt8.ofNat (48 + r)])
      have h1 : (mkS [UInt8.ofNat (48 + r)]).size = 1 := by rw [mkS_size]; rfl
      have HE := Lib.hid (show (45 : UInt8) :: [UInt8.ofNat (48 + r)] = 45 :: Lib.decDigits N by rw [hNr, decD_small hr10])
      generalize [UInt8.ofNat (48 + r)] = cl at hcv h1 HE HS
      generalize mkS cl = C at hcv h1 HS
      have hqz : -(q : Int) = 0 := by omega
      have HNR := Lib.hid hNr
      clear hNr hq hr hq0
      go_enter Tryz.func17, Tryz.ntmps17
      go_wp2_with fail
      go_ret
      refine ⟨ret_str ?_, (by repeat (first | exact Below.refl _ _ | assumption | (refine Below.alloc ?_ (by first | exact Nat.le_refl _ | (simp; done) | (simp; omega) | omega) _) | (refine Below.drew ?_) | (refine Below.setCell ?_ (by first | exact Nat.le_refl _ | (simp; done) | (simp; omega) | omega) _)))⟩
      have := (str_one 45).app HS.out
      rw [show [(45 : UInt8)] ++ cl = 45 :: cl from rfl, HE.out] at this
      exact this.eq
    · have hqz : ¬ -(q : Int) = 0 := by omega
      have hqz2 : ¬ (q : Int) = 0 := by omega
      have hqz3 : (-(q : Int) == 0) = false := beq_eq_false_iff_ne.2 hqz
      have hsub : (48 : Int) - (-(r : Int)) = 48 + (r : Int) := by omega
      have hw2 : IntKind.i64.wrap (48 + (r : Int)) = 48 + (r : Int) := i64w (by omega)
      have hw3 : IntKind.u8.wrap (48 + (r : Int)) = 48 + (r : Int) := by rw [IntKind.wrap_u8]; omega
      have hcv := fun V => conv1 V (UInt8.ofNat (48 + r)) (48 + (r : Int)) (dig_nat r hr10)
      have hcw := fun V => conv1b V (V.alloc (.cells #[.int .u8 (48 + (r : Int))] 5)).drew (UInt8.ofNat (48 + r)) (48 + (r : Int)) (dig_nat r hr10) ((Below.refl _ _).drew)
      have HV5 := Lib.hid (fun V V' => conv1b V V' (UInt8.ofNat (48 + r)) (48 + (r : Int)) (dig_nat r hr10))
      have HS := Lib.hid (str_mk [UInt8.ofNat (48 + r)])
      have h1 : (mkS [UInt8.ofNat (48 + r)]).size = 1 := by rw [mkS_size]; rfl
      have h9 : ¬ N < 10 := by omega
      have HE := Lib.hid (show (45 :: Lib.decDigits q) ++ [UInt8.ofNat (48 + r)] = 45 :: Lib.decDigits N by rw [decD_big h9, hq, hr]; rfl)
      generalize [UInt8.ofNat (48 + r)] = cl at hcv h1 HE HS HV5 hcw
      generalize mkS cl = C at hcv h1 HS HV5 hcw
      have HC := Lib.hid (IH.out q (by omega) (by omega) (by omega))
      have hds : (mkS (45 :: Lib.decDigits q)).size ≤ 20 := by
        rw [mkS_size]
        have := decD_len 18 q (by omega)
        simp; omega
      have HQS := Lib.hid (str_mk (45 :: Lib.decDigits q))
      generalize mkS (45 :: Lib.decDigits q) = DQ at HC hds HQS
      have hds2 : ¬ 9223372036854775807 < DQ.size + 1 := by omega
      clear hq hr hq0 IH
      go_enter Tryz.func17, Tryz.ntmps17
      go_wp2_with fail
      go_region_law (go_simp; go_at_call 17; refine (HC.out _).mono ?_; rintro e w5 ⟨rfl, hb5⟩; (try (have hq5 := HV5.out _ _ (Below.undrew_ hb5); have hcv5 : (convert 50 9 (.slice (some ⟨w.heap.size, 0, none⟩) 1 1)).run Tryz.prog w5 = .ok (.string C) w5 := hq5; clear hq5)))
      all_goals
        go_wp2_with fail
        go_ret
        refine ⟨ret_str ?_, ?_⟩
        · have := HQS.out.app HS.out
          rw [HE.out] at this
          exact this.eq
        · first | exact Below.alloc (Below.undrew_ hb5) hb5.size _ | exact (Below.alloc (Below.refl _ _) (Nat.le_refl _) _).trans ((Below.undrew_ hb5).mono (by simp))

theorem spec_FormatInt_any (n : Int) (hn : Fits n) (w : World) :
    Calls Tryz.prog 17 #[.int .i64 n] w fun e w' => e = .returned (.string (mkS (itoL n))) ∧ Below w.heap.size w w' := by
  unfold Fits at hn
  obtain ⟨N, rfl | rfl⟩ := Int.eq_nat_or_neg n
  · rw [itoL_pos]; exact spec_FormatInt_pos N (by omega) w
  · by_cases h0 : 0 < N
    · rw [itoL_neg N h0]; exact spec_FormatInt_neg N N (Nat.le_refl _) h0 (by omega) w
    · have : N = 0 := by omega
      subst this
      exact spec_FormatInt_pos 0 (by omega) w

end Go.Proofs.YtjoeglekcnaebaaGreatDoor

namespace Go.Proofs.YtjoeglekcnaebaaGreatDoor
open Go.RowKit Go.Shelf
set_option linter.unusedVariables false
set_option linter.unusedSimpArgs false

def joinT (xs : List Txt) (sep : Txt) : Txt := Lib.join xs sep
theorem joinTail_snoc (sep : Txt) (r : List Txt) (y : Txt) : Lib.joinTail sep (r ++ [y]) = Lib.joinTail sep r ++ (sep ++ y) := by
  unfold Lib.joinTail; simp
theorem joinT_snoc (xs : List Txt) (y sep : Txt) (h : xs ≠ []) : joinT (xs ++ [y]) sep = joinT xs sep ++ (sep ++ y) := by
  cases xs with
  | nil => exact absurd rfl h
  | cons x r =>
    unfold joinT
    rw [List.cons_append, Lib.join_cons, Lib.join_cons, joinTail_snoc, List.append_assoc]
theorem joinT_nil (sep : Txt) : joinT [] sep = [] := rfl
theorem joinT_one (x sep : Txt) : joinT [x] sep = x := Lib.join_one x sep
theorem take_snocT (xs : List Txt) (k : Nat) (h : k < xs.length) : xs.take (k + 1) = xs.take k ++ [xs.getD k []] := by
  rw [List.take_succ_eq_append_getElem h, List.getD_eq_getElem?_getD, List.getElem?_eq_getElem h]; rfl
theorem joinT_take (xs : List Txt) (sep : Txt) (k : Nat) (h : k < xs.length) : joinT (xs.take (k + 1)) sep = joinT (xs.take k) sep ++ ((if k = 0 then [] else sep) ++ xs.getD k []) := by
  rw [take_snocT xs k h]
  by_cases h0 : k = 0
  · subst h0; simp [joinT_nil, joinT_one]
  · rw [if_neg h0, joinT_snoc]
    intro e
    have : min k xs.length = 0 := by rw [← List.length_take, e]; rfl
    omega
theorem joinT_len (sep : Txt) (M : Nat) : ∀ xs : List Txt, (∀ x ∈ xs, x.length ≤ M) → (joinT xs sep).length ≤ xs.length * (M + sep.length)
  | [], _ => by simp [joinT_nil]
  | x :: r, h => by
    have hr : ∀ r : List Txt, (∀ x ∈ r, x.length ≤ M) → (Lib.joinTail sep r).length ≤ r.length * (M + sep.length) := by
      intro r
      induction r with
      | nil => intro _; simp [Lib.joinTail]
      | cons y r ih =>
        intro h
        have h1 := ih (fun x hx => h x (List.mem_cons_of_mem _ hx))
        have h2 := h y List.mem_cons_self
        have : Lib.joinTail sep (y :: r) = (sep ++ y) ++ Lib.joinTail sep r := by unfold Lib.joinTail; simp
        rw [this, List.length_append, List.length_append, List.length_cons, Nat.succ_mul]
        generalize r.length * (M + sep.length) = q at h1 ⊢
        omega
    have h1 := hr r (fun y hy => h y (List.mem_cons_of_mem _ hy))
    have h2 := h x List.mem_cons_self
    unfold joinT
    rw [Lib.join_cons, List.length_append, List.length_cons, Nat.succ_mul]
    generalize r.length * (M + sep.length) = q at h1 ⊢
    omega

set_option maxRecDepth 100000 in
theorem impl_Join_any (A : Option Addr) (c : Nat) (xs : List Txt) (sep : Txt) (M : Nat) (w : World) (hI : Strs w w.heap.size A xs) (hc : xs.length ≤ c) (hM : ∀ x ∈ xs, x.length ≤ M) (hM2 : M + sep.length ≤ 134217728) :
    Calls Tryz.prog 21 #[.slice A xs.length c, .string (mkS sep)] w fun e w' => e = .returned (.string (mkS (joinT xs sep))) ∧ Below w.heap.size w w' := by
  have hl := joinT_len sep M xs hM
  have hx := hI.1
  have hJ : Calls Tryz.prog 43 #[.slice A xs.length c, .string (mkS sep)] w fun e w' => e = .returned (.string (mkS (joinT xs sep))) ∧ Below w.heap.size w w' := by
    cases xs with
    | nil =>
      refine (Any.strings_Join_none Tryz.lays156 Tryz.bx156 A c (mkS sep) w).mono ?_
      rintro e w' ⟨rfl, rfl⟩
      exact ⟨rfl, Below.refl _ _⟩
    | cons x r =>
      obtain ⟨b, off, rfl, hb, hcell⟩ := hI.2 (by simp)
      have e1 : ((x :: r).map mkS).map (fun t => t.data.toList) = x :: r := by
        rw [List.map_map]
        conv => rhs; rw [← List.map_id (x :: r)]
        exact List.map_congr_left fun t _ => str_mk t
      have hbig : (joinT (x :: r) sep).length ≤ 140737488355328 := by
        have : (x :: r).length * (M + sep.length) ≤ 1048576 * 134217728 := Nat.mul_le_mul hx hM2
        omega
      have := Any.strings_Join Tryz.lays156 Tryz.bx156 b off c ((x :: r).map mkS) (mkS sep) w (fun j t ht => by
          rw [List.getElem?_map] at ht
          have hj : j < (x :: r).length := by
            apply Classical.byContradiction
            intro hh
            rw [List.getElem?_eq_none (by omega)] at ht
            cases ht
          rw [hcell j hj]
          rw [List.getElem?_eq_getElem hj] at ht
          injection ht with ht
          rw [← ht, List.getD_eq_getElem?_getD, List.getElem?_eq_getElem hj]
          rfl) hb (by rw [List.length_map]; omega) (by rw [List.length_map]; exact hc) (by rw [e1, show (mkS sep).data.toList = sep from str_mk sep]; exact hbig)
      rw [e1, List.length_map, show (mkS sep).data.toList = sep from str_mk sep] at this
      exact this
  have HJ := Lib.hid hJ
  generalize mkS (joinT xs sep) = X at HJ ⊢
  generalize mkS sep = SP at HJ ⊢
  clear hJ hl hx hI
  go_enter Tryz.func21, Tryz.ntmps21
  go_wp2_with fail
  refine HJ.out.mono ?_
  rintro e w1 ⟨rfl, hb⟩
  go_wp2_with fail
  go_ret
  exact ⟨rfl, hb⟩

set_option maxRecDepth 100000 in
set_option maxHeartbeats 400000 in
theorem spec_Join_any (A : Option Addr) (c : Nat) (xs : List Txt) (sep : Txt) (M : Nat) (w : World) (hI : Strs w w.heap.size A xs) (hM : ∀ x ∈ xs, x.length ≤ M) (hM2 : M + sep.length ≤ 134217728) :
    Calls Tryz.prog 55 #[.slice A xs.length c, .string (mkS sep)] w fun e w' => e = .returned (.string (mkS (joinT xs sep))) ∧ w = w' := by
  have HL := Lib.hid (fun k (hk : k ≤ xs.length) => show (joinT (xs.take k) sep).length ≤ 140737488355328 by
    have h1 := joinT_len sep M (xs.take k) (fun x hx => hM x (List.mem_of_mem_take hx))
    have h2 : (xs.take k).length ≤ 1048576 := by rw [List.length_take]; have := hI.1; omega
    have : (xs.take k).length * (M + sep.length) ≤ 1048576 * 134217728 := Nat.mul_le_mul h2 hM2
    omega)
  have hx := hI.1
  have HC := Lib.hid hI.2
  have HSP := Lib.hid (str_mk sep)
  have hsps : (mkS sep).size ≤ 134217728 := by rw [mkS_size]; omega
  obtain ⟨SP, hSP⟩ : ∃ SP, mkS sep = SP := ⟨_, rfl⟩
  rw [hSP] at hsps HSP
  have HX := Lib.hid (fun k (hk : k < xs.length) => show (xs.getD k []).length ≤ 134217728 by
    have := hM (xs.getD k []) (by rw [List.getD_eq_getElem?_getD, List.getElem?_eq_getElem hk]; exact List.getElem_mem hk)
    omega)
  rw [hSP]
  clear hM hM2 hI hSP
  go_enter Tryz.func55, Tryz.ntmps55
  go_wp2_with fail
  go_loop [5, 10] (fun t i => ∃ (k : Nat) (u : ByteArray), k ≤ xs.length ∧ i = .int .i64 k ∧ t = .string u ∧ Str u (joinT (xs.take k) sep)) (fun _ i => xs.length - (intOf i).toNat)
  case atStart => exact ⟨0, _, Nat.zero_le _, rfl, rfl, str_nil⟩
  case round =>
    obtain ⟨k, u, hk, rfl, rfl, hu⟩ := hrel
    by_cases hlt : k < xs.length
    · obtain ⟨b, off, rfl, hBo, hc⟩ := HC.out (by omega)
      have hcell := hc k hlt
      unfold emS at hcell
      have hst := str_mk (xs.getD k [])
      have hsz := HX.out k hlt
      have hjt := joinT_take xs sep k hlt
      have hul := HL.out k hk
      rw [← hu.size] at hul
      obtain ⟨T, hT⟩ : ∃ T, mkS (xs.getD k []) = T := ⟨_, rfl⟩
      have hTs : T.size ≤ 134217728 := by rw [← hT, mkS_size]; exact hsz
      rw [hT] at hcell hst
      have HST := Lib.hid hst
      have HU := Lib.hid hu
      have HJT := Lib.hid hjt
      clear hT hst hu hjt hc hsz
      by_cases h0 : k = 0
      · have h0' : ¬ 0 < k := by omega
        have HREL := Lib.hid (show Str (u ++ T) (joinT (xs.take (k + 1)) sep) by rw [HJT.out, if_pos h0, List.nil_append]; exact HU.out.app HST.out)
        clear h0
        go_wp2_with fail
        go_round
        case rel => exact ⟨k + 1, _, by omega, by go_num, rfl, HREL.out⟩
        case measure => simp [intOf]; omega
      · have h0' : 0 < k := by omega
        have HREL := Lib.hid (show Str (u ++ SP ++ T) (joinT (xs.take (k + 1)) sep) by rw [HJT.out, if_neg h0, ← List.append_assoc]; exact (HU.out.app HSP.out).app HST.out)
        have hsum : (u ++ SP).size ≤ 281474976710656 := by rw [ByteArray.size_append]; omega
        clear h0
        go_wp2_with fail
        go_round
        case rel => exact ⟨k + 1, _, by omega, by go_num, rfl, HREL.out⟩
        case measure => simp [intOf]; omega
    · have HU := Lib.hid (show u = mkS (joinT xs sep) by have := hu.eq; rwa [List.take_of_length_le (by omega)] at this)
      clear hu
      go_wp2_with fail
      go_ret
      exact ⟨by rw [HU.out]; rfl, rfl⟩

end Go.Proofs.YtjoeglekcnaebaaGreatDoor

namespace Go.Proofs.YtjoeglekcnaebaaGreatDoor
open Go.RowKit
set_option linter.unusedVariables false
set_option linter.unusedSimpArgs false

def numsT (xs : List Int) : Txt := if xs = [] then [45] else joinT (xs.map itoL) [44]
theorem nums_take (xs : List Int) (k : Nat) (h : k < xs.length) : (xs.take (k + 1)).map itoL = (xs.take k).map itoL ++ [itoL (xs.getD k 0)] := by
  rw [List.take_succ_eq_append_getElem h, List.map_append, List.getD_eq_getElem?_getD, List.getElem?_eq_getElem h]; rfl
theorem nums_mem {xs : List Int} (h : ∀ x ∈ xs, Fits x) : ∀ t ∈ xs.map itoL, t.length ≤ 20 := by
  intro t ht
  obtain ⟨x, hx, rfl⟩ := List.mem_map.1 ht
  exact itoL_len x (h x hx)
theorem fits_at {xs : List Int} (h : ∀ x ∈ xs, Fits x) {k : Nat} (hk : k < xs.length) : Fits (xs.getD k 0) := by
  rw [List.getD_eq_getElem?_getD, List.getElem?_eq_getElem hk]; exact h _ (List.getElem_mem hk)

set_option maxRecDepth 100000 in
set_option maxHeartbeats 1000000 in
theorem impl_numbersText_any (A : Option Addr) (cap : Nat) (xs : List Int) (w : World) (hI : Ints w w.heap.size A xs) (hl : xs.length ≤ 1048576) (hP : Pow w) :
    Calls Tryz.prog 59 #[.slice A xs.length cap] w fun e w' => e = .returned (.string (mkS (joinT (xs.map itoL) [44]))) ∧ Below w.heap.size w w' := by
  have HF := Lib.hid hI.2.1
  have HC := Lib.hid hI.2.2
  have HP := Lib.hid hP
  clear hI hP
  have hsep : (⟨#[44]⟩ : ByteArray) = mkS [44] := rfl
  go_enter Tryz.func59, Tryz.ntmps59
  go_wp2_with fail
  go_loopw [3, 8] (fun so si wr => ∃ (k : Nat), k ≤ xs.length ∧ si = .int .i64 k ∧ OwnS wr w.heap.size so ((xs.take k).map itoL) ∧ Below w.heap.size w wr) (fun _ si _ => xs.length - (intOf si).toNat)
  case atStart => exact ⟨0, Nat.zero_le _, rfl, OwnS.nil _ _, Below.refl _ _⟩
  case round =>
    obtain ⟨k, hk, rfl, hown, hbel⟩ := hrel
    obtain ⟨wo, rfl⟩ : ∃ wo : World, wo = wr := ⟨_, rfl⟩
    have hln : ((xs.take k).map itoL).length = k := by rw [List.length_map, List.length_take]; omega
    obtain ⟨ys, hys⟩ : ∃ ys, (xs.take k).map itoL = ys := ⟨_, rfl⟩
    rw [hys] at hown hln
    have HYS := Lib.hid hys
    have HOW := Lib.hid hown
    have HBE := Lib.hid hbel
    have HLN := Lib.hid hln
    clear hys hln
    obtain ⟨A5, c5, rfl, hlc, _, _⟩ := hown.form
    by_cases hlt : k < xs.length
    · obtain ⟨b, off, rfl, hBo, hc⟩ := HC.out (by omega)
      have hcell := hc k hlt
      rw [← hbel.cell (p := ⟨b, off + k, none⟩) hBo] at hcell
      have HX := Lib.hid (fits_at HF.out hlt)
      have HTK := Lib.hid (show (xs.take (k + 1)).map itoL = ys ++ [itoL (xs.getD k 0)] by rw [nums_take xs k hlt, HYS.out])
      generalize xs.getD k 0 = x at hcell HX HTK
      have HFI := Lib.hid (impl_FormatInt_any x HX.out wo (HP.out.below hbel))
      clear hc hown hbel
      go_wp2_with fail
      refine HFI.out.mono ?_
      rintro e w1 ⟨rfl, hb1⟩
      have HO1 := Lib.hid (HOW.out.grown hb1)
      have hz1 := hb1.size
      have HB1 := Lib.hid (HBE.out.trans (hb1.mono HBE.out.size))
      obtain ⟨T, hT⟩ : ∃ T, mkS (itoL x) = T := ⟨_, rfl⟩
      rw [hT]
      have HT := Lib.hid hT
      have hbs := HB1.out.size
      clear hb1 hT
      go_wp2_with (at_builtin; refine wpList_append_str rfl (.tmp 12) (.tmp 15) rfl w.heap.size _ ys rfl (HO1.out.alloc _) w1.heap.size (itoL x) (by rfl) (by unfold emS; rw [HT.out]; exact cell_new1 _ _ _) (by rw [HLN.out]; omega) (by simp; omega) ?_; intro v2 w2 hown2 hb2)
      have HO2 := Lib.hid hown2
      have HB2 := Lib.hid ((HB1.out.alloc hbs _).trans hb2)
      clear hown2 hb2
      go_wp2_with fail
      go_roundw
      case rel => exact ⟨k + 1, by omega, by go_num, by rw [HTK.out]; exact HO2.out, HB2.out⟩
      case measure => simp [intOf]; omega
    · have hke : k = xs.length := by omega
      have hall : ys = xs.map itoL := by rw [← HYS.out, List.take_of_length_le (by omega)]
      have HJ := Lib.hid (fun W (hS : Strs W W.heap.size A5 ys) => impl_Join_any A5 c5 ys [44] 20 W hS hlc (by rw [hall]; exact nums_mem HF.out) (by simp))
      have HST := Lib.hid (HOW.out.strs (by rw [HLN.out]; omega))
      obtain ⟨X, hX⟩ : ∃ X, mkS (joinT ys [44]) = X := ⟨_, rfl⟩
      rw [hX] at HJ
      have HX := Lib.hid (show X = mkS (joinT (xs.map itoL) [44]) by rw [← hX, hall])
      clear hown hbel hall hke hX
      go_wp2_with fail
      try rw [hsep]
      refine (HJ.out _ HST.out).mono ?_
      rintro e w1 ⟨rfl, hb1⟩
      have HB1 := Lib.hid (HBE.out.trans (hb1.mono HBE.out.size))
      clear hb1
      go_wp2_with fail
      go_ret
      exact ⟨ret_str HX.out, HB1.out⟩

set_option maxHeartbeats 400000 in
theorem impl_FormatNumbers_any (A : Option Addr) (cap : Nat) (xs : List Int) (w : World) (hI : Ints w w.heap.size A xs) (hl : xs.length ≤ 1048576) (hP : Pow w) :
    Calls Tryz.prog 32 #[.slice A xs.length cap] w fun e w' => e = .returned (.string (mkS (numsT xs))) ∧ Below w.heap.size w w' := by
  have HN := Lib.hid (impl_numbersText_any A cap xs w hI hl hP)
  by_cases h0 : xs = []
  · subst h0
    have HV := Lib.hid (show numsT [] = [45] from rfl)
    clear hI hP
    go_enter Tryz.func32, Tryz.ntmps32
    go_wp2_with fail
    go_ret
    exact ⟨by rw [HV.out]; rfl, Below.refl _ _⟩
  · have HV := Lib.hid (show mkS (numsT xs) = mkS (joinT (xs.map itoL) [44]) by unfold numsT; rw [if_neg h0])
    have hpos : ¬ xs.length = 0 := fun e => h0 (List.eq_nil_of_length_eq_zero e)
    have hb : ((xs.length : Int) == 0) = false := beq_eq_false_iff_ne.2 (by omega)
    clear hI hP h0
    generalize mkS (joinT (xs.map itoL) [44]) = X at HN HV ⊢
    go_enter Tryz.func32, Tryz.ntmps32
    go_wp2_with fail
    refine HN.out.mono ?_
    rintro e w1 ⟨rfl, hb1⟩
    go_wp2_with fail
    go_ret
    exact ⟨ret_str HV.out.symm, hb1⟩

set_option maxRecDepth 100000 in
set_option maxHeartbeats 1000000 in
theorem spec_FormatNumbers_any (A : Option Addr) (cap : Nat) (xs : List Int) (w : World) (hI : Ints w w.heap.size A xs) (hl : xs.length ≤ 1048576) :
    Calls Tryz.prog 29 #[.slice A xs.length cap] w fun e w' => e = .returned (.string (mkS (numsT xs))) ∧ Below w.heap.size w w' := by
  have HF := Lib.hid hI.2.1
  have HC := Lib.hid hI.2.2
  clear hI
  have hsep : (⟨#[44]⟩ : ByteArray) = mkS [44] := rfl
  go_enter Tryz.func29, Tryz.ntmps29
  go_wp2_with fail
  go_loopw [3, 9] (fun so si wr => ∃ (k : Nat), k ≤ xs.length ∧ si = .int .i64 k ∧ OwnS wr w.heap.size so ((xs.take k).map itoL) ∧ Below w.heap.size w wr) (fun _ si _ => xs.length - (intOf si).toNat)
  case atStart => exact ⟨0, Nat.zero_le _, rfl, OwnS.empty_at _ _ _ rfl (Nat.le_refl _), (Below.refl _ _).alloc (Nat.le_refl _) _⟩
  case round =>
    obtain ⟨k, hk, rfl, hown, hbel⟩ := hrel
    obtain ⟨wo, rfl⟩ : ∃ wo : World, wo = wr := ⟨_, rfl⟩
    have hln : ((xs.take k).map itoL).length = k := by rw [List.length_map, List.length_take]; omega
    obtain ⟨ys, hys⟩ : ∃ ys, (xs.take k).map itoL = ys := ⟨_, rfl⟩
    rw [hys] at hown hln
    have HYS := Lib.hid hys
    have HOW := Lib.hid hown
    have HBE := Lib.hid hbel
    have HLN := Lib.hid hln
    clear hys hln
    obtain ⟨A5, c5, rfl, hlc, _, _⟩ := hown.form
    by_cases hlt : k < xs.length
    · obtain ⟨b, off, rfl, hBo, hc⟩ := HC.out (by omega)
      have hcell := hc k hlt
      rw [← hbel.cell (p := ⟨b, off + k, none⟩) hBo] at hcell
      have HX := Lib.hid (fits_at HF.out hlt)
      have HTK := Lib.hid (show (xs.take (k + 1)).map itoL = ys ++ [itoL (xs.getD k 0)] by rw [nums_take xs k hlt, HYS.out])
      generalize xs.getD k 0 = x at hcell HX HTK
      have HFI := Lib.hid (spec_FormatInt_any x HX.out wo)
      clear hc hown hbel
      go_wp2_with fail
      refine HFI.out.mono ?_
      rintro e w1 ⟨rfl, hb1⟩
      have HO1 := Lib.hid (HOW.out.grown hb1)
      have hz1 := hb1.size
      have HB1 := Lib.hid (HBE.out.trans (hb1.mono HBE.out.size))
      obtain ⟨T, hT⟩ : ∃ T, mkS (itoL x) = T := ⟨_, rfl⟩
      rw [hT]
      have HT := Lib.hid hT
      have hbs := HB1.out.size
      clear hb1 hT
      go_wp2_with (at_builtin; refine wpList_append_str rfl (.tmp 13) (.tmp 16) rfl w.heap.size _ ys rfl (HO1.out.alloc _) w1.heap.size (itoL x) (by rfl) (by unfold emS; rw [HT.out]; exact cell_new1 _ _ _) (by rw [HLN.out]; omega) (by simp; omega) ?_; intro v2 w2 hown2 hb2)
      have HO2 := Lib.hid hown2
      have HB2 := Lib.hid ((HB1.out.alloc hbs _).trans hb2)
      clear hown2 hb2
      go_wp2_with fail
      go_roundw
      case rel => exact ⟨k + 1, by omega, by go_num, by rw [HTK.out]; exact HO2.out, HB2.out⟩
      case measure => simp [intOf]; omega
    · have hke : k = xs.length := by omega
      have hall : ys = xs.map itoL := by rw [← HYS.out, List.take_of_length_le (by omega)]
      have HJ := Lib.hid (fun W (hS : Strs W W.heap.size A5 ys) => spec_Join_any A5 c5 ys [44] 20 W hS (by rw [hall]; exact nums_mem HF.out) (by simp))
      have HST := Lib.hid (HOW.out.strs (by rw [HLN.out]; omega))
      obtain ⟨X, hX⟩ : ∃ X, mkS (joinT ys [44]) = X := ⟨_, rfl⟩
      rw [hX] at HJ
      have hyl : ys.length = xs.length := by rw [HLN.out, hke]
      by_cases h0 : xs = []
      · have HV := Lib.hid (show numsT xs = [45] by rw [h0]; rfl)
        have hb : ((ys.length : Int) == 0) = true := by rw [hyl, h0]; rfl
        clear hown hbel hall hke hX hyl h0
        go_wp2_with fail
        go_ret
        exact ⟨by rw [HV.out]; rfl, HBE.out⟩
      · have HX := Lib.hid (show X = mkS (numsT xs) by unfold numsT; rw [if_neg h0, ← hX, hall])
        have hpos : ¬ xs.length = 0 := fun e => h0 (List.eq_nil_of_length_eq_zero e)
        have hb : ((ys.length : Int) == 0) = false := beq_eq_false_iff_ne.2 (by omega)
        clear hown hbel hall hke hX hyl h0
        go_wp2_with fail
        try rw [hsep]
        refine (HJ.out _ HST.out).mono ?_
        rintro e w1 ⟨rfl, rfl⟩
        go_wp2_with fail
        go_ret
        exact ⟨ret_str HX.out, HBE.out⟩

end Go.Proofs.YtjoeglekcnaebaaGreatDoor

