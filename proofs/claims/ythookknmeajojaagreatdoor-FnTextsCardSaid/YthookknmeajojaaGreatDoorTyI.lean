/-
  Several texts of this proof in one: Nums, StpT, Repl, BarP.
-/
import Derived.Test.YthookknmeajojaaGreatDoorFmtI
import Derived.Test.YthookknmeajojaaGreatDoorJoin
import Derived.Test.YthookknmeajojaaGreatDoorChecked
import Derived.Lib.Replace
import Derived.Test.YthookknmeajojaaGreatDoorTyG
import Derived.Test.YthookknmeajojaaGreatDoorTyH
import Derived.Test.YthookknmeajojaaGreatDoorTyC
namespace Go.Proofs.YthookknmeajojaaGreatDoor
open Go.RowKit
set_option linter.unusedVariables false
set_option linter.unusedSimpArgs false

def numsT (xs : List Int) : Txt := if xs = [] then [45] else joinT (xs.map itoL) [44]
theorem nums_take (xs : List Int) (k : Nat) (h : k < xs.length) : (xs.take (k + 1)).map itoL = (xs.take k).map itoL ++ [itoL (xs.getD k 0)] := by
  rw [List.take_succ_eq_append_getElem h, List.map_append, List.getD_eq_getElem?_getD, List.getElem?_eq_getElem h]; rfl
theorem nums_mem {xs : List Int} (h : ∀ x ∈ xs, Fits x) : ∀ t ∈ xs.map itoL, t.length ≤ 20 := by
  intro t ht
  obtain ⟨x, hx, rfl⟩ := List.mem_map.1 ht
  exact itoL_len x (h x hx)
theorem fits_at {xs : List Int} (h : ∀ x ∈ xs, Fits x) {k : Nat} (hk : k < xs.length) : Fits (xs.getD k 0) := by
  rw [List.getD_eq_getElem?_getD, List.getElem?_eq_getElem hk]; exact h _ (List.getElem_mem hk)

set_option maxRecDepth 100000 in
set_option maxHeartbeats 1000000 in
theorem impl_numbersText_any (A : Option Addr) (cap : Nat) (xs : List Int) (w : World) (hI : Ints w w.heap.size A xs) (hl : xs.length ≤ 1048576) (hP : Pow w) :
    Calls Tryz.prog 66 #[.slice A xs.length cap] w fun e w' => e = .returned (.string (mkS (joinT (xs.map itoL) [44]))) ∧ Below w.heap.size w w' := by
  have HF := Lib.hid hI.2.1
  have HC := Lib.hid hI.2.2
  have HP := Lib.hid hP
  clear hI hP
  have hsep : (⟨#[44]⟩ : ByteArray) = mkS [44] := rfl
  go_enter Tryz.func66, Tryz.ntmps66
  go_wp2_with fail
  go_loopw [3, 8] (fun so si wr => ∃ (k : Nat), k ≤ xs.length ∧ si = .int .i64 k ∧ OwnS wr w.heap.size so ((xs.take k).map itoL) ∧ Below w.heap.size w wr) (fun _ si _ => xs.length - (intOf si).toNat)
  case atStart => exact ⟨0, Nat.zero_le _, rfl, OwnS.nil _ _, Below.refl _ _⟩
  case round =>
    obtain ⟨k, hk, rfl, hown, hbel⟩ := hrel
    obtain ⟨wo, rfl⟩ : ∃ wo : World, wo = wr := ⟨_, rfl⟩
    have hln : ((xs.take k).map itoL).length = k := by rw [List.length_map, List.length_take]; omega
    obtain ⟨ys, hys⟩ : ∃ ys, (xs.take k).map itoL = ys := ⟨_, rfl⟩
    rw [hys] at hown hln
    have HYS := Lib.hid hys
    have HOW := Lib.hid hown
    have HBE := Lib.hid hbel
    have HLN := Lib.hid hln
    clear hys hln
    obtain ⟨A5, c5, rfl, hlc, _, _⟩ := hown.form
    by_cases hlt : k < xs.length
    · obtain ⟨b, off, rfl, hBo, hc⟩ := HC.out (by omega)
      have hcell := hc k hlt
      rw [← hbel.cell (p := ⟨b, off + k, none⟩) hBo] at hcell
      have HX := Lib.hid (fits_at HF.out hlt)
      have HTK := Lib.hid (show (xs.take (k + 1)).map itoL = ys ++ [itoL (xs.getD k 0)] by rw [nums_take xs k hlt, HYS.out])
      generalize xs.getD k 0 = x at hcell HX HTK
      have HFI := Lib.hid (impl_FormatInt_any x HX.out wo (HP.out.below hbel))
      clear hc hown hbel
      go_wp2_with fail
      refine HFI.out.mono ?_
      rintro e w1 ⟨rfl, hb1⟩
      have HO1 := Lib.hid (HOW.out.grown hb1)
      have hz1 := hb1.size
      have HB1 := Lib.hid (HBE.out.trans (hb1.mono HBE.out.size))
      obtain ⟨T, hT⟩ : ∃ T, mkS (itoL x) = T := ⟨_, rfl⟩
      rw [hT]
      have HT := Lib.hid hT
      have hbs := HB1.out.size
      clear hb1 hT
      go_wp2_with (at_builtin; refine wpList_append_str rfl (.tmp 12) (.tmp 15) rfl w.heap.size _ ys rfl (HO1.out.alloc _) w1.heap.size (itoL x) (by rfl) (by unfold emS; rw [HT.out]; exact cell_new1 _ _ _) (by rw [HLN.out]; omega) (by simp; omega) ?_; intro v2 w2 hown2 hb2)
      have HO2 := Lib.hid hown2
      have HB2 := Lib.hid ((HB1.out.alloc hbs _).trans hb2)
      clear hown2 hb2
      go_wp2_with fail
      go_roundw
      case rel => exact ⟨k + 1, by omega, by go_num, by rw [HTK.out]; exact HO2.out, HB2.out⟩
      case measure => simp [intOf]; omega
    · have hke : k = xs.length := by omega
      have hall : ys = xs.map itoL := by rw [← HYS.out, List.take_of_length_le (by omega)]
      have HJ := Lib.hid (fun W (hS : Strs W W.heap.size A5 ys) => impl_Join_any A5 c5 ys [44] 20 W hS hlc (by rw [hall]; exact nums_mem HF.out) (by simp))
      have HST := Lib.hid (HOW.out.strs (by rw [HLN.out]; omega))
      obtain ⟨X, hX⟩ : ∃ X, mkS (joinT ys [44]) = X := ⟨_, rfl⟩
      rw [hX] at HJ
      have HX := Lib.hid (show X = mkS (joinT (xs.map itoL) [44]) by rw [← hX, hall])
      clear hown hbel hall hke hX
      go_wp2_with fail
      try rw [hsep]
      refine (HJ.out _ HST.out).mono ?_
      rintro e w1 ⟨rfl, hb1⟩
      have HB1 := Lib.hid (HBE.out.trans (hb1.mono HBE.out.size))
      clear hb1
      go_wp2_with fail
      go_ret
      exact ⟨ret_str HX.out, HB1.out⟩

set_option maxHeartbeats 400000 in
theorem impl_FormatNumbers_any (A : Option Addr) (cap : Nat) (xs : List Int) (w : World) (hI : Ints w w.heap.size A xs) (hl : xs.length ≤ 1048576) (hP : Pow w) :
    Calls Tryz.prog 33 #[.slice A xs.length cap] w fun e w' => e = .returned (.string (mkS (numsT xs))) ∧ Below w.heap.size w w' := by
  have HN := Lib.hid (impl_numbersText_any A cap xs w hI hl hP)
  by_cases h0 : xs = []
  · subst h0
    have HV := Lib.hid (show numsT [] = [45] from rfl)
    clear hI hP
    go_enter Tryz.func33, Tryz.ntmps33
    go_wp2_with fail
    go_ret
    exact ⟨by rw [HV.out]; rfl, Below.refl _ _⟩
  · have HV := Lib.hid (show mkS (numsT xs) = mkS (joinT (xs.map itoL) [44]) by unfold numsT; rw [if_neg h0])
    have hpos : ¬ xs.length = 0 := fun e => h0 (List.eq_nil_of_length_eq_zero e)
    have hb : ((xs.length : Int) == 0) = false := beq_eq_false_iff_ne.2 (by omega)
    clear hI hP h0
    generalize mkS (joinT (xs.map itoL) [44]) = X at HN HV ⊢
    go_enter Tryz.func33, Tryz.ntmps33
    go_wp2_with fail
    refine HN.out.mono ?_
    rintro e w1 ⟨rfl, hb1⟩
    go_wp2_with fail
    go_ret
    exact ⟨ret_str HV.out.symm, hb1⟩

end Go.Proofs.YthookknmeajojaaGreatDoor

namespace Go.Proofs.YthookknmeajojaaGreatDoor
open Go.RowKit
set_option linter.unusedVariables false
set_option linter.unusedSimpArgs false

theorem decD_char : ∀ (m k : Nat), k ≤ m → ∀ c ∈ Lib.decDigits k, c ≠ 44
  | 0, k, h, c, hc => by
    have : k = 0 := by omega
    subst this
    rw [decD_small (by decide)] at hc
    rw [List.mem_singleton.1 hc]; decide
  | m + 1, k, h, c, hc => by
    have hdig : ∀ r : Nat, r < 10 → UInt8.ofNat (48 + r) ≠ 44 := by
      intro r hr e
      have := congrArg UInt8.toNat e
      rw [UInt8.toNat_ofNat'] at this
      have h44 : (44 : UInt8).toNat = 44 := rfl
      rw [h44] at this
      omega
    by_cases h9 : k < 10
    · rw [decD_small h9] at hc
      rw [List.mem_singleton.1 hc]
      exact hdig k h9
    · rw [decD_big h9] at hc
      rcases List.mem_append.1 hc with h1 | h1
      · exact decD_char m (k / 10) (by omega) c h1
      · rw [List.mem_singleton.1 h1]
        exact hdig (k % 10) (Nat.mod_lt _ (by decide))
theorem itoL_char (n : Int) : ∀ c ∈ itoL n, c ≠ 44 := by
  intro c hc
  obtain ⟨N, rfl | rfl⟩ := Int.eq_nat_or_neg n
  · rw [itoL_pos] at hc
    exact decD_char N N (Nat.le_refl _) c hc
  · by_cases h0 : 0 < N
    · rw [itoL_neg N h0] at hc
      rcases List.mem_cons.1 hc with h1 | h1
      · rw [h1]; decide
      · exact decD_char N N (Nat.le_refl _) c h1
    · have : N = 0 := by omega
      subst this
      exact decD_char 0 0 (Nat.le_refl _) c (by rw [← itoL_pos]; exact hc)

def plusC (c : UInt8) : UInt8 := if c = 44 then 43 else c
theorem map_plus {l : Txt} (h : ∀ c ∈ l, c ≠ 44) : l.map plusC = l := by
  conv => rhs; rw [← List.map_id l]
  exact List.map_congr_left fun c hc => by unfold plusC; rw [if_neg (h c hc)]; rfl
theorem plus_join (xs : List Int) : (joinT (xs.map itoL) [44]).map plusC = joinT (xs.map itoL) [43] := by
  have htail : ∀ r : List Int, (Lib.joinTail [44] (r.map itoL)).map plusC = Lib.joinTail [43] (r.map itoL) := by
    intro r
    induction r with
    | nil => rfl
    | cons y r ih =>
      have e : ∀ sep : Txt, Lib.joinTail sep ((y :: r).map itoL) = (sep ++ itoL y) ++ Lib.joinTail sep (r.map itoL) := fun sep => by unfold Lib.joinTail; simp
      rw [e, e, List.map_append, List.map_append, ih, map_plus (itoL_char y)]
      rfl
  cases xs with
  | nil => rfl
  | cons x r =>
    unfold joinT
    rw [List.map_cons, Lib.join_cons, Lib.join_cons, List.map_append, htail, map_plus (itoL_char x)]

end Go.Proofs.YthookknmeajojaaGreatDoor

namespace Go.Proofs.YthookknmeajojaaGreatDoor
open Go.Lib
set_option linter.unusedVariables false
set_option linter.unusedSimpArgs false
theorem idx_cons (c a : UInt8) (l : List UInt8) : index (c :: l) [a] = if c = a then 0 else if index l [a] = -1 then -1 else index l [a] + 1 := by
  show (if ([a] : List UInt8).isPrefixOf (c :: l) then (0 : Int) else if index l [a] == -1 then -1 else index l [a] + 1) = _
  by_cases h : c = a
  · subst h; simp [List.isPrefixOf]
  · have : ([a] : List UInt8).isPrefixOf (c :: l) = false := by
      simp [List.isPrefixOf]; exact fun e => h e.symm
    rw [this, if_neg (by simp), if_neg h]
    by_cases h2 : index l [a] = -1
    · simp [h2]
    · rw [if_neg (by simpa using h2), if_neg h2]
theorem idx_none (a : UInt8) : ∀ l : List UInt8, index l [a] = -1 → a ∉ l
  | [], _ => by simp
  | c :: l, h => by
    rw [idx_cons] at h
    by_cases e : c = a
    · rw [if_pos e] at h; omega
    · rw [if_neg e] at h
      by_cases h2 : index l [a] = -1
      · have := idx_none a l h2
        simp; exact ⟨fun q => e q.symm, this⟩
      · rw [if_neg h2] at h; have := index_ge l [a]; omega
theorem map_none (a b : UInt8) (l : List UInt8) (h : a ∉ l) : l.map (fun c => if c = a then b else c) = l := by
  conv => rhs; rw [← List.map_id l]
  exact List.map_congr_left fun c hc => by
    have : ¬ c = a := fun e => h (e ▸ hc)
    simp [this]
theorem replK (a b : UInt8) : ∀ (s : List UInt8) (k : Nat), s.count a ≤ k → replaceK [a] [b] k s = s.map (fun c => if c = a then b else c)
  | s, 0, h => by
    show s = _
    rw [map_none]
    exact List.count_eq_zero.1 (by omega)
  | [], k + 1, _ => by simp [replaceK, index]
  | c :: l, k + 1, h => by
    by_cases e : c = a
    · subst e
      rw [replaceK_hit [c] [b] k (c :: l) 0 (by rw [idx_cons, if_pos rfl]; rfl)]
      have hl : l.count c ≤ k := by rw [List.count_cons_self] at h; omega
      simp
      exact replK c b l k hl
    · have hl : l.count a ≤ k + 1 := by rw [List.count_cons_of_ne (fun q => e q)] at h; exact h
      have ih := replK a b l (k + 1) hl
      by_cases h2 : index l [a] = -1
      · have hno := idx_none a l h2
        have : index (c :: l) [a] = -1 := by rw [idx_cons, if_neg e, if_pos h2]
        rw [replaceK, this, if_pos (by decide), map_none]
        simp; exact ⟨fun q => e q.symm, hno⟩
      · obtain ⟨i, hi⟩ := Int.eq_ofNat_of_zero_le (show 0 ≤ index l [a] by have := index_ge l [a]; omega)
        rw [replaceK_hit [a] [b] k (c :: l) (i + 1) (by rw [idx_cons, if_neg e, if_neg h2, hi]; rfl)]
        rw [replaceK_hit [a] [b] k l i hi] at ih
        simp [e] at ih ⊢
        exact ih
theorem replAll1 (a b : UInt8) (s : List UInt8) : replaceAll s [a] [b] = s.map (fun c => if c = a then b else c) := by
  unfold replaceAll replace
  by_cases h : a = b
  · subst h
    rw [if_pos (by simp)]
    conv => lhs; rw [← List.map_id s]
    exact List.map_congr_left fun c _ => by
      by_cases e : c = a
      · simp [e]
      · simp [e]
  · rw [if_neg (by simpa using h)]
    refine replK a b s _ ?_
    unfold replaceNum
    rw [if_pos (.inl (by decide)), count_one]
    exact Nat.le_refl _

end Go.Proofs.YthookknmeajojaaGreatDoor

namespace Go.Proofs.YthookknmeajojaaGreatDoor
open Go.RowKit Go.Shelf
set_option linter.unusedVariables false
set_option linter.unusedSimpArgs false

set_option maxRecDepth 100000 in
set_option maxHeartbeats 2000000 in
theorem impl_parsedBy_any (d : UInt8) (most : Nat) (s : ByteArray) (w : World) (hs : s.size ≤ 1048576) (hm : most ≤ 12) (hE : Errs w) (hP : Pow w) (hM : MaxL w) :
    Calls Tryz.prog 63 #[.string s, .string ⟨#[d]⟩, .int .i64 most] w fun e w' => ∃ A cap, e = .returned (.slice A (pbyV d most s).length cap) ∧ OwnI w' w.heap.size (.slice A (pbyV d most s).length cap) (pbyV d most s) ∧ Below w.heap.size w w' := by
  have HSP := Lib.hid (strings_Split_one d s w hs hM)
  have HSZ := Lib.hid (fun u => splT_size d s u)
  have HE := Lib.hid hE
  have HP := Lib.hid hP
  clear hE hP hM
  by_cases hl : (splT d s).length ≤ most
  · have HV := Lib.hid (show pbyV d most s = (splT d s).map (fun u => (pintV u).getD 0) from if_pos hl)
    generalize pbyV d most s = V at *
    generalize splT d s = us at *
    have hle : decide (most < us.length) = false := decide_eq_false (by omega)
    have HL := Lib.hid hl
    have hul : us.length ≤ 12 := by omega
    clear hl
    go_enter Tryz.func63, Tryz.ntmps63
    go_wp2_with (go_at_call 107; refine HSP.out.mono ?_; rintro e w1 ⟨A1, c1, rfl, hown1, hb1⟩)
    have HT := Lib.hid hown1
    have HB1 := Lib.hid hb1
    clear hown1 hb1
    go_loopw [8, 22] (fun v ki wr => ∃ k : Nat, k ≤ us.length ∧ ki = .int .i64 k ∧ OwnI wr w1.heap.size v ((us.take k).map (fun u => (pintV u).getD 0)) ∧ Below w1.heap.size w1 wr) (fun _ ki _ => us.length - (intOf ki).toNat)
    case atStart => exact ⟨0, Nat.zero_le _, rfl, OwnI.nil _ _, Below.refl _ _⟩
    case round =>
      obtain ⟨k, hk, rfl, hown, hb2⟩ := hrel
      obtain ⟨wo, rfl⟩ : ∃ wo : World, wo = wr := ⟨_, rfl⟩
      obtain ⟨A3, c3, rfl⟩ := hown.form
      have HO := Lib.hid hown
      have HB2 := Lib.hid hb2
      clear hown hb2
      by_cases hlt : k < us.length
      · obtain ⟨g, rfl, hg1, hg2, hgc⟩ := HT.out.read (by omega)
        have hcell : wo.cell? ⟨g, k, none⟩ = some (.string (us.getD k ⟨#[]⟩)) := (HB2.out.cell (p := ⟨g, k, none⟩) hg2).trans (hgc k hlt)
        have HUS := Lib.hid (HSZ.out (us.getD k ⟨#[]⟩) (by rw [List.getD_eq_getElem?_getD, List.getElem?_eq_getElem hlt]; exact List.getElem_mem hlt))
        have HTK := Lib.hid (show (us.take (k + 1)).map (fun u => (pintV u).getD 0) = (us.take k).map (fun u => (pintV u).getD 0) ++ [(pintV (us.getD k ⟨#[]⟩)).getD 0] by
          rw [List.take_succ_eq_append_getElem hlt, List.map_append, List.getD_eq_getElem?_getD, List.getElem?_eq_getElem hlt]; rfl)
        have htl : ((us.take k).map (fun u => (pintV u).getD 0)).length ≤ 12 := by have := HL.out; simp; omega
        generalize us.getD k ⟨#[]⟩ = u at *
        generalize (us.take k).map (fun u => (pintV u).getD 0) = L at *
        clear hgc
        have HBA := Lib.hid (HB1.out.trans (HB2.out.mono HB1.out.size))
        have HPI := Lib.hid (impl_ParseInt_any u (by have := HUS.out; omega) wo (HE.out.below HBA.out) (HP.out.below HBA.out))
        have hki : (k : Int) < (us.length : Int) := by omega
        generalize (pintV u).getD 0 = x at *
        generalize (pintV u).isSome = ok at *
        go_wp2_with (first
          | (go_at_call 69; refine HPI.out.mono ?_; rintro e w3 ⟨rfl, hb3⟩)
          | (at_builtin; refine wpList_append_int rfl _ _ rfl w1.heap.size _ L rfl ((HO.out.grown hb3).alloc _) _ x rfl (cell_new1 _ _ _) (by omega) (by have := HB2.out.size; have := hb3.size; first | omega | (simp only [World.size_alloc]; omega)) ?_; intro v' w4 hown4 hb4; obtain ⟨A6, c6, rfl⟩ := hown4.form))
        go_roundw
        case rel => exact ⟨k + 1, by omega, by go_num, by rw [HTK.out]; simpa using hown4, HB2.out.trans (((hb3.mono HB2.out.size).alloc (Nat.le_trans HB2.out.size hb3.size) _).trans hb4)⟩
        case measure => simp [intOf]; omega
      · have hke : k = us.length := by omega
        subst hke
        have e := HV.out
        have HO2 := HO.out
        rw [List.take_length, ← HV.out] at HO2
        have hvl : V.length = ((us.take us.length).map (fun u => (pintV u).getD 0)).length := by rw [List.take_length, ← HV.out]
        have HO3 := Lib.hid HO2
        clear HO2 e HO
        go_wp2_with fail
        go_ret
        rw [← hvl]
        exact ⟨_, _, rfl, ownI_base HO3.out HB1.out.size, HB1.out.trans (HB2.out.mono HB1.out.size)⟩
  · have HV := Lib.hid (show pbyV d most s = [] from if_neg hl)
    generalize pbyV d most s = V at *
    generalize splT d s = us at *
    have hle : (most : Int) < (us.length : Int) := by omega
    go_enter Tryz.func63, Tryz.ntmps63
    go_wp2_with (go_at_call 107; refine HSP.out.mono ?_; rintro e w1 ⟨A1, c1, rfl, hown1, hb1⟩)
    go_ret
    rw [HV.out]
    exact ⟨_, _, rfl, OwnI.nil _ _, hb1⟩

def sumX (xs : List Int) : Nat → Int
  | 0 => 0
  | i + 1 => sumX xs i + xs.getD i 0
theorem sumX_fit {xs : List Int} (h : ∀ x ∈ xs, 0 ≤ x ∧ x ≤ 1000) : ∀ i, i ≤ xs.length → 0 ≤ sumX xs i ∧ sumX xs i ≤ 1000 * i
  | 0, _ => by simp [sumX]
  | i + 1, hi => by
    have := sumX_fit h i (by omega)
    have hx := h (xs.getD i 0) (by rw [List.getD_eq_getElem?_getD, List.getElem?_eq_getElem (by omega)]; exact List.getElem_mem _)
    unfold sumX
    omega
set_option maxHeartbeats 1000000 in
theorem impl_sumOf_any (A : Option Addr) (cap : Nat) (xs : List Int) (w : World) (B : Nat) (hA : Ints w B A xs) (h : ∀ x ∈ xs, 0 ≤ x ∧ x ≤ 1000) (hl : xs.length ≤ 1000) :
    Calls Tryz.prog 113 #[.slice A xs.length cap] w fun e w' => e = .returned (.int .i64 (sumX xs xs.length)) ∧ w' = w := by
  have HS := Lib.hid (fun i hi => sumX_fit h i hi)
  have HA := Lib.hid hA.2.2
  clear hA h
  go_enter Tryz.func113, Tryz.ntmps113
  go_wp2_with fail
  go_loopw [3, 8] (fun sv ki wr => ∃ k : Nat, k ≤ xs.length ∧ ki = .int .i64 k ∧ sv = .int .i64 (sumX xs k) ∧ wr = w) (fun _ ki _ => xs.length - (intOf ki).toNat)
  case atStart => exact ⟨0, Nat.zero_le _, rfl, rfl, rfl⟩
  case round =>
    obtain ⟨k, hk, rfl, rfl, rfl⟩ := hrel
    have hs := HS.out k hk
    by_cases hlt : k < xs.length
    · obtain ⟨b, o, rfl, hb, hc⟩ := HA.out (by omega)
      have hcell := hc k hlt
      have hs2 := HS.out (k + 1) (by omega)
      have HSU := Lib.hid (show sumX xs (k + 1) = sumX xs k + xs.getD k 0 from rfl)
      have hki : (k : Int) < (xs.length : Int) := by omega
      rw [show sumX xs (k + 1) = sumX xs k + xs.getD k 0 from rfl] at hs2
      generalize xs.getD k 0 = x at *
      generalize sumX xs k = S at *
      clear hc
      go_wp2_with fail
      go_roundw
      case rel => exact ⟨k + 1, by omega, by go_num, by rw [HSU.out] <;> go_num, by first | rfl | trivial⟩
      case measure => simp [intOf]; omega
    · have hke : k = xs.length := by omega
      subst hke
      go_wp2_with fail
      go_ret
      exact ⟨rfl, rfl⟩

def barB (xs : List Int) : Bool := decide (1 ≤ xs.length ∧ xs.length ≤ 12) && allB xs 2 3 && decide (sumX xs xs.length ≤ 24)
set_option maxHeartbeats 1000000 in
theorem impl_BarOk_any (A : Option Addr) (cap : Nat) (xs : List Int) (w : World) (hA : Ints w w.heap.size A xs) :
    Calls Tryz.prog 67 #[.slice A xs.length cap] w fun e w' => e = .returned (.bool (barB xs)) ∧ Below w.heap.size w w' := by
  have hlm := hA.1
  unfold maxLen at hlm
  by_cases hl : 1 ≤ xs.length ∧ xs.length ≤ 12
  · have hin : inB (xs.length : Int) 1 12 = true := inB_true ⟨by omega, by omega⟩
    have HAW := Lib.hid (impl_allWithin_any A cap xs 2 3 w hA)
    have HBB := Lib.hid (show barB xs = (allB xs 2 3 && decide (sumX xs xs.length ≤ 24)) by unfold barB; rw [decide_eq_true hl, Bool.true_and])
    have HA := Lib.hid hA
    clear hA
    cases hab : allB xs 2 3
    · rw [hab] at HAW HBB
      clear hab
      go_enter Tryz.func67, Tryz.ntmps67
      go_wp2_with (first
        | (go_at_call 39; refine (within_any _ _ _ _).mono ?_; rintro e w' ⟨rfl, rfl⟩)
        | (go_at_call 108; refine HAW.out.mono ?_; rintro e w1 ⟨rfl, hb1⟩))
      go_ret
      exact ⟨ret_bool (by rw [HBB.out]; rfl), hb1⟩
    · have hx : ∀ x ∈ xs, 0 ≤ x ∧ x ≤ 1000 := fun x hx => by
        have := List.all_eq_true.1 hab x hx
        have := inB_iff.1 this
        omega
      have hsf := sumX_fit hx xs.length (Nat.le_refl _)
      have HSO := Lib.hid (fun V (h : Ints V w.heap.size A xs) => impl_sumOf_any A cap xs V w.heap.size h hx (by omega))
      rw [hab] at HAW HBB
      generalize sumX xs xs.length = S at *
      clear hab hx
      by_cases h24 : S ≤ 24
      · rw [decide_eq_true h24] at HBB
        go_enter Tryz.func67, Tryz.ntmps67
        go_wp2_with (first
          | (go_at_call 39; refine (within_any _ _ _ _).mono ?_; rintro e w' ⟨rfl, rfl⟩)
          | (go_at_call 108; refine HAW.out.mono ?_; rintro e w1 ⟨rfl, hb1⟩)
          | (go_at_call 113; refine (HSO.out _ (HA.out.below hb1)).mono ?_; rintro e w2 ⟨rfl, rfl⟩))
        go_ret
        exact ⟨ret_bool (by rw [HBB.out]; simp [h24]), hb1⟩
      · rw [decide_eq_false h24] at HBB
        go_enter Tryz.func67, Tryz.ntmps67
        go_wp2_with (first
          | (go_at_call 39; refine (within_any _ _ _ _).mono ?_; rintro e w' ⟨rfl, rfl⟩)
          | (go_at_call 108; refine HAW.out.mono ?_; rintro e w1 ⟨rfl, hb1⟩)
          | (go_at_call 113; refine (HSO.out _ (HA.out.below hb1)).mono ?_; rintro e w2 ⟨rfl, rfl⟩))
        go_ret
        exact ⟨ret_bool (by rw [HBB.out]; simp [h24]), hb1⟩
  · have hin : inB (xs.length : Int) 1 12 = false := inB_false (by omega)
    have HBB := Lib.hid (show barB xs = false by unfold barB; rw [decide_eq_false hl]; rfl)
    clear hA
    go_enter Tryz.func67, Tryz.ntmps67
    go_wp2_with (go_at_call 39; refine (within_any _ _ _ _).mono ?_; rintro e w' ⟨rfl, rfl⟩)
    go_ret
    exact ⟨ret_bool HBB.out.symm, Below.refl _ _⟩

def fmtB (xs : List Int) : Txt := joinT (xs.map itoL) [43]
def fbarV (xs : List Int) : Txt := if barB xs then fmtB xs else []
theorem barB_all {xs : List Int} (h : barB xs = true) : 1 ≤ xs.length ∧ xs.length ≤ 12 ∧ (∀ x ∈ xs, 2 ≤ x ∧ x ≤ 3) ∧ sumX xs xs.length ≤ 24 := by
  unfold barB at h
  simp only [Bool.and_eq_true, decide_eq_true_eq] at h
  exact ⟨h.1.1.1, h.1.1.2, fun x hx => by have := List.all_eq_true.1 h.1.2 x hx; exact inB_iff.1 this, h.2⟩

set_option maxRecDepth 100000 in
set_option maxHeartbeats 1000000 in
theorem impl_FormatBar_any (A : Option Addr) (cap : Nat) (xs : List Int) (w : World) (hA : Ints w w.heap.size A xs) (hP : Pow w) (hM : MaxL w) :
    Calls Tryz.prog 31 #[.slice A xs.length cap] w fun e w' => e = .returned (.string (mkS (fbarV xs))) ∧ Below w.heap.size w w' := by
  have HBO := Lib.hid (impl_BarOk_any A cap xs w hA)
  cases hbb : barB xs
  · have HV := Lib.hid (show fbarV xs = [] by unfold fbarV; rw [hbb]; rfl)
    rw [hbb] at HBO
    clear hA hP hM hbb
    go_enter Tryz.func31, Tryz.ntmps31
    go_wp2_with fail
    refine HBO.out.mono ?_
    rintro e w1 ⟨rfl, hb1⟩
    go_wp2_with fail
    go_ret
    exact ⟨ret_str (by rw [HV.out]; rfl), hb1⟩
  · obtain ⟨hb1, hb2, hb3, hb4⟩ := barB_all hbb
    have hf : ∀ x ∈ xs, Fits x := fun x hx => by have := hb3 x hx; unfold Fits; omega
    have HNT := Lib.hid (fun V h hb => impl_numbersText_any A cap xs V h (by omega) (hP.below hb))
    have HM := Lib.hid hM
    have HA := Lib.hid hA
    have HV := Lib.hid (show fbarV xs = (joinT (xs.map itoL) [44]).map plusC by unfold fbarV; rw [hbb]; exact (plus_join xs).symm)
    have hjl := joinT_len [44] 20 (xs.map itoL) (nums_mem hf)
    rw [List.length_map] at hjl
    have HJL := Lib.hid (show (joinT (xs.map itoL) [44]).length ≤ 12 * 21 by
      have : xs.length * (20 + 1) ≤ 12 * 21 := Nat.mul_le_mul hb2 (Nat.le_refl _)
      exact Nat.le_trans hjl this)
    rw [hbb] at HBO
    generalize fbarV xs = v at HV ⊢
    generalize joinT (xs.map itoL) [44] = T at *
    clear hA hP hM hjl hf hb3 hb4 hbb
    have HR := Lib.hid (fun (V : World) (hb : Below w.heap.size w V) => by
      obtain ⟨m, hm⟩ := HM.out.below hb
      have hsz : (mkS T).size ≤ 504 := by rw [mkS_size]; exact Nat.le_trans HJL.out (by decide)
      have hcnt := Lib.countB_le (⟨#[44]⟩ : ByteArray) (by decide) (mkS T).size (mkS T) (Nat.le_refl _)
      have := Any.strings_ReplaceAll Tryz.lays155 Tryz.bx155 (mkS T) ⟨#[44]⟩ ⟨#[43]⟩ m V (by omega) hm (by decide) (by have h1 : (⟨#[43]⟩ : ByteArray).size = 1 := rfl; rw [h1]; omega)
      rw [show (⟨#[44]⟩ : ByteArray).data.toList = [44] from rfl, show (⟨#[43]⟩ : ByteArray).data.toList = [43] from rfl, replAll1, show (mkS T).data.toList = T from str_mk _] at this
      exact this)
    go_enter Tryz.func31, Tryz.ntmps31
    go_wp2_with fail
    refine HBO.out.mono ?_
    rintro e w1 ⟨rfl, hw1⟩
    have HB1 := Lib.hid hw1
    clear hw1
    go_wp2_with fail
    refine (HNT.out _ (HA.out.lift HB1.out) HB1.out).mono ?_
    rintro e w2 ⟨rfl, hw2⟩
    have HB2 := Lib.hid (HB1.out.trans (hw2.mono HB1.out.size))
    clear hw2
    go_wp2_with fail
    refine (HR.out _ HB2.out).mono ?_
    rintro e w3 ⟨rfl, hw3⟩
    have HB3 := Lib.hid (HB2.out.trans (hw3.mono HB2.out.size))
    clear hw3
    go_wp2_with fail
    go_ret
    exact ⟨ret_str (by rw [HV.out]; rfl), HB3.out⟩

end Go.Proofs.YthookknmeajojaaGreatDoor

