/-
  ParseNumbers of the reference.
-/
import Derived.Test.YthfjfhgeiggljaaDoorSplA
import Derived.Test.YthfjfhgeiggljaaDoorPIntS
import Derived.ArgAppend
namespace Go.Proofs.YthfjfhgeiggljaaDoor
open Go.RowKit
set_option linter.unusedVariables false
set_option linter.unusedSimpArgs false

/-- The numbers that the pieces spell, at most sixty-four of them. -/
def numF : List ByteArray → List Int → Option (List Int)
  | [], acc => some acc
  | u :: r, acc => match pintV u with
    | none => none
    | some v => if acc.length = 64 then none else numF r (acc ++ [v])
theorem numF_bad {u : ByteArray} (r : List ByteArray) (acc : List Int) (h : pintV u = none) : numF (u :: r) acc = none := by rw [numF, h]
theorem numF_full {u : ByteArray} (r : List ByteArray) {acc : List Int} {v : Int} (h : pintV u = some v) (hl : acc.length = 64) : numF (u :: r) acc = none := by rw [numF, h]; exact if_pos hl
theorem numF_on {u : ByteArray} (r : List ByteArray) {acc : List Int} {v : Int} (h : pintV u = some v) (hl : ¬ acc.length = 64) : numF (u :: r) acc = numF r (acc ++ [v]) := by rw [numF, h]; exact if_neg hl
def numsV (s : ByteArray) : Option (List Int) := if s.data.toList = [45] then some [] else numF (splT s) []
theorem numsV_dash {s : ByteArray} (h : s.data.toList = [45]) : numsV s = some [] := if_pos h
theorem numsV_on {s : ByteArray} (h : ¬ s.data.toList = [45]) : numsV s = numF (splT s) [] := if_neg h
theorem splT_size (s u : ByteArray) (h : u ∈ splT s) : u.size ≤ s.size := by
  have key : ∀ (l cur x : List UInt8), x ∈ splF cur l → x.length ≤ cur.length + l.length := by
    intro l
    induction l with
    | nil => intro cur x hx; rw [splF, List.mem_singleton] at hx; subst hx; simp
    | cons c r ih =>
      intro cur x hx
      by_cases hc : c = 44
      · subst hc
        rw [splF_comma] at hx
        rcases List.mem_cons.1 hx with rfl | hx
        · simp
        · have := ih [] x hx; simp at this ⊢; omega
      · rw [splF_other _ _ hc] at hx
        have := ih (cur ++ [c]) x hx
        simp at this ⊢; omega
  unfold splT at h
  obtain ⟨x, hx, rfl⟩ := List.mem_map.1 h
  have := key _ _ _ hx
  rw [mkS_size]
  simpa using this
theorem OwnTx.read {w : World} {base cap : Nat} {A : Option Addr} {us : List ByteArray} (h : OwnTx w base (.slice A us.length cap) us) (h0 : 0 < us.length) : ∃ g, A = some ⟨g, 0, none⟩ ∧ base ≤ g ∧ g < w.heap.size ∧ ∀ i, i < us.length → w.cell? ⟨g, i, none⟩ = some (.string (us.getD i ⟨#[]⟩)) := by
  rcases h.2 with ⟨hv, h1⟩ | ⟨g, cap', cur, hv, hg, hh, hnc, hm, hsz, hxs⟩
  · omega
  · have hA : A = some ⟨g, 0, none⟩ := by injection hv
    subst hA
    refine ⟨g, rfl, hg, (h.lt g rfl).2, fun i hi => ?_⟩
    have := World.ownsRow.cells h (g := g) rfl i (.string (us.getD i ⟨#[]⟩)) (by rw [List.getElem?_map, List.getElem?_eq_getElem hi]; simp [List.getD_eq_getElem?_getD, hi])
    rwa [Go.WideShapes.add_plain, Nat.zero_add] at this

/-- 'append(s, y)' onto an empty slice without room. -/
theorem wpList_append_int0 {w : World} {ops : Array Oper} {rest : List Oper} {o : Oper} {a : Act} {Q : Exit → Act → World → Prop} (hgd : o.guard = none) (s x : Operand)
    (ho : o.op = .call { callee := .builtin .append, args := #[s, x], argTypes := #[32, 32] })
    (ao : Option Addr) (hs : a.eval s = .slice ao 0 0) (g : Nat) (y : Int) (hx : a.eval x = .slice (some ⟨g, 0, none⟩) 1 1) (hcell : w.cell? ⟨g, 0, none⟩ = some (.int .i64 y))
    (h : ∀ v' w', OwnI w' w.heap.size v' [y] → Below w.heap.size w w' → wpList Tryd.prog ops Q rest (a.put o.dst v') w') : wpList Tryd.prog ops Q (o :: rest) a w := by
  obtain ⟨i, hi, hz, hsz, hby⟩ := info_parts Tryd.infoInt
  refine wpList_append_grows w hgd s x _ ho 3 i _ 1 8 Tryd.underlying32 hi hz hsz hby rfl (by omega) ao 0 0 [] hs (fun _ => ⟨rfl, rfl⟩) (by simp) (by intro b _ j u hj; simp at hj) ⟨g, 0, none⟩ 1 1 [.int .i64 y] hx (by simp) ?_ ?_ (by omega) (by unfold maxLen; omega) (by omega) ?_
  · intro j t hj
    match j, hj with
    | 0, hj => simp at hj; subst hj; exact hcell
  · intro t ht
    simp at ht
    subst ht
    rfl
  · intro v' w' hown hgrow
    exact h v' w' (by unfold OwnI; simpa using hown) ((Below.refl _ _).grown hgrow (Nat.le_refl _) (fun k hk => by cases hk))

theorem ownI_base {w : World} {base base' : Nat} {v : Value} {xs : List Int} (h : OwnI w base v xs) (hb : base' ≤ base) : OwnI w base' v xs :=
  ⟨h.1, by
    rcases h.2 with h0 | ⟨g, cap, cur, e, hg, rest⟩
    · exact .inl h0
    · exact .inr ⟨g, cap, cur, e, by omega, rest⟩⟩
/-- Numbers and whether it went well. -/
def RetNums (w : World) (o : Option (List Int)) (e : Ending) (w' : World) : Prop :=
  ∃ A cap, e = .returned (.tuple #[.slice A (o.getD []).length cap, .bool o.isSome]) ∧ Ints w' w'.heap.size A (o.getD []) ∧ Below w.heap.size w w'

set_option maxRecDepth 100000 in
set_option maxHeartbeats 2000000 in
theorem spec_ParseNumbers_any (s : ByteArray) (w : World) (hs : s.size ≤ 1048576) :
    Calls Tryd.prog 21 #[.string s] w (RetNums w (numsV s)) := by
  by_cases hd : s.data.toList = [45]
  · have HV := Lib.hid (numsV_dash hd)
    have hse : s = ⟨#[45]⟩ := (show Str s [45] from hd).eq
    subst hse
    clear hd
    go_enter Tryd.func21, Tryd.ntmps21
    go_wp2_with fail
    go_ret2
    rw [HV.out]
    exact ⟨_, _, rfl, ⟨by simp, by simp, by simp⟩, (Below.refl _ _).alloc (Nat.le_refl _) _⟩
  · have HV := Lib.hid (numsV_on hd)
    have heq : (s.toList == [45]) = false := by rw [beq_eq_false_iff_ne]; intro h; exact hd (by rw [← Lib.toList_data]; exact h)
    clear hd
    generalize numsV s = nv at HV ⊢
    go_enter Tryd.func21, Tryd.ntmps21
    go_wp2_with (go_at_call 46; refine (spec_SplitAny_any s _ hs).mono ?_; rintro e w1 ⟨A1, c1, rfl, hown1, hb1⟩)
    have hb1' : Below w.heap.size w w1 := ((Below.refl _ _).alloc (Nat.le_refl _) _).trans (hb1.mono (by simp))
    have HT := Lib.hid hown1
    have HB1 := Lib.hid hb1'
    have HSZ := Lib.hid (fun u => splT_size s u)
    have hul : (splT s).length ≤ 1048577 := by
      unfold splT
      rw [List.length_map]
      have h1 := splF_len s.data.toList []
      have h2 : s.data.toList.length = s.size := by simp
      omega
    generalize splT s = us at *
    clear hown1 hb1 hb1' heq
    go_loopw [4, 16] (fun v ki wr => ∃ (k : Nat) (acc : List Int), k ≤ us.length ∧ ki = .int .i64 k ∧ acc.length ≤ 64 ∧ (∀ x ∈ acc, Fits x) ∧ ((acc = [] ∧ v = .slice (some ⟨w.heap.size, 0, none⟩) 0 0) ∨ (0 < acc.length ∧ OwnI wr w1.heap.size v acc)) ∧ Below w1.heap.size w1 wr ∧ numF us [] = numF (us.drop k) acc) (fun _ ki _ => us.length - (intOf ki).toNat)
    case atStart => exact ⟨0, [], Nat.zero_le _, rfl, by simp, by simp, .inl ⟨rfl, rfl⟩, Below.refl _ _, rfl⟩
    case round =>
      obtain ⟨k, acc, hk, rfl, hal, hfa, hv, hb2, hnum⟩ := hrel
      obtain ⟨wo, rfl⟩ : ∃ wo : World, wo = wr := ⟨_, rfl⟩
      have HB2 := Lib.hid hb2
      have HFA := Lib.hid hfa
      have HNU := Lib.hid hnum
      have HV2 := Lib.hid hv
      clear hb2 hfa hnum hv
      by_cases hlt : k < us.length
      · obtain ⟨g, rfl, hg1, hg2, hgc⟩ := HT.out.read (by omega)
        have hcell : wo.cell? ⟨g, k, none⟩ = some (.string (us.getD k ⟨#[]⟩)) := (HB2.out.cell (p := ⟨g, k, none⟩) hg2).trans (hgc k hlt)
        have HUS := Lib.hid (HSZ.out (us.getD k ⟨#[]⟩) (by rw [List.getD_eq_getElem?_getD, List.getElem?_eq_getElem hlt]; exact List.getElem_mem hlt))
        have HDR := Lib.hid (show us.drop k = us.getD k ⟨#[]⟩ :: us.drop (k + 1) by rw [List.getD_eq_getElem?_getD, List.getElem?_eq_getElem hlt]; exact List.drop_eq_getElem_cons hlt)
        generalize us.getD k ⟨#[]⟩ = u at *
        clear hgc
        have HPI := Lib.hid (fun W => spec_ParseInt_any u (Nat.le_trans HUS.out hs) W)
        have HBA := Lib.hid (HB1.out.trans (HB2.out.mono HB1.out.size))
        have hki : (k : Int) < (us.length : Int) := by omega
        cases hpu : pintV u with
        | none =>
          rw [hpu] at HPI
          have HNN := Lib.hid (show nv = none by rw [HV.out, HNU.out, HDR.out]; exact numF_bad _ _ hpu)
          clear hpu
          go_wp2_with (go_at_call 47; refine (HPI.out _).mono ?_; rintro e w3 ⟨rfl, hb3⟩)
          go_ret2
          rw [HNN.out]
          exact ⟨_, _, rfl, ⟨by simp, by simp, by simp⟩, HBA.out.trans (hb3.mono HBA.out.size)⟩
        | some x =>
          rw [hpu] at HPI
          have hxf : Fits x := ((pint_iff u x).1 hpu).1
          rcases HV2.out with ⟨rfl, rfl⟩ | ⟨h0, hown⟩
          · have HNN := Lib.hid (show numF us [] = numF (us.drop (k + 1)) [x] by rw [HNU.out, HDR.out]; exact numF_on _ hpu (by simp))
            have HXF := Lib.hid hxf
            clear hpu hxf
            go_wp2_with (first
              | (go_at_call 47; refine (HPI.out _).mono ?_; rintro e w3 ⟨rfl, hb3⟩)
              | (at_builtin; refine wpList_append_int0 rfl _ _ rfl _ rfl _ x rfl (cell_new1 _ _ _) ?_; intro v' w4 hown4 hb4; obtain ⟨A6, c6, rfl⟩ := hown4.form))
            go_roundw
            case rel =>
              refine ⟨k + 1, [x], by omega, by go_num, by simp, fun y hy => ?_, .inr ⟨by simp, ?_⟩, ?_, by rw [HNN.out]⟩
              · simp at hy; subst hy; exact HXF.out
              · exact ownI_base (by simpa using hown4) (by have := HB2.out.size; have := hb3.size; first | omega | (simp only [World.size_alloc]; omega))
              · exact HB2.out.trans (((hb3.mono HB2.out.size).alloc (Nat.le_trans HB2.out.size hb3.size) _).trans (hb4.mono (by have := HB2.out.size; have := hb3.size; first | omega | (simp only [World.size_alloc]; omega))))
            case measure => simp [intOf]; omega
          · obtain ⟨A3, c3, rfl⟩ := hown.form
            by_cases h64 : acc.length = 64
            · have heq : ((acc.length : Int) == 64) = true := by rw [h64]; rfl
              have HNN := Lib.hid (show nv = none by rw [HV.out, HNU.out, HDR.out]; exact numF_full _ hpu h64)
              clear hpu h64 hown h0
              go_wp2_with (go_at_call 47; refine (HPI.out _).mono ?_; rintro e w3 ⟨rfl, hb3⟩)
              go_ret2
              rw [HNN.out]
              exact ⟨_, _, rfl, ⟨by simp, by simp, by simp⟩, HBA.out.trans (hb3.mono HBA.out.size)⟩
            · have heq : ((acc.length : Int) == 64) = false := by rw [beq_eq_false_iff_ne]; omega
              have HNN := Lib.hid (show numF us [] = numF (us.drop (k + 1)) (acc ++ [x]) by rw [HNU.out, HDR.out]; exact numF_on _ hpu h64)
              have HXF := Lib.hid hxf
              have HO := Lib.hid hown
              have H64 := Lib.hid h64
              clear hpu hxf hown h64 h0
              go_wp2_with (first
                | (go_at_call 47; refine (HPI.out _).mono ?_; rintro e w3 ⟨rfl, hb3⟩)
                | (at_builtin; refine wpList_append_int rfl _ _ rfl w1.heap.size _ acc rfl ((HO.out.grown hb3).alloc _) _ x rfl (cell_new1 _ _ _) (by omega) (by have := HB2.out.size; have := hb3.size; first | omega | (simp only [World.size_alloc]; omega)) ?_; intro v' w4 hown4 hb4; obtain ⟨A6, c6, rfl⟩ := hown4.form))
              go_roundw
              case rel =>
                refine ⟨k + 1, acc ++ [x], by omega, by go_num, by have := H64.out; simp; omega, fun y hy => ?_, .inr ⟨by simp, by simpa using hown4⟩, ?_, by rw [HNN.out]⟩
                · rcases List.mem_append.1 hy with h | h
                  · exact HFA.out y h
                  · simp at h; subst h; exact HXF.out
                · exact HB2.out.trans (((hb3.mono HB2.out.size).alloc (Nat.le_trans HB2.out.size hb3.size) _).trans hb4)
              case measure => simp [intOf]; omega
      · have hke : k = us.length := by omega
        subst hke
        have HNN := Lib.hid (show nv = some acc by rw [HV.out, HNU.out, List.drop_length]; rfl)
        rcases HV2.out with ⟨rfl, rfl⟩ | ⟨h0, hown⟩
        · go_wp2_with fail
          go_ret2
          rw [HNN.out]
          exact ⟨_, _, rfl, ⟨by simp, by simp, by simp⟩, HB1.out.trans (HB2.out.mono HB1.out.size)⟩
        · obtain ⟨A3, c3, rfl⟩ := hown.form
          have HO := Lib.hid hown
          clear hown h0
          go_wp2_with fail
          go_ret2
          rw [HNN.out]
          exact ⟨_, _, rfl, HO.out.ints HFA.out, HB1.out.trans (HB2.out.mono HB1.out.size)⟩

end Go.Proofs.YthfjfhgeiggljaaDoor
