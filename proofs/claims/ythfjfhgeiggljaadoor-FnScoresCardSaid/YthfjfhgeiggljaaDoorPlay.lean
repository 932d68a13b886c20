/-
  The reference's player of scores.
-/
import Derived.Test.YthfjfhgeiggljaaDoorScoT
import Derived.Test.YthfjfhgeiggljaaDoorCells
import Derived.Test.YthfjfhgeiggljaaDoorStr
import Derived.Test.YthfjfhgeiggljaaDoorRead
import Derived.Deep.AppendLies
namespace Go.Proofs.YthfjfhgeiggljaaDoor
open Go.RowKit
set_option linter.unusedVariables false
set_option linter.unusedSimpArgs false

/-- The reference's closing bracket: the walk on a text cut at b. -/
theorem chr_cut (s : ByteArray) (b i : Nat) (hb : b ≤ s.size) (hi : i < b) : chr (s.extract 0 b) i = chr s i := by
  have hsz : (s.extract 0 b).size = b := by simp; omega
  rw [chr_at (show i < (s.extract 0 b).size by omega), chr_at (show i < s.size by omega)]
  congr 2
  have h1 : (s.extract 0 b)[i]'(by omega) = s[0 + i]'(by omega) := ByteArray.getElem_extract (by omega)
  rw [h1]
  congr 1
  omega

set_option maxHeartbeats 400000 in
theorem spec_l26Close_any (t : ByteArray) (i : Nat) (w : World) (ht : t.size ≤ 60) (hi : i ≤ t.size) :
    Calls Tryd.prog 77 #[.string t, .int .i64 i] w fun e w' => e = .returned (.int .i64 (cloS (chr t) t.size (t.size - i) i 0)) ∧ w = w' := by
  obtain ⟨R, hR⟩ : ∃ R, cloS (chr t) t.size (t.size - i) i 0 = R := ⟨_, rfl⟩
  rw [hR]
  have HR := Lib.hid hR
  clear hR
  go_enter Tryd.func77, Tryd.ntmps77
  go_wp2
  go_loop [1, 5, 15, 19] (fun si sd _ _ => ∃ (f j : Nat) (d : Int), j ≤ t.size ∧ t.size - j ≤ f ∧ si = .int .i64 j ∧ sd = .int .i64 d ∧ -100 ≤ d + j ∧ d - j ≤ 100 ∧ cloS (chr t) t.size f j d = R) (fun si _ _ _ => t.size - (intOf si).toNat)
  case atStart => exact ⟨t.size - i, i, 0, hi, Nat.le_refl _, rfl, rfl, by omega, by omega, HR.out⟩
  case round =>
    obtain ⟨f, j, d, hj, hf, rfl, rfl, hd0, hd1, hclo⟩ := hrel
    have HC := Lib.hid hclo
    clear hclo
    by_cases hlt : j < t.size
    · obtain ⟨f', rfl⟩ : ∃ f', f = f' + 1 := ⟨f - 1, by omega⟩
      obtain ⟨x, hx⟩ : ∃ x, chr t j = x := ⟨_, rfl⟩
      have hxc : ((t[j]'hlt).toNat : Int) = x := by rw [← hx, chr_at hlt]
      have HX := Lib.hid hx
      clear hx
      by_cases h91 : x = 91
      · have hn := HC.out
        rw [clo_open hlt (HX.out.trans h91)] at hn
        have HN := Lib.hid hn
        clear hn
        subst h91
        go_wp2
        go_round
        case rel => exact ⟨f', j + 1, d + 1, by omega, by omega, by go_num, rfl, by omega, by omega, HN.out⟩
        case measure => simp [intOf]; omega
      · by_cases h93 : x = 93
        · by_cases hd : d = 1
          · subst hd
            have hn := HC.out
            rw [clo_here hlt (HX.out.trans h93)] at hn
            have HN := Lib.hid hn
            clear hn
            subst h93
            go_wp2
            go_ret
            exact ⟨ret_int HN.out, rfl⟩
          · have hn := HC.out
            rw [clo_shut hlt (HX.out.trans h93) hd] at hn
            have HN := Lib.hid hn
            have hd' : (d - 1 == 0) = false := by rw [beq_eq_false_iff_ne]; omega
            clear hn
            subst h93
            go_wp2
            go_round
            case rel => exact ⟨f', j + 1, d - 1, by omega, by omega, by go_num, rfl, by omega, by omega, HN.out⟩
            case measure => simp [intOf]; omega
        · have hn := HC.out
          rw [clo_other hlt (by rw [HX.out]; exact h91) (by rw [HX.out]; exact h93)] at hn
          have HN := Lib.hid hn
          have h1 : (x == 91) = false := beq_eq_false_iff_ne.2 h91
          have h2 : (x == 93) = false := beq_eq_false_iff_ne.2 h93
          clear hn
          go_wp2
          go_round
          case rel => exact ⟨f', j + 1, d, by omega, by omega, by go_num, rfl, by omega, by omega, HN.out⟩
          case measure => simp [intOf]; omega
    · have hn := HC.out
      have hm1 : cloS (chr t) t.size f j d = -1 := by
        cases f with
        | zero => rfl
        | succ f => unfold cloS; rw [if_pos (by omega)]
      rw [hm1] at hn
      have HN := Lib.hid hn
      clear hn hm1
      go_wp2
      go_ret
      exact ⟨ret_int HN.out, rfl⟩

theorem clo_cut (s : ByteArray) (b : Nat) (hb : b ≤ s.size) : ∀ (f i : Nat) (k : Int), cloS (chr (s.extract 0 b)) b f i k = cloS (chr s) b f i k
  | 0, i, k => rfl
  | f + 1, i, k => by
    unfold cloS
    by_cases h : b ≤ i
    · rw [if_pos h, if_pos h]
    · rw [if_neg h, if_neg h, chr_cut s b i hb (by omega), clo_cut s b hb f (i + 1) (k + 1), clo_cut s b hb f (i + 1) (k - 1), clo_cut s b hb f (i + 1) k]

theorem spec_l26Close_cut (s : ByteArray) (b i : Nat) (w : World) (hs : s.size ≤ 60) (hb : b ≤ s.size) (hi : i ≤ b) :
    Calls Tryd.prog 77 #[.string (s.extract 0 b), .int .i64 i] w fun e w' => e = .returned (.int .i64 (cloS (chr s) b (b - i) i 0)) ∧ w = w' := by
  have hsz : (s.extract 0 b).size = b := by simp; omega
  have := spec_l26Close_any (s.extract 0 b) i w (by omega) (by omega)
  rwa [hsz, clo_cut s b hb] at this

def RetS (w : World) (r : Option (List Int)) (e : Ending) (w' : World) : Prop :=
  ∃ (A : Option Addr) (cap : Nat) (p : List Int) (ok : Bool), e = .returned (.tuple #[.slice A p.length cap, .bool ok]) ∧ Ints w' w'.heap.size A p ∧ Below w.heap.size w w' ∧ (ok = true → r = some p) ∧ (ok = false → r = none ∧ p = [] ∧ A = none ∧ cap = 0) ∧ (∀ k, (Value.slice A p.length cap).ownBlock = some k → w.heap.size ≤ k)

/-- 'append(s, ys...)': where the result lies. -/
theorem wpList_append_far {w : World} {ops : Array Oper} {rest : List Oper} {o : Oper} {a : Act} {Q : Exit → Act → World → Prop} (hgd : o.guard = none) (s x : Operand)
    (ho : o.op = .call { callee := .builtin .append, args := #[s, x], argTypes := #[32, 32] })
    (base : Nat) (v : Value) (xs : List Int) (hs : a.eval s = v) (hown : OwnI w base v xs) (b off c : Nat) (ys : List Int) (hx : a.eval x = .slice (some ⟨b, off, none⟩) ys.length c) (h0 : 0 < ys.length)
    (hc : ∀ i, i < ys.length → w.cell? ⟨b, off + i, none⟩ = some (.int .i64 (ys.getD i 0))) (hlen : xs.length + ys.length ≤ 1000000000) (hbase : base ≤ w.heap.size)
    (h : ∀ g cap w', OwnI w' base (.slice (some ⟨g, 0, none⟩) (xs ++ ys).length cap) (xs ++ ys) → Below base w w' → w.grownBy w' v.ownBlock → (v.ownBlock = some g ∨ g = w.heap.size) →
      wpList Tryd.prog ops Q rest (a.put o.dst (.slice (some ⟨g, 0, none⟩) (xs ++ ys).length cap)) w') : wpList Tryd.prog ops Q (o :: rest) a w := by
  obtain ⟨i, hi, hz, hsz, hby⟩ := info_parts Tryd.infoInt
  refine wpList_append_lies (w := w) hgd s x _ ho base 3 i _ 1 8 Tryd.underlying32 hi hz hsz hby rfl (by omega) v xs.length _ hs hown ⟨b, off, none⟩ ys.length c (ys.map (Value.int .i64)) hx (by simp) (news_ints hc).1 (news_ints hc).2 h0 (by unfold maxLen; omega) (by omega) hbase w.heap.size rfl ?_
  intro g cap w' hown' hgrow hg _
  have hl : (xs ++ ys).length = xs.length + ys.length := List.length_append
  have := h g cap w' (by unfold OwnI; rw [hl, List.map_append]; exact hown') ((Below.refl base w).grown hgrow hbase (fun k hk => (hown.lt k hk).1)) hgrow hg
  rwa [hl] at this

theorem rep_snoc (g : List Int) (t : Nat) : rep g (t + 1) = rep g t ++ g := rfl

set_option maxRecDepth 100000 in
set_option maxHeartbeats 2000000 in
theorem spec_l26Play_of (s : ByteArray) (hs : s.size ≤ 60) (dd : Int) (innerS : Option (Nat → Nat → Option (List Int)))
    (hin : (dd = 3 ∧ innerS = none) ∨ (0 ≤ dd ∧ dd < 3 ∧ ∃ g, innerS = some g ∧ (∀ a b p, a < b → b ≤ s.size → chr s b = 93 → g a b = some p → p ≠ [] ∧ p.length ≤ 500) ∧
      ∀ (a b : Nat) (V : World), a ≤ b → b ≤ s.size → Calls Tryd.prog 55 #[.string s, .int .i64 a, .int .i64 b, .int .i64 (dd + 1)] V (RetS V (g a b))))
    (a b : Nat) (hab : a ≤ b) (hb : b ≤ s.size) (w : World) :
    Calls Tryd.prog 55 #[.string s, .int .i64 a, .int .i64 b, .int .i64 dd] w (RetS w (loopS (chr s) innerS b (b - a) a [])) := by
  have hdd : 0 ≤ dd ∧ dd ≤ 3 := by rcases hin with h | h <;> omega
  obtain ⟨hdd0, hdd3⟩ := hdd
  have HIN := Lib.hid hin
  obtain ⟨R, hR⟩ : ∃ R, loopS (chr s) innerS b (b - a) a [] = R := ⟨_, rfl⟩
  rw [hR]
  have HR := Lib.hid hR
  clear hin hR
  go_enter Tryd.func55, Tryd.ntmps55
  go_wp2_with fail
  go_loopw [10, 11, 12, 13, 14, 15, 16, 27, 38] (fun so si _ _ _ _ _ _ _ wr => ∃ (f i : Nat) (acc : List Int), si = .int .i64 i ∧ i ≤ b ∧ b - i ≤ f ∧ loopS (chr s) innerS b f i acc = R ∧ acc.length ≤ 500 ∧ (∀ x ∈ acc, Fits x) ∧ OwnI wr w.heap.size so acc ∧ Below w.heap.size w wr) (fun _ si _ _ _ _ _ _ _ _ => b - (intOf si).toNat)
  case atStart =>
    refine ⟨b - a, a, [], rfl, hab, Nat.le_refl _, HR.out, by simp, (fun x hx => by cases hx), OwnI.empty w _ (Nat.le_refl _), (Below.refl _ _).alloc (Nat.le_refl _) _⟩
  case round =>
    obtain ⟨f, i, acc, rfl, hi, hf, hloop, hacc, hel, hown, hbel⟩ := hrel
    have HLO := Lib.hid hloop
    have HEL := Lib.hid hel
    clear hloop hel
    obtain ⟨A1, c1, rfl⟩ := hown.form
    have hws := hbel.size
    by_cases hlt : i < b
    · have hls : i < s.size := by omega
      obtain ⟨x, hx⟩ : ∃ x, chr s i = x := ⟨_, rfl⟩
      have hxb := chr_bound s i
      rw [hx] at hxb
      obtain ⟨hxb0, hxb1⟩ := hxb
      have hxc : ((s[i]'hls).toNat : Int) = x := by rw [← hx, chr_at hls]
      have HX := Lib.hid hx
      clear hx
      obtain ⟨f', rfl⟩ : ∃ f', f = f' + 1 := ⟨f - 1, by omega⟩
      by_cases hl : 97 ≤ x ∧ x ≤ 122
      · obtain ⟨hl1, hl2⟩ := hl
        have hlet : isLet x = true := isLet_iff.2 ⟨hl1, hl2⟩
        have hlen : (acc ++ [(i : Int)]).length = acc.length + 1 := by simp
        have HLN := Lib.hid hlen
        clear hlen
        by_cases h5 : 500 < acc.length + 1
        · have HRES := Lib.hid (show R = none by rw [← HLO.out]; unfold loopS; rw [HX.out, if_neg (by omega), if_pos hlet, if_pos h5])
          clear hlet
          go_wp2_with (at_builtin; refine wpList_append_int rfl _ _ rfl w.heap.size _ acc rfl (hown.alloc _) _ _ rfl (cell_new1 _ _ _) (by omega) (by first | exact Nat.le_refl _ | (simp; done) | (simp; omega) | omega) ?_; intro v' w1 hown1 hg1; obtain ⟨A2, c2, rfl⟩ := hown1.form; rw [HLN.out])
          go_ret2
          exact ⟨none, 0, [], false, rfl, ints_nil _ _ _, (hbel.alloc hws _).trans hg1, (fun h => by cases h), (fun _ => ⟨HRES.out, rfl, rfl, rfl⟩), fun k hk => by cases hk⟩
        · have HNX := Lib.hid (show loopS (chr s) innerS b f' (i + 1) (acc ++ [(i : Int)]) = R by
            rw [← HLO.out]; conv => rhs; unfold loopS
            rw [HX.out, if_neg (by omega), if_pos hlet, if_neg h5])
          clear hlet
          go_wp2_with (at_builtin; refine wpList_append_int rfl _ _ rfl w.heap.size _ acc rfl (hown.alloc _) _ _ rfl (cell_new1 _ _ _) (by omega) (by first | exact Nat.le_refl _ | (simp; done) | (simp; omega) | omega) ?_; intro v' w1 hown1 hg1; obtain ⟨A2, c2, rfl⟩ := hown1.form; rw [HLN.out] at hown1 ⊢)
          go_roundw
          case rel =>
            refine ⟨f', i + 1, acc ++ [(i : Int)], by go_num, by omega, by omega, HNX.out, by rw [HLN.out]; omega, ?_, hown1, (hbel.alloc hws _).trans hg1⟩
            intro y hy
            rcases List.mem_append.1 hy with hy | hy
            · exact HEL.out y hy
            · simp at hy; unfold Fits; omega
          case measure => simp [intOf]; omega
      · have hnl : isLet x = false := by unfold isLet; rw [decide_eq_false_iff_not]; exact hl
        by_cases h91 : x = 91
        · subst h91
          obtain ⟨E, hE⟩ : ∃ E, cloS (chr s) b (b - i) i 0 = E := ⟨_, rfl⟩
          have hcl : ∀ V : World, Calls Tryd.prog 77 #[.string (s.extract 0 b), .int .i64 i] V fun e w' => e = .returned (.int .i64 E) ∧ V = w' := fun V => by
            have := spec_l26Close_cut s b i V hs hb (by omega)
            rwa [hE] at this
          have HCL := Lib.hid hcl
          have HE := Lib.hid hE
          have hslo : (s.extract 0 b).size = b := by simp; omega
          clear hcl hE hl
          by_cases hE0 : E < 0
          · have HRES := Lib.hid (show R = none by rw [← HLO.out]; unfold loopS; rw [HX.out, if_neg (by omega), hnl, if_neg (by decide), if_pos rfl, HE.out]; rw [if_pos (.inl hE0)])
            clear hnl
            go_wp2_with (go_at_call 77; refine (HCL.out _).mono ?_; rintro e w' ⟨rfl, rfl⟩)
            go_ret2
            exact ⟨none, 0, [], false, rfl, ints_nil _ _ _, hbel, (fun h => by cases h), (fun _ => ⟨HRES.out, rfl, rfl, rfl⟩), fun k hk => by cases hk⟩
          obtain ⟨e1, he1, hie, heb, hce⟩ := clo_spec (chr s) b (b - i) i 0 (by rw [HE.out]; omega)
          rw [HE.out] at he1
          subst he1
          have hne : e1 ≠ i := fun hh => by rw [hh, HX.out] at hce; omega
          by_cases hE1 : e1 = i + 1
          · have HRES := Lib.hid (show R = none by rw [← HLO.out]; unfold loopS; rw [HX.out, if_neg (by omega), hnl, if_neg (by decide), if_pos rfl, HE.out]; rw [if_pos (.inr (.inl (by omega)))])
            have hE1' : ((e1 : Int) == (i : Int) + 1) = true := by rw [beq_iff_eq]; omega
            clear hnl hE1
            go_wp2_with (go_at_call 77; refine (HCL.out _).mono ?_; rintro e w' ⟨rfl, rfl⟩)
            go_ret2
            exact ⟨none, 0, [], false, rfl, ints_nil _ _ _, hbel, (fun h => by cases h), (fun _ => ⟨HRES.out, rfl, rfl, rfl⟩), fun k hk => by cases hk⟩
          have hE1' : ((e1 : Int) == (i : Int) + 1) = false := by rw [beq_eq_false_iff_ne]; omega
          by_cases hE2 : b ≤ e1 + 1
          · have HRES := Lib.hid (show R = none by rw [← HLO.out]; unfold loopS; rw [HX.out, if_neg (by omega), hnl, if_neg (by decide), if_pos rfl, HE.out]; rw [if_pos (.inr (.inr (by omega)))])
            clear hnl
            go_wp2_with (go_at_call 77; refine (HCL.out _).mono ?_; rintro e w' ⟨rfl, rfl⟩)
            go_ret2
            exact ⟨none, 0, [], false, rfl, ints_nil _ _ _, hbel, (fun h => by cases h), (fun _ => ⟨HRES.out, rfl, rfl, rfl⟩), fun k hk => by cases hk⟩
          have hcond : ¬ ((e1 : Int) < 0 ∨ (e1 : Int) = i + 1 ∨ (b : Int) ≤ e1 + 1) := by omega
          rcases HIN.out with ⟨h3, hn⟩ | ⟨hd0, hd3, g, hg, hgood, hcall⟩
          · have HRES := Lib.hid (show R = none by rw [← HLO.out]; unfold loopS; rw [HX.out, if_neg (by omega), hnl, if_neg (by decide), if_pos rfl, HE.out]; rw [if_neg hcond, hn])
            subst h3
            clear hnl hcond
            go_wp2_with (go_at_call 77; refine (HCL.out _).mono ?_; rintro e w' ⟨rfl, rfl⟩)
            go_ret2
            exact ⟨none, 0, [], false, rfl, ints_nil _ _ _, hbel, (fun h => by cases h), (fun _ => ⟨HRES.out, rfl, rfl, rfl⟩), fun k hk => by cases hk⟩
          have hd3' : (dd == 3) = false := by rw [beq_eq_false_iff_ne]; omega
          obtain ⟨y, hy⟩ : ∃ y, chr s (e1 + 1) = y := ⟨_, rfl⟩
          have hyb := chr_bound s (e1 + 1)
          rw [hy] at hyb
          obtain ⟨hyb0, hyb1⟩ := hyb
          have hylt : e1 + 1 < s.size := by omega
          have hyc : ((s[e1 + 1]'hylt).toNat : Int) = y := by rw [← hy, chr_at hylt]
          have HY := Lib.hid hy
          have HG := Lib.hid hg
          clear hy hg HIN
          have hgd := hgood (i + 1) e1
          have hgd2 : ∀ p, g (i + 1) e1 = some p → p ≠ [] ∧ p.length ≤ 500 := fun p hp => hgd p (by omega) (by omega) hce hp
          have HGD := Lib.hid hgd2
          have hca : ∀ V : World, Calls Tryd.prog 55 #[.string s, .int .i64 ((i : Int) + 1), .int .i64 e1, .int .i64 (dd + 1)] V (RetS V (g (i + 1) e1)) := fun V => by
            have := hcall (i + 1) e1 V (by omega) (by omega)
            rwa [Int.natCast_add] at this
          have HCA := Lib.hid hca
          clear hgood hgd hgd2 hcall hca hce
          by_cases hy0 : y < 50
          · have hnd : isDig y = false := by unfold isDig; rw [decide_eq_false_iff_not]; omega
            have HRES := Lib.hid (show R = none by rw [← HLO.out]; unfold loopS; rw [HX.out, if_neg (by omega), hnl, if_neg (by decide), if_pos rfl, HE.out]; rw [if_neg hcond, HG.out]; simp only [Int.toNat_natCast]; rw [if_pos (by rw [HY.out]; exact hnd)])
            clear hnl hcond hnd
            go_wp2_with (go_at_call 77; refine (HCL.out _).mono ?_; rintro e w' ⟨rfl, rfl⟩)
            go_ret2
            exact ⟨none, 0, [], false, rfl, ints_nil _ _ _, hbel, (fun h => by cases h), (fun _ => ⟨HRES.out, rfl, rfl, rfl⟩), fun k hk => by cases hk⟩
          by_cases hy1 : 57 < y
          · have hnd : isDig y = false := by unfold isDig; rw [decide_eq_false_iff_not]; omega
            have HRES := Lib.hid (show R = none by rw [← HLO.out]; unfold loopS; rw [HX.out, if_neg (by omega), hnl, if_neg (by decide), if_pos rfl, HE.out]; rw [if_neg hcond, HG.out]; simp only [Int.toNat_natCast]; rw [if_pos (by rw [HY.out]; exact hnd)])
            clear hnl hcond hnd
            go_wp2_with (go_at_call 77; refine (HCL.out _).mono ?_; rintro e w' ⟨rfl, rfl⟩)
            go_ret2
            exact ⟨none, 0, [], false, rfl, ints_nil _ _ _, hbel, (fun h => by cases h), (fun _ => ⟨HRES.out, rfl, rfl, rfl⟩), fun k hk => by cases hk⟩
          have hdg : isDig y = true := isDig_iff.2 ⟨by omega, by omega⟩
          obtain ⟨kk, hkk⟩ : ∃ kk : Nat, (y - 48).toNat = kk := ⟨_, rfl⟩
          have hkk2 : y - 48 = (kk : Int) := by omega
          have HUN := Lib.hid (show R = (match g (i + 1) e1 with
              | none => none
              | some gp => if 500 < (acc ++ rep gp kk).length then none else loopS (chr s) innerS b f' (e1 + 2) (acc ++ rep gp kk)) by
            rw [← HLO.out]; conv => lhs; unfold loopS
            rw [HX.out, if_neg (by omega), hnl, if_neg (by decide), if_pos rfl, HE.out]
            rw [if_neg hcond, HG.out]; simp only [Int.toNat_natCast]; rw [if_neg (by rw [HY.out, hdg]; decide), HY.out, hkk]
            rfl)
          have hwe : IntKind.i64.wrap ((e1 : Int) + 1) = (e1 : Int) + 1 := i64w (by omega)
          have hze : ((e1 : Int) + 1).toNat = e1 + 1 := by omega
          have hw8 : IntKind.u8.wrap (y - 48) = y - 48 := by rw [IntKind.wrap_u8]; omega
          have hw64 : IntKind.i64.wrap (y - 48) = y - 48 := i64w (by omega)
          have hk2 : kk ≤ 9 := by omega
          clear hnl hcond hdg hkk
          go_wp2_with (first | (go_at_call 77; refine (HCL.out _).mono ?_; rintro e w' ⟨rfl, rfl⟩))
          refine (HCA.out _).mono ?_
          rintro e w1 ⟨A2, c2, gp, ok, rfl, hI2, hb2, hok, hno, hfresh⟩
          have HOK := Lib.hid hok
          have HNO := Lib.hid hno
          clear hok hno
          cases ok
          · have HRES := Lib.hid (show R = none by rw [HUN.out, (HNO.out rfl).1])
            go_wp2_with fail
            go_ret2
            exact ⟨none, 0, [], false, rfl, ints_nil _ _ _, hbel.trans (hb2.mono hws), (fun h => by cases h), (fun _ => ⟨HRES.out, rfl, rfl, rfl⟩), fun k hk => by cases hk⟩
          · have hgr := HOK.out rfl
            obtain ⟨hgne, hgl⟩ := HGD.out gp hgr
            have hg0 : 0 < gp.length := List.length_pos_iff.2 hgne
            have HU2 := HUN.out
            rw [hgr] at HU2
            have HU3 := Lib.hid HU2
            have HOW := Lib.hid (hown.grown hb2)
            have HBE := Lib.hid (hbel.trans (hb2.mono hws))
            have HI2 := Lib.hid hI2
            have hws2 := hb2.size
            obtain ⟨b2, off2, rfl, hB2, hc2⟩ := HI2.out.2.2 hg0
            have hfr : wr.heap.size ≤ b2 := hfresh b2 rfl
            have hav : ∀ k, (Value.slice A1 acc.length c1).ownBlock = some k → k ≠ b2 := fun k hk h => by have := (hown.lt k hk).2; omega
            have HC2 := Lib.hid hc2
            have HAV := Lib.hid hav
            clear HU2 hgr hown hbel hb2 hI2 hfresh hc2 hav
            go_wp2_with fail
            go_loopw [10, 16] (fun so sk wr2 => ∃ (t m : Nat), t + m = kk ∧ sk = .int .i64 m ∧ OwnI wr2 w.heap.size so (acc ++ rep gp t) ∧ (∀ k, so.ownBlock = some k → k ≠ b2) ∧ Below w.heap.size w wr2 ∧ (∀ j, j < gp.length → wr2.cell? ⟨b2, off2 + j, none⟩ = some (.int .i64 (gp.getD j 0))) ∧ b2 < wr2.heap.size) (fun _ sk _ => (intOf sk).toNat)
            case atStart => exact ⟨0, kk, by omega, by first | rfl | (rw [hkk2]) | go_num, by rw [show rep gp 0 = [] from rfl, List.append_nil]; exact HOW.out, HAV.out, HBE.out, HC2.out, hB2⟩
            case round =>
              obtain ⟨t, m, htm, rfl, hown, hav, hbel, hcs, hbs⟩ := hrel
              have hrl := rep_len gp t
              have hrm : t * gp.length ≤ 9 * 500 := Nat.mul_le_mul (by omega) hgl
              have hlt2 : (acc ++ rep gp t).length = acc.length + t * gp.length := by rw [List.length_append, rep_len]
              have hws3 := hbel.size
              have HCS := Lib.hid hcs
              have HAV2 := Lib.hid hav
              clear hcs hav
              by_cases hm0 : 0 < m
              · obtain ⟨m', rfl⟩ : ∃ m', m = m' + 1 := ⟨m - 1, by omega⟩
                have hw3 : IntKind.i64.wrap (((m' + 1 : Nat) : Int) - 1) = (m' : Int) := by rw [i64w (by omega)]; omega
                go_wp2_with (at_builtin; refine wpList_append_far rfl _ _ rfl w.heap.size _ (acc ++ rep gp t) rfl hown b2 off2 _ gp rfl hg0 HCS.out (by rw [hlt2]; omega) hws3 ?_; intro g4 c4 w4 hown4 hb4 hgr4 hlie4)
                go_roundw
                case rel =>
                  have e : acc ++ rep gp t ++ gp = acc ++ rep gp (t + 1) := by rw [rep_snoc, List.append_assoc]
                  rw [e] at hown4
                  refine ⟨t + 1, m', by omega, by first | rfl | go_num | (rw [hw3]), ?_, ?_, hbel.trans (hb4.mono (by omega)), ?_, ?_⟩
                  · have hl4 : (acc ++ rep gp (t + 1)).length = acc.length + (t * gp.length + gp.length) := by rw [List.length_append, rep_len, Nat.add_mul, Nat.one_mul]
                    rw [hl4] at hown4
                    exact hown4
                  · intro k hk
                    have hk2 : g4 = k := by simpa [Value.ownBlock] using hk
                    subst hk2
                    rcases hlie4 with h | h
                    · exact HAV2.out _ h
                    · omega
                  · intro j hj
                    have hh : w4.heap[b2]? = _ := hgr4.block b2 hbs (fun h => HAV2.out _ h.symm rfl)
                    rw [World.cell?_of_block (a := ⟨b2, off2 + j, none⟩) hh]
                    exact HCS.out j hj
                  · exact Nat.lt_of_lt_of_le hbs hgr4.size
                case measure => first | (simp [intOf]; done) | (simp [intOf]; omega)
              · have htk : t = kk := by omega
                subst htk
                obtain ⟨A5, c5, rfl⟩ := hown.form
                have hv : ∀ x ∈ acc ++ rep gp t, Fits x := by
                  intro x hx
                  rcases List.mem_append.1 hx with hx | hx
                  · exact HEL.out x hx
                  · exact HI2.out.2.1 x (rep_mem hx)
                by_cases h5 : 500 < (acc ++ rep gp t).length
                · have HRES := Lib.hid (show R = none by have := HU3.out; rw [this, if_pos h5])
                  go_wp2_with fail
                  go_ret2
                  exact ⟨none, 0, [], false, rfl, ints_nil _ _ _, hbel, (fun h => by cases h), (fun _ => ⟨HRES.out, rfl, rfl, rfl⟩), fun k hk => by cases hk⟩
                · have HNX := Lib.hid (show loopS (chr s) innerS b f' (e1 + 2) (acc ++ rep gp t) = R by have := HU3.out; rw [this, if_neg h5])
                  have hm00 : m = 0 := by omega
                  subst hm00
                  go_wp2_with fail
                  go_roundw
                  case rel => exact ⟨f', e1 + 2, acc ++ rep gp t, by go_num, by omega, by omega, HNX.out, by omega, hv, hown, hbel⟩
                  case measure => simp [intOf]; omega
        · have HRES := Lib.hid (show R = none by rw [← HLO.out]; unfold loopS; rw [HX.out, if_neg (by omega), hnl, if_neg (by decide), if_neg h91])
          have h91' : (x == 91) = false := beq_eq_false_iff_ne.2 h91
          clear hnl
          by_cases hl1 : 97 ≤ x
          · have hl2 : ¬ x ≤ 122 := fun h => hl ⟨hl1, h⟩
            clear hl
            go_wp2_with fail
            go_ret2
            exact ⟨none, 0, [], false, rfl, ints_nil _ _ _, hbel, (fun h => by cases h), (fun _ => ⟨HRES.out, rfl, rfl, rfl⟩), fun k hk => by cases hk⟩
          · clear hl
            go_wp2_with fail
            go_ret2
            exact ⟨none, 0, [], false, rfl, ints_nil _ _ _, hbel, (fun h => by cases h), (fun _ => ⟨HRES.out, rfl, rfl, rfl⟩), fun k hk => by cases hk⟩
    · have HRES := Lib.hid (show R = some acc by
        rw [← HLO.out]
        cases f with
        | zero => rfl
        | succ f => unfold loopS; rw [if_pos (by omega)])
      have HOW := Lib.hid hown
      clear hown
      go_wp2_with fail
      go_ret2
      exact ⟨A1, c1, acc, true, rfl, HOW.out.ints HEL.out, hbel, (fun _ => HRES.out), (fun h => by cases h), fun k hk => (HOW.out.lt k hk).1⟩

theorem rowS_len (c : Nat → Int) : ∀ (d a b : Nat) (p : List Int), rowS c d a b = some p → p.length ≤ 500
  | 0, a, b, p, h => loopS_len c none b (b - a) a [] p (by simp) h
  | d + 1, a, b, p, h => loopS_len c _ b (b - a) a [] p (by simp) h

theorem spec_l26Play_any (s : ByteArray) (hs : s.size ≤ 60) : ∀ (d : Nat), d ≤ 3 → ∀ (a b : Nat) (w : World), a ≤ b → b ≤ s.size →
    Calls Tryd.prog 55 #[.string s, .int .i64 a, .int .i64 b, .int .i64 (3 - (d : Int))] w (RetS w (rowS (chr s) d a b))
  | 0, _, a, b, w, hab, hb => spec_l26Play_of s hs 3 none (.inl ⟨rfl, rfl⟩) a b hab hb w
  | d + 1, hd, a, b, w, hab, hb => by
    have ih := spec_l26Play_any s hs d (by omega)
    have h := spec_l26Play_of s hs (3 - ((d + 1 : Nat) : Int)) (some (rowS (chr s) d))
      (.inr ⟨by omega, by omega, _, rfl, (fun a b p h1 h2 h3 h4 => ⟨(row_toR (chr s) s.size d a b p (by omega) h2 (fun _ => h3) h4).2.2 h1, rowS_len _ d a b p h4⟩), fun a b V h1 h2 => by
        have := ih a b V h1 h2
        rwa [show (3 : Int) - d = 3 - ((d + 1 : Nat) : Int) + 1 by omega] at this⟩) a b hab hb w
    unfold rowS
    exact h

end Go.Proofs.YthfjfhgeiggljaaDoor
