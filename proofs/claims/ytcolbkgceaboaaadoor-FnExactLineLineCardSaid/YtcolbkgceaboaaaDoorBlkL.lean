/-
  The least period of entries, of the reference; what it says of a pattern on a line.
-/
import Derived.Test.YtcolbkgceaboaaaDoorBlkP
namespace Go.Proofs.YtcolbkgceaboaaaDoor
open Go.RowKit
set_option linter.unusedVariables false
set_option linter.unusedSimpArgs false

def goodN (p : Nat) (es : List Nat) (q i : Nat) : Bool := (es.take i).all fun t => decide ((t + q) % p ∈ es)
theorem goodN_succ (p : Nat) (es : List Nat) (q i : Nat) (h : i < es.length) : goodN p es q (i + 1) = (goodN p es q i && decide ((es.getD i 0 + q) % p ∈ es)) := by
  unfold goodN
  rw [List.take_succ_eq_append_getElem h, List.all_append, List.getD_eq_getElem?_getD, List.getElem?_eq_getElem h]
  simp
theorem goodN_all (p : Nat) (es : List Nat) (q : Nat) : goodN p es q es.length = shB p es q := by
  unfold goodN shB
  rw [List.take_of_length_le (Nat.le_refl _)]
theorem hasB_cast (es : List Nat) (x : Nat) : hasB (castL es) (x : Int) = decide (x ∈ es) := by
  unfold hasB castL
  rw [decide_eq_decide, List.mem_map]
  constructor
  · rintro ⟨t, ht, e⟩
    obtain rfl : t = x := by omega
    exact ht
  · exact fun h => ⟨x, h, rfl⟩
theorem castL_at (es : List Nat) (i : Nat) (h : i < es.length) : (castL es).getD i 0 = ((es.getD i 0 : Nat) : Int) := by
  unfold castL
  rw [List.getD_eq_getElem?_getD, List.getD_eq_getElem?_getD, List.getElem?_map, List.getElem?_eq_getElem h]
  rfl

set_option maxRecDepth 100000 in
set_option maxHeartbeats 2000000 in
theorem spec_l13Least_any (p : Nat) (A : Option Addr) (cap : Nat) (es : List Nat) (w : World) (hI : Ints w w.heap.size A (castL es)) (hp : p ≤ 24) (hl : es.length ≤ 13) (hlt : ∀ t ∈ es, t < p)
    (hno : ∀ q, 0 < q → q < p → p % q = 0 → shB p es q = false) :
    Calls Tryd.prog 24 #[.int .i64 p, .slice A (castL es).length cap] w fun e w' => e = .returned (.tuple #[.int .i64 p, .slice A (castL es).length cap]) ∧ Below w.heap.size w w' := by
  have HI := Lib.hid hI
  have HLT := Lib.hid hlt
  have HNO := Lib.hid hno
  have HCL := Lib.hid (castL_len es)
  obtain ⟨N, hN⟩ : ∃ N, (castL es).length = N := ⟨_, rfl⟩
  have HN := Lib.hid hN
  rw [hN]
  have hN13 : N ≤ 13 := by rw [← hN, castL_len]; exact hl
  clear hI hlt hno hN
  go_enter Tryd.func24, Tryd.ntmps24
  go_wp2_with fail
  go_loopw [6] (fun v wr => ∃ q : Nat, 1 ≤ q ∧ (q ≤ p ∨ q = 1) ∧ v = .int .i64 q ∧ Below w.heap.size w wr) (fun v _ => 30 - (intOf v).toNat)
  case atStart => exact ⟨1, Nat.le_refl _, .inr rfl, rfl, Below.refl _ _⟩
  case round =>
    obtain ⟨q, hq1, hqp, rfl, hbel⟩ := hrel
    obtain ⟨wo, rfl⟩ : ∃ wo : World, wo = wr := ⟨_, rfl⟩
    have HBE := Lib.hid hbel
    clear hbel
    by_cases hlq : q < p
    · have hlqi : (q : Int) < (p : Int) := by omega
      have htm : (p : Int).tmod (q : Int) = ((p % q : Nat) : Int) := by rw [Int.tmod_eq_emod_of_nonneg (by omega)]; rfl
      have hqz : ((q : Int) = 0) = False := by rw [eq_iff_iff, iff_false]; omega
      have hqz2 : ¬ q = 0 := by omega
      obtain ⟨m, hm⟩ : ∃ m, p % q = m := ⟨_, rfl⟩
      have hml : m < q := by rw [← hm]; exact Nat.mod_lt _ (by omega)
      rw [hm] at htm
      have hwm : IntKind.i64.wrap (m : Int) = m := i64w (by omega)
      have HM := Lib.hid hm
      clear hqp hm
      by_cases hm0 : m = 0
      · have hmb : ((m : Int) != 0) = false := by simp [hm0]
        have HSF := Lib.hid (HNO.out q (by omega) hlq (by rw [HM.out, hm0]))
        clear hm0
        go_wp2_with fail
        have hHI := HI.out.lift HBE.out
        have HIO := Lib.hid hHI
        have HB2 := Lib.hid (HBE.out.alloc HBE.out.size (.cells #[] 3))
        have HBO := Lib.hid ((Below.refl wo.heap.size wo).alloc (Nat.le_refl _) (.cells #[] 3))
        clear hHI
        go_loopw [7, 8, 23] (fun g f i wr => ∃ (j : Nat) (zs : List Int), j ≤ N ∧ i = .int .i64 j ∧ g = .bool (goodN p es q j) ∧ OwnI wr wo.heap.size f zs ∧ zs.length ≤ j ∧ Below wo.heap.size wo wr) (fun _ _ i _ => N - (intOf i).toNat)
        case atStart => exact ⟨0, [], Nat.zero_le _, rfl, rfl, OwnI.empty_at _ _ _ rfl (Nat.le_refl _), Nat.le_refl _, HBO.out⟩
        case round =>
          obtain ⟨j, zs, hj, rfl, rfl, hown, hzl, hbel⟩ := hrel
          obtain ⟨wi, rfl⟩ : ∃ wo : World, wo = wr := ⟨_, rfl⟩
          have HBI := Lib.hid hbel
          have HOW := Lib.hid hown
          obtain ⟨A6, c6, rfl⟩ := hown.form
          clear hown hbel
          by_cases hlj : j < N
          · have hje : j < es.length := by have := HN.out; have := HCL.out; omega
            have HIW := Lib.hid (HIO.out.lift HBI.out)
            obtain ⟨b, off, rfl, hB, hc⟩ := HIW.out.2.2 (by have := HN.out; omega)
            have hcell := hc j (by have := HN.out; omega)
            rw [castL_at es j hje] at hcell
            have HGS := Lib.hid (goodN_succ p es q j hje)
            obtain ⟨t, ht⟩ : ∃ t, es.getD j 0 = t := ⟨_, rfl⟩
            rw [ht] at hcell HGS
            have htp : t < p := HLT.out t (by rw [← ht, List.getD_eq_getElem?_getD, List.getElem?_eq_getElem hje]; exact List.getElem_mem hje)
            obtain ⟨x, hx⟩ : ∃ x, (t + q) % p = x := ⟨_, rfl⟩
            rw [hx] at HGS
            have hxp : x < p := by rw [← hx]; exact Nat.mod_lt _ (by omega)
            have hsum : (t : Int) + (q : Int) = ((t + q : Nat) : Int) := by rw [Int.natCast_add]
            obtain ⟨z, hz⟩ : ∃ z, t + q = z := ⟨_, rfl⟩
            rw [hz] at hsum hx
            have hzl2 : z ≤ 48 := by omega
            have hwz : IntKind.i64.wrap (z : Int) = z := i64w (by omega)
            have hzm : (z : Int).tmod (p : Int) = (x : Int) := by rw [Int.tmod_eq_emod_of_nonneg (by omega), ← hx]; rfl
            have hwx : IntKind.i64.wrap (x : Int) = x := i64w (by omega)
            have hpz : ((p : Int) = 0) = False := by rw [eq_iff_iff, iff_false]; omega
            have hpz2 : ¬ p = 0 := by omega
            have HHX := Lib.hid (fun V (hV : Ints V wi.heap.size (some ⟨b, off, none⟩) (castL es)) => spec_l02Has_any (some ⟨b, off, none⟩) cap (castL es) x V wi.heap.size hV)
            rw [hasB_cast, HN.out] at HHX
            generalize decide (x ∈ es) = d at HHX HGS
            generalize goodN p es q j = gj at HGS ⊢
            obtain ⟨gn, hgn⟩ : ∃ g, goodN p es q (j + 1) = g := ⟨_, rfl⟩
            rw [hgn] at HGS
            have HGN := Lib.hid hgn
            clear hc ht hx hz hgn htm hmb
            by_cases htq : t < q
            · have htqi : (t : Int) < (q : Int) := by omega
              cases gj
              · have HR := Lib.hid (show gn = false from HGS.out)
                go_wp2_with (at_builtin; refine wpList_append_int rfl (.tmp 40) (.tmp 42) rfl wo.heap.size _ zs rfl (HOW.out.alloc _) wi.heap.size t (by rfl) (cell_new1 _ _ _) (by omega) (by have := HBI.out.size; simp only [World.size_alloc]; omega) ?_; intro v2 w2 hown2 hb2)
                have HO3 := Lib.hid hown2
                have HB3 := Lib.hid ((HBI.out.alloc HBI.out.size (.cells #[.int .i64 t] 3)).trans hb2)
                clear hown2 hb2
                go_wp2_with fail
                go_roundw
                case rel => exact ⟨j + 1, zs ++ [(t : Int)], by omega, by go_num, by rw [HGN.out, HR.out], HO3.out, by rw [List.length_append]; show zs.length + 1 ≤ j + 1; omega, HB3.out⟩
                case measure => simp [intOf]; omega
              · have HR := Lib.hid (show gn = d by rw [HGS.out, Bool.true_and])
                go_wp2_with fail
                refine (HHX.out _ HIW.out).mono ?_
                rintro e w5 ⟨rfl, rfl⟩
                go_wp2_with (at_builtin; refine wpList_append_int rfl (.tmp 40) (.tmp 42) rfl wo.heap.size _ zs rfl (HOW.out.alloc _) wi.heap.size t (by rfl) (cell_new1 _ _ _) (by omega) (by have := HBI.out.size; simp only [World.size_alloc]; omega) ?_; intro v2 w2 hown2 hb2)
                have HO3 := Lib.hid hown2
                have HB3 := Lib.hid ((HBI.out.alloc HBI.out.size (.cells #[.int .i64 t] 3)).trans hb2)
                clear hown2 hb2
                go_wp2_with fail
                go_roundw
                case rel => exact ⟨j + 1, zs ++ [(t : Int)], by omega, by go_num, by rw [HGN.out, HR.out], HO3.out, by rw [List.length_append]; show zs.length + 1 ≤ j + 1; omega, HB3.out⟩
                case measure => simp [intOf]; omega
            · have htqi : ¬ (t : Int) < (q : Int) := by omega
              cases gj
              · have HR := Lib.hid (show gn = false from HGS.out)
                go_wp2_with fail
                go_roundw
                case rel => exact ⟨j + 1, zs, by omega, by go_num, by rw [HGN.out, HR.out], HOW.out, by omega, HBI.out⟩
                case measure => simp [intOf]; omega
              · have HR := Lib.hid (show gn = d by rw [HGS.out, Bool.true_and])
                go_wp2_with fail
                refine (HHX.out _ HIW.out).mono ?_
                rintro e w5 ⟨rfl, rfl⟩
                go_wp2_with fail
                go_roundw
                case rel => exact ⟨j + 1, zs, by omega, by go_num, by rw [HGN.out, HR.out], HOW.out, by omega, HBI.out⟩
                case measure => simp [intOf]; omega
          · have hje : j = N := by omega
            subst hje
            have hgf : goodN p es q j = false := by rw [← HSF.out, ← goodN_all, ← castL_len es, HN.out]
            rw [hgf]
            have HB3 := Lib.hid (HBE.out.trans (HBI.out.mono HBE.out.size))
            clear hgf
            go_wp2_with fail
            go_roundw
            case rel => exact ⟨q + 1, by omega, .inl hlq, by go_num, HB3.out⟩
            case measure => simp [intOf]; omega
      · have hmb : ((m : Int) != 0) = true := by rw [bne_iff_ne]; omega
        go_wp2_with fail
        go_roundw
        case rel => exact ⟨q + 1, by omega, .inl hlq, by go_num, HBE.out⟩
        case measure => simp [intOf]; omega
    · have hlqi : ¬ (q : Int) < (p : Int) := by omega
      go_wp2_with fail
      refine bodyPost_ret (v := .tuple #[.int .i64 p, .slice A N cap]) (by simp [results, Tryd.results24, go_sem]) rfl ⟨rfl, HBE.out⟩

end Go.Proofs.YtcolbkgceaboaaaDoor
