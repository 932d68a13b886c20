/-
  MovesOf of the program.
-/
import Derived.Test.YtlejlcnemibgiaaMovI
import Derived.Test.YtlejlcnemibgiaaRok
import Derived.Deep.AppendLies
namespace Go.Proofs.Ytlejlcnemibgiaa
open Go.RowKit Go.Shelf Go.Sort
set_option linter.unusedVariables false
set_option linter.unusedSimpArgs false

/-- 'append(s, y)' onto ints of the call's own, and a block that is not theirs stays. -/
theorem wpList_append_int_away {w : World} {ops : Array Oper} {rest : List Oper} {o : Oper} {a : Act} {Q : Exit → Act → World → Prop} (hgd : o.guard = none) (s x : Operand)
    (ho : o.op = .call { callee := .builtin .append, args := #[s, x], argTypes := #[24, 24] })
    (base : Nat) (v : Value) (xs : List Int) (hs : a.eval s = v) (hown : OwnI w base v xs) (g : Nat) (y : Int) (hx : a.eval x = .slice (some ⟨g, 0, none⟩) 1 1)
    (hcell : w.cell? ⟨g, 0, none⟩ = some (.int .i64 y)) (hlen : xs.length < 1048576) (hbase : base ≤ w.heap.size) (b0 : Nat) (hb0 : b0 < w.heap.size) (hne : ∀ g, v.ownBlock = some g → g ≠ b0)
    (h : ∀ v' w', OwnI w' base v' (xs ++ [y]) → Below base w w' → w'.heap[b0]? = w.heap[b0]? → (∀ g, v'.ownBlock = some g → g ≠ b0) → wpList Try.prog ops Q rest (a.put o.dst v') w') : wpList Try.prog ops Q (o :: rest) a w := by
  obtain ⟨i, hi, hz, hsz, hby⟩ := info_parts Try.infoInt
  refine wpList_append_lies w hgd s x _ ho base 3 i _ 1 8 Try.underlying24 hi hz hsz hby rfl (by omega) v xs.length _ hs hown ⟨g, 0, none⟩ 1 1 [.int .i64 y] hx rfl ?_ ?_ (by omega) (by unfold maxLen; omega) (by omega) hbase _ rfl ?_
  · intro j u hj
    match j, hj with
    | 0, hj => simp at hj; subst hj; exact hcell
  · intro u hu
    simp at hu
    subst hu; rfl
  · intro g' cap w' hown' hgrow hat hlt'
    refine h _ w' ?_ ((Below.refl base w).grown hgrow hbase (fun k hk => (World.ownsRow.lt hown k hk).1)) (hgrow.block b0 hb0 (fun e => hne _ e.symm rfl)) ?_
    · unfold OwnI
      rw [List.length_append, List.map_append]
      exact hown'
    · intro g2 hg2
      have : g' = g2 := by simpa [Value.ownBlock] using hg2
      subst this
      rcases hat with h1 | h1
      · exact hne g' h1
      · omega
theorem rh_fits' {N : Nat} {bs : List Int} (hok : RhOk N bs) : ∀ x ∈ bs, Fits x := fun x hx => by
  have h1 := rhok_range hok x hx
  have h2 := hok.2.1
  unfold Fits; omega
theorem Cells2.block {w w' : World} {g : Nat} {u v : Value} (h : Cells2 w g u v) (hh : w'.heap[g]? = w.heap[g]?) (hs : w.heap.size ≤ w'.heap.size) : Cells2 w' g u v :=
  ⟨(World.cell?_of_block (a := ⟨g, 0, none⟩) hh).trans h.1, (World.cell?_of_block (a := ⟨g, 1, none⟩) hh).trans h.2.1, (World.frozen?_of_block (a := ⟨g, 0, none⟩) hh).trans h.2.2.1, (World.frozen?_of_block (a := ⟨g, 1, none⟩) hh).trans h.2.2.2.1, Nat.lt_of_lt_of_le h.2.2.2.2 hs⟩

set_option maxRecDepth 100000 in
set_option maxHeartbeats 4000000 in
theorem impl_moves_any (N : Nat) (A : Option Addr) (cap : Nat) (bs : List Int) (w : World) (hA : Ints w w.heap.size A bs) (hok : RhOk N bs) :
    Calls Try.prog 26 #[.agg #[.int .i64 N, .slice A bs.length cap]] w (RetRs w (movP N (movC N bs))) := by
  have hn1 : 1 ≤ N := by have := hok.1; omega
  have hn2 : N ≤ 24 := by have := hok.2.1; omega
  have hbl : bs.length ≤ 24 := by have := rhok_len hok; omega
  have HOK := Lib.hid hok
  have HA := Lib.hid hA
  have HC0 := Lib.hid (Cells2.new w (.int .i64 N) (.slice A bs.length cap) 26)
  have HB0 := Lib.hid ((Below.refl w.heap.size w).alloc (Nat.le_refl _) (.cells #[.int .i64 N, .slice A bs.length cap] 26))
  have hq0 : w.heap.size + 1 ≤ (w.alloc (.cells #[.int .i64 N, .slice A bs.length cap] 26)).heap.size := by simp
  obtain ⟨c0, c1, _, _, _⟩ := HC0.out
  clear hA hok
  go_enter Try.func26, Try.ntmps26
  go_wp2_with fail
  generalize w.alloc (.cells #[.int .i64 N, .slice A bs.length cap] 26) = w0 at *
  obtain ⟨q, hq⟩ : ∃ q, w.heap.size = q := ⟨_, rfl⟩
  have HQ := Lib.hid hq
  rw [hq] at HC0 hq0 ⊢
  clear hq
  go_loopw [3, 15] (fun v i wr => ∃ k : Nat, k ≤ bs.length ∧ i = .int .i64 k ∧ OwnI wr (q + 1) v (cdL N bs (2 * k)) ∧ Cells2 wr q (.int .i64 N) (.slice A bs.length cap) ∧ Below w.heap.size w wr ∧ q + 1 ≤ wr.heap.size) (fun _ i _ => bs.length - (intOf i).toNat)
  case atStart => exact ⟨0, Nat.zero_le _, rfl, OwnI.nil _ _, HC0.out, HB0.out, hq0⟩
  case round =>
    obtain ⟨k, hk, rfl, hown, hcel, hbel, hqs⟩ := hrel
    obtain ⟨wo, rfl⟩ : ∃ wo : World, wo = wr := ⟨_, rfl⟩
    have HOW := Lib.hid hown
    have HCE := Lib.hid hcel
    have HBE := Lib.hid hbel
    obtain ⟨A3, c3, rfl⟩ := hown.form
    clear hown hcel hbel c0 c1
    obtain ⟨c0, c1, _, _, _⟩ := HCE.out
    by_cases hlt : k < bs.length
    · have hkb : (k : Int) < (bs.length : Int) := by omega
      have hk0 : (0 : Int) ≤ (k : Int) := Int.natCast_nonneg _
      have hIO := HA.out.lift HBE.out
      obtain ⟨b, off, rfl, hB, hc⟩ := hIO.2.2 (by omega)
      have hcell := hc k hlt
      obtain ⟨p, hp⟩ : ∃ p, bs.getD k 0 = p := ⟨_, rfl⟩
      rw [hp] at hcell
      have hpr := HOK.out.2.2.1 k hlt
      rw [hp] at hpr
      have HPP := Lib.hid hp
      clear hc hp
      have hal := (Below.refl wo.heap.size wo).alloc (Nat.le_refl _) (.cells #[.int .i64 1, .int .i64 (-1)] 3)
      have HO1 := Lib.hid (HOW.out.grown hal)
      have HC1 := Lib.hid (HCE.out.below hal HCE.out.2.2.2.2)
      have HB1 := Lib.hid (HBE.out.trans (hal.mono HBE.out.size))
      have HD1 := Lib.hid (Cells2.new wo (.int .i64 1) (.int .i64 (-1)) 3)
      have HN1 := Lib.hid (show ∀ g, (Value.slice A3 (cdL N bs (2 * k)).length c3).ownBlock = some g → g ≠ wo.heap.size from fun g hg => by have := (HOW.out.lt g hg).2; omega)
      have hs1 := hal.size
      clear hal hIO
      go_wp2_with fail
      generalize wo.alloc (.cells #[.int .i64 1, .int .i64 (-1)] 3) = w1 at *
      obtain ⟨D, hD⟩ : ∃ D, wo.heap.size = D := ⟨_, rfl⟩
      rw [hD] at HD1 HN1 ⊢
      have hqD : q < D := by omega
      clear hcell hB hD c0 c1
      go_loopw [3, 22] (fun v jj wr => ∃ j : Nat, j ≤ 2 ∧ jj = .int .i64 j ∧ OwnI wr (q + 1) v (cdL N bs (2 * k + j)) ∧ Cells2 wr q (.int .i64 N) (.slice (some ⟨b, off, none⟩) bs.length cap) ∧ Cells2 wr D (.int .i64 1) (.int .i64 (-1)) ∧ Below w.heap.size w wr ∧ (∀ g, v.ownBlock = some g → g ≠ D) ∧ q + 1 ≤ wr.heap.size) (fun _ jj _ => 2 - (intOf jj).toNat)
      case atStart => exact ⟨0, by omega, rfl, HO1.out, HC1.out, HD1.out, HB1.out, HN1.out, by omega⟩
      case round =>
        obtain ⟨j, hj, rfl, hown, hcel, hdel, hbel, hnel, hqi⟩ := hrel
        obtain ⟨wi, rfl⟩ : ∃ wo : World, wo = wr := ⟨_, rfl⟩
        have HOI := Lib.hid hown
        have HCI := Lib.hid hcel
        have HDI := Lib.hid hdel
        have HBI := Lib.hid hbel
        have HNI := Lib.hid hnel
        obtain ⟨A6, c6, rfl⟩ := hown.form
        clear hown hcel hdel hbel hnel
        obtain ⟨c0, c1, _, _, _⟩ := HCI.out
        obtain ⟨d0, d1, _, _, _⟩ := HDI.out
        have HIW := Lib.hid (HA.out.lift HBI.out)
        by_cases hj2 : j = 2
        · subst hj2
          go_wp2_with fail
          go_roundw
          case rel => exact ⟨k + 1, by omega, by go_num, HOI.out, HCI.out, HBI.out, hqi⟩
          case measure => simp [intOf]; omega
        · rcases (show j = 0 ∨ j = 1 by omega) with rfl | rfl
          · skip
            have hwy : IntKind.i64.wrap (p + 1) = p + 1 := i64w (by omega)
            obtain ⟨y, hy⟩ : ∃ y, p + 1 = y := ⟨_, rfl⟩
            have hyf : Fits y := by unfold Fits; omega
            have HMQ := Lib.hid (show mvQ N bs (2 * k + 0) = y % N by
              unfold mvQ mvD
              rw [show (2 * k + 0) / 2 = k by omega, HPP.out, ← hy]
              congr 1
              have : (2 * k + 0) % 2 = 0 := by omega
              rw [this]; rfl)
            have HHS := Lib.hid (fun V h => impl_has_any N y (some ⟨b, off, none⟩) cap bs V h (by omega) (by omega))
            cases hh : hasB bs (y % N)
            · rw [hh] at HHS
              have HCD := Lib.hid (cdL_no (N := N) (bs := bs) (m := 2 * k + 0) (by rw [HMQ.out]; exact hh))
              have HMX := Lib.hid (show mvX N bs (2 * k + 0) = ofL (bs.set k (y % N)) N by
                unfold mvX
                rw [HMQ.out, show (2 * k + 0) / 2 = k by omega])
              have HLN := Lib.hid (cdL_len N bs (2 * k + 0))
              generalize cdL N bs (2 * k + 0) = cs at HOI HCD HLN HNI ⊢
              clear hh
              rw [hy] at hwy
              go_wp2_with fail
              refine (HHS.out _ HIW.out).mono ?_
              rintro e w2 ⟨rfl, hb2⟩
              have HB2 := Lib.hid hb2
              have HI2 := Lib.hid (HIW.out.lift hb2)
              obtain ⟨c0', c1', _, _, _⟩ := HCI.out.below hb2 HCI.out.2.2.2.2
              clear hb2 c0 c1 d0 d1
              go_wp2_with fail
              refine (clone_ints _ cap bs _ HI2.out (by omega)).mono ?_
              rintro e w3 ⟨v8, rfl, ho8, hb3⟩
              obtain ⟨g8, c8, rfl⟩ := ho8.posC (by omega)
              obtain ⟨hset, hfz, hce8, hg8, hbg8⟩ := ho8.set_ints (rh_fits' HOK.out) k hlt y hyf
              have HB3 := Lib.hid (HB2.out.trans (hb3.mono HB2.out.size))
              have HB4 := Lib.hid (HB3.out.setCell (p := ⟨g8, k, none⟩) (Nat.le_trans HB2.out.size hbg8) (.int .i64 y))
              have HS4 := Lib.hid hset
              obtain ⟨k0, k1, _, _, _⟩ := HCI.out.below HB4.out HCI.out.2.2.2.2
              clear ho8 hb3 hset c0' c1'
              obtain ⟨c0', c1', _, _, _⟩ := HCI.out.below HB3.out HCI.out.2.2.2.2
              go_wp2_with fail
              generalize w3.setCell ⟨g8, k, none⟩ (.int .i64 y) = w4 at *
              have hrf := impl_rhythmOf_any N (some ⟨g8, 0, none⟩) c8 (bs.set k y) w4 HS4.out (by rw [List.length_set]; omega) (by omega) (by omega)
              rw [coll_move HOK.out, List.length_set, ← HMX.out] at hrf
              have HX := Lib.hid (show RhOk N (mvX N bs (2 * k + 0)) from ofL_ok _ hn1 hn2)
              have HCI2 := Lib.hid (show codI N (mvX N bs (2 * k + 0)) = codeN N (mvX N bs (2 * k + 0)) (mvX N bs (2 * k + 0)).length from rfl)
              generalize mvX N bs (2 * k + 0) = X at *
              refine hrf.mono ?_
              rintro e w5 ⟨A9, c9, rfl, hrw, hb5⟩
              have HB5 := Lib.hid (HB4.out.trans (hb5.mono HB4.out.size))
              have HIX := Lib.hid (hrw.ints (rh_fits' HX.out))
              clear hrw hb5 hrf hfz hce8
              go_wp2_with fail
              have hcd := impl_code_any N A9 c9 X w5 HIX.out HX.out
              rw [← HCI2.out] at hcd
              refine hcd.mono ?_
              rintro e w6 ⟨rfl, hb6⟩
              have HB6 := Lib.hid (HB5.out.trans (hb6.mono HB5.out.size))
              have HO6 := Lib.hid (HOI.out.grown HB6.out)
              have HC6 := Lib.hid (HCI.out.below HB6.out HCI.out.2.2.2.2)
              have HD6 := Lib.hid (HDI.out.below HB6.out HDI.out.2.2.2.2)
              have hs6 := HB6.out.size
              clear hb6 hcd k0 k1 c0' c1'
              go_wp2_with (at_builtin; refine wpList_append_int_away rfl (.tmp 40) (.tmp 46) rfl (q + 1) _ cs rfl (HO6.out.alloc _) w6.heap.size (codI N X) (by rfl) (cell_new1 _ _ _) (by have := HLN.out; omega) (by simp only [World.size_alloc]; omega) D (by have := HD6.out.2.2.2.2; simp only [World.size_alloc]; omega) HNI.out ?_; intro v7 w7 hown7 hb7 hk7 hn7)
              have hal6 := (Below.refl w6.heap.size w6).alloc (Nat.le_refl _) (.cells #[.int .i64 (codI N X)] 3)
              have HO7 := Lib.hid hown7
              have HN7 := Lib.hid hn7
              have HC7 := Lib.hid ((HC6.out.below hal6 HC6.out.2.2.2.2).below hb7 (Nat.lt_succ_self _))
              have HD7 := Lib.hid ((HD6.out.below hal6 HD6.out.2.2.2.2).block hk7 hb7.size)
              have HB7 := Lib.hid ((HBI.out.trans (HB6.out.mono HBI.out.size)).trans ((hal6.mono (Nat.le_trans HBI.out.size hs6)).trans (hb7.mono (by have := HQ.out; omega))))
              have hs7 : q + 1 ≤ w7.heap.size := by have h1 := hb7.size; have h2 := hal6.size; omega
              clear hown7 hb7 hk7 hn7 hal6
              go_wp2_with fail
              go_roundw
              case rel => exact ⟨1, by omega, by go_num, by rw [HCD.out]; exact HO7.out, HC7.out, HD7.out, HB7.out, HN7.out, hs7⟩
              case measure => simp [intOf]
            · rw [hh] at HHS
              have HCD := Lib.hid (cdL_yes (N := N) (bs := bs) (m := 2 * k + 0) (by rw [HMQ.out]; exact hh))
              generalize cdL N bs (2 * k + 0) = cs at HOI HCD HNI ⊢
              clear hh
              rw [hy] at hwy
              go_wp2_with fail
              refine (HHS.out _ HIW.out).mono ?_
              rintro e w2 ⟨rfl, hb2⟩
              have HB2 := Lib.hid (HBI.out.trans (hb2.mono HBI.out.size))
              have HO2 := Lib.hid (HOI.out.grown hb2)
              have HC2 := Lib.hid (HCI.out.below hb2 HCI.out.2.2.2.2)
              have HD2 := Lib.hid (HDI.out.below hb2 HDI.out.2.2.2.2)
              have hs2 := hb2.size
              clear hb2 c0 c1 d0 d1
              go_wp2_with fail
              go_roundw
              case rel => exact ⟨1, by omega, by go_num, by rw [HCD.out]; exact HO2.out, HC2.out, HD2.out, HB2.out, HNI.out, by omega⟩
              case measure => simp [intOf]
          · skip
            have hwy : IntKind.i64.wrap (p + (-1)) = p + (-1) := i64w (by omega)
            obtain ⟨y, hy⟩ : ∃ y, p + (-1) = y := ⟨_, rfl⟩
            have hyf : Fits y := by unfold Fits; omega
            have HMQ := Lib.hid (show mvQ N bs (2 * k + 1) = y % N by
              unfold mvQ mvD
              rw [show (2 * k + 1) / 2 = k by omega, HPP.out, ← hy]
              congr 1
              have : (2 * k + 1) % 2 = 1 := by omega
              rw [this]; rfl)
            have HHS := Lib.hid (fun V h => impl_has_any N y (some ⟨b, off, none⟩) cap bs V h (by omega) (by omega))
            cases hh : hasB bs (y % N)
            · rw [hh] at HHS
              have HCD := Lib.hid (cdL_no (N := N) (bs := bs) (m := 2 * k + 1) (by rw [HMQ.out]; exact hh))
              have HMX := Lib.hid (show mvX N bs (2 * k + 1) = ofL (bs.set k (y % N)) N by
                unfold mvX
                rw [HMQ.out, show (2 * k + 1) / 2 = k by omega])
              have HLN := Lib.hid (cdL_len N bs (2 * k + 1))
              generalize cdL N bs (2 * k + 1) = cs at HOI HCD HLN HNI ⊢
              clear hh
              rw [hy] at hwy
              go_wp2_with fail
              refine (HHS.out _ HIW.out).mono ?_
              rintro e w2 ⟨rfl, hb2⟩
              have HB2 := Lib.hid hb2
              have HI2 := Lib.hid (HIW.out.lift hb2)
              obtain ⟨c0', c1', _, _, _⟩ := HCI.out.below hb2 HCI.out.2.2.2.2
              clear hb2 c0 c1 d0 d1
              go_wp2_with fail
              refine (clone_ints _ cap bs _ HI2.out (by omega)).mono ?_
              rintro e w3 ⟨v8, rfl, ho8, hb3⟩
              obtain ⟨g8, c8, rfl⟩ := ho8.posC (by omega)
              obtain ⟨hset, hfz, hce8, hg8, hbg8⟩ := ho8.set_ints (rh_fits' HOK.out) k hlt y hyf
              have HB3 := Lib.hid (HB2.out.trans (hb3.mono HB2.out.size))
              have HB4 := Lib.hid (HB3.out.setCell (p := ⟨g8, k, none⟩) (Nat.le_trans HB2.out.size hbg8) (.int .i64 y))
              have HS4 := Lib.hid hset
              obtain ⟨k0, k1, _, _, _⟩ := HCI.out.below HB4.out HCI.out.2.2.2.2
              clear ho8 hb3 hset c0' c1'
              obtain ⟨c0', c1', _, _, _⟩ := HCI.out.below HB3.out HCI.out.2.2.2.2
              go_wp2_with fail
              generalize w3.setCell ⟨g8, k, none⟩ (.int .i64 y) = w4 at *
              have hrf := impl_rhythmOf_any N (some ⟨g8, 0, none⟩) c8 (bs.set k y) w4 HS4.out (by rw [List.length_set]; omega) (by omega) (by omega)
              rw [coll_move HOK.out, List.length_set, ← HMX.out] at hrf
              have HX := Lib.hid (show RhOk N (mvX N bs (2 * k + 1)) from ofL_ok _ hn1 hn2)
              have HCI2 := Lib.hid (show codI N (mvX N bs (2 * k + 1)) = codeN N (mvX N bs (2 * k + 1)) (mvX N bs (2 * k + 1)).length from rfl)
              generalize mvX N bs (2 * k + 1) = X at *
              refine hrf.mono ?_
              rintro e w5 ⟨A9, c9, rfl, hrw, hb5⟩
              have HB5 := Lib.hid (HB4.out.trans (hb5.mono HB4.out.size))
              have HIX := Lib.hid (hrw.ints (rh_fits' HX.out))
              clear hrw hb5 hrf hfz hce8
              go_wp2_with fail
              have hcd := impl_code_any N A9 c9 X w5 HIX.out HX.out
              rw [← HCI2.out] at hcd
              refine hcd.mono ?_
              rintro e w6 ⟨rfl, hb6⟩
              have HB6 := Lib.hid (HB5.out.trans (hb6.mono HB5.out.size))
              have HO6 := Lib.hid (HOI.out.grown HB6.out)
              have HC6 := Lib.hid (HCI.out.below HB6.out HCI.out.2.2.2.2)
              have HD6 := Lib.hid (HDI.out.below HB6.out HDI.out.2.2.2.2)
              have hs6 := HB6.out.size
              clear hb6 hcd k0 k1 c0' c1'
              go_wp2_with (at_builtin; refine wpList_append_int_away rfl (.tmp 40) (.tmp 46) rfl (q + 1) _ cs rfl (HO6.out.alloc _) w6.heap.size (codI N X) (by rfl) (cell_new1 _ _ _) (by have := HLN.out; omega) (by simp only [World.size_alloc]; omega) D (by have := HD6.out.2.2.2.2; simp only [World.size_alloc]; omega) HNI.out ?_; intro v7 w7 hown7 hb7 hk7 hn7)
              have hal6 := (Below.refl w6.heap.size w6).alloc (Nat.le_refl _) (.cells #[.int .i64 (codI N X)] 3)
              have HO7 := Lib.hid hown7
              have HN7 := Lib.hid hn7
              have HC7 := Lib.hid ((HC6.out.below hal6 HC6.out.2.2.2.2).below hb7 (Nat.lt_succ_self _))
              have HD7 := Lib.hid ((HD6.out.below hal6 HD6.out.2.2.2.2).block hk7 hb7.size)
              have HB7 := Lib.hid ((HBI.out.trans (HB6.out.mono HBI.out.size)).trans ((hal6.mono (Nat.le_trans HBI.out.size hs6)).trans (hb7.mono (by have := HQ.out; omega))))
              have hs7 : q + 1 ≤ w7.heap.size := by have h1 := hb7.size; have h2 := hal6.size; omega
              clear hown7 hb7 hk7 hn7 hal6
              go_wp2_with fail
              go_roundw
              case rel => exact ⟨2, by omega, by go_num, by rw [HCD.out]; exact HO7.out, HC7.out, HD7.out, HB7.out, HN7.out, hs7⟩
              case measure => simp [intOf]
            · rw [hh] at HHS
              have HCD := Lib.hid (cdL_yes (N := N) (bs := bs) (m := 2 * k + 1) (by rw [HMQ.out]; exact hh))
              generalize cdL N bs (2 * k + 1) = cs at HOI HCD HNI ⊢
              clear hh
              rw [hy] at hwy
              go_wp2_with fail
              refine (HHS.out _ HIW.out).mono ?_
              rintro e w2 ⟨rfl, hb2⟩
              have HB2 := Lib.hid (HBI.out.trans (hb2.mono HBI.out.size))
              have HO2 := Lib.hid (HOI.out.grown hb2)
              have HC2 := Lib.hid (HCI.out.below hb2 HCI.out.2.2.2.2)
              have HD2 := Lib.hid (HDI.out.below hb2 HDI.out.2.2.2.2)
              have hs2 := hb2.size
              clear hb2 c0 c1 d0 d1
              go_wp2_with fail
              go_roundw
              case rel => exact ⟨2, by omega, by go_num, by rw [HCD.out]; exact HO2.out, HC2.out, HD2.out, HB2.out, HNI.out, by omega⟩
              case measure => simp [intOf]
    · have hke : k = bs.length := by omega
      subst hke
      have hcs := cdL_small bs hn1 hn2 (2 * bs.length)
      have hcl := cdL_len N bs (2 * bs.length)
      have HMC := Lib.hid (show movC N bs = (collL (cdL N bs (2 * bs.length))).reverse from rfl)
      have hmem : ∀ c ∈ movC N bs, ∃ n : Nat, c = n ∧ n < 16777216 := fun c hc => by
        rw [HMC.out, List.mem_reverse] at hc
        exact hcs c (((collL_asc _).2 c).1 hc)
      have hml : (movC N bs).length ≤ 48 := by
        rw [HMC.out, List.length_reverse]
        have := collL_len (cdL N bs (2 * bs.length))
        omega
      have HCS := Lib.hid hcs
      have HMM := Lib.hid hmem
      generalize cdL N bs (2 * bs.length) = cs at *
      generalize movC N bs = C at *
      have HIC := Lib.hid (HOW.out.ints (fun x hx => by obtain ⟨n, rfl, hn⟩ := HCS.out x hx; unfold Fits; omega))
      clear hcs hmem
      go_wp2_with fail
      refine (impl_collected_any A3 c3 cs wo HIC.out (by omega)).mono ?_
      rintro e w2 ⟨v2, rfl, ho2, hb2⟩
      have hcoll : (collL cs).length ≤ 48 := by have := collL_len cs; omega
      have HC2 := Lib.hid (HCE.out.below hb2 HCE.out.2.2.2.2)
      have HB2 := Lib.hid (HBE.out.trans (hb2.mono HBE.out.size))
      have HO2 := Lib.hid ho2
      have hs2 := hb2.size
      obtain ⟨A4, c4, rfl⟩ := ho2.form
      clear ho2 hb2
      go_wp2_with fail
      refine (reverse_own A4 c4 wo.heap.size (collL cs) w2 HO2.out hs2 (by omega)).mono ?_
      rintro e w3 ⟨rfl, ho3, hb3⟩
      have HC3 := Lib.hid (HC2.out.below hb3 HCE.out.2.2.2.2)
      have HB3 := Lib.hid (HB2.out.trans (hb3.mono HBE.out.size))
      have hlen3 : (collL cs).length = C.length := by rw [HMC.out, List.length_reverse]
      rw [← HMC.out, hlen3] at ho3
      rw [hlen3]
      have HI3 := Lib.hid (ho3.ints (fun x hx => by obtain ⟨n, rfl, hn⟩ := HMM.out x hx; unfold Fits; omega))
      clear ho3 hb3 c0 c1
      obtain ⟨c0, c1, _, _, _⟩ := HC3.out
      go_wp2_with fail
      clear c0 c1
      go_loopw [9, 56] (fun v jj wr => ∃ (j : Nat) (rs : List RV), j ≤ C.length ∧ jj = .int .i64 j ∧ keyR rs = movP N (C.take j) ∧ OwnR wr w3.heap.size v rs ∧ Below w3.heap.size w3 wr) (fun _ jj _ => C.length - (intOf jj).toNat)
      case atStart => exact ⟨0, [], Nat.zero_le _, rfl, rfl, OwnR.nil _ _, Below.refl _ _⟩
      case round =>
        obtain ⟨j, rs, hj, rfl, hkey, hownr, hbelr⟩ := hrel
        obtain ⟨wi, rfl⟩ : ∃ wo : World, wo = wr := ⟨_, rfl⟩
        have hrl : rs.length = j := by
          have := congrArg List.length hkey
          rw [keyR_len] at this
          rw [this]; unfold movP; rw [List.length_map, List.length_take]; omega
        have HK := Lib.hid hkey
        have HO := Lib.hid hownr
        have HBW := Lib.hid hbelr
        have hwz := hbelr.size
        obtain ⟨A9, c9, rfl⟩ := hownr.form
        obtain ⟨e0, e1, _, _, _⟩ := HC3.out.below hbelr HC3.out.2.2.2.2
        have HIW := Lib.hid (HI3.out.lift hbelr)
        clear hkey hownr hbelr
        by_cases hlj : j < C.length
        · obtain ⟨b5, off5, rfl, hB5, hc5⟩ := HIW.out.2.2 (by omega)
          have hcell := hc5 j hlj
          obtain ⟨cn, hcn, hcs⟩ := HMM.out (C.getD j 0) (by rw [List.getD_eq_getElem?_getD, List.getElem?_eq_getElem hlj]; exact List.getElem_mem hlj)
          rw [hcn] at hcell
          have HSU := Lib.hid (show movP N (C.take (j + 1)) = movP N (C.take j) ++ [((N : Int), bitsB N cn N)] by
            unfold movP
            rw [List.take_succ_eq_append_getElem hlj, List.map_append]
            congr 1
            have : C[j] = (cn : Int) := by rw [← hcn, List.getD_eq_getElem?_getD, List.getElem?_eq_getElem hlj]; rfl
            show [((N : Int), bitsB N (C[j]).toNat N)] = _
            rw [this, Int.toNat_natCast])
          have HQ5 := Lib.hid (fun V => impl_rhythmAtM_any N cn V hn1 hn2 hcs)
          generalize bitsB N cn N = X at HSU HQ5
          have HRL := Lib.hid hrl
          have hji : (j : Int) < (C.length : Int) := by omega
          clear hrl hc5 hcn
          go_wp2_with fail
          refine (HQ5.out _).mono ?_
          rintro e w4 ⟨A2, c2, rfl, hrw, hb1⟩
          have hz1 := hb1.size
          obtain ⟨b, hL, hblt, hbne, hown1⟩ := HO.out.fresh hb1 hrw hwz ((Below.refl w4.heap.size w4).alloc (Nat.le_refl _) (.cells #[.int .i64 N, .slice A2 X.length c2] 26)) (by simp; omega) N c2
          have HL := Lib.hid hL
          have HLT := Lib.hid hblt
          have HNE := Lib.hid hbne
          have HO1 := Lib.hid hown1
          have HB1 := Lib.hid ((HBW.out.trans (hb1.mono hwz)).alloc (by omega) (.cells #[.int .i64 N, .slice A2 X.length c2] 26))
          have HCC := Lib.hid (Cells2.new w4 (.int .i64 N) (.slice A2 X.length c2) 26)
          clear hL hblt hbne hown1 hb1 hrw e0 e1
          go_wp2_with (at_builtin; refine wpList_append_rh rfl (.tmp 60) (.tmp 65) rfl w3.heap.size _ rs rfl HO1.out w4.heap.size ⟨N, X, A2, c2, b⟩ (by rfl) ⟨HCC.out.1, HCC.out.2.1⟩ HL.out HLT.out HNE.out (by have := HRL.out; omega) (by simp; omega) ?_; intro v5 w5 hown5 hb5)
          have HO5 := Lib.hid hown5
          have HB5 := Lib.hid (HB1.out.trans hb5)
          clear hown5 hb5
          go_wp2_with fail
          go_roundw
          case rel => exact ⟨j + 1, rs ++ [⟨N, X, A2, c2, b⟩], by omega, by go_num, by rw [HSU.out, ← HK.out]; simp [keyR], HO5.out, HB5.out⟩
          case measure => simp [intOf]; omega
        · have hje : j = C.length := by omega
          subst hje
          have HKF := Lib.hid (show keyR rs = movP N C by rw [HK.out, List.take_length])
          have HOF := Lib.hid (HO.out.mono HB3.out.size)
          have HBF := Lib.hid (HB3.out.trans (HBW.out.mono HB3.out.size))
          clear hrl
          go_wp2_with fail
          go_ret
          exact ⟨_, rs, rfl, HKF.out, HOF.out, HBF.out⟩

/-- MovesOf of the program. -/
noncomputable def movV (n : Int) (bs : List Int) : List (Int × List Int) := if rhB n bs = true then movP n.toNat (movC n.toNat bs) else []
set_option maxHeartbeats 400000 in
theorem impl_MovesOf_any (n : Int) (A : Option Addr) (cap : Nat) (bs : List Int) (w : World) (hn : Fits n) (hA : Ints w w.heap.size A bs) :
    Calls Try.prog 8 #[.agg #[.int .i64 n, .slice A bs.length cap]] w (RetRs w (movV n bs)) := by
  have HRO := Lib.hid (fun V h => impl_RhythmOk_any n A cap bs V hn h)
  have HB0 := Lib.hid ((Below.refl w.heap.size w).alloc (Nat.le_refl _) (.cells #[.int .i64 n, .slice A bs.length cap] 26))
  have HC0 := Lib.hid (Cells2.new w (.int .i64 n) (.slice A bs.length cap) 26)
  have HI0 := Lib.hid (hA.lift HB0.out)
  obtain ⟨c0, c1, _, _, _⟩ := HC0.out
  cases h2 : rhB n bs
  · have hv : movV n bs = [] := by unfold movV; rw [h2]; rfl
    rw [h2] at HRO
    rw [hv]
    clear hA h2 hv
    go_enter Try.func8, Try.ntmps8
    go_wp2_with fail
    refine (HRO.out _ HI0.out).mono ?_
    rintro e w1 ⟨rfl, hb⟩
    have HB1 := Lib.hid (HB0.out.trans (hb.mono HB0.out.size))
    clear hb
    go_wp2_with fail
    go_ret
    exact ⟨_, [], rfl, rfl, OwnR.nil _ _, HB1.out⟩
  · have hok := rhB_iff.1 h2
    obtain ⟨N, rfl⟩ := Int.eq_ofNat_of_zero_le (show 0 ≤ n by have := hok.1; omega)
    have hv : movV (N : Int) bs = movP N (movC N bs) := by unfold movV; rw [h2, if_pos rfl, Int.toNat_natCast]
    rw [h2] at HRO
    rw [hv]
    have HMV := Lib.hid (fun V h => impl_moves_any N A cap bs V h hok)
    generalize movP N (movC N bs) = L at HMV ⊢
    clear hA h2 hv hok
    go_enter Try.func8, Try.ntmps8
    go_wp2_with fail
    refine (HRO.out _ HI0.out).mono ?_
    rintro e w1 ⟨rfl, hb⟩
    have HB1 := Lib.hid (HB0.out.trans (hb.mono HB0.out.size))
    have HC1 := Lib.hid (HC0.out.below hb HC0.out.2.2.2.2)
    have HI1 := Lib.hid (HI0.out.lift hb)
    clear hb c0 c1
    obtain ⟨c0, c1, _, _, _⟩ := HC1.out
    go_wp2_with fail
    refine (HMV.out _ HI1.out).mono ?_
    rintro e w2 ⟨v, rs, rfl, hk, ho, hb⟩
    have HK := Lib.hid hk
    have HO := Lib.hid (ho.mono HB1.out.size)
    have HB2 := Lib.hid (HB1.out.trans (hb.mono HB1.out.size))
    clear hk ho hb
    go_wp2_with fail
    go_ret
    exact ⟨_, rs, rfl, HK.out, HO.out, HB2.out⟩

end Go.Proofs.Ytlejlcnemibgiaa
