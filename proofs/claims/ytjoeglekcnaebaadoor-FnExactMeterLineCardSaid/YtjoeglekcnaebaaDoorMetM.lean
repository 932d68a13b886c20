/-
  The list of meters, by the program.
-/
import Derived.Test.YtjoeglekcnaebaaDoorMetI
import Derived.Test.YtjoeglekcnaebaaDoorIRow
import Derived.Test.YtjoeglekcnaebaaDoorShK
namespace Go.Proofs.YtjoeglekcnaebaaDoor
open Go.RowKit Go.Shelf
set_option linter.unusedVariables false
set_option linter.unusedSimpArgs false

theorem OwnI.capM {w : World} {base : Nat} {A : Option Addr} {cap : Nat} {xs : List Int} (h : OwnI w base (.slice A xs.length cap) xs) : xs.length ≤ cap := by
  rcases h.2 with ⟨hv, h0⟩ | ⟨g, cap', cur, hv, hge, hh, hnc, hm, hsz, hxs⟩
  · omega
  · injection hv with h1 h2 h3; omega
theorem OwnI.monoM {w : World} {base base' : Nat} {v : Value} {xs : List Int} (h : OwnI w base v xs) (hb : base' ≤ base) : OwnI w base' v xs :=
  ⟨h.1, by
    rcases h.2 with h0 | ⟨g, cap, cur, e, hg, rest⟩
    · exact .inl h0
    · exact .inr ⟨g, cap, cur, e, by omega, rest⟩⟩
theorem ints_cellsM {w : World} {B g off : Nat} {xs : List Int} (h : Ints w B (some ⟨g, off, none⟩) xs) : ∀ j, j < xs.length → w.cell? ⟨g, off + j, none⟩ = some (.int .i64 (xs.getD j 0)) := by
  intro j hj
  obtain ⟨b, o, e, _, hc⟩ := h.2.2 (by omega)
  injection e with e
  injection e with e1 e2
  subst e1 e2
  exact hc j hj

theorem clone_intsM (A : Option Addr) (cap : Nat) (xs : List Int) (w : World) (h : Ints w w.heap.size A xs) (hl : xs.length ≤ 1048576) :
    Calls Tryd.prog 50 #[.slice A xs.length cap] w fun e w' => ∃ v, e = .returned v ∧ OwnI w' w.heap.size v xs ∧ Below w.heap.size w w' := by
  by_cases hp : 0 < xs.length
  · obtain ⟨b, off, rfl, _, _⟩ := h.2.2 hp
    refine (Any.slices_Clone_int Tryd.lays15 b off xs.length cap xs w (Nat.le_refl _) (by omega) (ints_cellsM h)).mono ?_
    rintro e w' ⟨v, rfl, ho, _, hb⟩
    rw [List.take_length] at ho
    exact ⟨v, rfl, ho, hb⟩
  · have h0 : xs = [] := List.eq_nil_of_length_eq_zero (by omega)
    subst h0
    cases A with
    | none =>
      refine (Any.slices_Clone_int_nil Tryd.lays15 0 cap w).mono ?_
      rintro e w' ⟨rfl, rfl⟩
      exact ⟨_, rfl, OwnI.nil _ _, Below.refl _ _⟩
    | some a =>
      refine (Any.slices_Clone_int_zero Tryd.lays15 a cap w).mono ?_
      rintro e w' ⟨v, rfl, ho, _, hb⟩
      exact ⟨v, rfl, ho, hb⟩

theorem metL_bnd : ∀ (f n : Nat) (b : List Int), (metL f n b).length ≤ 6 ^ f
  | 0, _, _ => by show (0 : Nat) ≤ 1; omega
  | f + 1, n, b => by
    have hP : ∀ j, (metP f n b j).length ≤ j * 6 ^ f := by
      intro j
      induction j with
      | zero => show (0 : Nat) ≤ _; omega
      | succ j ih =>
        by_cases h : n % (j + 2) = 0
        · rw [metP_yes h, List.length_append, Nat.succ_mul]
          have := metL_bnd f (n / (j + 2)) (b ++ [((j + 2 : Nat) : Int)])
          omega
        · rw [metP_no h, Nat.succ_mul]; exact Nat.le_trans ih (Nat.le_add_right _ _)
    by_cases h1 : n = 1
    · subst h1; rw [metL_one]; exact Nat.pow_pos (n := f + 1) (show 0 < 6 by omega)
    · by_cases h5 : b.length = 5
      · rw [metL_five h1 h5]; exact Nat.zero_le _
      · rw [metL_go h1 h5]
        have := hP 6
        rw [Nat.pow_succ]; omega
theorem metP_bnd (f n : Nat) (b : List Int) (hf : f ≤ 5) : ∀ j, j ≤ 6 → (metP f n b j).length ≤ 50000 := by
  intro j hj
  have hP : ∀ j, (metP f n b j).length ≤ j * 6 ^ f := by
    intro j
    induction j with
    | zero => show (0 : Nat) ≤ _; omega
    | succ j ih =>
      by_cases h : n % (j + 2) = 0
      · rw [metP_yes h, List.length_append, Nat.succ_mul]
        have := metL_bnd f (n / (j + 2)) (b ++ [((j + 2 : Nat) : Int)])
        omega
      · rw [metP_no h, Nat.succ_mul]; exact Nat.le_trans ih (Nat.le_add_right _ _)
  have h1 := hP j
  have h2 : 6 ^ f ≤ 6 ^ 5 := Nat.pow_le_pow_right (by omega) hf
  have h3 : j * 6 ^ f ≤ 6 * 6 ^ 5 := Nat.mul_le_mul hj h2
  have h4 : (6 : Nat) * 6 ^ 5 = 46656 := by decide
  omega

/-- The rows lie in blocks from B on. -/
def NewR (B : Nat) (rs : List SV) : Prop := ∀ r ∈ rs, 0 < r.xs.length → ∀ b off t, r.A = some ⟨b, off, t⟩ → B ≤ b
theorem NewR.app {B : Nat} {rs ss : List SV} (h : NewR B rs) (k : NewR B ss) : NewR B (rs ++ ss) := fun r hr => by
  rcases List.mem_append.1 hr with h1 | h1
  · exact h r h1
  · exact k r h1
theorem NewR.mono {B B' : Nat} {rs : List SV} (h : NewR B rs) (hB : B' ≤ B) : NewR B' rs := fun r hr hn b off t e => Nat.le_trans hB (h r hr hn b off t e)
theorem NewR.nil (B : Nat) : NewR B [] := fun r hr => by cases hr
def RetM (w : World) (L : List (List Int)) (e : Ending) (w' : World) : Prop := ∃ v rs, e = .returned v ∧ OwnW w' w.heap.size v rs ∧ rs.map SV.xs = L ∧ (rs = [] → v = .slice none 0 0) ∧ NewR w.heap.size rs ∧ Below w.heap.size w w'

set_option maxRecDepth 100000 in
set_option maxHeartbeats 2000000 in
theorem impl_metersFrom_any : ∀ (f n : Nat) (b : List Int) (A : Option Addr) (c : Nat) (w : World), f + b.length = 6 → 1 ≤ f → 1 ≤ n → n ≤ 24 → Ints w w.heap.size A b →
    Calls Tryd.prog 42 #[.int .i64 n, .slice A b.length c] w (RetM w (metL f n b)) := by
  intro f
  induction f with
  | zero => intro n b A c w _ h; omega
  | succ f ih =>
    intro n b A c w hfl _ hn1 hn2 hA
    have HIH := Lib.hid (fun n b A c w h1 h2 h3 h4 h5 => ih n b A c w h1 h2 h3 h4 h5)
    clear ih
    have HCL := Lib.hid (fun V h => clone_intsM A c b V h (by omega))
    have HA := Lib.hid hA
    have hb5 : b.length ≤ 5 := by omega
    clear hA
    by_cases h1 : n = 1
    · subst h1
      rw [metL_one]
      go_enter Tryd.func42, Tryd.ntmps42
      go_wp2_with fail
      refine (HCL.out _ HA.out).mono ?_
      rintro e w1 ⟨v1, rfl, hown, hb⟩
      obtain ⟨A1, c1, rfl⟩ := hown.form
      have hR := OwnI.capM hown
      have hI := hown.ints HA.out.2.1
      have HW := Lib.hid (OwnW.lit (w := w1) (base := w.heap.size) ⟨b, A1, c1⟩ hb.size ⟨hR, hI⟩)
      have HB := Lib.hid (hb.alloc hb.size (.cells #[(⟨b, A1, c1⟩ : SV).slc] 22))
      have HNW := Lib.hid (show NewR w.heap.size [⟨b, A1, c1⟩] from fun r hr hn bb off t e => by
        rw [List.mem_singleton] at hr
        subst hr
        have e' : A1 = some ⟨bb, off, t⟩ := e
        exact (hown.lt bb (by rw [e']; rfl)).1)
      clear hown hb hR hI
      go_wp2_with fail
      go_ret
      exact ⟨_, [⟨b, A1, c1⟩], rfl, HW.out, rfl, (fun h => by cases h), HNW.out, HB.out⟩
    · have hne : ((n : Int) == 1) = false := beq_eq_false_iff_ne.2 (by omega)
      by_cases h5 : b.length = 5
      · rw [metL_five h1 h5]
        go_enter Tryd.func42, Tryd.ntmps42
        go_wp2_with fail
        go_loopw [5, 6] (fun so k wr => so = .slice none 0 0 ∧ k = .int .i64 2 ∧ w = wr) (fun _ _ _ => 0)
        case atStart => exact ⟨rfl, rfl, rfl⟩
        case round =>
          obtain ⟨rfl, rfl, rfl⟩ := hrel
          go_wp2_with fail
          go_ret
          exact ⟨_, [], rfl, OwnW.nil _ _, rfl, fun _ => rfl, NewR.nil _, Below.refl _ _⟩
      · have HGO := Lib.hid (metL_go h1 h5 : metL (f + 1) n b = metP f n b 6)
        have HPB := Lib.hid (fun j hj => metP_bnd f n b (by omega) j hj)
        have hbl : (b.length : Int) < 5 := by omega
        have hf1 : 1 ≤ f := by omega
        go_enter Tryd.func42, Tryd.ntmps42
        go_wp2_with fail
        go_loopw [5, 6] (fun so k wr => ∃ (j : Nat) (rs : List SV), j ≤ 6 ∧ k = .int .i64 ((j + 2 : Nat) : Int) ∧ OwnW wr w.heap.size so rs ∧ rs.map SV.xs = metP f n b j ∧ (rs = [] → so = .slice none 0 0) ∧ NewR w.heap.size rs ∧ Below w.heap.size w wr) (fun _ k _ => 8 - (intOf k).toNat)
        case atStart => exact ⟨0, [], by omega, rfl, OwnW.nil _ _, rfl, fun _ => rfl, NewR.nil _, Below.refl _ _⟩
        case round =>
          obtain ⟨j, rs, hj, rfl, hown, hkey, hnl, hnw, hbel⟩ := hrel
          obtain ⟨wo, rfl⟩ : ∃ wo : World, wo = wr := ⟨_, rfl⟩
          obtain ⟨So, cso, rfl⟩ := hown.form
          have hrl : rs.length ≤ 50000 := by
            have := congrArg List.length hkey
            rw [List.length_map] at this
            have := HPB.out j hj
            omega
          have hws := hbel.size
          have HKY := Lib.hid hkey
          have HNL := Lib.hid hnl
          have HNW := Lib.hid hnw
          have hf5 : f ≤ 5 := by omega
          have HLA := Lib.hid hown
          have HBO := Lib.hid hbel
          clear hkey hnl hown hbel hnw
          by_cases hlt : j < 6
          · have hk7 : ((j + 2 : Nat) : Int) ≤ 7 := by omega
            have hnz : (((j + 2 : Nat) : Int) = 0) = False := eq_false (by omega)
            have hrm : (n : Int).tmod ((j + 2 : Nat) : Int) = ((n % (j + 2) : Nat) : Int) := by rw [Int.tmod_eq_emod_of_nonneg (by omega)]; omega
            have hmb : n % (j + 2) < j + 2 := Nat.mod_lt _ (by omega)
            have hw1 : IntKind.i64.wrap ((n % (j + 2) : Nat) : Int) = ((n % (j + 2) : Nat) : Int) := i64w (by omega)
            by_cases hd : n % (j + 2) = 0
            · have HSU := Lib.hid (metP_yes (f := f) (b := b) hd)
              have hdv : (n : Int).tdiv ((j + 2 : Nat) : Int) = ((n / (j + 2) : Nat) : Int) := by rw [Int.tdiv_eq_ediv_of_nonneg (by omega)]; omega
              have hql : n / (j + 2) ≤ n := Nat.div_le_self _ _
              have hq1 : 1 ≤ n / (j + 2) := by
                have := Nat.div_add_mod n (j + 2)
                rw [hd, Nat.add_zero] at this
                rcases Nat.eq_zero_or_pos (n / (j + 2)) with h0 | h0
                · rw [h0, Nat.mul_zero] at this; omega
                · exact h0
              have hw2 : IntKind.i64.wrap ((n / (j + 2) : Nat) : Int) = ((n / (j + 2) : Nat) : Int) := i64w (by omega)
              have hb1 : f + (b ++ [((j + 2 : Nat) : Int)]).length = 6 := by rw [List.length_append, List.length_singleton]; omega
              have HIJ := Lib.hid (fun A c V h => HIH.out (n / (j + 2)) (b ++ [((j + 2 : Nat) : Int)]) A c V hb1 hf1 hq1 (by omega) h)
              rw [hd] at hrm hw1
              generalize n / (j + 2) = q at *
              clear hb1 hmb
              have hnz2 : (j + 2 = 0) = False := eq_false (by omega)
              generalize hk : j + 2 = k at *
              have HK := Lib.hid hk
              clear hk
              go_wp2_with fail
              have HBW := Lib.hid (Below.refl wo.heap.size wo.drew)
              have HLA := Lib.hid HLA.out.drew
              (refine wp_region_held_drew (S := (fun _ => True)) (by kernel_rfl) ?_ (fun hHeld => ?_); (focus ((try dsimp only); all_goals trivial)))
              ((refine wpAnyH_take (i := 0) (v := ?_) rfl (by kernel_rfl) (by kernel_rfl) (by kernel_rfl) (fun _ _ _ h => h) (Or.inl ⟨by rfl, ?_⟩) (by assumption) ?_; rotate_left; (focus (intro wS hSw; (try dsimp only at hSw); go_simp; (try with_reducible rfl))); (try simp only [Act.put, List.getElem_toArray, List.getElem_cons_zero, List.getElem_cons_succ, List.setIfInBounds_toArray, List.set_cons_zero, List.set_cons_succ])); (refine wpAnyH_take (i := 1) (v := ?_) rfl (by kernel_rfl) (by kernel_rfl) (by kernel_rfl) (fun _ _ _ h => h) (Or.inl ⟨by rfl, ?_⟩) (by assumption) ?_; rotate_left; (focus (intro wS hSw; (try dsimp only at hSw); go_simp; (try with_reducible rfl))); (try simp only [Act.put, List.getElem_toArray, List.getElem_cons_zero, List.getElem_cons_succ, List.setIfInBounds_toArray, List.set_cons_zero, List.set_cons_succ])); (refine wpAnyH_take (i := 2) (v := ?_) rfl (by kernel_rfl) (by kernel_rfl) (by kernel_rfl) (fun _ _ _ h => h) (Or.inl ⟨by rfl, ?_⟩) (by assumption) ?_; rotate_left; (focus (intro wS hSw; (try dsimp only at hSw); go_simp; (try with_reducible rfl))); (try simp only [Act.put, List.getElem_toArray, List.getElem_cons_zero, List.getElem_cons_succ, List.setIfInBounds_toArray, List.set_cons_zero, List.set_cons_succ])); (refine wpAnyH_take (i := 3) (v := ?_) rfl (by kernel_rfl) (by kernel_rfl) (by kernel_rfl) (fun _ _ _ h => h) (Or.inl ⟨by rfl, ?_⟩) (by assumption) ?_; rotate_left; (focus (intro wS hSw; (try dsimp only at hSw); go_simp; (try with_reducible rfl))); (try simp only [Act.put, List.getElem_toArray, List.getElem_cons_zero, List.getElem_cons_succ, List.setIfInBounds_toArray, List.set_cons_zero, List.set_cons_succ])); (refine wpAnyH_take (i := 4) (v := ?_) rfl (by kernel_rfl) (by kernel_rfl) (by kernel_rfl) (fun _ _ _ h => h) (Or.inl ⟨by rfl, ?_⟩) (by assumption) ?_; rotate_left; (focus (intro wS hSw; (try dsimp only at hSw); go_simp; (try with_reducible rfl))); (try simp only [Act.put, List.getElem_toArray, List.getElem_cons_zero, List.getElem_cons_succ, List.setIfInBounds_toArray, List.set_cons_zero, List.set_cons_succ])); (refine wpAnyH_take (i := 6) (v := ?_) rfl (by kernel_rfl) (by kernel_rfl) (by kernel_rfl) (fun _ _ _ h => h) (Or.inl ⟨by rfl, ?_⟩) (by assumption) ?_; rotate_left; (focus (intro wS hSw; (try dsimp only at hSw); go_simp; (try with_reducible rfl))); (try simp only [Act.put, List.getElem_toArray, List.getElem_cons_zero, List.getElem_cons_succ, List.setIfInBounds_toArray, List.set_cons_zero, List.set_cons_succ])))
              refine wpAnyH_ready (rs := [5, 7]) (by kernel_rfl) (by simp) ?_
              refine AllReadyH.cons rfl (fun K hK => ?_) (AllReadyH.cons rfl (fun K hK => ?_) AllReadyH.nil)
              · as_aux_lemma =>
                go_simp
                go_at_call 50
                refine (HCL.out wo.drew (show Ints wo.drew wo.drew.heap.size A b from (HA.out.below HBO.out).mono hws)).mono ?_
                rintro e w2 ⟨v2, rfl, hown2, hb2⟩
                obtain ⟨A2, c2, rfl⟩ := hown2.form
                have HO2 := Lib.hid hown2
                have HBW := Lib.hid (HBW.out.trans hb2)
                clear hown2 hb2
                go_wp2_with fail
                (refine hK.out _ _ ?_ (fun hHeld2 => ?_); (focus ((try dsimp only); all_goals trivial)); (clear hK K); (try simp only [Act.put, List.getElem_toArray, List.getElem_cons_zero, List.getElem_cons_succ, List.setIfInBounds_toArray, List.set_cons_zero, List.set_cons_succ]))
                (refine wpAnyH_ready (rs := [7]) (by kernel_rfl) (by simp) ?_; refine AllReadyH.cons rfl (fun K hK => ?_) AllReadyH.nil; go_simp)
                have HOI := Lib.hid (show OwnI (w2.alloc (.cells #[.int .i64 k] 3)) wo.heap.size (.slice A2 b.length c2) b from HO2.out.alloc _)
                have HKC := Lib.hid (cell_new1 w2 (.int .i64 k) 3)
                have HBW := Lib.hid (HBW.out.alloc HBW.out.size (.cells #[.int .i64 k] 3))
                (refine hK.out _ _ ?_ (fun hHeld2 => ?_); (focus ((try dsimp only); all_goals trivial)); (clear hK K); (try simp only [Act.put, List.getElem_toArray, List.getElem_cons_zero, List.getElem_cons_succ, List.setIfInBounds_toArray, List.set_cons_zero, List.set_cons_succ]))
                generalize w2.alloc (.cells #[.int .i64 k] 3) = w3 at *
                refine wpAnyH_ready (rs := [8]) (by kernel_rfl) (by simp) ?_
                refine AllReadyH.cons rfl (fun K hK => ?_) AllReadyH.nil
                refine step_append_int (by rfl) _ _ (by rfl) wo.heap.size _ b (by rfl) HOI.out _ (k : Int) (by rfl) HKC.out (by omega) HBW.out.size ?_
                intro v4 w4 hown4 hb4
                obtain ⟨A4, c4, rfl⟩ := hown4.form
                have HB4 := Lib.hid (HBW.out.trans hb4)
                have HI4 := Lib.hid (hown4.ints (fun x hx => by
                  rcases List.mem_append.1 hx with h | h
                  · exact HA.out.2.1 x h
                  · rw [List.mem_singleton] at h; subst h; unfold Fits; omega))
                clear hown4 hb4
                generalize b ++ [(k : Int)] = bk at *
                (try simp only [Act.put, List.getElem_toArray, List.getElem_cons_zero, List.getElem_cons_succ, List.setIfInBounds_toArray, List.set_cons_zero, List.set_cons_succ])
                (refine hK.out _ _ ?_ (fun hHeld2 => ?_); (focus ((try dsimp only); all_goals trivial)); (clear hK K); (try simp only [Act.put, List.getElem_toArray, List.getElem_cons_zero, List.getElem_cons_succ, List.setIfInBounds_toArray, List.set_cons_zero, List.set_cons_succ]))
                (refine wpAnyH_ready (rs := [9]) (by kernel_rfl) (by simp) ?_; refine AllReadyH.cons rfl (fun K hK => ?_) AllReadyH.nil; go_simp)
                go_at_call 42
                refine (HIJ.out A4 c4 _ HI4.out).mono ?_
                rintro e w5 ⟨v5, rs5, rfl, hown5, hkey5, hnl5, hnw5, hb5⟩
                have HB5 := Lib.hid (HB4.out.trans (hb5.mono HB4.out.size))
                have HLA5 := Lib.hid (HLA.out.lift (show Below wo.drew.heap.size wo.drew w5 from HB5.out))
                have hz4 : wo.heap.size ≤ w4.heap.size := HB4.out.size
                have hz5 : wo.heap.size ≤ w5.heap.size := HB5.out.size
                have HOL := Lib.hid (fun g (hg : (Value.slice So rs.length cso).ownBlock = some g) => (HLA.out.lt g hg))
                obtain ⟨A5, c5, rfl⟩ := hown5.form
                have hr5 : rs5.length ≤ 50000 := by
                  have h1 := congrArg List.length hkey5
                  rw [List.length_map] at h1
                  have h2 := metL_bnd f q bk
                  have h3 : 6 ^ f ≤ 6 ^ 5 := Nat.pow_le_pow_right (by omega) hf5
                  have h4 : (6 : Nat) ^ 5 = 7776 := by decide
                  omega
                have hk6 : (rs ++ rs5).map SV.xs = metP f n b (j + 1) := by rw [List.map_append, HKY.out, hkey5, HSU.out]
                have hnw6 : NewR w.heap.size (rs ++ rs5) := HNW.out.app (hnw5.mono (by omega))
                have HK6 := Lib.hid hk6
                have HN6 := Lib.hid hnw6
                clear hk6 hnw6 hkey5 hb5
                go_wp2_with fail
                (refine hK.out _ _ ?_ (fun hHeld2 => ?_); (focus ((try dsimp only); all_goals trivial)); (clear hK K); (try simp only [Act.put, List.getElem_toArray, List.getElem_cons_zero, List.getElem_cons_succ, List.setIfInBounds_toArray, List.set_cons_zero, List.set_cons_succ]))
                refine wpAnyH_ready (rs := [10]) (by kernel_rfl) (by simp) ?_
                refine AllReadyH.cons rfl (fun K hK => ?_) AllReadyH.nil
                by_cases h50 : rs5 = []
                · have hv5 := hnl5 h50
                  subst h50
                  rw [hv5]
                  refine step_append_noneW (by rfl) _ _ (by rfl) w.heap.size _ rs (by rfl) HLA5.out (by rfl) ?_
                  have hkx := HK6.out
                  have hnx := HN6.out
                  rw [List.append_nil] at hkx hnx
                  have HK7 := Lib.hid hkx
                  have HN7 := Lib.hid hnx
                  have HB7 := Lib.hid ((Below.drewH_ HBO.out).trans (HB5.out.mono hws))
                  clear hkx hnx hown5 hnl5 hnw5 hv5
                  (try simp only [Act.put, List.getElem_toArray, List.getElem_cons_zero, List.getElem_cons_succ, List.setIfInBounds_toArray, List.set_cons_zero, List.set_cons_succ])
                  (refine hK.out _ _ ?_ (fun hHeld2 => ?_); (focus ((try dsimp only); all_goals trivial)); (clear hK K); (try simp only [Act.put, List.getElem_toArray, List.getElem_cons_zero, List.getElem_cons_succ, List.setIfInBounds_toArray, List.set_cons_zero, List.set_cons_succ]))
                  (refine wpAnyH_take (i := 11) (v := ?_) rfl (by kernel_rfl) (by kernel_rfl) (by kernel_rfl) (fun _ _ _ h => h) (Or.inl ⟨by rfl, ?_⟩) (by assumption) ?_; rotate_left; (focus (intro wS hSw; (try dsimp only at hSw); go_simp; (try with_reducible rfl))); (try simp only [Act.put, List.getElem_toArray, List.getElem_cons_zero, List.getElem_cons_succ, List.setIfInBounds_toArray, List.set_cons_zero, List.set_cons_succ]))
                  refine wpAnyH_done (by kernel_rfl) ?_ _
                  go_wp2_with fail
                  go_roundw
                  case rel => exact ⟨j + 1, rs, by omega, by rw [← HK.out]; go_num, HLA5.out, HK7.out, HNL.out, HN7.out, HB7.out⟩
                  case measure => simp [intOf]; omega
                · have hpos : 0 < rs5.length := List.length_pos_iff.2 h50
                  obtain ⟨g5, hA5, hg51, hg52, hc5⟩ := hown5.cells hpos
                  subst hA5
                  refine step_append_rowsW (by rfl) _ _ (by rfl) w.heap.size _ rs (by rfl) HLA5.out g5 0 c5 rs5 (by rfl) (fun i hi => by rw [Nat.zero_add]; exact hc5 i hi) (fun r hr => ⟨(hown5.2 r hr).1, (hown5.2 r hr).2.1, fun hn bb off t e he => by
                    have h1 := hnw5 r hr hn bb off t e
                    have h2 := HOL.out bb he
                    have h3 : bb < wo.heap.size := h2.2
                    omega⟩) hpos (by omega) (by omega) ?_
                  intro v6 w6 hown6 hgr6 hat6
                  have HO6 := Lib.hid hown6
                  have HB6 := Lib.hid (((Below.drewH_ HBO.out).trans (HB5.out.mono hws)).trans ((Below.refl w.heap.size w5).grown hgr6 (by omega) (fun g hg => (HOL.out g hg).1)))
                  have hne6 : rs ++ rs5 = [] → v6 = .slice none 0 0 := fun h => absurd (List.append_eq_nil_iff.1 h).2 h50
                  have HE6 := Lib.hid hne6
                  clear hown6 hgr6 hat6 hc5 hown5 hnl5 hnw5 hne6
                  (try simp only [Act.put, List.getElem_toArray, List.getElem_cons_zero, List.getElem_cons_succ, List.setIfInBounds_toArray, List.set_cons_zero, List.set_cons_succ])
                  (refine hK.out _ _ ?_ (fun hHeld2 => ?_); (focus ((try dsimp only); all_goals trivial)); (clear hK K); (try simp only [Act.put, List.getElem_toArray, List.getElem_cons_zero, List.getElem_cons_succ, List.setIfInBounds_toArray, List.set_cons_zero, List.set_cons_succ]))
                  (refine wpAnyH_take (i := 11) (v := ?_) rfl (by kernel_rfl) (by kernel_rfl) (by kernel_rfl) (fun _ _ _ h => h) (Or.inl ⟨by rfl, ?_⟩) (by assumption) ?_; rotate_left; (focus (intro wS hSw; (try dsimp only at hSw); go_simp; (try with_reducible rfl))); (try simp only [Act.put, List.getElem_toArray, List.getElem_cons_zero, List.getElem_cons_succ, List.setIfInBounds_toArray, List.set_cons_zero, List.set_cons_succ]))
                  refine wpAnyH_done (by kernel_rfl) ?_ _
                  go_wp2_with fail
                  go_roundw
                  case rel => exact ⟨j + 1, rs ++ rs5, by omega, by rw [← HK.out]; go_num, HO6.out, HK6.out, HE6.out, HN6.out, HB6.out⟩
                  case measure => simp [intOf]; omega
              · as_aux_lemma =>
                go_simp
                have HKC0 := Lib.hid (show (wo.alloc (.cells #[.int .i64 k] 3)).drew.cell? ⟨wo.heap.size, 0, none⟩ = some (.int .i64 k) from cell_new1 wo (.int .i64 k) 3)
                have HBW := Lib.hid (show Below wo.heap.size wo.drew (wo.alloc (.cells #[.int .i64 k] 3)).drew from HBW.out.alloc HBW.out.size (.cells #[.int .i64 k] 3))
                have hgl : wo.heap.size < (wo.alloc (.cells #[.int .i64 k] 3)).drew.heap.size := by show wo.heap.size < (wo.alloc _).heap.size; simp
                (refine hK.out _ _ ?_ (fun hHeld2 => ?_); (focus ((try dsimp only); all_goals trivial)); (clear hK K); (try simp only [Act.put, List.getElem_toArray, List.getElem_cons_zero, List.getElem_cons_succ, List.setIfInBounds_toArray, List.set_cons_zero, List.set_cons_succ]))
                generalize (wo.alloc (.cells #[.int .i64 k] 3)).drew = w2 at *
                (refine wpAnyH_ready (rs := [5]) (by kernel_rfl) (by simp) ?_; refine AllReadyH.cons rfl (fun K hK => ?_) AllReadyH.nil; go_simp)
                go_at_call 50
                refine (HCL.out _ ((HA.out.below ((Below.drewH_ HBO.out).trans (HBW.out.mono hws))).mono (by have := HBW.out.size; have h9 : wo.drew.heap.size = wo.heap.size := rfl; omega))).mono ?_
                rintro e w3 ⟨v2, rfl, hown2, hb2⟩
                obtain ⟨A2, c2, rfl⟩ := hown2.form
                have HOI := Lib.hid (show OwnI w3 wo.heap.size (.slice A2 b.length c2) b from hown2.monoM (by have := HBW.out.size; have h9 : wo.drew.heap.size = wo.heap.size := rfl; omega))
                have HKC := Lib.hid ((hb2.cell (p := ⟨wo.heap.size, 0, none⟩) hgl).trans HKC0.out)
                have HBW := Lib.hid (HBW.out.trans (hb2.mono HBW.out.size))
                clear hown2 hb2
                go_wp2_with fail
                (refine hK.out _ _ ?_ (fun hHeld2 => ?_); (focus ((try dsimp only); all_goals trivial)); (clear hK K); (try simp only [Act.put, List.getElem_toArray, List.getElem_cons_zero, List.getElem_cons_succ, List.setIfInBounds_toArray, List.set_cons_zero, List.set_cons_succ]))
                refine wpAnyH_ready (rs := [8]) (by kernel_rfl) (by simp) ?_
                refine AllReadyH.cons rfl (fun K hK => ?_) AllReadyH.nil
                refine step_append_int (by rfl) _ _ (by rfl) wo.heap.size _ b (by rfl) HOI.out _ (k : Int) (by rfl) HKC.out (by omega) HBW.out.size ?_
                intro v4 w4 hown4 hb4
                obtain ⟨A4, c4, rfl⟩ := hown4.form
                have HB4 := Lib.hid (HBW.out.trans hb4)
                have HI4 := Lib.hid (hown4.ints (fun x hx => by
                  rcases List.mem_append.1 hx with h | h
                  · exact HA.out.2.1 x h
                  · rw [List.mem_singleton] at h; subst h; unfold Fits; omega))
                clear hown4 hb4
                generalize b ++ [(k : Int)] = bk at *
                (try simp only [Act.put, List.getElem_toArray, List.getElem_cons_zero, List.getElem_cons_succ, List.setIfInBounds_toArray, List.set_cons_zero, List.set_cons_succ])
                (refine hK.out _ _ ?_ (fun hHeld2 => ?_); (focus ((try dsimp only); all_goals trivial)); (clear hK K); (try simp only [Act.put, List.getElem_toArray, List.getElem_cons_zero, List.getElem_cons_succ, List.setIfInBounds_toArray, List.set_cons_zero, List.set_cons_succ]))
                (refine wpAnyH_ready (rs := [9]) (by kernel_rfl) (by simp) ?_; refine AllReadyH.cons rfl (fun K hK => ?_) AllReadyH.nil; go_simp)
                go_at_call 42
                refine (HIJ.out A4 c4 _ HI4.out).mono ?_
                rintro e w5 ⟨v5, rs5, rfl, hown5, hkey5, hnl5, hnw5, hb5⟩
                have HB5 := Lib.hid (HB4.out.trans (hb5.mono HB4.out.size))
                have HLA5 := Lib.hid (HLA.out.lift (show Below wo.drew.heap.size wo.drew w5 from HB5.out))
                have hz4 : wo.heap.size ≤ w4.heap.size := HB4.out.size
                have hz5 : wo.heap.size ≤ w5.heap.size := HB5.out.size
                have HOL := Lib.hid (fun g (hg : (Value.slice So rs.length cso).ownBlock = some g) => (HLA.out.lt g hg))
                obtain ⟨A5, c5, rfl⟩ := hown5.form
                have hr5 : rs5.length ≤ 50000 := by
                  have h1 := congrArg List.length hkey5
                  rw [List.length_map] at h1
                  have h2 := metL_bnd f q bk
                  have h3 : 6 ^ f ≤ 6 ^ 5 := Nat.pow_le_pow_right (by omega) hf5
                  have h4 : (6 : Nat) ^ 5 = 7776 := by decide
                  omega
                have hk6 : (rs ++ rs5).map SV.xs = metP f n b (j + 1) := by rw [List.map_append, HKY.out, hkey5, HSU.out]
                have hnw6 : NewR w.heap.size (rs ++ rs5) := HNW.out.app (hnw5.mono (by omega))
                have HK6 := Lib.hid hk6
                have HN6 := Lib.hid hnw6
                clear hk6 hnw6 hkey5 hb5
                go_wp2_with fail
                (refine hK.out _ _ ?_ (fun hHeld2 => ?_); (focus ((try dsimp only); all_goals trivial)); (clear hK K); (try simp only [Act.put, List.getElem_toArray, List.getElem_cons_zero, List.getElem_cons_succ, List.setIfInBounds_toArray, List.set_cons_zero, List.set_cons_succ]))
                refine wpAnyH_ready (rs := [10]) (by kernel_rfl) (by simp) ?_
                refine AllReadyH.cons rfl (fun K hK => ?_) AllReadyH.nil
                by_cases h50 : rs5 = []
                · have hv5 := hnl5 h50
                  subst h50
                  rw [hv5]
                  refine step_append_noneW (by rfl) _ _ (by rfl) w.heap.size _ rs (by rfl) HLA5.out (by rfl) ?_
                  have hkx := HK6.out
                  have hnx := HN6.out
                  rw [List.append_nil] at hkx hnx
                  have HK7 := Lib.hid hkx
                  have HN7 := Lib.hid hnx
                  have HB7 := Lib.hid ((Below.drewH_ HBO.out).trans (HB5.out.mono hws))
                  clear hkx hnx hown5 hnl5 hnw5 hv5
                  (try simp only [Act.put, List.getElem_toArray, List.getElem_cons_zero, List.getElem_cons_succ, List.setIfInBounds_toArray, List.set_cons_zero, List.set_cons_succ])
                  (refine hK.out _ _ ?_ (fun hHeld2 => ?_); (focus ((try dsimp only); all_goals trivial)); (clear hK K); (try simp only [Act.put, List.getElem_toArray, List.getElem_cons_zero, List.getElem_cons_succ, List.setIfInBounds_toArray, List.set_cons_zero, List.set_cons_succ]))
                  (refine wpAnyH_take (i := 11) (v := ?_) rfl (by kernel_rfl) (by kernel_rfl) (by kernel_rfl) (fun _ _ _ h => h) (Or.inl ⟨by rfl, ?_⟩) (by assumption) ?_; rotate_left; (focus (intro wS hSw; (try dsimp only at hSw); go_simp; (try with_reducible rfl))); (try simp only [Act.put, List.getElem_toArray, List.getElem_cons_zero, List.getElem_cons_succ, List.setIfInBounds_toArray, List.set_cons_zero, List.set_cons_succ]))
                  refine wpAnyH_done (by kernel_rfl) ?_ _
                  go_wp2_with fail
                  go_roundw
                  case rel => exact ⟨j + 1, rs, by omega, by rw [← HK.out]; go_num, HLA5.out, HK7.out, HNL.out, HN7.out, HB7.out⟩
                  case measure => simp [intOf]; omega
                · have hpos : 0 < rs5.length := List.length_pos_iff.2 h50
                  obtain ⟨g5, hA5, hg51, hg52, hc5⟩ := hown5.cells hpos
                  subst hA5
                  refine step_append_rowsW (by rfl) _ _ (by rfl) w.heap.size _ rs (by rfl) HLA5.out g5 0 c5 rs5 (by rfl) (fun i hi => by rw [Nat.zero_add]; exact hc5 i hi) (fun r hr => ⟨(hown5.2 r hr).1, (hown5.2 r hr).2.1, fun hn bb off t e he => by
                    have h1 := hnw5 r hr hn bb off t e
                    have h2 := HOL.out bb he
                    have h3 : bb < wo.heap.size := h2.2
                    omega⟩) hpos (by omega) (by omega) ?_
                  intro v6 w6 hown6 hgr6 hat6
                  have HO6 := Lib.hid hown6
                  have HB6 := Lib.hid (((Below.drewH_ HBO.out).trans (HB5.out.mono hws)).trans ((Below.refl w.heap.size w5).grown hgr6 (by omega) (fun g hg => (HOL.out g hg).1)))
                  have hne6 : rs ++ rs5 = [] → v6 = .slice none 0 0 := fun h => absurd (List.append_eq_nil_iff.1 h).2 h50
                  have HE6 := Lib.hid hne6
                  clear hown6 hgr6 hat6 hc5 hown5 hnl5 hnw5 hne6
                  (try simp only [Act.put, List.getElem_toArray, List.getElem_cons_zero, List.getElem_cons_succ, List.setIfInBounds_toArray, List.set_cons_zero, List.set_cons_succ])
                  (refine hK.out _ _ ?_ (fun hHeld2 => ?_); (focus ((try dsimp only); all_goals trivial)); (clear hK K); (try simp only [Act.put, List.getElem_toArray, List.getElem_cons_zero, List.getElem_cons_succ, List.setIfInBounds_toArray, List.set_cons_zero, List.set_cons_succ]))
                  (refine wpAnyH_take (i := 11) (v := ?_) rfl (by kernel_rfl) (by kernel_rfl) (by kernel_rfl) (fun _ _ _ h => h) (Or.inl ⟨by rfl, ?_⟩) (by assumption) ?_; rotate_left; (focus (intro wS hSw; (try dsimp only at hSw); go_simp; (try with_reducible rfl))); (try simp only [Act.put, List.getElem_toArray, List.getElem_cons_zero, List.getElem_cons_succ, List.setIfInBounds_toArray, List.set_cons_zero, List.set_cons_succ]))
                  refine wpAnyH_done (by kernel_rfl) ?_ _
                  go_wp2_with fail
                  go_roundw
                  case rel => exact ⟨j + 1, rs ++ rs5, by omega, by rw [← HK.out]; go_num, HO6.out, HK6.out, HE6.out, HN6.out, HB6.out⟩
                  case measure => simp [intOf]; omega
            · have HSU := Lib.hid (metP_no (f := f) (b := b) hd)
              have hmz : ((n % (j + 2) : Nat) : Int) ≠ 0 := by omega
              generalize n % (j + 2) = m at *
              have hme : ((m : Int) == 0) = false := beq_eq_false_iff_ne.2 hmz
              have hnz2 : (j + 2 = 0) = False := eq_false (by omega)
              generalize hk : j + 2 = k at *
              have HK := Lib.hid hk
              clear hk
              go_wp2_with fail
              go_roundw
              case rel => exact ⟨j + 1, rs, by omega, by rw [← HK.out]; go_num, HLA.out, by rw [HKY.out, HSU.out], HNL.out, HNW.out, HBO.out⟩
              case measure => simp [intOf]; omega
          · have hje : j = 6 := by omega
            subst hje
            go_wp2_with fail
            go_ret
            rw [HGO.out]
            exact ⟨_, rs, rfl, HLA.out, HKY.out, HNL.out, HNW.out, HBO.out⟩

end Go.Proofs.YtjoeglekcnaebaaDoor
