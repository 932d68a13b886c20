/-
  All covers, by the program.
-/
import Derived.Test.YtoofkchhjkhdeaaDoorCovC
import Derived.Laws.EntriesVeiled
namespace Go.Proofs.YtoofkchhjkhdeaaDoor
open Go.RowKit Go.Shelf
set_option linter.unusedVariables false
set_option linter.unusedSimpArgs false

/-- Rows of the call's own that hold the covers. -/
def RetC (w : World) (L : List (List Nat)) (e : Ending) (w' : World) : Prop := ∃ v rs, e = .returned v ∧ OwnW w' w.heap.size v rs ∧ rs.map SV.xs = L.map castN ∧ Below w.heap.size w w'

/-- A box of one cell. -/
def Bx (w : World) (g : Nat) (u : Value) : Prop := g < w.heap.size ∧ w.cell? ⟨g, 0, none⟩ = some u ∧ w.frozen? ⟨g, 0, none⟩ = false
theorem Bx.new (w : World) (u : Value) (t : TypeId) : Bx (w.alloc (.cells #[u] t)) w.heap.size u := ⟨by simp, cell_new1 w u t, by simp [go_sem]⟩
theorem Bx.lift {w w' : World} {g : Nat} {u : Value} (h : Bx w g u) (hb : Below w.heap.size w w') : Bx w' g u :=
  ⟨Nat.lt_of_lt_of_le h.1 hb.size, (hb.cell (p := ⟨g, 0, none⟩) h.1).trans h.2.1, (hb.frozen (p := ⟨g, 0, none⟩) h.1).trans h.2.2⟩
theorem Bx.set {w : World} {g : Nat} {u : Value} (h : Bx w g u) (x : Value) : Bx (w.setCell ⟨g, 0, none⟩ x) g x :=
  ⟨by simpa [World.setCell] using h.1, World.cell?_setCell_same w _ _ h.2.1, by rw [World.frozen?_setCell]; exact h.2.2⟩
theorem Bx.far {w : World} {g : Nat} {u : Value} (h : Bx w g u) {p : Addr} (hp : g ≠ p.block) (x : Value) : Bx (w.setCell p x) g u := by
  have hh : (w.setCell p x).heap[g]? = w.heap[g]? := Below.heap_setCell w p x g hp
  exact ⟨by simpa [World.setCell] using h.1, (World.cell?_of_block (a := ⟨g, 0, none⟩) hh).trans h.2.1, (World.frozen?_of_block (a := ⟨g, 0, none⟩) hh).trans h.2.2⟩
/-- The boxes ahead of the search. -/
structure CovF (w w' : World) (q : Nat) (A : Option Addr) (cap : Nat) (xs : List Int) (n kinds : Nat) : Prop where
  q0 : w.heap.size = q
  b0 : Bx w' q (.slice A xs.length cap)
  b1 : Bx w' (q + 1) (.int .i64 n)
  b2 : Bx w' (q + 2) (.int .i64 kinds)
  below : Below q w w'
theorem CovF.lift {w w' w2 : World} {q : Nat} {A : Option Addr} {cap : Nat} {xs : List Int} {n kinds : Nat} (h : CovF w w' q A cap xs n kinds) (hb : Below w'.heap.size w' w2) : CovF w w2 q A cap xs n kinds :=
  ⟨h.q0, h.b0.lift hb, h.b1.lift hb, h.b2.lift hb, h.below.trans (hb.mono (by have := h.b0.1; omega))⟩

set_option maxRecDepth 100000 in
set_option maxHeartbeats 4000000 in
theorem impl_covers_any (A : Option Addr) (cap : Nat) (xs : List Int) (n : Nat) (w : World) (hA : Ints w w.heap.size A xs) (hp : patB xs = true) (hn : n ≤ 24) (hD : DeB w) :
    Calls Tryd.prog 19 #[.slice A xs.length cap, .int .i64 n] w (RetC w (covN xs n)) := by
  have HA := Lib.hid hA
  have HD := Lib.hid hD
  have HMI := Lib.hid (fun V h => impl_mirrorPattern_ok A cap xs V h hp)
  clear hA hD
  have hF : CovF w (((w.alloc (.cells #[.slice A xs.length cap] 22)).alloc (.cells #[.int .i64 n] 3)).alloc (.cells #[.int .i64 2] 3)) w.heap.size A cap xs n 2 := by
    have h1 := Bx.new w (.slice A xs.length cap) 22
    have h2 := Bx.new (w.alloc (.cells #[.slice A xs.length cap] 22)) (.int .i64 n) 3
    have h3 := Bx.new ((w.alloc (.cells #[.slice A xs.length cap] 22)).alloc (.cells #[.int .i64 n] 3)) (.int .i64 2) 3
    have e1 := fun (V : World) (o : Obj) => (Below.refl V.heap.size V).alloc (Nat.le_refl _) o
    rw [World.size_alloc] at h2 h3
    rw [World.size_alloc] at h3
    exact ⟨rfl, (h1.lift (e1 _ _)).lift (e1 _ _), h2.lift (e1 _ _), h3, (((Below.refl w.heap.size w).alloc (Nat.le_refl _) _).alloc (by simp) _).alloc (by simp; omega) _⟩
  have HF := Lib.hid hF
  clear hF
  go_enter Tryd.func19, Tryd.ntmps19
  go_upto_region 2 with fail
  rw [show w.heap.size + 1 + 1 = w.heap.size + 2 from rfl]
  generalize ((w.alloc (.cells #[.slice A xs.length cap] 22)).alloc (.cells #[.int .i64 n] 3)).alloc (.cells #[.int .i64 2] 3) = V at *
  obtain ⟨q, hq⟩ : ∃ q, w.heap.size = q := ⟨_, rfl⟩
  rw [hq] at HF ⊢
  have hbd := Below.drew5_ (Below.refl V.heap.size V)
  have HF := Lib.hid (HF.out.lift hbd)
  obtain ⟨_, p0, _⟩ := HF.out.b0
  clear hbd
  have HAV := Lib.hid (fun W (h : CovF w W q A cap xs n 2) => show Ints W W.heap.size A xs from (HA.out.below (h.q0 ▸ h.below)).mono (by have := h.below.size; omega))
  have HEQ := Lib.hid (fun A1 c1 W B h1 h2 => equal_intsC A1 A c1 cap (mirL xs) xs W B W.heap.size h1 h2)
  have HML := Lib.hid (mirL_len xs)
  have HMF := Lib.hid (show ∀ x ∈ mirL xs, Fits x from fun x hx => by
      obtain ⟨j, hj, e⟩ := List.mem_iff_getElem.1 hx
      have := pat_in ((pat_all (mir_ok hp)).2 j hj)
      rw [List.getD_eq_getElem?_getD, List.getElem?_eq_getElem hj, Option.getD_some, e] at this
      unfold Fits; omega)
  (refine wp_region_held_drew (S := (fun w' => w'.cell? ⟨q, 0, none⟩ = some (.slice A xs.length cap))) (by kernel_rfl) ?_ (fun hHeld => ?_); (focus ((try dsimp only); exact p0)))
  generalize V.drew = W at *
  ((refine wpAnyH_take (i := 0) (v := ?_) rfl (by kernel_rfl) (by kernel_rfl) (by kernel_rfl) (fun _ _ _ h => h) (Or.inl ⟨by rfl, ?_⟩) (by assumption) ?_; rotate_left; (focus (intro wS hSw; (try dsimp only at hSw); go_simp; (try with_reducible rfl))); (try simp only [Act.put, List.getElem_toArray, List.getElem_cons_zero, List.getElem_cons_succ, List.setIfInBounds_toArray, List.set_cons_zero, List.set_cons_succ])); (refine wpAnyH_take (i := 2) (v := ?_) rfl (by kernel_rfl) (by kernel_rfl) (by kernel_rfl) (fun _ _ _ h => h) (Or.inl ⟨by rfl, ?_⟩) (by assumption) ?_; rotate_left; (focus (intro wS hSw; (try dsimp only at hSw); go_simp; (try with_reducible rfl))); (try simp only [Act.put, List.getElem_toArray, List.getElem_cons_zero, List.getElem_cons_succ, List.setIfInBounds_toArray, List.set_cons_zero, List.set_cons_succ])))
  (refine wpAnyH_ready (rs := [1]) (by kernel_rfl) (by simp) ?_; refine AllReadyH.cons rfl (fun K hK => ?_) AllReadyH.nil; go_simp)
  go_at_call 30
  refine (HMI.out W (HAV.out W HF.out)).mono ?_
  rintro e w1 ⟨v1, rfl, hown, hb⟩
  obtain ⟨A1, c1, rfl⟩ := hown.form
  have HF := Lib.hid (HF.out.lift hb)
  have HI1 := Lib.hid (hown.ints HMF.out)
  clear hown hb p0
  obtain ⟨_, p0, _⟩ := HF.out.b0
  go_wp2_with fail
  (refine hK.out _ _ ?_ (fun hHeld2 => ?_); (focus ((try dsimp only); exact p0)); (clear hK K); (try simp only [Act.put, List.getElem_toArray, List.getElem_cons_zero, List.getElem_cons_succ, List.setIfInBounds_toArray, List.set_cons_zero, List.set_cons_succ]))
  (refine wpAnyH_ready (rs := [3]) (by kernel_rfl) (by simp) ?_; refine AllReadyH.cons rfl (fun K hK => ?_) AllReadyH.nil; go_simp)
  go_at_call 29
  refine (HEQ.out A1 c1 w1 w1.heap.size HI1.out (HAV.out w1 HF.out)).mono ?_
  rintro e w2 ⟨rfl, z, rfl⟩
  have HF := Lib.hid (HF.out.lift (Below.drewN_ (Below.refl w1.heap.size w1) z))
  clear p0
  obtain ⟨_, p0, _⟩ := HF.out.b0
  generalize w1.drewN z = w2 at *
  go_wp2_with fail
  (refine hK.out _ _ ?_ (fun hHeld2 => ?_); (focus ((try dsimp only); exact p0)); (clear hK K); (try simp only [Act.put, List.getElem_toArray, List.getElem_cons_zero, List.getElem_cons_succ, List.setIfInBounds_toArray, List.set_cons_zero, List.set_cons_succ]))
  refine wpAnyH_done (by kernel_rfl) ?_ _
  obtain ⟨k0, k1, k2⟩ := HF.out.b2
  by_cases hsame : mirL xs = xs
  · have hdd : decide (mirL xs = xs) = true := decide_eq_true hsame
    have HKD := Lib.hid (show 1 = (if mirL xs = xs then 1 else 2) from (if_pos hsame).symm)
    rw [hdd]
    clear hsame hdd
    go_upto_region 4 with fail
    have HF := Lib.hid (show CovF w (w2.setCell ⟨q + 2, 0, none⟩ (.int .i64 1)) q A cap xs n 1 from ⟨HF.out.q0, HF.out.b0.far (by simp) _, HF.out.b1.far (by simp) _, HF.out.b2.set _, HF.out.below.setCell (by simp) _⟩)
    clear p0 k0 k1 k2
    generalize w2.setCell ⟨q + 2, 0, none⟩ (.int .i64 1) = w3 at *
    go_upto_region 6 with fail
    have hb1 := (Below.refl w3.heap.size w3).alloc (Nat.le_refl _) (.cells #[.slice none 0 0] 31)
    have hb2 := (Below.refl (w3.alloc (.cells #[.slice none 0 0] 31)).heap.size (w3.alloc (.cells #[.slice none 0 0] 31))).alloc (Nat.le_refl _) (.cells #[.nilFunc] 42)
    have ho := (Bx.new w3 (.slice none 0 0) 31).lift hb2
    have hx := Bx.new (w3.alloc (.cells #[.slice none 0 0] 31)) .nilFunc 42
    rw [World.size_alloc] at hx
    have HFQ := HF
    have HF := Lib.hid ((HF.out.lift hb1).lift hb2)
    have HQ3 := Lib.hid (show q + 2 < w3.heap.size from HFQ.out.b2.1)
    have hz4 : ((w3.alloc (.cells #[.slice none 0 0] 31)).alloc (.cells #[.nilFunc] 42)).heap.size = w3.heap.size + 2 := by simp
    generalize (w3.alloc (.cells #[.slice none 0 0] 31)).alloc (.cells #[.nilFunc] 42) = w4 at *
    obtain ⟨qo, hqo⟩ : ∃ g, w3.heap.size = g := ⟨_, rfl⟩
    rw [hqo] at ho hx HQ3 hz4 ⊢
    have HZ4 := Lib.hid hz4
    clear hb1 hb2 hz4 hqo
    obtain ⟨x0, x1, x2⟩ := hx
    go_upto_region 7 with fail
    have HX := Lib.hid ((show Bx w4 (qo + 1) .nilFunc from ⟨x0, x1, x2⟩).set (.func (.func 31) #[] #[.pointer (some ⟨q + 1, 0, none⟩), .pointer (some ⟨qo, 0, none⟩), .pointer (some ⟨q + 2, 0, none⟩), .pointer (some ⟨q, 0, none⟩), .pointer (some ⟨qo + 1, 0, none⟩)]))
    have HO := Lib.hid (ho.far (p := ⟨qo + 1, 0, none⟩) (by simp) (.func (.func 31) #[] #[.pointer (some ⟨q + 1, 0, none⟩), .pointer (some ⟨qo, 0, none⟩), .pointer (some ⟨q + 2, 0, none⟩), .pointer (some ⟨q, 0, none⟩), .pointer (some ⟨qo + 1, 0, none⟩)]))
    have HF := Lib.hid (show CovF w (w4.setCell ⟨qo + 1, 0, none⟩ (.func (.func 31) #[] #[.pointer (some ⟨q + 1, 0, none⟩), .pointer (some ⟨qo, 0, none⟩), .pointer (some ⟨q + 2, 0, none⟩), .pointer (some ⟨q, 0, none⟩), .pointer (some ⟨qo + 1, 0, none⟩)])) q A cap xs n 1 from by
      have hq3 := HQ3.out
      exact ⟨HF.out.q0, HF.out.b0.far (by simp; omega) _, HF.out.b1.far (by simp; omega) _, HF.out.b2.far (by simp; omega) _, HF.out.below.setCell (by simp; omega) _⟩)
    have HZ5 := Lib.hid (show (w4.setCell ⟨qo + 1, 0, none⟩ (.func (.func 31) #[] #[.pointer (some ⟨q + 1, 0, none⟩), .pointer (some ⟨qo, 0, none⟩), .pointer (some ⟨q + 2, 0, none⟩), .pointer (some ⟨q, 0, none⟩), .pointer (some ⟨qo + 1, 0, none⟩)])).heap.size = qo + 2 from by rw [← HZ4.out]; simp [World.setCell])
    generalize w4.setCell ⟨qo + 1, 0, none⟩ (.func (.func 31) #[] #[.pointer (some ⟨q + 1, 0, none⟩), .pointer (some ⟨qo, 0, none⟩), .pointer (some ⟨q + 2, 0, none⟩), .pointer (some ⟨q, 0, none⟩), .pointer (some ⟨qo + 1, 0, none⟩)]) = w5 at *
    clear x0 x1 x2 ho
    have HE := Lib.hid (show CovE w5 (qo + 2) (q + 1) qo (q + 2) q (qo + 1) A cap xs n 1 from by
      have hq3 := HQ3.out
      have hqw := HF.out.q0
      have hA := HA.out
      have hD := HD.out
      have hb : Below w.heap.size w w5 := hqw ▸ HF.out.below
      exact ⟨by omega, by omega, by omega, by omega, by omega, by omega, by omega, by omega, by omega, HF.out.b1.2.1, HF.out.b2.2.1, HF.out.b0.2.1, HX.out.2.1, (hA.below hb).mono (by omega), hD.below hb, by have := hD.1; omega, by have := HZ5.out; omega⟩)
    have HOC := Lib.hid (show OutC w5 (qo + 2) qo (.slice none 0 0) [] (Value.slice none 0 0).ownBlock from ⟨HO.out.2.1, HO.out.2.2, OwnW.nil _ _, (fun g e => by cases e), (fun r hr => by cases hr), by omega, by have := HZ5.out; omega⟩)
    obtain ⟨_, x1, _⟩ := HX.out
    go_wp2_with fail
    refine (impl_covers1_any A cap xs n 1 (qo + 2) (q + 1) qo (q + 2) q (qo + 1) hp hn HKD.out (n + 1) 0 0 0 [] (.slice none 0 0) (.slice none 0 0) [] w5 (by omega) (by omega) (Nat.two_pow_pos _) (TS.zero 0) (by simp; omega) (fun x hx => by cases hx) (by have : 2 ^ (n + 1) ≤ 2 ^ 25 := Nat.pow_le_pow_right (by decide) (by omega); simp; omega) (OwnI.nil _ _) HE.out HOC.out).mono ?_
    rintro e w6 ⟨rfl, hR⟩
    obtain ⟨vo, new, hO6, hk6, hv6, hn6, _, hF6⟩ := hR
    obtain ⟨Ao, co, rfl⟩ := hO6.own.form
    rw [List.nil_append] at hO6
    have HO6 := Lib.hid hO6
    have HK6 := Lib.hid (show new.map SV.xs = (covN xs n).map castN from by rw [hk6]; exact List.map_congr_left fun s _ => by rw [List.nil_append])
    have HB6 := Lib.hid (show Below w.heap.size w w6 from by
      have hq3 := HQ3.out
      have hqw := HF.out.q0
      have hz5 := HZ5.out
      have hb : Below w.heap.size w w5 := hqw ▸ HF.out.below
      refine hb.trans (hF6.below (fun c h => ?_) (by omega))
      rcases h with h | h | h
      · omega
      · cases h
      · cases h)
    have hco := hO6.cell
    clear hO6 hk6 hv6 hn6 hF6 x1
    go_wp2_with fail
    go_ret
    exact ⟨_, new, rfl, HO6.out.own.mono (by have := HQ3.out; have := HF.out.q0; omega), HK6.out, HB6.out⟩
  · have hdd : decide (mirL xs = xs) = false := decide_eq_false hsame
    have HKD := Lib.hid (show 2 = (if mirL xs = xs then 1 else 2) from (if_neg hsame).symm)
    rw [hdd]
    clear hsame hdd
    go_upto_region 4 with fail
    clear p0 k0 k1 k2
    generalize w2 = w3 at *
    go_upto_region 6 with fail
    have hb1 := (Below.refl w3.heap.size w3).alloc (Nat.le_refl _) (.cells #[.slice none 0 0] 31)
    have hb2 := (Below.refl (w3.alloc (.cells #[.slice none 0 0] 31)).heap.size (w3.alloc (.cells #[.slice none 0 0] 31))).alloc (Nat.le_refl _) (.cells #[.nilFunc] 42)
    have ho := (Bx.new w3 (.slice none 0 0) 31).lift hb2
    have hx := Bx.new (w3.alloc (.cells #[.slice none 0 0] 31)) .nilFunc 42
    rw [World.size_alloc] at hx
    have HFQ := HF
    have HF := Lib.hid ((HF.out.lift hb1).lift hb2)
    have HQ3 := Lib.hid (show q + 2 < w3.heap.size from HFQ.out.b2.1)
    have hz4 : ((w3.alloc (.cells #[.slice none 0 0] 31)).alloc (.cells #[.nilFunc] 42)).heap.size = w3.heap.size + 2 := by simp
    generalize (w3.alloc (.cells #[.slice none 0 0] 31)).alloc (.cells #[.nilFunc] 42) = w4 at *
    obtain ⟨qo, hqo⟩ : ∃ g, w3.heap.size = g := ⟨_, rfl⟩
    rw [hqo] at ho hx HQ3 hz4 ⊢
    have HZ4 := Lib.hid hz4
    clear hb1 hb2 hz4 hqo
    obtain ⟨x0, x1, x2⟩ := hx
    go_upto_region 7 with fail
    have HX := Lib.hid ((show Bx w4 (qo + 1) .nilFunc from ⟨x0, x1, x2⟩).set (.func (.func 31) #[] #[.pointer (some ⟨q + 1, 0, none⟩), .pointer (some ⟨qo, 0, none⟩), .pointer (some ⟨q + 2, 0, none⟩), .pointer (some ⟨q, 0, none⟩), .pointer (some ⟨qo + 1, 0, none⟩)]))
    have HO := Lib.hid (ho.far (p := ⟨qo + 1, 0, none⟩) (by simp) (.func (.func 31) #[] #[.pointer (some ⟨q + 1, 0, none⟩), .pointer (some ⟨qo, 0, none⟩), .pointer (some ⟨q + 2, 0, none⟩), .pointer (some ⟨q, 0, none⟩), .pointer (some ⟨qo + 1, 0, none⟩)]))
    have HF := Lib.hid (show CovF w (w4.setCell ⟨qo + 1, 0, none⟩ (.func (.func 31) #[] #[.pointer (some ⟨q + 1, 0, none⟩), .pointer (some ⟨qo, 0, none⟩), .pointer (some ⟨q + 2, 0, none⟩), .pointer (some ⟨q, 0, none⟩), .pointer (some ⟨qo + 1, 0, none⟩)])) q A cap xs n 2 from by
      have hq3 := HQ3.out
      exact ⟨HF.out.q0, HF.out.b0.far (by simp; omega) _, HF.out.b1.far (by simp; omega) _, HF.out.b2.far (by simp; omega) _, HF.out.below.setCell (by simp; omega) _⟩)
    have HZ5 := Lib.hid (show (w4.setCell ⟨qo + 1, 0, none⟩ (.func (.func 31) #[] #[.pointer (some ⟨q + 1, 0, none⟩), .pointer (some ⟨qo, 0, none⟩), .pointer (some ⟨q + 2, 0, none⟩), .pointer (some ⟨q, 0, none⟩), .pointer (some ⟨qo + 1, 0, none⟩)])).heap.size = qo + 2 from by rw [← HZ4.out]; simp [World.setCell])
    generalize w4.setCell ⟨qo + 1, 0, none⟩ (.func (.func 31) #[] #[.pointer (some ⟨q + 1, 0, none⟩), .pointer (some ⟨qo, 0, none⟩), .pointer (some ⟨q + 2, 0, none⟩), .pointer (some ⟨q, 0, none⟩), .pointer (some ⟨qo + 1, 0, none⟩)]) = w5 at *
    clear x0 x1 x2 ho
    have HE := Lib.hid (show CovE w5 (qo + 2) (q + 1) qo (q + 2) q (qo + 1) A cap xs n 2 from by
      have hq3 := HQ3.out
      have hqw := HF.out.q0
      have hA := HA.out
      have hD := HD.out
      have hb : Below w.heap.size w w5 := hqw ▸ HF.out.below
      exact ⟨by omega, by omega, by omega, by omega, by omega, by omega, by omega, by omega, by omega, HF.out.b1.2.1, HF.out.b2.2.1, HF.out.b0.2.1, HX.out.2.1, (hA.below hb).mono (by omega), hD.below hb, by have := hD.1; omega, by have := HZ5.out; omega⟩)
    have HOC := Lib.hid (show OutC w5 (qo + 2) qo (.slice none 0 0) [] (Value.slice none 0 0).ownBlock from ⟨HO.out.2.1, HO.out.2.2, OwnW.nil _ _, (fun g e => by cases e), (fun r hr => by cases hr), by omega, by have := HZ5.out; omega⟩)
    obtain ⟨_, x1, _⟩ := HX.out
    go_wp2_with fail
    refine (impl_covers1_any A cap xs n 2 (qo + 2) (q + 1) qo (q + 2) q (qo + 1) hp hn HKD.out (n + 1) 0 0 0 [] (.slice none 0 0) (.slice none 0 0) [] w5 (by omega) (by omega) (Nat.two_pow_pos _) (TS.zero 0) (by simp; omega) (fun x hx => by cases hx) (by have : 2 ^ (n + 1) ≤ 2 ^ 25 := Nat.pow_le_pow_right (by decide) (by omega); simp; omega) (OwnI.nil _ _) HE.out HOC.out).mono ?_
    rintro e w6 ⟨rfl, hR⟩
    obtain ⟨vo, new, hO6, hk6, hv6, hn6, _, hF6⟩ := hR
    obtain ⟨Ao, co, rfl⟩ := hO6.own.form
    rw [List.nil_append] at hO6
    have HO6 := Lib.hid hO6
    have HK6 := Lib.hid (show new.map SV.xs = (covN xs n).map castN from by rw [hk6]; exact List.map_congr_left fun s _ => by rw [List.nil_append])
    have HB6 := Lib.hid (show Below w.heap.size w w6 from by
      have hq3 := HQ3.out
      have hqw := HF.out.q0
      have hz5 := HZ5.out
      have hb : Below w.heap.size w w5 := hqw ▸ HF.out.below
      refine hb.trans (hF6.below (fun c h => ?_) (by omega))
      rcases h with h | h | h
      · omega
      · cases h
      · cases h)
    have hco := hO6.cell
    clear hO6 hk6 hv6 hn6 hF6 x1
    go_wp2_with fail
    go_ret
    exact ⟨_, new, rfl, HO6.out.own.mono (by have := HQ3.out; have := HF.out.q0; omega), HK6.out, HB6.out⟩
end Go.Proofs.YtoofkchhjkhdeaaDoor
