/-
  The laws' marks on slices of rhythms; equality of two that hold the same.
-/
import Derived.Test.YtjegomgpldpmpaaRhs
import Derived.Test.YtjegomgpldpmpaaMark
namespace Go.Proofs.Ytjegomgpldpmpaa
open Go.RowKit
set_option linter.unusedVariables false
set_option linter.unusedSimpArgs false

theorem keyR_get {rs ss : List RV} (h : keyR rs = keyR ss) : rs.length = ss.length ∧ ∀ i (h1 : i < rs.length) (h2 : i < ss.length), rs[i].n = ss[i].n ∧ rs[i].xs = ss[i].xs := by
  have hl : rs.length = ss.length := by simpa [keyR] using congrArg List.length h
  refine ⟨hl, fun i h1 h2 => ?_⟩
  have := congrArg (fun l => l[i]?) h
  simp only [keyR, List.getElem?_map, List.getElem?_eq_getElem h1, List.getElem?_eq_getElem h2, Option.map_some, Option.some.injEq, Prod.mk.injEq] at this
  exact this

set_option maxRecDepth 100000 in
set_option maxHeartbeats 1000000 in
theorem eqRhythmS_same (rs ss : List RV) (A1 A2 : Option Addr) (c1 c2 : Nat) (w : World) (h1 : RdR w w.heap.size A1 rs) (h2 : RdR w w.heap.size A2 ss) (hk : keyR rs = keyR ss) :
    Calls Try.prog 9 #[.slice A1 rs.length c1, .slice A2 ss.length c2] w fun e w' => e = .returned (.bool true) ∧ Below w.heap.size w w' := by
  obtain ⟨hlen, hkey⟩ := keyR_get hk
  have hl := h1.1
  have HA := Lib.hid h1
  have HB := Lib.hid h2
  have HK := Lib.hid hkey
  rw [← hlen]
  have HL := Lib.hid hlen
  clear h1 h2 hk hkey hlen
  go_enter Try.func9, Try.ntmps9
  go_wp2
  go_loopw [5] (fun i wr => ∃ k : Nat, k ≤ rs.length ∧ i = .int .i64 k ∧ Below w.heap.size w wr) (fun i _ => rs.length - (intOf i).toNat)
  case atStart => exact ⟨0, Nat.zero_le _, rfl, Below.refl _ _⟩
  case round =>
    obtain ⟨k, hk, rfl, hbel⟩ := hrel
    obtain ⟨wo, rfl⟩ : ∃ wo : World, wo = wr := ⟨_, rfl⟩
    have HBE := Lib.hid hbel
    by_cases hlt : k < rs.length
    · have hlt2 : k < ss.length := by have := HL.out; omega
      obtain ⟨g1, rfl, hg1, hc1⟩ := HA.out.2.2 (by omega)
      obtain ⟨g2, rfl, hg2, hc2⟩ := HB.out.2.2 (by omega)
      have a0 := (hbel.cell (p := ⟨g1, k * 2, none⟩) hg1).trans (hc1 k hlt).1
      have a1 := (hbel.cell (p := ⟨g1, k * 2 + 1, none⟩) hg1).trans (hc1 k hlt).2
      have b0 := (hbel.cell (p := ⟨g2, k * 2, none⟩) hg2).trans (hc2 k hlt2).1
      have b1 := (hbel.cell (p := ⟨g2, k * 2 + 1, none⟩) hg2).trans (hc2 k hlt2).2
      have hI1 := ((HA.out.2.1 _ (List.getElem_mem hlt)).below hbel).mono hbel.size
      have hI2 := ((HB.out.2.1 _ (List.getElem_mem hlt2)).below hbel).mono hbel.size
      obtain ⟨e1, e2⟩ := HK.out k hlt hlt2
      unfold RV.slc at a1 b1
      rw [← e1] at b0
      rw [← e2] at b1 hI2
      obtain ⟨n, hn⟩ : ∃ n, rs[k].n = n := ⟨_, rfl⟩
      obtain ⟨xs, hxs⟩ : ∃ xs, rs[k].xs = xs := ⟨_, rfl⟩
      rw [hn] at a0 b0
      rw [hxs] at a1 b1 hI1 hI2
      generalize rs[k].A = Ax at a1 hI1
      generalize rs[k].c = cx at a1
      generalize ss[k].A = Ay at b1 hI2
      generalize ss[k].c = cy at b1
      have HI1 := Lib.hid hI1
      have HI2 := Lib.hid hI2
      have he := eqB_self xs
      have hk0 : (0 : Int) ≤ (k : Int) := Int.natCast_nonneg _
      have hk1 : (k : Int) < (rs.length : Int) := by omega
      clear hc1 hc2 hI1 hI2 e1 e2 hn hxs hbel
      go_wp2_with fail
      (refine wp_region_held_drew (S := (fun w' => w'.cell? ⟨g1, k * 2, none⟩ = some (.int .i64 n) ∧ w'.cell? ⟨g1, k * 2 + 1, none⟩ = some (.slice Ax xs.length cx) ∧ w'.cell? ⟨g2, k * 2, none⟩ = some (.int .i64 n) ∧ w'.cell? ⟨g2, k * 2 + 1, none⟩ = some (.slice Ay xs.length cy))) (by kernel_rfl) ?_ (fun hHeld => ?_); (focus ((try dsimp only); exact ⟨a0, a1, b0, b1⟩)))
      (refine wpAnyH_take (i := 0) (v := ?_) rfl (by kernel_rfl) (by kernel_rfl) (by kernel_rfl) (fun _ _ _ h => h) (Or.inl ⟨by rfl, ?_⟩) (by assumption) ?_; rotate_left; (focus (intro wS hSw; (try dsimp only at hSw); go_simp; (try with_reducible rfl))); (try simp only [Act.put, List.getElem_toArray, List.getElem_cons_zero, List.getElem_cons_succ, List.setIfInBounds_toArray, List.set_cons_zero, List.set_cons_succ]))
      (refine wpAnyH_take (i := 1) (v := ?_) rfl (by kernel_rfl) (by kernel_rfl) (by kernel_rfl) (fun _ _ _ h => h) (Or.inl ⟨by rfl, ?_⟩) (by assumption) ?_; rotate_left; (focus (intro wS hSw; (try dsimp only at hSw); go_simp; (try with_reducible rfl))); (try simp only [Act.put, List.getElem_toArray, List.getElem_cons_zero, List.getElem_cons_succ, List.setIfInBounds_toArray, List.set_cons_zero, List.set_cons_succ]))
      (refine wpAnyH_take (i := 2) (v := ?_) rfl (by kernel_rfl) (by kernel_rfl) (by kernel_rfl) (fun _ _ _ h => h) (Or.inl ⟨by rfl, ?_⟩) (by assumption) ?_; rotate_left; (focus (intro wS hSw; (try dsimp only at hSw); go_simp; (try with_reducible rfl))); (try simp only [Act.put, List.getElem_toArray, List.getElem_cons_zero, List.getElem_cons_succ, List.setIfInBounds_toArray, List.set_cons_zero, List.set_cons_succ]))
      (refine wpAnyH_take (i := 3) (v := ?_) rfl (by kernel_rfl) (by kernel_rfl) (by kernel_rfl) (fun _ _ _ h => h) (Or.inl ⟨by rfl, ?_⟩) (by assumption) ?_; rotate_left; (focus (intro wS hSw; (try dsimp only at hSw); go_simp; (try with_reducible rfl))); (try simp only [Act.put, List.getElem_toArray, List.getElem_cons_zero, List.getElem_cons_succ, List.setIfInBounds_toArray, List.set_cons_zero, List.set_cons_succ]))
      (refine wpAnyH_take (i := 4) (v := ?_) rfl (by kernel_rfl) (by kernel_rfl) (by kernel_rfl) (fun _ _ _ h => h) (Or.inl ⟨by rfl, ?_⟩) (by assumption) ?_; rotate_left; (focus (intro wS hSw; (try dsimp only at hSw); go_simp; (try with_reducible rfl))); (try simp only [Act.put, List.getElem_toArray, List.getElem_cons_zero, List.getElem_cons_succ, List.setIfInBounds_toArray, List.set_cons_zero, List.set_cons_succ]))
      (refine wpAnyH_take (i := 5) (v := ?_) rfl (by kernel_rfl) (by kernel_rfl) (by kernel_rfl) (fun _ _ _ h => h) (Or.inl ⟨by rfl, ?_⟩) (by assumption) ?_; rotate_left; (focus (intro wS hSw; (try dsimp only at hSw); go_simp; (try with_reducible rfl))); (try simp only [Act.put, List.getElem_toArray, List.getElem_cons_zero, List.getElem_cons_succ, List.setIfInBounds_toArray, List.set_cons_zero, List.set_cons_succ]))
      (refine wpAnyH_take (i := 6) (v := ?_) rfl (by kernel_rfl) (by kernel_rfl) (by kernel_rfl) (fun _ _ _ h => h) (Or.inl ⟨by rfl, ?_⟩) (by assumption) ?_; rotate_left; (focus (intro wS hSw; (try dsimp only at hSw); go_simp; (try with_reducible rfl))); (try simp only [Act.put, List.getElem_toArray, List.getElem_cons_zero, List.getElem_cons_succ, List.setIfInBounds_toArray, List.set_cons_zero, List.set_cons_succ]))
      (refine wpAnyH_take (i := 7) (v := ?_) rfl (by kernel_rfl) (by kernel_rfl) (by kernel_rfl) (fun _ _ _ h => h) (Or.inl ⟨by rfl, ?_⟩) (by assumption) ?_; rotate_left; (focus (intro wS hSw; (try dsimp only at hSw); go_simp; (try with_reducible rfl))); (try simp only [Act.put, List.getElem_toArray, List.getElem_cons_zero, List.getElem_cons_succ, List.setIfInBounds_toArray, List.set_cons_zero, List.set_cons_succ]))
      (refine wpAnyH_ready (rs := [8]) (by kernel_rfl) (by simp) ?_; refine AllReadyH.cons rfl (fun K hK => ?_) AllReadyH.nil; go_simp)
      go_at_call 10
      refine (eqRhythm_any n n _ _ _ _ xs xs _ HI1.out.drew6_ HI2.out.drew6_).mono ?_
      rintro e w1 ⟨rfl, hb⟩
      have HB1 := Lib.hid ((Below.drew5_ HBE.out).trans (hb.mono (show w.heap.size ≤ wo.drew.heap.size from HBE.out.size)))
      have hg1' : g1 < wo.drew.heap.size := Nat.lt_of_lt_of_le hg1 HBE.out.size
      have hg2' : g2 < wo.drew.heap.size := Nat.lt_of_lt_of_le hg2 HBE.out.size
      have a0' := (hb.cell (p := ⟨g1, k * 2, none⟩) hg1').trans a0
      have a1' := (hb.cell (p := ⟨g1, k * 2 + 1, none⟩) hg1').trans a1
      have b0' := (hb.cell (p := ⟨g2, k * 2, none⟩) hg2').trans b0
      have b1' := (hb.cell (p := ⟨g2, k * 2 + 1, none⟩) hg2').trans b1
      clear hb a0 a1 b0 b1
      go_wp2_with fail
      (refine hK.out _ _ ?_ (fun hHeld2 => ?_); (focus ((try dsimp only); exact ⟨a0', a1', b0', b1'⟩)); (clear hK K); (try simp only [Act.put, List.getElem_toArray, List.getElem_cons_zero, List.getElem_cons_succ, List.setIfInBounds_toArray, List.set_cons_zero, List.set_cons_succ]))
      (refine wpAnyH_take (i := 9) (v := ?_) rfl (by kernel_rfl) (by kernel_rfl) (by kernel_rfl) (fun _ _ _ h => h) (Or.inl ⟨by rfl, ?_⟩) (by assumption) ?_; rotate_left; (focus (intro wS hSw; (try dsimp only at hSw); go_simp; (try with_reducible rfl))); (try simp only [Act.put, List.getElem_toArray, List.getElem_cons_zero, List.getElem_cons_succ, List.setIfInBounds_toArray, List.set_cons_zero, List.set_cons_succ]))
      refine wpAnyH_done (by kernel_rfl) ?_ _
      clear a0' a1' b0' b1'
      go_wp2_with fail
      go_roundw
      case rel => exact ⟨k + 1, by omega, by go_num, HB1.out⟩
      case measure => simp [intOf]; omega
    · go_wp2
      go_ret
      exact ⟨rfl, HBE.out⟩

/-- The mark that rhythm i gets. -/
def kAt (k : Int) (rs : List RV) : Nat → Int
  | 0 => k
  | i + 1 => kAt k rs i + 1 + ((rs.getD i default).xs.length : Int)
theorem kAt_succ {k : Int} {rs : List RV} {i : Nat} (h : i < rs.length) : kAt k rs (i + 1) = kAt k rs i + 1 + (rs[i].xs.length : Int) := by
  show kAt k rs i + 1 + ((rs.getD i default).xs.length : Int) = _
  rw [List.getD_eq_getElem?_getD, List.getElem?_eq_getElem h]
  rfl
theorem kAt_le {k : Int} {rs : List RV} (hl : ∀ r ∈ rs, r.xs.length ≤ 1048576) : ∀ i, i ≤ rs.length → k ≤ kAt k rs i ∧ kAt k rs i ≤ k + i * 1048577
  | 0, _ => ⟨Int.le_refl _, by simp [kAt]⟩
  | i + 1, h => by
    have ih := kAt_le (k := k) hl i (by omega)
    rw [kAt_succ (by omega : i < rs.length)]
    have := hl rs[i] (List.getElem_mem _)
    omega

/-- A list of rhythms in block g, each one's beats in a block of their own, all between base and top. -/
def GridR (w : World) (g : Nat) (rs : List RV) (base top : Nat) (N : Nat → Int) (F : Nat → Nat → Value) : Prop :=
  (base ≤ g ∧ g < top ∧ g < w.heap.size) ∧ ∀ i (h : i < rs.length),
    (w.cell? ⟨g, i * 2, none⟩ = some (.int .i64 (N i)) ∧ w.frozen? ⟨g, i * 2, none⟩ = false ∧ w.cell? ⟨g, i * 2 + 1, none⟩ = some rs[i].slc) ∧
    (g ≠ rs[i].b ∧ base ≤ rs[i].b ∧ rs[i].b < top ∧ rs[i].b < w.heap.size) ∧
    (0 < rs[i].xs.length → rs[i].A = some ⟨rs[i].b, 0, none⟩ ∧ TabV w rs[i].b rs[i].xs.length (F i))
section
variable {w w' : World} {g base top : Nat} {rs : List RV} {N N' : Nat → Int} {F F' : Nat → Nat → Value}
theorem GridR.frm {S : Nat → Prop} (h : GridR w g rs base top N F) (hf : Frm S w w') (hS : ∀ c, base ≤ c → c < top → ¬ S c) : GridR w' g rs base top N F := by
  obtain ⟨⟨h1, h2, h3⟩, h4⟩ := h
  refine ⟨⟨h1, h2, Nat.lt_of_lt_of_le h3 hf.size⟩, fun i hi => ?_⟩
  obtain ⟨⟨a, b, c⟩, ⟨d, e, f, e2⟩, k⟩ := h4 i hi
  have hg := hS g h1 h2
  exact ⟨⟨(hf.cell h3 hg).trans a, (hf.frozen h3 hg).trans b, (hf.cell h3 hg).trans c⟩, ⟨d, e, f, Nat.lt_of_lt_of_le e2 hf.size⟩, fun hn => ⟨(k hn).1, (k hn).2.frm hf (hS _ e f)⟩⟩
theorem GridR.congr (h : GridR w g rs base top N F) (hN : ∀ i, i < rs.length → N i = N' i) (hF : ∀ i (_ : i < rs.length) t, t < rs[i].xs.length → F i t = F' i t) : GridR w g rs base top N' F' := by
  refine ⟨h.1, fun i hi => ?_⟩
  obtain ⟨⟨a, b, c⟩, d, k⟩ := h.2 i hi
  exact ⟨⟨by rw [← hN i hi]; exact a, b, c⟩, d, fun hn => ⟨(k hn).1, (k hn).2.congr (fun t ht => hF i hi t ht)⟩⟩
theorem GridR.setN (h : GridR w g rs base top N F) (j : Nat) (hj : j < rs.length) (u : Int) : GridR (w.setCell ⟨g, j * 2, none⟩ (.int .i64 u)) g rs base top (fun i => if i = j then u else N i) F := by
  obtain ⟨⟨h1, h2, h3⟩, h4⟩ := h
  have hsz : (w.setCell ⟨g, j * 2, none⟩ (.int .i64 u)).heap.size = w.heap.size := by simp [World.setCell]
  refine ⟨⟨h1, h2, by rw [hsz]; exact h3⟩, fun i hi => ?_⟩
  obtain ⟨⟨a, b, c⟩, ⟨d, e, f, e2⟩, k⟩ := h4 i hi
  refine ⟨⟨?_, by rw [World.frozen?_setCell]; exact b, ?_⟩, ⟨d, e, f, by rw [hsz]; exact e2⟩, fun hn => ⟨(k hn).1, ?_⟩⟩
  · by_cases hij : i = j
    · subst hij
      rw [World.cell?_setCell_same w _ _ a]; simp
    · rw [World.cell?_setCell_other w _ _ _ (fun q => hij (by injection q; omega)), a]; simp [hij]
  · rw [World.cell?_setCell_other w _ _ _ (fun q => by injection q; omega), c]
  · exact (k hn).2.frm (S := fun c => c = g) (Frm.setCell (S := fun c => c = g) (p := ⟨g, j * 2, none⟩) (Frm.refl _ w) rfl _) (fun e => d e.symm)
theorem GridR.setF (h : GridR w g rs base top N F) (hd : ∀ i j (hi : i < rs.length) (hj : j < rs.length), i ≠ j → rs[i].b ≠ rs[j].b) (j : Nat) (hj : j < rs.length) {b : Nat} (hb : rs[j].b = b) (hf : Frm (Rng b (b + 1)) w w') {G : Nat → Value} (hh : HeldV w' rs[j].A rs[j].xs.length G b (b + 1)) :
    GridR w' g rs base top N (fun i => if i = j then G else F i) := by
  subst hb
  obtain ⟨⟨h1, h2, h3⟩, h4⟩ := h
  refine ⟨⟨h1, h2, Nat.lt_of_lt_of_le h3 hf.size⟩, fun i hi => ?_⟩
  obtain ⟨⟨a, b, c⟩, ⟨d, e, f, e2⟩, k⟩ := h4 i hi
  have hg : ¬ Rng rs[j].b (rs[j].b + 1) g := fun q => by have := (h4 j hj).2.1.1; unfold Rng at q; omega
  refine ⟨⟨(hf.cell h3 hg).trans a, (hf.frozen h3 hg).trans b, (hf.cell h3 hg).trans c⟩, ⟨d, e, f, Nat.lt_of_lt_of_le e2 hf.size⟩, fun hn => ⟨(k hn).1, ?_⟩⟩
  by_cases hij : i = j
  · subst hij
    obtain ⟨b2, e3, h5, h6, ht⟩ := hh hn
    have : b2 = rs[i].b := by omega
    subst this
    simpa using ht
  · have := (k hn).2.frm hf (fun q => by have := hd i j hi hj hij; unfold Rng at q; omega)
    simpa [hij] using this
end

set_option maxRecDepth 100000 in
set_option maxHeartbeats 1000000 in
theorem markRhythmS_any (g cap : Nat) (rs : List RV) (k : Int) (base top : Nat) (N0 : Nat → Int) (F0 : Nat → Nat → Value) (w : World) (hN : rs.length ≤ 65536) (hl : ∀ r ∈ rs, r.xs.length ≤ 1048576) (hd : ∀ i j (hi : i < rs.length) (hj : j < rs.length), i ≠ j → rs[i].b ≠ rs[j].b)
    (hA : GridR w g rs base top N0 F0) (hk0 : 0 ≤ k) (hk1 : k ≤ 1000) :
    Calls Try.prog 12 #[.slice (some ⟨g, 0, none⟩) rs.length cap, .int .i64 k] w fun e w' => e = .returned (.int .i64 (kAt k rs rs.length)) ∧ GridR w' g rs base top (kAt k rs) (fun i t => .int .i64 (kAt k rs i + 1 + t)) ∧ Frm (Rng base top) w w' := by
  have HA := Lib.hid hA
  have HD := Lib.hid hd
  have HL := Lib.hid hl
  have HKL := Lib.hid (kAt_le (k := k) hl)
  clear hA hd hl
  go_enter Try.func12, Try.ntmps12
  go_wp2
  go_loopw [1, 5] (fun kk i wr => ∃ j : Nat, j ≤ rs.length ∧ i = .int .i64 j ∧ kk = .int .i64 (kAt k rs j) ∧ GridR wr g rs base top (fun i => if i < j then kAt k rs i else N0 i) (fun i => if i < j then (fun t => .int .i64 (kAt k rs i + 1 + t)) else F0 i) ∧ Frm (Rng base top) w wr) (fun _ i _ => rs.length - (intOf i).toNat)
  case atStart => exact ⟨0, by omega, rfl, rfl, HA.out.congr (fun i _ => by simp) (fun i _ t _ => by simp), Frm.refl _ _⟩
  case round =>
    obtain ⟨j, hj, rfl, rfl, hgrid, hbel⟩ := hrel
    obtain ⟨wo, rfl⟩ : ∃ wo : World, wo = wr := ⟨_, rfl⟩
    have HG := Lib.hid hgrid
    have HB := Lib.hid hbel
    have hkl := HKL.out j hj
    clear hgrid hbel
    by_cases hlt : j < rs.length
    · obtain ⟨⟨a, b, c⟩, ⟨d, e, f, e2⟩, kk⟩ := HG.out.2 j hlt
      have HRg := Lib.hid (show Rng base top g from ⟨HG.out.1.1, HG.out.1.2.1⟩)
      have HRb := Lib.hid (And.intro e f)
      have HG1 := Lib.hid (HG.out.setN j hlt (kAt k rs j))
      obtain ⟨⟨a', _, c'⟩, _, kk'⟩ := HG1.out.2 j hlt
      have hsu := kAt_succ (k := k) hlt
      have hxl := HL.out _ (List.getElem_mem hlt)
      have hheld : HeldV (wo.setCell ⟨g, j * 2, none⟩ (.int .i64 (kAt k rs j))) rs[j].A rs[j].xs.length (F0 j) rs[j].b (rs[j].b + 1) := fun hn => by
        exact ⟨rs[j].b, (kk' hn).1, Nat.le_refl _, Nat.lt_succ_self _, (kk' hn).2.congr (fun t _ => by simp)⟩
      have HM := Lib.hid (fun V (hV : HeldV V rs[j].A rs[j].xs.length (F0 j) rs[j].b (rs[j].b + 1)) => markIntS2_any rs[j].A rs[j].c rs[j].xs.length (F0 j) (kAt k rs j + 1) rs[j].b (rs[j].b + 1) V hxl hV (by omega) (by omega))
      have HH := Lib.hid hheld
      have HF := Lib.hid (fun (W : World) hf G hh => HG1.out.setF (w' := W) HD.out j hlt rfl (G := G) hf hh)
      have HSU := Lib.hid hsu
      unfold RV.slc at c'
      obtain ⟨K, hK⟩ : ∃ K, kAt k rs j = K := ⟨_, rfl⟩
      rw [hK] at hkl c' a' HM HH HSU ⊢
      have HKK := Lib.hid hK
      generalize rs[j].xs.length = ln at c' HM HH HSU hxl HF
      generalize rs[j].A = Ax at c' HM HH HF
      generalize rs[j].c = cx at c' HM
      generalize rs[j].b = bx at HM HH HF HRb
      simp only [if_neg (Nat.lt_irrefl j)] at a
      clear hheld hsu kk kk' c d e f e2 a' hK
      go_wp2_with fail
      refine (HM.out _ HH.out).mono ?_
      rintro e w1 ⟨rfl, hh1, hf1⟩
      have HH1 := Lib.hid hh1
      have HF1 := Lib.hid hf1
      clear hh1 hf1
      go_wp2_with fail
      go_roundw
      case rel =>
        refine ⟨j + 1, by omega, by go_num, by rw [HSU.out], ?_, (HB.out.setCell HRg.out _).trans (HF1.out.mono (fun c q => by have := HRb.out; unfold Rng at q ⊢; omega))⟩
        refine (HF.out w1 (by rw [HKK.out]; exact HF1.out) _ HH1.out).congr (fun i hi => ?_) (fun i hi t ht => ?_)
        · by_cases h : i = j
          · subst h; simp
          · by_cases h2 : i < j
            · simp [h, h2, show i < j + 1 by omega]
            · simp [h, h2, show ¬ i < j + 1 by omega]
        · by_cases h : i = j
          · subst h; simp [HKK.out]
          · by_cases h2 : i < j
            · simp [h, h2, show i < j + 1 by omega]
            · simp [h, h2, show ¬ i < j + 1 by omega]
      case measure => simp [intOf]; omega
    · have hjN : j = rs.length := by omega
      have HEND := Lib.hid (HG.out.congr (N' := kAt k rs) (F' := fun i t => .int .i64 (kAt k rs i + 1 + t)) (fun i hi => by rw [if_pos (by omega)]) (fun i hi t ht => by rw [if_pos (by omega)]))
      subst hjN
      go_wp2
      go_ret
      exact ⟨rfl, HEND.out, HB.out⟩

set_option maxRecDepth 100000 in
set_option maxHeartbeats 1000000 in
theorem heldRhythmS_any (g cap : Nat) (rs : List RV) (k : Int) (base top : Nat) (w : World) (hN : rs.length ≤ 65536) (hl : ∀ r ∈ rs, r.xs.length ≤ 1048576)
    (hA : GridR w g rs base top (kAt k rs) (fun i t => .int .i64 (kAt k rs i + 1 + t))) (hk0 : 0 ≤ k) (hk1 : k ≤ 1000) :
    Calls Try.prog 13 #[.slice (some ⟨g, 0, none⟩) rs.length cap, .int .i64 k] w fun e w' => e = .returned (.int .i64 (kAt k rs rs.length)) ∧ Below w.heap.size w w' := by
  have HA := Lib.hid hA
  have HL := Lib.hid hl
  have HKL := Lib.hid (kAt_le (k := k) hl)
  clear hA hl
  go_enter Try.func13, Try.ntmps13
  go_wp2
  go_loopw [1, 5] (fun kk i wr => ∃ j : Nat, j ≤ rs.length ∧ i = .int .i64 j ∧ kk = .int .i64 (kAt k rs j) ∧ Below w.heap.size w wr) (fun _ i _ => rs.length - (intOf i).toNat)
  case atStart => exact ⟨0, by omega, rfl, rfl, Below.refl _ _⟩
  case round =>
    obtain ⟨j, hj, rfl, rfl, hbel⟩ := hrel
    obtain ⟨wo, rfl⟩ : ∃ wo : World, wo = wr := ⟨_, rfl⟩
    have HB := Lib.hid hbel
    have hkl := HKL.out j hj
    have HG := Lib.hid (HA.out.frm (Frm.pure hbel (fun _ => False)) (fun _ _ _ h => h))
    clear hbel
    by_cases hlt : j < rs.length
    · obtain ⟨⟨a, b, c⟩, ⟨d, e, f, e2⟩, kk⟩ := HG.out.2 j hlt
      have hsu := kAt_succ (k := k) hlt
      have hxl := HL.out _ (List.getElem_mem hlt)
      have hheld : Held wo rs[j].b (rs[j].b + 1) rs[j].A rs[j].xs.length (fun t => kAt k rs j + 1 + t) := fun hn =>
        ⟨rs[j].b, (kk hn).1, Nat.le_refl _, Nat.lt_succ_self _, (kk hn).2⟩
      have HM := Lib.hid (heldIntS_any rs[j].A rs[j].c rs[j].xs.length (kAt k rs j + 1) rs[j].b (rs[j].b + 1) wo hxl hheld (by omega) (by omega))
      have HSU := Lib.hid hsu
      unfold RV.slc at c
      obtain ⟨K, hK⟩ : ∃ K, kAt k rs j = K := ⟨_, rfl⟩
      rw [hK] at hkl a HM HSU ⊢
      generalize rs[j].xs.length = ln at c HM HSU hxl
      generalize rs[j].A = Ax at c HM
      generalize rs[j].c = cx at c HM
      generalize rs[j].b = bx at HM
      have hkp : ¬ K + 1 + (ln : Int) < 0 := by omega
      clear hheld hsu kk d e f e2 hK
      go_wp2_with fail
      refine HM.out.mono ?_
      rintro e w1 ⟨rfl, hb1⟩
      have HB1 := Lib.hid (HB.out.trans (hb1.mono HB.out.size))
      clear hb1
      go_wp2_with fail
      go_roundw
      case rel => exact ⟨j + 1, by omega, by go_num, by rw [HSU.out], HB1.out⟩
      case measure => simp [intOf]; omega
    · have hjN : j = rs.length := by omega
      subst hjN
      go_wp2
      go_ret
      exact ⟨rfl, HB.out⟩

set_option maxHeartbeats 400000 in
theorem markRhythmS_nil (A : Option Addr) (cap : Nat) (k : Int) (w : World) (hk0 : 0 ≤ k) (hk1 : k ≤ 1000) :
    Calls Try.prog 12 #[.slice A 0 cap, .int .i64 k] w fun e w' => e = .returned (.int .i64 k) ∧ w' = w := by
  go_enter Try.func12, Try.ntmps12
  go_wp2
  refine wp_loop_rounds 1 ?_
  iterate 2 (first | (rw [rounds_succ]; go_wp2) | skip)
  go_ret
  exact ⟨rfl, rfl⟩
set_option maxHeartbeats 400000 in
theorem heldRhythmS_nil (A : Option Addr) (cap : Nat) (k : Int) (w : World) (hk0 : 0 ≤ k) (hk1 : k ≤ 1000) :
    Calls Try.prog 13 #[.slice A 0 cap, .int .i64 k] w fun e w' => e = .returned (.int .i64 k) ∧ w' = w := by
  go_enter Try.func13, Try.ntmps13
  go_wp2
  refine wp_loop_rounds 1 ?_
  iterate 2 (first | (rw [rounds_succ]; go_wp2) | skip)
  go_ret
  exact ⟨rfl, rfl⟩

/-- A slice that holds rhythms between base and top, if it holds any. -/
def HeldG (w : World) (A : Option Addr) (rs : List RV) (base top : Nat) (N : Nat → Int) (F : Nat → Nat → Value) : Prop :=
  0 < rs.length → ∃ g, A = some ⟨g, 0, none⟩ ∧ GridR w g rs base top N F
theorem HeldG.frm {w w' : World} {A : Option Addr} {rs : List RV} {base top : Nat} {N : Nat → Int} {F : Nat → Nat → Value} {S : Nat → Prop} (h : HeldG w A rs base top N F) (hf : Frm S w w') (hS : ∀ c, base ≤ c → c < top → ¬ S c) : HeldG w' A rs base top N F := by
  intro hn
  obtain ⟨g, e, h1⟩ := h hn
  exact ⟨g, e, h1.frm hf hS⟩
def nOf (rs : List RV) (i : Nat) : Int := (rs.getD i default).n
def xOf (rs : List RV) (i t : Nat) : Value := .int .i64 ((rs.getD i default).xs.getD t 0)
theorem OwnR.held {w : World} {base cap : Nat} {A : Option Addr} {rs : List RV} (h : OwnR w base (.slice A rs.length cap) rs) : HeldG w A rs base w.heap.size (nOf rs) (xOf rs) := by
  intro hn
  rcases h.1.2 with ⟨hv, h0⟩ | ⟨g, cap', cur, hv, hge, hh, hnc, hm, hsz, hxs⟩
  · omega
  · have hA : A = some ⟨g, 0, none⟩ := by injection hv
    subst hA
    refine ⟨g, rfl, ⟨hge, (h.1.lt g rfl).2, (h.1.lt g rfl).2⟩, fun i hi => ?_⟩
    have h0 := World.ownsRow.cells h.1 (g := g) rfl (i * 2) _ (cellsR_get rs i hi).1
    have h1 := World.ownsRow.cells h.1 (g := g) rfl (i * 2 + 1) _ (cellsR_get rs i hi).2
    rw [Go.WideShapes.add_plain, Nat.zero_add] at h0 h1
    have hd : rs.getD i default = rs[i] := by rw [List.getD_eq_getElem?_getD, List.getElem?_eq_getElem hi]; rfl
    have hl := h.2.1 _ (List.getElem_mem hi)
    refine ⟨⟨by unfold nOf; rw [hd]; exact h0, frozen_of_row _ _ _ _ _ hh, h1⟩, ⟨h.2.2.2 g rfl _ (List.getElem_mem hi), hl.2.1, hl.2.2.1, hl.2.2.1⟩, fun hx => ⟨(hl.2.2.2 hx).1, ?_⟩⟩
    refine (hl.2.2.2 hx).2.congr (fun t _ => ?_)
    unfold xOf
    rw [hd]
theorem OwnR.apart {w : World} {base : Nat} {v : Value} {rs : List RV} (h : OwnR w base v rs) : ∀ i j (hi : i < rs.length) (hj : j < rs.length), i ≠ j → rs[i].b ≠ rs[j].b := by
  intro i j hi hj hij
  have hp := List.pairwise_iff_getElem.1 h.2.2.1
  rcases Nat.lt_or_gt_of_ne hij with h1 | h1
  · have := hp i j hi hj h1; omega
  · have := hp j i hj hi h1; omega
theorem OwnR.lens {w : World} {base : Nat} {v : Value} {rs : List RV} (h : OwnR w base v rs) : ∀ r ∈ rs, r.xs.length ≤ 1048576 := fun r hr => (h.2.1 r hr).1
theorem HeldG.rd {w : World} {A : Option Addr} {rs : List RV} {base top : Nat} (h : HeldG w A rs base top (nOf rs) (xOf rs)) (hl : rs.length ≤ 1048576) (hx : ∀ r ∈ rs, r.xs.length ≤ 1048576) (hf : ∀ r ∈ rs, ∀ x ∈ r.xs, Fits x) : RdR w w.heap.size A rs := by
  refine ⟨hl, fun r hr => ?_, fun hn => ?_⟩
  · obtain ⟨i, hi, rfl⟩ := List.getElem_of_mem hr
    obtain ⟨g, rfl, hg⟩ := h (by omega)
    obtain ⟨_, _, k⟩ := hg.2 i hi
    refine ⟨by have := hx _ hr; unfold maxLen; omega, hf _ hr, fun hn => ?_⟩
    obtain ⟨e, ht⟩ := k hn
    refine ⟨rs[i].b, 0, e, ht.1, fun t h => ?_⟩
    rw [Nat.zero_add, (ht.2 t h).1]
    unfold xOf
    rw [show rs.getD i default = rs[i] by rw [List.getD_eq_getElem?_getD, List.getElem?_eq_getElem hi]; rfl]
  · obtain ⟨g, rfl, hg⟩ := h hn
    refine ⟨g, rfl, hg.1.2.2, fun i hi => ?_⟩
    obtain ⟨⟨a, _, c⟩, _⟩ := hg.2 i hi
    refine ⟨?_, c⟩
    rw [a]
    unfold nOf
    rw [List.getD_eq_getElem?_getD, List.getElem?_eq_getElem hi]
    rfl

theorem markRhythmS_held (A : Option Addr) (cap : Nat) (rs : List RV) (k : Int) (base top : Nat) (N0 : Nat → Int) (F0 : Nat → Nat → Value) (w : World) (hN : rs.length ≤ 65536) (hl : ∀ r ∈ rs, r.xs.length ≤ 1048576) (hd : ∀ i j (hi : i < rs.length) (hj : j < rs.length), i ≠ j → rs[i].b ≠ rs[j].b)
    (hA : HeldG w A rs base top N0 F0) (hk0 : 0 ≤ k) (hk1 : k ≤ 1000) :
    Calls Try.prog 12 #[.slice A rs.length cap, .int .i64 k] w fun e w' => e = .returned (.int .i64 (kAt k rs rs.length)) ∧ HeldG w' A rs base top (kAt k rs) (fun i t => .int .i64 (kAt k rs i + 1 + t)) ∧ Frm (Rng base top) w w' := by
  by_cases hn : 0 < rs.length
  · obtain ⟨g, rfl, hg⟩ := hA hn
    refine (markRhythmS_any g cap rs k base top N0 F0 w hN hl hd hg hk0 hk1).mono ?_
    rintro e w' ⟨rfl, h1, h2⟩
    exact ⟨rfl, fun _ => ⟨g, rfl, h1⟩, h2⟩
  · have h0 : rs = [] := List.eq_nil_of_length_eq_zero (by omega)
    subst h0
    refine (markRhythmS_nil A cap k w hk0 hk1).mono ?_
    rintro e w' ⟨rfl, rfl⟩
    exact ⟨rfl, fun h => absurd h (by simp), Frm.refl _ _⟩
theorem heldRhythmS_held (A : Option Addr) (cap : Nat) (rs : List RV) (k : Int) (base top : Nat) (w : World) (hN : rs.length ≤ 65536) (hl : ∀ r ∈ rs, r.xs.length ≤ 1048576)
    (hA : HeldG w A rs base top (kAt k rs) (fun i t => .int .i64 (kAt k rs i + 1 + t))) (hk0 : 0 ≤ k) (hk1 : k ≤ 1000) :
    Calls Try.prog 13 #[.slice A rs.length cap, .int .i64 k] w fun e w' => e = .returned (.int .i64 (kAt k rs rs.length)) ∧ Below w.heap.size w w' := by
  by_cases hn : 0 < rs.length
  · obtain ⟨g, rfl, hg⟩ := hA hn
    exact heldRhythmS_any g cap rs k base top w hN hl hg hk0 hk1
  · have h0 : rs = [] := List.eq_nil_of_length_eq_zero (by omega)
    subst h0
    refine (heldRhythmS_nil A cap k w hk0 hk1).mono ?_
    rintro e w' ⟨rfl, rfl⟩
    exact ⟨rfl, Below.refl _ _⟩

end Go.Proofs.Ytjegomgpldpmpaa
