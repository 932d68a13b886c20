/-
  The list of meters of a size, and the best meter, by both.
-/
import Derived.Test.YtjoeglekcnaebaaDoorMetN
import Derived.Test.YtjoeglekcnaebaaDoorMetR
import Derived.WalkSpells
import Derived.Lib.LazyBuf
namespace Go.Proofs.YtjoeglekcnaebaaDoor
open Go.RowKit Go.Shelf
set_option linter.unusedVariables false
set_option linter.unusedSimpArgs false

def mtrL (N : Nat) : List (List Int) := if 2 ≤ N then metL 6 N [] else []
theorem mtrL_ok {N : Nat} (h2 : N ≤ 24) {x : List Int} (hx : x ∈ mtrL N) : MetOk x ∧ prd x = N := by
  unfold mtrL at hx
  split at hx
  · exact metL_ok (by omega) h2 hx
  · cases hx
theorem mtrL_len {N : Nat} (h2 : N ≤ 24) : (mtrL N).length ≤ 100 := by
  unfold mtrL
  split
  · exact metL_len (by omega) h2
  · exact Nat.zero_le _
def RetMt (w : World) (L : List (List Int)) (e : Ending) (w' : World) : Prop := ∃ v rs, e = .returned v ∧ OwnW w' w.heap.size v rs ∧ rs.map SV.xs = L ∧ Below w.heap.size w w'

set_option maxHeartbeats 400000 in
theorem impl_MetersOf_any (N : Nat) (w : World) (h1 : 1 ≤ N) (h2 : N ≤ 24) : Calls Tryd.prog 28 #[.int .i64 N] w (RetMt w (mtrL N)) := by
  by_cases hN : 2 ≤ N
  · have HM := Lib.hid (fun A c => impl_metersFrom_any 6 N [] A c w rfl (by omega) h1 h2 (Ints.none_ _))
    have hin : inB (N : Int) 2 24 = true := inB_true ⟨by omega, by omega⟩
    have HL := Lib.hid (show mtrL N = metL 6 N [] from if_pos hN)
    generalize metL 6 N [] = L at *
    rw [List.length_nil] at HM
    go_enter Tryd.func28, Tryd.ntmps28
    go_wp2_with (go_at_call 41; refine (within_any _ _ _ _).mono ?_; rintro e w' ⟨rfl, rfl⟩)
    refine (HM.out none 0).mono ?_
    rintro e w1 ⟨v, rs, rfl, hown, hkey, _, _, hb⟩
    have HO := Lib.hid hown
    clear hown
    go_wp2_with fail
    go_ret
    exact ⟨v, rs, rfl, HO.out, hkey.trans HL.out.symm, hb⟩
  · have hin : inB (N : Int) 2 24 = false := inB_false (by omega)
    have HL := Lib.hid (show mtrL N = [] from if_neg hN)
    go_enter Tryd.func28, Tryd.ntmps28
    go_wp2_with (go_at_call 41; refine (within_any _ _ _ _).mono ?_; rintro e w' ⟨rfl, rfl⟩)
    go_ret
    rw [HL.out]
    exact ⟨_, [], rfl, OwnW.nil _ _, rfl, Below.refl _ _⟩

set_option maxHeartbeats 400000 in
theorem spec_MetersOf_any (N : Nat) (w : World) (h1 : 1 ≤ N) (h2 : N ≤ 24) : Calls Tryd.prog 21 #[.int .i64 N] w (RetMt w (mtrL N)) := by
  by_cases hN : 2 ≤ N
  · have hin : inB (N : Int) 2 24 = true := inB_true ⟨by omega, by omega⟩
    have HL := Lib.hid (show mtrL N = metL 6 N [] from if_pos hN)
    have HO0 := Lib.hid (show OwnW ((w.alloc (.cells #[] 3)).alloc (.cells #[] 22)) w.heap.size (.slice (some ⟨w.heap.size + 1, 0, none⟩) 0 0) [] from by
      have := World.ownsRow_lit (base := w.heap.size) (e := 22) (size := 1) (w.alloc (.cells #[] 3)) #[] 0 (by simp) (by unfold maxLen; omega) rfl
      rw [World.size_alloc] at this
      exact ⟨this, fun r hr => by cases hr⟩)
    have HM := Lib.hid (spec_l18Meters_any 6 N [] (some ⟨w.heap.size, 0, none⟩) 0 w.heap.size _ [] _ rfl (by omega) h1 h2 (Nat.zero_le _) (Ints.none_ _) (fun h => absurd h (Nat.lt_irrefl 0)) ⟨_, _, rfl⟩ HO0.out (by simp; omega) (by decide))
    have HB := Lib.hid (((Below.refl w.heap.size w).alloc (Nat.le_refl _) (.cells #[] 3)).alloc (by simp) (.cells #[] 22))
    generalize metL 6 N [] = L at *
    rw [List.length_nil] at HM
    clear HO0
    go_enter Tryd.func21, Tryd.ntmps21
    go_wp2_with (go_at_call 36; refine (l01In_any _ _ _ _).mono ?_; rintro e w' ⟨rfl, rfl⟩)
    refine HM.out.mono ?_
    rintro e w1 ⟨v, rs, rfl, hown, hkey, hfr, _⟩
    rw [List.nil_append] at hown
    have HO := Lib.hid hown
    have HF := Lib.hid hfr
    clear hown hfr
    go_wp2_with fail
    go_ret
    exact ⟨v, rs, rfl, HO.out, hkey.trans HL.out.symm, HB.out.trans (HF.out.below (fun c hc => by have hc2 : some (w.heap.size + 1) = some c := hc; injection hc2; omega) (by simp; omega))⟩
  · have hin : inB (N : Int) 2 24 = false := inB_false (by omega)
    have HL := Lib.hid (show mtrL N = [] from if_neg hN)
    go_enter Tryd.func21, Tryd.ntmps21
    go_wp2_with (go_at_call 36; refine (l01In_any _ _ _ _).mono ?_; rintro e w' ⟨rfl, rfl⟩)
    go_ret
    rw [HL.out]
    exact ⟨_, [], rfl, OwnW.nil _ _, rfl, Below.refl _ _⟩

/-- The best meter, by its number in the list. -/
def bstM (N : Nat) (bs : List Int) (j : Nat) : List Int := (mtrL N).getD (bstI (fun i => syncV N bs ((mtrL N).getD i [])) j) []
theorem bstM_mem {N : Nat} {bs : List Int} {j : Nat} (h1 : 1 ≤ j) (h2 : j ≤ (mtrL N).length) : bstM N bs j ∈ mtrL N := by
  have := bstI_lt (fun i => syncV N bs ((mtrL N).getD i [])) j h1
  unfold bstM
  rw [List.getD_eq_getElem?_getD, List.getElem?_eq_getElem (by omega)]
  exact List.getElem_mem _

theorem getD_xs (rs : List SV) (i : Nat) : (rs.map SV.xs).getD i [] = (rs.getD i ⟨[], none, 0⟩).xs := by
  rw [List.getD_eq_getElem?_getD, List.getD_eq_getElem?_getD, List.getElem?_map]
  cases rs[i]? <;> rfl
def rowF (N : Nat) (bs : List Int) (rs : List SV) (i : Nat) : Int := syncV N bs (rs.getD i ⟨[], none, 0⟩).xs
theorem bstM_row {N : Nat} {bs : List Int} {rs : List SV} (h : rs.map SV.xs = mtrL N) (j : Nat) : bstM N bs j = (rs.getD (bstI (rowF N bs rs) j) ⟨[], none, 0⟩).xs := by
  have hf : (fun i => syncV N bs ((mtrL N).getD i [])) = rowF N bs rs := by
    funext i
    unfold rowF
    rw [← h, getD_xs]
  unfold bstM
  rw [hf, ← h, getD_xs]
theorem bstI_stay {f : Nat → Int} {j : Nat} (h : ¬ f j < f (bstI f j)) : bstI f (j + 1) = bstI f j := by
  by_cases h0 : j = 0
  · subst h0; rfl
  · exact bstI_no h0 h
theorem bstI_take {f : Nat → Int} {j : Nat} (h : f j < f (bstI f j)) : bstI f (j + 1) = j := by
  by_cases h0 : j = 0
  · subst h0; rfl
  · exact bstI_yes h0 h
theorem bstI_le (f : Nat → Int) {j n : Nat} (h : j ≤ n) (hn : 0 < n) : bstI f j < n := by
  by_cases h0 : j = 0
  · subst h0; exact hn
  · have := bstI_lt f j (by omega); omega

/-- What BestMeter hands back. -/
def RetBest (w : World) (N : Nat) (bs : List Int) (e : Ending) (w' : World) : Prop :=
  Below w.heap.size w w' ∧ ((mtrL N = [] ∧ e = .returned (.tuple #[.slice none 0 0, .bool false])) ∨
    ∃ A c, mtrL N ≠ [] ∧ e = .returned (.tuple #[.slice A (bstM N bs (mtrL N).length).length c, .bool true]) ∧ Ints w' w'.heap.size A (bstM N bs (mtrL N).length) ∧ (bstM N bs (mtrL N).length).length ≤ c)

set_option maxRecDepth 100000 in
set_option maxHeartbeats 2000000 in
theorem spec_BestMeter_any (N : Nat) (A : Option Addr) (cap : Nat) (bs : List Int) (w : World) (hA : Ints w w.heap.size A bs) (hok : RhOk N bs) :
    Calls Tryd.prog 10 #[.agg #[.int .i64 N, .slice A bs.length cap]] w (RetBest w N bs) := by
  have hn1 : 1 ≤ N := by have := hok.1; omega
  have hn2 : N ≤ 24 := by have := hok.2.1; omega
  have hfN : Fits (N : Int) := by unfold Fits; omega
  have hr : rhB N bs = true := rhB_iff.2 hok
  have HRO := Lib.hid (fun V h => hr ▸ spec_RhythmOk_any N A cap bs V h)
  have HMT := Lib.hid (fun V => spec_MetersOf_any N V hn1 hn2)
  have HSY := Lib.hid (fun A2 c2 xs V h1 h2 (hm : MetOk xs) hp hc => spec_SyncopationOf_any N A A2 cap c2 bs xs V h1 h2 hok hm hp hc)
  have HMO := Lib.hid (fun x (hx : x ∈ mtrL N) => mtrL_ok hn2 hx)
  have hml := mtrL_len hn2
  have HBW := Lib.hid ((Below.refl w.heap.size w).alloc (Nat.le_refl _) (.cells #[.int .i64 N, .slice A (bs).length cap] 27))
  have HVA := Lib.hid (Hav.boxed hA N cap)
  clear hA hok hr
  obtain ⟨⟨p0, p1, _, _, _⟩, _⟩ := HVA.out
  go_enter Tryd.func10, Tryd.ntmps10
  go_wp2_with fail
  generalize w.alloc (.cells #[.int .i64 N, .slice A (bs).length cap] 27) = W at *
  refine (HRO.out _ HVA.out.2).mono ?_
  rintro e w1 ⟨rfl, hb⟩
  have HBW := Lib.hid (HBW.out.trans (hb.mono HBW.out.size))
  try have HVA := Lib.hid (HVA.out.lift hb)
  try have HVB := Lib.hid (HVB.out.lift hb)
  try have HVC := Lib.hid (HVC.out.lift hb)
  try have HVT := Lib.hid (HVT.out.lift hb)
  try have HVX := Lib.hid (HVX.out.lift hb)
  try have HVM := Lib.hid (HVM.out.lift hb)
  try have HVF := Lib.hid (HVF.out.lift hb)
  try have HVP := Lib.hid (HVP.out.lift hb)
  try have HVQ := Lib.hid (HVQ.out.lift hb)
  try have HLA := Lib.hid (HLA.out.lift hb)
  try have HLW := Lib.hid (HLW.out.lift hb)
  try have HI := Lib.hid (HI.out.lift hb)
  try have HRB := Lib.hid (HRB.out.trans (hb.mono HRB.out.size))
  try have HWW := Lib.hid (HWW.out.trans (hb.mono HWW.out.size))
  clear hb
  clear p0 p1
  obtain ⟨⟨p0, p1, _, _, _⟩, _⟩ := HVA.out
  go_wp2_with fail
  refine (HMT.out _).mono ?_
  rintro e w3 ⟨v, rs, rfl, hown, hkey, hb⟩
  have HBW := Lib.hid (HBW.out.trans (hb.mono HBW.out.size))
  try have HVA := Lib.hid (HVA.out.lift hb)
  try have HVB := Lib.hid (HVB.out.lift hb)
  try have HVC := Lib.hid (HVC.out.lift hb)
  try have HVT := Lib.hid (HVT.out.lift hb)
  try have HVX := Lib.hid (HVX.out.lift hb)
  try have HVM := Lib.hid (HVM.out.lift hb)
  try have HVF := Lib.hid (HVF.out.lift hb)
  try have HVP := Lib.hid (HVP.out.lift hb)
  try have HVQ := Lib.hid (HVQ.out.lift hb)
  try have HLA := Lib.hid (HLA.out.lift hb)
  try have HLW := Lib.hid (HLW.out.lift hb)
  try have HI := Lib.hid (HI.out.lift hb)
  try have HRB := Lib.hid (HRB.out.trans (hb.mono HRB.out.size))
  try have HWW := Lib.hid (HWW.out.trans (hb.mono HWW.out.size))
  clear hb
  clear p0 p1
  obtain ⟨Ar, cr, rfl⟩ := hown.form
  have hrl : rs.length ≤ 100 := by
    have := congrArg List.length hkey
    rw [List.length_map] at this
    omega
  have HKY := Lib.hid hkey
  have HRW := Lib.hid (fun hn => show ∃ g, Ar = some ⟨g, 0, none⟩ ∧ g < w3.heap.size ∧ ∀ i (hi : i < rs.length), w3.cell? ⟨g, i, none⟩ = some rs[i].slc by
    obtain ⟨g, a, _, b, c⟩ := hown.cells hn
    exact ⟨g, a, b, c⟩)
  have HRI := Lib.hid (fun i (hi : i < rs.length) => show (rs.getD i ⟨[], none, 0⟩).xs.length ≤ (rs.getD i ⟨[], none, 0⟩).c ∧ Ints w3 w3.heap.size (rs.getD i ⟨[], none, 0⟩).A (rs.getD i ⟨[], none, 0⟩).xs ∧ MetOk (rs.getD i ⟨[], none, 0⟩).xs ∧ prd (rs.getD i ⟨[], none, 0⟩).xs = N by
    rw [List.getD_eq_getElem?_getD, List.getElem?_eq_getElem hi]
    have hm := List.getElem_mem hi
    have hx := hown.2 _ hm
    have hz := HMO.out rs[i].xs (by rw [← hkey]; exact List.mem_map.2 ⟨_, hm, rfl⟩)
    exact ⟨hx.1, hx.2.1, hz.1, hz.2⟩)
  have HBV := Lib.hid (show bstM N bs (mtrL N).length = (rs.getD (bstI (rowF N bs rs) rs.length) ⟨[], none, 0⟩).xs by rw [bstM_row hkey, ← hkey, List.length_map])
  clear hown hkey
  by_cases hl0 : rs.length = 0
  · have hrs : rs = [] := List.eq_nil_of_length_eq_zero hl0
    subst hrs
    have HL := Lib.hid (show mtrL N = [] by rw [← HKY.out]; rfl)
    go_wp2_with fail
    refine bodyPost_ret (v := .tuple #[.slice none 0 0, .bool false]) (by simp [results, Tryd.results10, go_sem]) rfl ?_
    exact ⟨HBW.out, .inl ⟨HL.out, rfl⟩⟩
  · have hlp : 0 < rs.length := by omega
    have HNE := Lib.hid (show mtrL N ≠ [] from fun h => hl0 (by rw [← List.length_map (f := SV.xs), HKY.out, h]; rfl))
    obtain ⟨gr, hAr, hgr, hcr⟩ := HRW.out hlp
    subst hAr
    have HCR := Lib.hid hcr
    have hl0b : ((rs.length : Int) == 0) = false := beq_eq_false_iff_ne.2 (by omega)
    have hi0 : (0 : Int) < (rs.length : Int) := by omega
    have h0c := hcr 0 hlp
    clear hcr
    go_wp2_with fail
    go_loopw [5, 22] (fun b i wr => ∃ j : Nat, j ≤ rs.length ∧ i = .int .i64 j ∧ b = (rs.getD (bstI (rowF N bs rs) j) ⟨[], none, 0⟩).slc ∧ Below w3.heap.size w3 wr) (fun _ i _ => rs.length - (intOf i).toNat)
    case atStart => exact ⟨0, Nat.zero_le _, rfl, by show rs[0].slc = _; rw [show bstI (rowF N bs rs) 0 = 0 from rfl, List.getD_eq_getElem?_getD, List.getElem?_eq_getElem hlp]; rfl, Below.refl _ _⟩
    case round =>
      obtain ⟨j, hj, rfl, rfl, hbel⟩ := hrel
      obtain ⟨wo, rfl⟩ : ∃ wo : World, wo = wr := ⟨_, rfl⟩
      by_cases hlt : j < rs.length
      · skip
        have hwz : w3.heap.size ≤ wo.heap.size := hbel.size
        have hb1 := bstI_le (rowF N bs rs) hj hlp
        have hcj := (hbel.cell (p := ⟨gr, j, none⟩) hgr).trans (HCR.out j hlt)
        rw [show rs[j] = rs.getD j ⟨[], none, 0⟩ by rw [List.getD_eq_getElem?_getD, List.getElem?_eq_getElem hlt]; rfl] at hcj
        have hIj := HRI.out j hlt
        have hIb := HRI.out _ hb1
        have HST := Lib.hid (fun (h : ¬ rowF N bs rs j < rowF N bs rs (bstI (rowF N bs rs) j)) => bstI_stay h)
        have HTK := Lib.hid (fun (h : rowF N bs rs j < rowF N bs rs (bstI (rowF N bs rs) j)) => bstI_take h)
        rw [show rowF N bs rs j = syncV N bs (rs.getD j ⟨[], none, 0⟩).xs from rfl, show rowF N bs rs (bstI (rowF N bs rs) j) = syncV N bs (rs.getD (bstI (rowF N bs rs) j) ⟨[], none, 0⟩).xs from rfl] at HST HTK
        obtain ⟨rb, hrb⟩ : ∃ r, rs.getD (bstI (rowF N bs rs) j) ⟨[], none, 0⟩ = r := ⟨_, rfl⟩
        obtain ⟨rj, hrj⟩ : ∃ r, rs.getD j ⟨[], none, 0⟩ = r := ⟨_, rfl⟩
        rw [hrb] at hIb HST HTK ⊢
        rw [hrj] at hIj hcj HST HTK
        have HRB := Lib.hid hrb
        have HRJ := Lib.hid hrj
        have HBO := Lib.hid hbel
        have HVA := Lib.hid (HVA.out.lift hbel)
        obtain ⟨Xj, Aj, cj⟩ := rj
        obtain ⟨Xb, Ab, cb⟩ := rb
        dsimp only at hIj hIb HST HTK
        change wo.cell? ⟨gr, j, none⟩ = some (.slice Aj Xj.length cj) at hcj
        have HXJ := Lib.hid (hIj.2.1.lift (show Below w3.heap.size w3 wo from hbel))
        have HXB := Lib.hid (hIb.2.1.lift (show Below w3.heap.size w3 wo from hbel))
        have HSJ := Lib.hid (fun V h1 h2 => HSY.out Aj cj Xj V h1 h2 hIj.2.2.1 hIj.2.2.2 hIj.1)
        have HSB := Lib.hid (fun V h1 h2 => HSY.out Ab cb Xb V h1 h2 hIb.2.2.1 hIb.2.2.2 hIb.1)
        obtain ⟨bj, oj, hAj, _⟩ := hIj.2.1.2.2 hIj.2.2.1.1
        obtain ⟨bb, ob, hAb, _⟩ := hIb.2.1.2.2 hIb.2.2.1.1
        subst hAj hAb
        obtain ⟨F1, hF1⟩ : ∃ F, syncV N bs Xj = F := ⟨_, rfl⟩
        obtain ⟨F2, hF2⟩ : ∃ F, syncV N bs Xb = F := ⟨_, rfl⟩
        rw [hF1] at HSJ HST HTK
        rw [hF2] at HSB HST HTK
        clear hbel hrb hrj hIj hIb hF1 hF2
        obtain ⟨⟨p0, p1, _, _, _⟩, _⟩ := HVA.out
        have hji : (j : Int) < (rs.length : Int) := by omega
        go_wp2_with fail
        have HBX := HBW
        clear HBW
        have HBW := Lib.hid (Below.refl wo.heap.size wo)
        have HBW := Lib.hid (Below.drewH_ HBW.out)
        try have HRB := Lib.hid (Below.drewH_ HRB.out)
        try have HWW := Lib.hid (Below.drewH_ HWW.out)
        try have HVA := Lib.hid HVA.out.drew
        try have HVB := Lib.hid HVB.out.drew
        try have HVC := Lib.hid HVC.out.drew
        try have HVT := Lib.hid HVT.out.drew
        try have HVX := Lib.hid HVX.out.drew
        try have HVM := Lib.hid HVM.out.drew
        try have HVF := Lib.hid HVF.out.drew
        try have HVP := Lib.hid HVP.out.drew
        try have HVQ := Lib.hid HVQ.out.drew
        try have HLA := Lib.hid HLA.out.drewR_
        try have HLW := Lib.hid HLW.out.drewR_
        have HXJ := Lib.hid (show Ints wo.drew wo.drew.heap.size (some ⟨bj, oj, none⟩) Xj from HXJ.out)
        have HXB := Lib.hid (show Ints wo.drew wo.drew.heap.size (some ⟨bb, ob, none⟩) Xb from HXB.out)
        (refine wp_region_held_drew (S := (fun w' => w'.cell? ⟨w.heap.size, 0, none⟩ = some (.int .i64 N) ∧ w'.cell? ⟨w.heap.size, 1, none⟩ = some (.slice A bs.length cap))) (by kernel_rfl) ?_ (fun hHeld => ?_); (focus ((try dsimp only); exact ⟨p0, p1⟩)))
        ((refine wpAnyH_take (i := 0) (v := ?_) rfl (by kernel_rfl) (by kernel_rfl) (by kernel_rfl) (fun _ _ _ h => h) (Or.inl ⟨by rfl, ?_⟩) (by assumption) ?_; rotate_left; (focus (intro wS hSw; (try dsimp only at hSw); go_simp; (try with_reducible rfl))); (try simp only [Act.put, List.getElem_toArray, List.getElem_cons_zero, List.getElem_cons_succ, List.setIfInBounds_toArray, List.set_cons_zero, List.set_cons_succ])); (refine wpAnyH_take (i := 1) (v := ?_) rfl (by kernel_rfl) (by kernel_rfl) (by kernel_rfl) (fun _ _ _ h => h) (Or.inl ⟨by rfl, ?_⟩) (by assumption) ?_; rotate_left; (focus (intro wS hSw; (try dsimp only at hSw); go_simp; (try with_reducible rfl))); (try simp only [Act.put, List.getElem_toArray, List.getElem_cons_zero, List.getElem_cons_succ, List.setIfInBounds_toArray, List.set_cons_zero, List.set_cons_succ])); (refine wpAnyH_take (i := 3) (v := ?_) rfl (by kernel_rfl) (by kernel_rfl) (by kernel_rfl) (fun _ _ _ h => h) (Or.inl ⟨by rfl, ?_⟩) (by assumption) ?_; rotate_left; (focus (intro wS hSw; (try dsimp only at hSw); go_simp; (try with_reducible rfl))); (try simp only [Act.put, List.getElem_toArray, List.getElem_cons_zero, List.getElem_cons_succ, List.setIfInBounds_toArray, List.set_cons_zero, List.set_cons_succ])); (refine wpAnyH_take (i := 4) (v := ?_) rfl (by kernel_rfl) (by kernel_rfl) (by kernel_rfl) (fun _ _ _ h => h) (Or.inl ⟨by rfl, ?_⟩) (by assumption) ?_; rotate_left; (focus (intro wS hSw; (try dsimp only at hSw); go_simp; (try with_reducible rfl))); (try simp only [Act.put, List.getElem_toArray, List.getElem_cons_zero, List.getElem_cons_succ, List.setIfInBounds_toArray, List.set_cons_zero, List.set_cons_succ])))
        (refine wpAnyH_ready (rs := [2]) (by kernel_rfl) (by simp) ?_; refine AllReadyH.cons rfl (fun K hK => ?_) AllReadyH.nil; go_simp)
        go_at_call 13
        refine (HSJ.out _ HVA.out.2 HXJ.out).mono ?_
        rintro e w4 ⟨rfl, hb⟩
        have HXB := Lib.hid (HXB.out.lift hb)
        have HBW := Lib.hid (HBW.out.trans (hb.mono HBW.out.size))
        try have HVA := Lib.hid (HVA.out.lift hb)
        try have HVB := Lib.hid (HVB.out.lift hb)
        try have HVC := Lib.hid (HVC.out.lift hb)
        try have HVT := Lib.hid (HVT.out.lift hb)
        try have HVX := Lib.hid (HVX.out.lift hb)
        try have HVM := Lib.hid (HVM.out.lift hb)
        try have HVF := Lib.hid (HVF.out.lift hb)
        try have HVP := Lib.hid (HVP.out.lift hb)
        try have HVQ := Lib.hid (HVQ.out.lift hb)
        try have HLA := Lib.hid (HLA.out.lift hb)
        try have HLW := Lib.hid (HLW.out.lift hb)
        try have HI := Lib.hid (HI.out.lift hb)
        try have HRB := Lib.hid (HRB.out.trans (hb.mono HRB.out.size))
        try have HWW := Lib.hid (HWW.out.trans (hb.mono HWW.out.size))
        clear hb
        clear p0 p1
        obtain ⟨⟨p0, p1, _, _, _⟩, _⟩ := HVA.out
        go_wp2_with fail
        (refine hK.out _ _ ?_ (fun hHeld2 => ?_); (focus ((try dsimp only); exact ⟨p0, p1⟩)); (clear hK K); (try simp only [Act.put, List.getElem_toArray, List.getElem_cons_zero, List.getElem_cons_succ, List.setIfInBounds_toArray, List.set_cons_zero, List.set_cons_succ]))
        (refine wpAnyH_ready (rs := [5]) (by kernel_rfl) (by simp) ?_; refine AllReadyH.cons rfl (fun K hK => ?_) AllReadyH.nil; go_simp)
        go_at_call 13
        refine (HSB.out _ HVA.out.2 HXB.out).mono ?_
        rintro e w5 ⟨rfl, hb⟩
        have HXB := Lib.hid (HXB.out.lift hb)
        have HBW := Lib.hid (HBW.out.trans (hb.mono HBW.out.size))
        try have HVA := Lib.hid (HVA.out.lift hb)
        try have HVB := Lib.hid (HVB.out.lift hb)
        try have HVC := Lib.hid (HVC.out.lift hb)
        try have HVT := Lib.hid (HVT.out.lift hb)
        try have HVX := Lib.hid (HVX.out.lift hb)
        try have HVM := Lib.hid (HVM.out.lift hb)
        try have HVF := Lib.hid (HVF.out.lift hb)
        try have HVP := Lib.hid (HVP.out.lift hb)
        try have HVQ := Lib.hid (HVQ.out.lift hb)
        try have HLA := Lib.hid (HLA.out.lift hb)
        try have HLW := Lib.hid (HLW.out.lift hb)
        try have HI := Lib.hid (HI.out.lift hb)
        try have HRB := Lib.hid (HRB.out.trans (hb.mono HRB.out.size))
        try have HWW := Lib.hid (HWW.out.trans (hb.mono HWW.out.size))
        clear hb
        clear p0 p1
        obtain ⟨⟨p0, p1, _, _, _⟩, _⟩ := HVA.out
        go_wp2_with fail
        (refine hK.out _ _ ?_ (fun hHeld2 => ?_); (focus ((try dsimp only); exact ⟨p0, p1⟩)); (clear hK K); (try simp only [Act.put, List.getElem_toArray, List.getElem_cons_zero, List.getElem_cons_succ, List.setIfInBounds_toArray, List.set_cons_zero, List.set_cons_succ]))
        (refine wpAnyH_take (i := 6) (v := ?_) rfl (by kernel_rfl) (by kernel_rfl) (by kernel_rfl) (fun _ _ _ h => h) (Or.inl ⟨by rfl, ?_⟩) (by assumption) ?_; rotate_left; (focus (intro wS hSw; (try dsimp only at hSw); go_simp; (try with_reducible rfl))); (try simp only [Act.put, List.getElem_toArray, List.getElem_cons_zero, List.getElem_cons_succ, List.setIfInBounds_toArray, List.set_cons_zero, List.set_cons_succ]))
        refine wpAnyH_done (by kernel_rfl) ?_ _
        have HB5 := Lib.hid (HBO.out.trans (HBW.out.mono hwz))
        by_cases hlF : F1 < F2
        · have HN := Lib.hid (HTK.out hlF)
          go_wp2_with fail
          go_roundw
          case rel => exact ⟨j + 1, by omega, by go_num, by rw [HN.out, HRJ.out] <;> rfl, HB5.out⟩
          case measure => simp [intOf]; omega
        · have HN := Lib.hid (HST.out (by omega))
          go_wp2_with fail
          go_roundw
          case rel => exact ⟨j + 1, by omega, by go_num, by rw [HN.out, HRB.out] <;> rfl, HB5.out⟩
          case measure => simp [intOf]; omega
      · have hje : j = rs.length := by omega
        subst hje
        have hIb := HRI.out _ (bstI_le (rowF N bs rs) (Nat.le_refl _) hlp)
        have hbv := HBV.out
        generalize rs.getD (bstI (rowF N bs rs) rs.length) ⟨[], none, 0⟩ = rb at *
        obtain ⟨Xb, Ab, cb⟩ := rb
        dsimp only at hIb hbv
        have HV := Lib.hid hbv
        have HIB := Lib.hid hIb
        have HBO := Lib.hid hbel
        clear hbv hIb hbel
        go_wp2_with fail
        refine bodyPost_ret (v := .tuple #[.slice Ab Xb.length cb, .bool true]) (by simp [results, Tryd.results10, go_sem, SV.slc]) rfl ?_
        refine ⟨HBW.out.trans (HBO.out.mono HBW.out.size), .inr ⟨Ab, cb, HNE.out, ?_⟩⟩
        rw [HV.out]
        exact ⟨rfl, HIB.out.2.1.lift HBO.out, HIB.out.1⟩

set_option maxRecDepth 100000 in
set_option maxHeartbeats 2000000 in
theorem impl_BestMeter_any (N : Nat) (A : Option Addr) (cap : Nat) (bs : List Int) (w : World) (hA : Ints w w.heap.size A bs) (hok : RhOk N bs) :
    Calls Tryd.prog 15 #[.agg #[.int .i64 N, .slice A bs.length cap]] w (RetBest w N bs) := by
  have hn1 : 1 ≤ N := by have := hok.1; omega
  have hn2 : N ≤ 24 := by have := hok.2.1; omega
  have hfN : Fits (N : Int) := by unfold Fits; omega
  have hr : rhB N bs = true := rhB_iff.2 hok
  have HRO := Lib.hid (fun V h => hr ▸ impl_RhythmOk_any N A cap bs V hfN h)
  have HMT := Lib.hid (fun V => impl_MetersOf_any N V hn1 hn2)
  have HSY := Lib.hid (fun A2 c2 xs V h1 h2 (hm : MetOk xs) hp hc => impl_SyncopationOf_any N A A2 cap c2 bs xs V h1 h2 hok hm hp hc)
  have HMO := Lib.hid (fun x (hx : x ∈ mtrL N) => mtrL_ok hn2 hx)
  have hml := mtrL_len hn2
  have HBW := Lib.hid ((Below.refl w.heap.size w).alloc (Nat.le_refl _) (.cells #[.int .i64 N, .slice A (bs).length cap] 27))
  have HVA := Lib.hid (Hav.boxed hA N cap)
  clear hA hok hr
  obtain ⟨⟨p0, p1, _, _, _⟩, _⟩ := HVA.out
  go_enter Tryd.func15, Tryd.ntmps15
  go_wp2_with fail
  generalize w.alloc (.cells #[.int .i64 N, .slice A (bs).length cap] 27) = W at *
  refine (HRO.out _ HVA.out.2).mono ?_
  rintro e w1 ⟨rfl, hb⟩
  have HBW := Lib.hid (HBW.out.trans (hb.mono HBW.out.size))
  try have HVA := Lib.hid (HVA.out.lift hb)
  try have HVB := Lib.hid (HVB.out.lift hb)
  try have HVC := Lib.hid (HVC.out.lift hb)
  try have HVT := Lib.hid (HVT.out.lift hb)
  try have HVX := Lib.hid (HVX.out.lift hb)
  try have HVM := Lib.hid (HVM.out.lift hb)
  try have HVF := Lib.hid (HVF.out.lift hb)
  try have HVP := Lib.hid (HVP.out.lift hb)
  try have HVQ := Lib.hid (HVQ.out.lift hb)
  try have HLA := Lib.hid (HLA.out.lift hb)
  try have HLW := Lib.hid (HLW.out.lift hb)
  try have HI := Lib.hid (HI.out.lift hb)
  try have HRB := Lib.hid (HRB.out.trans (hb.mono HRB.out.size))
  try have HWW := Lib.hid (HWW.out.trans (hb.mono HWW.out.size))
  clear hb
  clear p0 p1
  obtain ⟨⟨p0, p1, _, _, _⟩, _⟩ := HVA.out
  go_wp2_with fail
  refine (HMT.out _).mono ?_
  rintro e w3 ⟨v, rs, rfl, hown, hkey, hb⟩
  have HBW := Lib.hid (HBW.out.trans (hb.mono HBW.out.size))
  try have HVA := Lib.hid (HVA.out.lift hb)
  try have HVB := Lib.hid (HVB.out.lift hb)
  try have HVC := Lib.hid (HVC.out.lift hb)
  try have HVT := Lib.hid (HVT.out.lift hb)
  try have HVX := Lib.hid (HVX.out.lift hb)
  try have HVM := Lib.hid (HVM.out.lift hb)
  try have HVF := Lib.hid (HVF.out.lift hb)
  try have HVP := Lib.hid (HVP.out.lift hb)
  try have HVQ := Lib.hid (HVQ.out.lift hb)
  try have HLA := Lib.hid (HLA.out.lift hb)
  try have HLW := Lib.hid (HLW.out.lift hb)
  try have HI := Lib.hid (HI.out.lift hb)
  try have HRB := Lib.hid (HRB.out.trans (hb.mono HRB.out.size))
  try have HWW := Lib.hid (HWW.out.trans (hb.mono HWW.out.size))
  clear hb
  clear p0 p1
  obtain ⟨Ar, cr, rfl⟩ := hown.form
  have hrl : rs.length ≤ 100 := by
    have := congrArg List.length hkey
    rw [List.length_map] at this
    omega
  have HKY := Lib.hid hkey
  have HRW := Lib.hid (fun hn => show ∃ g, Ar = some ⟨g, 0, none⟩ ∧ g < w3.heap.size ∧ ∀ i (hi : i < rs.length), w3.cell? ⟨g, i, none⟩ = some rs[i].slc by
    obtain ⟨g, a, _, b, c⟩ := hown.cells hn
    exact ⟨g, a, b, c⟩)
  have HRI := Lib.hid (fun i (hi : i < rs.length) => show (rs.getD i ⟨[], none, 0⟩).xs.length ≤ (rs.getD i ⟨[], none, 0⟩).c ∧ Ints w3 w3.heap.size (rs.getD i ⟨[], none, 0⟩).A (rs.getD i ⟨[], none, 0⟩).xs ∧ MetOk (rs.getD i ⟨[], none, 0⟩).xs ∧ prd (rs.getD i ⟨[], none, 0⟩).xs = N by
    rw [List.getD_eq_getElem?_getD, List.getElem?_eq_getElem hi]
    have hm := List.getElem_mem hi
    have hx := hown.2 _ hm
    have hz := HMO.out rs[i].xs (by rw [← hkey]; exact List.mem_map.2 ⟨_, hm, rfl⟩)
    exact ⟨hx.1, hx.2.1, hz.1, hz.2⟩)
  have HBV := Lib.hid (show bstM N bs (mtrL N).length = (rs.getD (bstI (rowF N bs rs) rs.length) ⟨[], none, 0⟩).xs by rw [bstM_row hkey, ← hkey, List.length_map])
  clear hown hkey
  have heqn : ∀ V : World, (binOp .eql 22 (.slice none 0 0) (.slice none 0 0)).run Tryd.prog V = .ok (.bool true) V := fun V => run_eql_slice_nil V _ _ none 0 0 Tryd.underlying22
  have heqs : ∀ (V : World) a l c, (binOp .eql 22 (.slice (some a) l c) (.slice none 0 0)).run Tryd.prog V = .ok (.bool false) V := fun V a l c => run_eql_slice_nil V _ _ (some a) l c Tryd.underlying22
  have hnqn : ∀ V : World, (binOp .neq 22 (.slice none 0 0) (.slice none 0 0)).run Tryd.prog V = .ok (.bool false) V := fun V => run_neq_slice_nil_any V _ _ none 0 0 0 0 Tryd.underlying22
  have hnqs : ∀ (V : World) a l c, (binOp .neq 22 (.slice (some a) l c) (.slice none 0 0)).run Tryd.prog V = .ok (.bool true) V := fun V a l c => run_neq_slice_nil_any V _ _ (some a) l c 0 0 Tryd.underlying22
  go_wp2_with fail
  go_loopw [4, 14] (fun b i wr => ∃ j : Nat, j ≤ rs.length ∧ i = .int .i64 j ∧ (j = 0 → b = .slice none 0 0) ∧ (1 ≤ j → b = (rs.getD (bstI (rowF N bs rs) j) ⟨[], none, 0⟩).slc) ∧ Below w3.heap.size w3 wr) (fun _ i _ => rs.length - (intOf i).toNat)
  case atStart => exact ⟨0, Nat.zero_le _, rfl, fun _ => rfl, fun h => by omega, Below.refl _ _⟩
  case round =>
    obtain ⟨j, hj, rfl, hb0, hbj, hbel⟩ := hrel
    obtain ⟨wo, rfl⟩ : ∃ wo : World, wo = wr := ⟨_, rfl⟩
    by_cases hlt : j < rs.length
    · have hlp : 0 < rs.length := by omega
      obtain ⟨gr, hAr, hgr, hcr⟩ := HRW.out hlp
      subst hAr
      have HCR := Lib.hid hcr
      clear hcr
      by_cases hj0 : j = 0
      · have hbe := hb0 hj0
        subst hbe
        have hcj := (hbel.cell (p := ⟨gr, j, none⟩) hgr).trans (HCR.out j hlt)
        rw [show rs[j] = rs.getD j ⟨[], none, 0⟩ by rw [List.getD_eq_getElem?_getD, List.getElem?_eq_getElem hlt]; rfl] at hcj
        obtain ⟨rj, hrj⟩ : ∃ r, rs.getD j ⟨[], none, 0⟩ = r := ⟨_, rfl⟩
        rw [hrj] at hcj
        have HRJ := Lib.hid hrj
        have HBO := Lib.hid hbel
        have HVA := Lib.hid (HVA.out.lift hbel)
        have HN := Lib.hid (show bstI (rowF N bs rs) (j + 1) = j by subst hj0; rfl)
        obtain ⟨Xj, Aj, cj⟩ := rj
        change wo.cell? ⟨gr, j, none⟩ = some (.slice Aj Xj.length cj) at hcj
        clear hbel hrj hb0 hbj
        obtain ⟨⟨p0, p1, _, _, _⟩, _⟩ := HVA.out
        have hji : (j : Int) < (rs.length : Int) := by omega
        clear hj0
        go_wp2_with fail
        (refine wp_region_held_drew (S := (fun w' => w'.cell? ⟨w.heap.size, 0, none⟩ = some (.int .i64 N) ∧ w'.cell? ⟨w.heap.size, 1, none⟩ = some (.slice A bs.length cap))) (by kernel_rfl) ?_ (fun hHeld => ?_); (focus ((try dsimp only); exact ⟨p0, p1⟩)))
        ((refine wpAnyH_take (i := 0) (v := ?_) rfl (by kernel_rfl) (by kernel_rfl) (by kernel_rfl) (fun _ _ _ h => h) (Or.inl ⟨by rfl, ?_⟩) (by assumption) ?_; rotate_left; (focus (intro wS hSw; (try dsimp only at hSw); go_simp; (try with_reducible rfl))); (try simp only [Act.put, List.getElem_toArray, List.getElem_cons_zero, List.getElem_cons_succ, List.setIfInBounds_toArray, List.set_cons_zero, List.set_cons_succ])); (refine wpAnyH_take (i := 1) (v := ?_) rfl (by kernel_rfl) (by kernel_rfl) (by kernel_rfl) (fun _ _ _ h => h) (Or.inl ⟨by rfl, ?_⟩) (by assumption) ?_; rotate_left; (focus (intro wS hSw; (try dsimp only at hSw); go_simp; (try with_reducible rfl))); (try simp only [Act.put, List.getElem_toArray, List.getElem_cons_zero, List.getElem_cons_succ, List.setIfInBounds_toArray, List.set_cons_zero, List.set_cons_succ])); (refine wpAnyH_take (i := 2) (v := ?_) rfl (by kernel_rfl) (by kernel_rfl) (by kernel_rfl) (fun _ _ _ h => h) (Or.inl ⟨by rfl, ?_⟩) (by assumption) ?_; rotate_left; (focus (intro wS hSw; (try dsimp only at hSw); go_simp; (try with_reducible rfl))); (try simp only [Act.put, List.getElem_toArray, List.getElem_cons_zero, List.getElem_cons_succ, List.setIfInBounds_toArray, List.set_cons_zero, List.set_cons_succ])))
        ((refine wpAnyH_take (i := 3) (v := undef) rfl (by kernel_rfl) (by kernel_rfl) (by kernel_rfl) (fun _ _ _ h => h) (Or.inr ⟨by rfl, rfl⟩) (by assumption) ?_; (try simp only [Act.put, List.getElem_toArray, List.getElem_cons_zero, List.getElem_cons_succ, List.setIfInBounds_toArray, List.set_cons_zero, List.set_cons_succ])); (refine wpAnyH_take (i := 4) (v := undef) rfl (by kernel_rfl) (by kernel_rfl) (by kernel_rfl) (fun _ _ _ h => h) (Or.inr ⟨by rfl, rfl⟩) (by assumption) ?_; (try simp only [Act.put, List.getElem_toArray, List.getElem_cons_zero, List.getElem_cons_succ, List.setIfInBounds_toArray, List.set_cons_zero, List.set_cons_succ])); (refine wpAnyH_take (i := 5) (v := undef) rfl (by kernel_rfl) (by kernel_rfl) (by kernel_rfl) (fun _ _ _ h => h) (Or.inr ⟨by rfl, rfl⟩) (by assumption) ?_; (try simp only [Act.put, List.getElem_toArray, List.getElem_cons_zero, List.getElem_cons_succ, List.setIfInBounds_toArray, List.set_cons_zero, List.set_cons_succ])); (refine wpAnyH_take (i := 6) (v := undef) rfl (by kernel_rfl) (by kernel_rfl) (by kernel_rfl) (fun _ _ _ h => h) (Or.inr ⟨by rfl, rfl⟩) (by assumption) ?_; (try simp only [Act.put, List.getElem_toArray, List.getElem_cons_zero, List.getElem_cons_succ, List.setIfInBounds_toArray, List.set_cons_zero, List.set_cons_succ])); (refine wpAnyH_take (i := 7) (v := undef) rfl (by kernel_rfl) (by kernel_rfl) (by kernel_rfl) (fun _ _ _ h => h) (Or.inr ⟨by rfl, rfl⟩) (by assumption) ?_; (try simp only [Act.put, List.getElem_toArray, List.getElem_cons_zero, List.getElem_cons_succ, List.setIfInBounds_toArray, List.set_cons_zero, List.set_cons_succ])); (refine wpAnyH_take (i := 8) (v := undef) rfl (by kernel_rfl) (by kernel_rfl) (by kernel_rfl) (fun _ _ _ h => h) (Or.inr ⟨by rfl, rfl⟩) (by assumption) ?_; (try simp only [Act.put, List.getElem_toArray, List.getElem_cons_zero, List.getElem_cons_succ, List.setIfInBounds_toArray, List.set_cons_zero, List.set_cons_succ])); (refine wpAnyH_take (i := 9) (v := undef) rfl (by kernel_rfl) (by kernel_rfl) (by kernel_rfl) (fun _ _ _ h => h) (Or.inr ⟨by rfl, rfl⟩) (by assumption) ?_; (try simp only [Act.put, List.getElem_toArray, List.getElem_cons_zero, List.getElem_cons_succ, List.setIfInBounds_toArray, List.set_cons_zero, List.set_cons_succ])))
        (refine wpAnyH_take (i := 10) (v := ?_) rfl (by kernel_rfl) (by kernel_rfl) (by kernel_rfl) (fun _ _ _ h => h) (Or.inl ⟨by rfl, ?_⟩) (by assumption) ?_; rotate_left; (focus (intro wS hSw; (try dsimp only at hSw); go_simp; (try with_reducible rfl))); (try simp only [Act.put, List.getElem_toArray, List.getElem_cons_zero, List.getElem_cons_succ, List.setIfInBounds_toArray, List.set_cons_zero, List.set_cons_succ]))
        refine wpAnyH_done (by kernel_rfl) ?_ _
        have HB5 := Lib.hid (Below.drewH_ HBO.out)
        go_wp2_with fail
        go_roundw
        case rel => exact ⟨j + 1, by omega, by go_num, fun h => by omega, fun _ => by rw [HN.out, HRJ.out] <;> rfl, HB5.out⟩
        case measure => simp [intOf]; omega
      · have hbe := hbj (by omega)
        subst hbe
        have hwz : w3.heap.size ≤ wo.heap.size := hbel.size
        have hb1 := bstI_le (rowF N bs rs) hj hlp
        have hcj := (hbel.cell (p := ⟨gr, j, none⟩) hgr).trans (HCR.out j hlt)
        rw [show rs[j] = rs.getD j ⟨[], none, 0⟩ by rw [List.getD_eq_getElem?_getD, List.getElem?_eq_getElem hlt]; rfl] at hcj
        have hIj := HRI.out j hlt
        have hIb := HRI.out _ hb1
        have HST := Lib.hid (fun (h : ¬ rowF N bs rs j < rowF N bs rs (bstI (rowF N bs rs) j)) => bstI_stay h)
        have HTK := Lib.hid (fun (h : rowF N bs rs j < rowF N bs rs (bstI (rowF N bs rs) j)) => bstI_take h)
        rw [show rowF N bs rs j = syncV N bs (rs.getD j ⟨[], none, 0⟩).xs from rfl, show rowF N bs rs (bstI (rowF N bs rs) j) = syncV N bs (rs.getD (bstI (rowF N bs rs) j) ⟨[], none, 0⟩).xs from rfl] at HST HTK
        obtain ⟨rb, hrb⟩ : ∃ r, rs.getD (bstI (rowF N bs rs) j) ⟨[], none, 0⟩ = r := ⟨_, rfl⟩
        obtain ⟨rj, hrj⟩ : ∃ r, rs.getD j ⟨[], none, 0⟩ = r := ⟨_, rfl⟩
        rw [hrb] at hIb HST HTK ⊢
        rw [hrj] at hIj hcj HST HTK
        have HRB := Lib.hid hrb
        have HRJ := Lib.hid hrj
        have HBO := Lib.hid hbel
        have HVA := Lib.hid (HVA.out.lift hbel)
        obtain ⟨Xj, Aj, cj⟩ := rj
        obtain ⟨Xb, Ab, cb⟩ := rb
        dsimp only at hIj hIb HST HTK
        change wo.cell? ⟨gr, j, none⟩ = some (.slice Aj Xj.length cj) at hcj
        have HXJ := Lib.hid (hIj.2.1.lift (show Below w3.heap.size w3 wo from hbel))
        have HXB := Lib.hid (hIb.2.1.lift (show Below w3.heap.size w3 wo from hbel))
        have HSJ := Lib.hid (fun V h1 h2 => HSY.out Aj cj Xj V h1 h2 hIj.2.2.1 hIj.2.2.2 hIj.1)
        have HSB := Lib.hid (fun V h1 h2 => HSY.out Ab cb Xb V h1 h2 hIb.2.2.1 hIb.2.2.2 hIb.1)
        obtain ⟨bj, oj, hAj, _⟩ := hIj.2.1.2.2 hIj.2.2.1.1
        obtain ⟨bb, ob, hAb, _⟩ := hIb.2.1.2.2 hIb.2.2.1.1
        subst hAj hAb
        obtain ⟨F1, hF1⟩ : ∃ F, syncV N bs Xj = F := ⟨_, rfl⟩
        obtain ⟨F2, hF2⟩ : ∃ F, syncV N bs Xb = F := ⟨_, rfl⟩
        rw [hF1] at HSJ HST HTK
        rw [hF2] at HSB HST HTK
        clear hbel hrb hrj hIj hIb hF1 hF2
        obtain ⟨⟨p0, p1, _, _, _⟩, _⟩ := HVA.out
        have hji : (j : Int) < (rs.length : Int) := by omega
        clear hb0 hbj
        unfold SV.slc
        go_wp2_with fail
        have HBX := HBW
        clear HBW
        have HBW := Lib.hid (Below.refl wo.heap.size wo)
        have HBW := Lib.hid (Below.drewH_ HBW.out)
        try have HRB := Lib.hid (Below.drewH_ HRB.out)
        try have HWW := Lib.hid (Below.drewH_ HWW.out)
        try have HVA := Lib.hid HVA.out.drew
        try have HVB := Lib.hid HVB.out.drew
        try have HVC := Lib.hid HVC.out.drew
        try have HVT := Lib.hid HVT.out.drew
        try have HVX := Lib.hid HVX.out.drew
        try have HVM := Lib.hid HVM.out.drew
        try have HVF := Lib.hid HVF.out.drew
        try have HVP := Lib.hid HVP.out.drew
        try have HVQ := Lib.hid HVQ.out.drew
        try have HLA := Lib.hid HLA.out.drewR_
        try have HLW := Lib.hid HLW.out.drewR_
        have HXJ := Lib.hid (show Ints wo.drew wo.drew.heap.size (some ⟨bj, oj, none⟩) Xj from HXJ.out)
        have HXB := Lib.hid (show Ints wo.drew wo.drew.heap.size (some ⟨bb, ob, none⟩) Xb from HXB.out)
        (refine wp_region_held_drew (S := (fun w' => w'.cell? ⟨w.heap.size, 0, none⟩ = some (.int .i64 N) ∧ w'.cell? ⟨w.heap.size, 1, none⟩ = some (.slice A bs.length cap))) (by kernel_rfl) ?_ (fun hHeld => ?_); (focus ((try dsimp only); exact ⟨p0, p1⟩)))
        ((refine wpAnyH_take (i := 0) (v := ?_) rfl (by kernel_rfl) (by kernel_rfl) (by kernel_rfl) (fun _ _ _ h => h) (Or.inl ⟨by rfl, ?_⟩) (by assumption) ?_; rotate_left; (focus (intro wS hSw; (try dsimp only at hSw); go_simp; (try with_reducible rfl))); (try simp only [Act.put, List.getElem_toArray, List.getElem_cons_zero, List.getElem_cons_succ, List.setIfInBounds_toArray, List.set_cons_zero, List.set_cons_succ])); (refine wpAnyH_take (i := 1) (v := ?_) rfl (by kernel_rfl) (by kernel_rfl) (by kernel_rfl) (fun _ _ _ h => h) (Or.inl ⟨by rfl, ?_⟩) (by assumption) ?_; rotate_left; (focus (intro wS hSw; (try dsimp only at hSw); go_simp; (try with_reducible rfl))); (try simp only [Act.put, List.getElem_toArray, List.getElem_cons_zero, List.getElem_cons_succ, List.setIfInBounds_toArray, List.set_cons_zero, List.set_cons_succ])); (refine wpAnyH_take (i := 2) (v := ?_) rfl (by kernel_rfl) (by kernel_rfl) (by kernel_rfl) (fun _ _ _ h => h) (Or.inl ⟨by rfl, ?_⟩) (by assumption) ?_; rotate_left; (focus (intro wS hSw; (try dsimp only at hSw); go_simp; (try with_reducible rfl))); (try simp only [Act.put, List.getElem_toArray, List.getElem_cons_zero, List.getElem_cons_succ, List.setIfInBounds_toArray, List.set_cons_zero, List.set_cons_succ])); (refine wpAnyH_take (i := 3) (v := ?_) rfl (by kernel_rfl) (by kernel_rfl) (by kernel_rfl) (fun _ _ _ h => h) (Or.inl ⟨by rfl, ?_⟩) (by assumption) ?_; rotate_left; (focus (intro wS hSw; (try dsimp only at hSw); go_simp; (try with_reducible rfl))); (try simp only [Act.put, List.getElem_toArray, List.getElem_cons_zero, List.getElem_cons_succ, List.setIfInBounds_toArray, List.set_cons_zero, List.set_cons_succ])); (refine wpAnyH_take (i := 4) (v := ?_) rfl (by kernel_rfl) (by kernel_rfl) (by kernel_rfl) (fun _ _ _ h => h) (Or.inl ⟨by rfl, ?_⟩) (by assumption) ?_; rotate_left; (focus (intro wS hSw; (try dsimp only at hSw); go_simp; (try with_reducible rfl))); (try simp only [Act.put, List.getElem_toArray, List.getElem_cons_zero, List.getElem_cons_succ, List.setIfInBounds_toArray, List.set_cons_zero, List.set_cons_succ])); (refine wpAnyH_take (i := 6) (v := ?_) rfl (by kernel_rfl) (by kernel_rfl) (by kernel_rfl) (fun _ _ _ h => h) (Or.inl ⟨by rfl, ?_⟩) (by assumption) ?_; rotate_left; (focus (intro wS hSw; (try dsimp only at hSw); go_simp; (try with_reducible rfl))); (try simp only [Act.put, List.getElem_toArray, List.getElem_cons_zero, List.getElem_cons_succ, List.setIfInBounds_toArray, List.set_cons_zero, List.set_cons_succ])); (refine wpAnyH_take (i := 7) (v := ?_) rfl (by kernel_rfl) (by kernel_rfl) (by kernel_rfl) (fun _ _ _ h => h) (Or.inl ⟨by rfl, ?_⟩) (by assumption) ?_; rotate_left; (focus (intro wS hSw; (try dsimp only at hSw); go_simp; (try with_reducible rfl))); (try simp only [Act.put, List.getElem_toArray, List.getElem_cons_zero, List.getElem_cons_succ, List.setIfInBounds_toArray, List.set_cons_zero, List.set_cons_succ])))
        (refine wpAnyH_ready (rs := [5]) (by kernel_rfl) (by simp) ?_; refine AllReadyH.cons rfl (fun K hK => ?_) AllReadyH.nil; go_simp)
        go_at_call 18
        refine (HSJ.out _ HVA.out.2 HXJ.out).mono ?_
        rintro e w4 ⟨rfl, hb⟩
        have HXB := Lib.hid (HXB.out.lift hb)
        have HBW := Lib.hid (HBW.out.trans (hb.mono HBW.out.size))
        try have HVA := Lib.hid (HVA.out.lift hb)
        try have HVB := Lib.hid (HVB.out.lift hb)
        try have HVC := Lib.hid (HVC.out.lift hb)
        try have HVT := Lib.hid (HVT.out.lift hb)
        try have HVX := Lib.hid (HVX.out.lift hb)
        try have HVM := Lib.hid (HVM.out.lift hb)
        try have HVF := Lib.hid (HVF.out.lift hb)
        try have HVP := Lib.hid (HVP.out.lift hb)
        try have HVQ := Lib.hid (HVQ.out.lift hb)
        try have HLA := Lib.hid (HLA.out.lift hb)
        try have HLW := Lib.hid (HLW.out.lift hb)
        try have HI := Lib.hid (HI.out.lift hb)
        try have HRB := Lib.hid (HRB.out.trans (hb.mono HRB.out.size))
        try have HWW := Lib.hid (HWW.out.trans (hb.mono HWW.out.size))
        clear hb
        clear p0 p1
        obtain ⟨⟨p0, p1, _, _, _⟩, _⟩ := HVA.out
        go_wp2_with fail
        (refine hK.out _ _ ?_ (fun hHeld2 => ?_); (focus ((try dsimp only); exact ⟨p0, p1⟩)); (clear hK K); (try simp only [Act.put, List.getElem_toArray, List.getElem_cons_zero, List.getElem_cons_succ, List.setIfInBounds_toArray, List.set_cons_zero, List.set_cons_succ]))
        (refine wpAnyH_ready (rs := [8]) (by kernel_rfl) (by simp) ?_; refine AllReadyH.cons rfl (fun K hK => ?_) AllReadyH.nil; go_simp)
        go_at_call 18
        refine (HSB.out _ HVA.out.2 HXB.out).mono ?_
        rintro e w5 ⟨rfl, hb⟩
        have HXB := Lib.hid (HXB.out.lift hb)
        have HBW := Lib.hid (HBW.out.trans (hb.mono HBW.out.size))
        try have HVA := Lib.hid (HVA.out.lift hb)
        try have HVB := Lib.hid (HVB.out.lift hb)
        try have HVC := Lib.hid (HVC.out.lift hb)
        try have HVT := Lib.hid (HVT.out.lift hb)
        try have HVX := Lib.hid (HVX.out.lift hb)
        try have HVM := Lib.hid (HVM.out.lift hb)
        try have HVF := Lib.hid (HVF.out.lift hb)
        try have HVP := Lib.hid (HVP.out.lift hb)
        try have HVQ := Lib.hid (HVQ.out.lift hb)
        try have HLA := Lib.hid (HLA.out.lift hb)
        try have HLW := Lib.hid (HLW.out.lift hb)
        try have HI := Lib.hid (HI.out.lift hb)
        try have HRB := Lib.hid (HRB.out.trans (hb.mono HRB.out.size))
        try have HWW := Lib.hid (HWW.out.trans (hb.mono HWW.out.size))
        clear hb
        clear p0 p1
        obtain ⟨⟨p0, p1, _, _, _⟩, _⟩ := HVA.out
        go_wp2_with fail
        (refine hK.out _ _ ?_ (fun hHeld2 => ?_); (focus ((try dsimp only); exact ⟨p0, p1⟩)); (clear hK K); (try simp only [Act.put, List.getElem_toArray, List.getElem_cons_zero, List.getElem_cons_succ, List.setIfInBounds_toArray, List.set_cons_zero, List.set_cons_succ]))
        have HB5 := Lib.hid (HBO.out.trans (HBW.out.mono hwz))
        by_cases hlF : F1 < F2
        · have HN := Lib.hid (HTK.out hlF)
          ((refine wpAnyH_take (i := 9) (v := ?_) rfl (by kernel_rfl) (by kernel_rfl) (by kernel_rfl) (fun _ _ _ h => h) (Or.inl ⟨by rfl, ?_⟩) (by assumption) ?_; rotate_left; (focus (intro wS hSw; (try dsimp only at hSw); go_simp; (try with_reducible rfl))); (try simp only [Act.put, List.getElem_toArray, List.getElem_cons_zero, List.getElem_cons_succ, List.setIfInBounds_toArray, List.set_cons_zero, List.set_cons_succ])); (refine wpAnyH_take (i := 10) (v := ?_) rfl (by kernel_rfl) (by kernel_rfl) (by kernel_rfl) (fun _ _ _ h => h) (Or.inl ⟨by rfl, ?_⟩) (by assumption) ?_; rotate_left; (focus (intro wS hSw; (try dsimp only at hSw); go_simp; (try with_reducible rfl))); (try simp only [Act.put, List.getElem_toArray, List.getElem_cons_zero, List.getElem_cons_succ, List.setIfInBounds_toArray, List.set_cons_zero, List.set_cons_succ])))
          refine wpAnyH_done (by kernel_rfl) ?_ _
          go_wp2_with fail
          go_roundw
          case rel => exact ⟨j + 1, by omega, by go_num, fun h => by omega, fun _ => by rw [HN.out, HRJ.out] <;> rfl, HB5.out⟩
          case measure => simp [intOf]; omega
        · have HN := Lib.hid (HST.out (by omega))
          ((refine wpAnyH_take (i := 9) (v := ?_) rfl (by kernel_rfl) (by kernel_rfl) (by kernel_rfl) (fun _ _ _ h => h) (Or.inl ⟨by rfl, ?_⟩) (by assumption) ?_; rotate_left; (focus (intro wS hSw; (try dsimp only at hSw); go_simp; (try with_reducible rfl))); (try simp only [Act.put, List.getElem_toArray, List.getElem_cons_zero, List.getElem_cons_succ, List.setIfInBounds_toArray, List.set_cons_zero, List.set_cons_succ])); (refine wpAnyH_take (i := 10) (v := ?_) rfl (by kernel_rfl) (by kernel_rfl) (by kernel_rfl) (fun _ _ _ h => h) (Or.inl ⟨by rfl, ?_⟩) (by assumption) ?_; rotate_left; (focus (intro wS hSw; (try dsimp only at hSw); go_simp; (try with_reducible rfl))); (try simp only [Act.put, List.getElem_toArray, List.getElem_cons_zero, List.getElem_cons_succ, List.setIfInBounds_toArray, List.set_cons_zero, List.set_cons_succ])))
          refine wpAnyH_done (by kernel_rfl) ?_ _
          go_wp2_with fail
          go_roundw
          case rel => exact ⟨j + 1, by omega, by go_num, fun h => by omega, fun _ => by rw [HN.out, HRB.out] <;> rfl, HB5.out⟩
          case measure => simp [intOf]; omega
    · have hje : j = rs.length := by omega
      by_cases hl0 : rs.length = 0
      · have hbe := hb0 (by omega)
        subst hbe
        have hrs : rs = [] := List.eq_nil_of_length_eq_zero hl0
        have HL := Lib.hid (show mtrL N = [] by rw [← HKY.out, hrs]; rfl)
        have HBO := Lib.hid hbel
        clear hb0 hbj hbel hl0 hrs
        subst hje
        go_wp2_with fail
        refine bodyPost_ret (v := .tuple #[.slice none 0 0, .bool false]) (by simp [results, Tryd.results15, go_sem]) rfl ?_
        exact ⟨HBW.out.trans (HBO.out.mono HBW.out.size), .inl ⟨HL.out, rfl⟩⟩
      · have hlp : 0 < rs.length := by omega
        have hbe := hbj (by omega)
        subst hbe hje
        have HNE := Lib.hid (show mtrL N ≠ [] from fun h => hl0 (by rw [← List.length_map (f := SV.xs), HKY.out, h]; rfl))
        have hIb := HRI.out _ (bstI_le (rowF N bs rs) (Nat.le_refl _) hlp)
        have hbv := HBV.out
        obtain ⟨rb, hrb⟩ : ∃ r, rs.getD (bstI (rowF N bs rs) rs.length) ⟨[], none, 0⟩ = r := ⟨_, rfl⟩
        rw [hrb] at hIb hbv ⊢
        obtain ⟨Xb, Ab, cb⟩ := rb
        dsimp only at hIb hbv
        obtain ⟨bb, ob, hAb, _⟩ := hIb.2.1.2.2 hIb.2.2.1.1
        subst hAb
        have HV := Lib.hid hbv
        have HIB := Lib.hid hIb
        have HBO := Lib.hid hbel
        unfold SV.slc
        clear hbv hIb hbel hrb hb0 hbj hl0
        go_wp2_with fail
        refine bodyPost_ret (v := .tuple #[.slice (some ⟨bb, ob, none⟩) Xb.length cb, .bool true]) (by simp [results, Tryd.results15, go_sem]) rfl ?_
        refine ⟨HBW.out.trans (HBO.out.mono HBW.out.size), .inr ⟨some ⟨bb, ob, none⟩, cb, HNE.out, ?_⟩⟩
        rw [HV.out]
        exact ⟨rfl, HIB.out.2.1.lift HBO.out, HIB.out.1⟩

end Go.Proofs.YtjoeglekcnaebaaDoor
