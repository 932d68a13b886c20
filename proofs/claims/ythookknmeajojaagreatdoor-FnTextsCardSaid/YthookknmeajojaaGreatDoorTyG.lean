/-
  Several texts of this proof in one: PInt, PIntT, BarJ, MaxL, SplI.
-/
import Derived.Test.YthookknmeajojaaGreatDoorShA
import Derived.Test.YthookknmeajojaaGreatDoorFmtI
import Derived.Lib.SmallJoins
import Derived.Lib.AtoiAllCases
import Derived.Test.YthookknmeajojaaGreatDoorTyF
import Derived.Test.YthookknmeajojaaGreatDoorJoin
import Derived.Test.YthookknmeajojaaGreatDoorShP
import Derived.Below
import Derived.Test.YthookknmeajojaaGreatDoorShL
namespace Go.Proofs.YthookknmeajojaaGreatDoor
open Go.RowKit Go.Shelf
set_option linter.unusedVariables false
set_option linter.unusedSimpArgs false

/-- A variable that holds an error, or none. -/
def ErrAt (w : World) (g : Nat) : Prop := ∃ ev, w.cell? ⟨g, 0, none⟩ = some ev ∧ (ev = .nilIface ∨ ∃ te pe, ev = .iface te pe)
theorem ErrAt.below {w w' : World} {g : Nat} (h : ErrAt w g) (hb : Below w.heap.size w w') : ErrAt w' g := by
  obtain ⟨ev, h1, h2⟩ := h
  exact ⟨ev, (hb.cell (p := ⟨g, 0, none⟩) (World.block_lt_of_cell? _ _ h1)).trans h1, h2⟩
def Errs (w : World) : Prop := ErrAt w (Tryz.laysC172_ren.g 15) ∧ ErrAt w (Tryz.laysC172_ren.g 16)
theorem Errs.below {w w' : World} (h : Errs w) (hb : Below w.heap.size w w') : Errs w' := ⟨h.1.below hb, h.2.below hb⟩

def pintV (s : ByteArray) : Option Int := match Lib.atoiAll s.data.toList with
  | .ok v => if itoL v = s.data.toList then some v else none
  | _ => none
theorem pintV_ok {s : ByteArray} {v : Int} (h : Lib.atoiAll s.data.toList = .ok v) : pintV s = if itoL v = s.data.toList then some v else none := by unfold pintV; rw [h]

set_option maxRecDepth 100000 in
set_option maxHeartbeats 1000000 in
theorem impl_ParseInt_any (s : ByteArray) (hs : s.size ≤ 281474976710656) (w : World) (hE : Errs w) (hP : Pow w) :
    Calls Tryz.prog 69 #[.string s] w fun e w' => e = .returned (.tuple #[.int .i64 ((pintV s).getD 0), .bool (pintV s).isSome]) ∧ Below w.heap.size w w' := by
  cases ha : Lib.atoiAll s.data.toList with
  | ok v =>
    obtain ⟨vb0, vb1⟩ := Lib.atoiAll_bounds ha
    have hf : Fits v := ⟨by omega, by omega⟩
    have HA := Lib.hid (Any.strconv_Atoi_ok Tryz.laysC172 s (by omega) v ha w)
    have HF := Lib.hid (fun V (hV : Pow V) => impl_FormatInt_any v hf V hV)
    have HP := Lib.hid hP
    have HV := Lib.hid (pintV_ok ha)
    generalize pintV s = pv at HV ⊢
    clear ha hE hP vb0 vb1 hf
    have HEQ := Lib.hid (show ((mkS (itoL v)).toList == s.toList) = decide (itoL v = s.data.toList) by
      rw [Lib.toList_data, Lib.toList_data, show (mkS (itoL v)).data.toList = itoL v from str_mk _]
      by_cases h : itoL v = s.data.toList
      · rw [h]; simp
      · rw [decide_eq_false h, beq_eq_false_iff_ne]; exact h)
    generalize mkS (itoL v) = X at HF HEQ
    by_cases hc : itoL v = s.data.toList
    · have hpv := HV.out
      rw [if_pos hc] at hpv
      subst hpv
      have heq := HEQ.out
      rw [decide_eq_true hc] at heq
      clear hc
      go_enter Tryz.func69, Tryz.ntmps69
      go_wp2_with fail
      refine HA.out.mono ?_
      rintro e w1 ⟨rfl, hw1⟩
      have hb1 : Below w.heap.size w w1 := by
        rcases hw1 with rfl | ⟨t, rfl⟩
        · exact Below.refl _ _
        · exact Go.Joins.below_bytesWorld _ _ _ _ (Nat.le_refl _)
      clear hw1
      go_wp2_with fail
      refine (HF.out _ (HP.out.below hb1)).mono ?_
      rintro e w2 ⟨rfl, hb2⟩
      go_wp2_with fail
      go_ret2
      exact ⟨rfl, hb1.trans (hb2.mono hb1.size)⟩
    · have hpv := HV.out
      rw [if_neg hc] at hpv
      subst hpv
      have heq := HEQ.out
      rw [decide_eq_false hc] at heq
      clear hc
      go_enter Tryz.func69, Tryz.ntmps69
      go_wp2_with fail
      refine HA.out.mono ?_
      rintro e w1 ⟨rfl, hw1⟩
      have hb1 : Below w.heap.size w w1 := by
        rcases hw1 with rfl | ⟨t, rfl⟩
        · exact Below.refl _ _
        · exact Go.Joins.below_bytesWorld _ _ _ _ (Nat.le_refl _)
      clear hw1
      go_wp2_with fail
      refine (HF.out _ (HP.out.below hb1)).mono ?_
      rintro e w2 ⟨rfl, hb2⟩
      go_wp2_with fail
      go_ret2
      exact ⟨rfl, hb1.trans (hb2.mono hb1.size)⟩
  | range =>
    obtain ⟨ev, h1, h2⟩ := hE.2
    have HA := Lib.hid (Any.strconv_Atoi_range Tryz.laysC172 s hs ha ev w h1 h2)
    have HV := Lib.hid (show pintV s = none by unfold pintV; rw [ha])
    clear ha hE hP h1 h2
    go_enter Tryz.func69, Tryz.ntmps69
    go_wp2_with fail
    refine HA.out.mono ?_
    rintro e w1 ⟨N, rfl, _, _, hb1⟩
    go_wp2_with fail
    go_ret2
    exact ⟨by rw [HV.out]; rfl, hb1⟩
  | _ =>
    obtain ⟨ev, h1, h2⟩ := hE.1
    have HA := Lib.hid (Any.strconv_Atoi_syntax Tryz.laysC172 s hs ha ev w h1 h2)
    have HV := Lib.hid (show pintV s = none by unfold pintV; rw [ha])
    clear ha hE hP h1 h2
    go_enter Tryz.func69, Tryz.ntmps69
    go_wp2_with fail
    refine HA.out.mono ?_
    rintro e w1 ⟨N, rfl, _, _, hb1⟩
    go_wp2_with fail
    go_ret2
    exact ⟨by rw [HV.out]; rfl, hb1⟩

end Go.Proofs.YthookknmeajojaaGreatDoor

namespace Go.Proofs.YthookknmeajojaaGreatDoor
open Go.RowKit Go.Shelf
set_option linter.unusedVariables false
set_option linter.unusedSimpArgs false

def digB (c : UInt8) : Bool := decide (48 ≤ c.toNat ∧ c.toNat ≤ 57)
theorem digB_iff {c : UInt8} : digB c = true ↔ 48 ≤ c.toNat ∧ c.toNat ≤ 57 := by unfold digB; simp
/-- What digits spell. -/
def decV (acc : Nat) (l : List UInt8) : Nat := l.foldl (fun a c => a * 10 + (c.toNat - 48)) acc
theorem decV_cons (acc : Nat) (c : UInt8) (l : List UInt8) : decV acc (c :: l) = decV (acc * 10 + (c.toNat - 48)) l := by unfold decV; rw [List.foldl_cons]
theorem decV_snoc (acc : Nat) (l : List UInt8) (c : UInt8) : decV acc (l ++ [c]) = decV acc l * 10 + (c.toNat - 48) := by unfold decV; rw [List.foldl_append, List.foldl_cons, List.foldl_nil]
theorem decV_ge : ∀ (l : List UInt8) (acc : Nat), acc ≤ decV acc l
  | [], acc => Nat.le_refl _
  | c :: l, acc => by
    have := decV_ge l (acc * 10 + (c.toNat - 48))
    rw [decV_cons]; omega
theorem decV_take (l : List UInt8) (k : Nat) : decV 0 (l.take k) ≤ decV 0 l := by
  have h : decV 0 l = decV (decV 0 (l.take k)) (l.drop k) := by
    unfold decV; rw [← List.foldl_append, List.take_append_drop]
  rw [h]; exact decV_ge _ _
theorem pu_ok (l : List UInt8) : ∀ (acc : Nat), (∀ c ∈ l, digB c = true) → decV acc l < 18446744073709551616 → Lib.parseUint10 acc l = .ok (decV acc l) := by
  induction l with
  | nil => intro acc _ _; rfl
  | cons c l ih =>
    intro acc hd h
    have h1 := digB_iff.1 (hd c (by simp))
    rw [decV_cons] at h
    have h2 := decV_ge l (acc * 10 + (c.toNat - 48))
    simp only [Lib.parseUint10]
    split
    · split
      · exfalso; omega
      · split
        · exfalso; omega
        · rw [decV_cons]; exact ih _ (fun c hc => hd c (by simp [hc])) h
    · exact absurd h1 (by assumption)
theorem dec_digits : ∀ (m k : Nat), k ≤ m → (∀ c ∈ Lib.decDigits k, digB c = true) ∧ decV 0 (Lib.decDigits k) = k ∧ Lib.decDigits k ≠ [] := by
  intro m
  induction m with
  | zero =>
    intro k hk
    have : k = 0 := by omega
    subst this
    rw [decD_small (by decide)]
    decide
  | succ m ih =>
    intro k hk
    have hv : ∀ r, r < 10 → (UInt8.ofNat (48 + r)).toNat = 48 + r := fun r hr => by rw [UInt8.toNat_ofNat']; omega
    by_cases h : k < 10
    · rw [decD_small h]
      refine ⟨fun c hc => ?_, ?_, by simp⟩
      · rw [List.mem_singleton.1 hc, digB_iff, hv k h]; omega
      · show 0 * 10 + ((UInt8.ofNat (48 + k)).toNat - 48) = k
        rw [hv k h]; omega
    · rw [decD_big h]
      obtain ⟨h1, h2, _⟩ := ih (k / 10) (by omega)
      have hm : k % 10 < 10 := Nat.mod_lt _ (by decide)
      refine ⟨fun c hc => ?_, ?_, by simp⟩
      · rcases List.mem_append.1 hc with hc | hc
        · exact h1 c hc
        · rw [List.mem_singleton.1 hc, digB_iff, hv _ hm]; omega
      · rw [decV_snoc, h2, hv _ hm]; omega
theorem dec_dig (k : Nat) : (∀ c ∈ Lib.decDigits k, digB c = true) ∧ decV 0 (Lib.decDigits k) = k ∧ Lib.decDigits k ≠ [] := dec_digits k k (Nat.le_refl _)
theorem mag_ok {l : List UInt8} (hd : ∀ c ∈ l, digB c = true) (h0 : l ≠ []) (h : decV 0 l < 18446744073709551616) : Lib.parseMag l = .ok (decV 0 l) := by
  unfold Lib.parseMag
  rw [if_neg h0]
  exact pu_ok l 0 hd h
theorem itoL_nat (N : Nat) : ∃ c r, itoL (N : Int) = c :: r ∧ c.toNat ≠ 43 ∧ c.toNat ≠ 45 := by
  rw [itoL_pos]
  obtain ⟨h1, _, h3⟩ := dec_dig N
  cases h : Lib.decDigits N with
  | nil => exact absurd h h3
  | cons c r =>
    have := digB_iff.1 (h1 c (by rw [h]; simp))
    exact ⟨c, r, rfl, by omega, by omega⟩
theorem atoi_itoL (v : Int) (hf : Fits v) : Lib.atoiAll (itoL v) = .ok v := by
  unfold Fits at hf
  by_cases h0 : 0 ≤ v
  · obtain ⟨N, rfl⟩ := Int.eq_ofNat_of_zero_le h0
    obtain ⟨c, r, e, h43, h45⟩ := itoL_nat N
    obtain ⟨h1, h2, h3⟩ := dec_dig N
    rw [e, Lib.atoiAll_plain c r h43 h45, ← e, itoL_pos, mag_ok h1 h3 (by rw [h2]; omega), h2]
    unfold Lib.signless
    simp only
    rw [if_neg (by omega)]
  · obtain ⟨N, hN⟩ := Int.eq_ofNat_of_zero_le (show 0 ≤ -v by omega)
    obtain rfl : v = -(N : Int) := by omega
    obtain ⟨h1, h2, h3⟩ := dec_dig N
    rw [itoL_neg N (by omega), Lib.atoiAll_minus, mag_ok h1 h3 (by rw [h2]; omega), h2]
    unfold Lib.signed
    simp only
    rw [if_neg (by omega)]
theorem pint_iff (s : ByteArray) (v : Int) : pintV s = some v ↔ Fits v ∧ itoL v = s.data.toList := by
  constructor
  · intro h
    unfold pintV at h
    cases ha : Lib.atoiAll s.data.toList with
    | ok u =>
      rw [ha] at h
      simp only at h
      by_cases hc : itoL u = s.data.toList
      · rw [if_pos hc] at h
        injection h with h
        subst h
        exact ⟨Lib.atoiAll_bounds ha, hc⟩
      · rw [if_neg hc] at h; cases h
    | _ => rw [ha] at h; cases h
  · rintro ⟨hf, hc⟩
    unfold pintV
    rw [← hc, atoi_itoL v hf]
    simp

end Go.Proofs.YthookknmeajojaaGreatDoor

namespace Go.Proofs.YthookknmeajojaaGreatDoor
set_option linter.unusedVariables false
set_option linter.unusedSimpArgs false

theorem itoL_chr (n : Int) : ∀ c ∈ itoL n, c = 45 ∨ digB c = true := by
  intro c hc
  obtain ⟨N, rfl | rfl⟩ := Int.eq_nat_or_neg n
  · rw [itoL_pos] at hc
    exact .inr ((dec_dig N).1 c hc)
  · by_cases h0 : 0 < N
    · rw [itoL_neg N h0] at hc
      rcases List.mem_cons.1 hc with h1 | h1
      · exact .inl h1
      · exact .inr ((dec_dig N).1 c h1)
    · have : N = 0 := by omega
      subst this
      exact .inr ((dec_dig 0).1 c (by rw [← itoL_pos]; exact hc))
theorem itoL_not (n : Int) (d : UInt8) (h1 : d ≠ 45) (h2 : digB d = false) : ∀ c ∈ itoL n, c ≠ d := fun c hc e => by
  subst e
  rcases itoL_chr n c hc with h | h
  · exact h1 h
  · rw [h2] at h; cases h
theorem splF_app (d : UInt8) (r : List UInt8) : ∀ (t cur : List UInt8), (∀ c ∈ t, c ≠ d) → splF d cur (t ++ r) = splF d (cur ++ t) r
  | [], cur, _ => by simp
  | c :: t, cur, h => by
    rw [List.cons_append, splF_other _ _ (h c (List.mem_cons_self ..)), splF_app d r t (cur ++ [c]) (fun x hx => h x (List.mem_cons_of_mem _ hx))]
    simp
theorem split_tail (d : UInt8) : ∀ (r : List Txt) (cur : Txt), (∀ t ∈ r, ∀ c ∈ t, c ≠ d) → splF d cur (Lib.joinTail [d] r) = cur :: r
  | [], cur, _ => rfl
  | t :: r, cur, h => by
    have e : Lib.joinTail [d] (t :: r) = d :: (t ++ Lib.joinTail [d] r) := by simp [Lib.joinTail]
    rw [e, splF_comma, splF_app d _ t [] (h t (List.mem_cons_self ..)), List.nil_append, split_tail d r t (fun x hx => h x (List.mem_cons_of_mem _ hx))]
theorem split_join (d : UInt8) (ts : List Txt) (h0 : ts ≠ []) (h : ∀ t ∈ ts, ∀ c ∈ t, c ≠ d) : splF d [] (joinT ts [d]) = ts := by
  cases ts with
  | nil => exact absurd rfl h0
  | cons t r =>
    have e : joinT (t :: r) [d] = t ++ Lib.joinTail [d] r := Lib.join_cons t r [d]
    rw [e, splF_app d _ t [] (h t (List.mem_cons_self ..)), List.nil_append, split_tail d r t (fun x hx => h x (List.mem_cons_of_mem _ hx))]
theorem splF_pos (d : UInt8) : ∀ (l cur : List UInt8), 0 < (splF d cur l).length
  | [], cur => by simp [splF]
  | y :: l, cur => by
    rw [splF]
    split
    · simp
    · exact splF_pos d l _
theorem join_splF (d : UInt8) : ∀ (l cur : List UInt8), joinT (splF d cur l) [d] = cur ++ l
  | [], cur => by rw [splF, joinT_one, List.append_nil]
  | c :: r, cur => by
    by_cases h : c = d
    · subst h
      rw [splF_comma]
      have ih := join_splF c r []
      have hp := splF_pos c r []
      cases hs : splF c [] r with
      | nil => rw [hs] at hp; simp at hp
      | cons u v =>
        rw [hs] at ih
        have e1 : joinT (u :: v) [c] = u ++ Lib.joinTail [c] v := Lib.join_cons u v [c]
        have e2 : joinT (cur :: u :: v) [c] = cur ++ Lib.joinTail [c] (u :: v) := Lib.join_cons cur (u :: v) [c]
        have e3 : Lib.joinTail [c] (u :: v) = c :: (u ++ Lib.joinTail [c] v) := by simp [Lib.joinTail]
        rw [e2, e3, ← e1, ih]
        simp
    · rw [splF_other _ _ h, join_splF d r (cur ++ [c])]
      simp

/-- The numbers of a text between bytes d; 0 for a piece that is none; no number where there are too many pieces. -/
def pbyV (d : UInt8) (most : Nat) (s : ByteArray) : List Int := if (splT d s).length ≤ most then (splT d s).map (fun u => (pintV u).getD 0) else []
theorem pby_join (d : UInt8) (most : Nat) (xs : List Int) (h0 : xs ≠ []) (hl : xs.length ≤ most) (hf : ∀ x ∈ xs, Fits x) (h1 : d ≠ 45) (h2 : digB d = false) :
    pbyV d most (mkS (joinT (xs.map itoL) [d])) = xs := by
  have hs : splT d (mkS (joinT (xs.map itoL) [d])) = (xs.map itoL).map mkS := by
    unfold splT
    rw [show (mkS (joinT (xs.map itoL) [d])).data.toList = joinT (xs.map itoL) [d] from str_mk _]
    rw [split_join d _ (by simpa using h0) (fun t ht => by obtain ⟨x, _, rfl⟩ := List.mem_map.1 ht; exact itoL_not x d h1 h2)]
  unfold pbyV
  rw [hs, if_pos (by simpa using hl), List.map_map, List.map_map]
  conv => rhs; rw [← List.map_id xs]
  refine List.map_congr_left fun x hx => ?_
  show (pintV (mkS (itoL x))).getD 0 = x
  rw [(pint_iff (mkS (itoL x)) x).2 ⟨hf x hx, (str_mk _).symm⟩]
  rfl
theorem pby_fits (d : UInt8) (most : Nat) (s : ByteArray) : ∀ x ∈ pbyV d most s, Fits x := by
  intro x hx
  unfold pbyV at hx
  split at hx
  · obtain ⟨u, _, rfl⟩ := List.mem_map.1 hx
    cases hp : pintV u with
    | none => exact ⟨by decide, by decide⟩
    | some v => exact ((pint_iff u v).1 hp).1
  · cases hx
theorem pby_len (d : UInt8) (most : Nat) (s : ByteArray) : (pbyV d most s).length ≤ most := by
  unfold pbyV
  split
  · simpa using by assumption
  · simp

end Go.Proofs.YthookknmeajojaaGreatDoor

namespace Go.Proofs.YthookknmeajojaaGreatDoor
open Go.RowKit Go.Shelf
set_option linter.unusedVariables false
set_option linter.unusedSimpArgs false

/-- internal/bytealg.MaxLen holds some number. -/
def MaxL (w : World) : Prop := ∃ m, w.cell? ⟨Tryz.lays155_ren.g 1, 0, none⟩ = some (.int .i64 m)
theorem MaxL.below {w w' : World} (h : MaxL w) (hb : Below w.heap.size w w') : MaxL w' := by
  obtain ⟨m, hm⟩ := h
  exact ⟨m, (hb.cell (p := ⟨Tryz.lays155_ren.g 1, 0, none⟩) (World.block_lt_of_cell? _ _ hm)).trans hm⟩

end Go.Proofs.YthookknmeajojaaGreatDoor

namespace Go.Proofs.YthookknmeajojaaGreatDoor
open Go.RowKit Go.Shelf
set_option linter.unusedVariables false
set_option linter.unusedSimpArgs false

theorem strings_Split_one (d : UInt8) (s : ByteArray) (w : World) (hs : s.size ≤ 1048576) (hM : MaxL w) :
    Calls Tryz.prog 107 #[.string s, .string ⟨#[d]⟩] w fun e w' => ∃ A cap, e = .returned (.slice A (splT d s).length cap) ∧ OwnTx w' w.heap.size (.slice A (splT d s).length cap) (splT d s) ∧ Below w.heap.size w w' := by
  obtain ⟨m, hm⟩ := hM
  have hlen := Lib.splitB_all ⟨#[d]⟩ (Nat.le_refl 1) 0 _ s rfl
  have hT := splitB_T d _ s rfl
  refine (Any.strings_Split Tryz.lays146 (by kernel_rfl) s ⟨#[d]⟩ m w (by omega) hm (Nat.le_refl 1)).mono ?_
  rintro e w' ⟨rfl, rfl⟩
  rw [hT] at hlen ⊢
  rw [← hlen]
  have hl : (splT d s).length ≤ 1048577 := by
    unfold splT
    rw [List.length_map]
    have h1 := splF_len d s.data.toList []
    have h2 : s.data.toList.length = s.size := by simp
    omega
  generalize splT d s = us at *
  refine ⟨_, _, rfl, ⟨by simp, .inr ⟨w.heap.size, us.length, (us.map Value.string).toArray, rfl, Nat.le_refl _, ?_, Nat.le_refl _, by unfold maxLen; omega, by simp, ?_⟩⟩, (Below.refl _ _).alloc (Nat.le_refl _) _⟩
  · exact heap_alloc_new w _
  · simp [List.take_of_length_le]

end Go.Proofs.YthookknmeajojaaGreatDoor

