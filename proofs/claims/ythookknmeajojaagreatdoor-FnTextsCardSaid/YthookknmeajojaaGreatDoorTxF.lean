/-
  What the law of texts calls besides: rows made, texts of rhythms, and what is read again (plain).
-/
import Derived.Test.YthookknmeajojaaGreatDoorTxD
import Derived.Test.YthookknmeajojaaGreatDoorTyJ
import Derived.Test.YthookknmeajojaaGreatDoorTyL
import Derived.Test.YthookknmeajojaaGreatDoorText
import Derived.Test.YthookknmeajojaaGreatDoorTyM
namespace Go.Proofs.YthookknmeajojaaGreatDoor
open Go.RowKit
set_option linter.unusedVariables false
set_option linter.unusedSimpArgs false

set_option maxRecDepth 100000 in
set_option maxHeartbeats 1000000 in
theorem spec_MakeBar_any (A : Option Addr) (cap : Nat) (xs : List Int) (n : Nat) (w : World) (hB : Byt w w.heap.size A xs) (hn : n ≤ 1000) :
    Calls Tryz.prog 24 #[.slice A xs.length cap, .int .i64 n] w fun e w' => RetP2 (fun ps => 1 ≤ ps.length ∧ ps.length ≤ 6 ∧ ∀ x ∈ ps, 2 ≤ x ∧ x ≤ 3) w' e ∧ Below w.heap.size w w' := by
  have HN := Lib.hid (spec_l31New_any A cap xs n w hB hn)
  clear hB
  go_enter Tryz.func24, Tryz.ntmps24
  go_wp2_with fail
  refine HN.out.mono ?_
  rintro e w1 ⟨g, rfl, hg, hc, hb⟩
  have HC := Lib.hid hc
  have HB := Lib.hid hb
  clear hc hb
  go_wp2_with fail
  refine (spec_l19Draw_any g A cap xs _ HC.out).mono ?_
  rintro e w2 ⟨⟨ps, A2, c2, rfl, hp, hi⟩, hf2⟩
  have HI := Lib.hid hi
  have HP := Lib.hid hp
  have HB2 := Lib.hid (HB.out.trans (hf2.below (fun c hc => by subst hc; omega) HB.out.size))
  clear hi hp hf2
  go_wp2_with fail
  go_ret
  exact ⟨⟨ps, A2, c2, rfl, HP.out, HI.out⟩, HB2.out⟩

set_option maxRecDepth 100000 in
set_option maxHeartbeats 1000000 in
theorem spec_MakeTimes_any (A : Option Addr) (cap : Nat) (xs : List Int) (n : Nat) (w : World) (hB : Byt w w.heap.size A xs) (hn : n ≤ 1000) :
    Calls Tryz.prog 25 #[.slice A xs.length cap, .int .i64 n] w fun e w' => RetP2 (fun ps => ps.length ≤ 6 ∧ ∀ x ∈ ps, 0 ≤ x ∧ x ≤ 1000) w' e ∧ Below w.heap.size w w' := by
  have HN := Lib.hid (spec_l31New_any A cap xs n w hB hn)
  clear hB
  go_enter Tryz.func25, Tryz.ntmps25
  go_wp2_with fail
  refine HN.out.mono ?_
  rintro e w1 ⟨g, rfl, hg, hc, hb⟩
  have HC := Lib.hid hc
  have HB := Lib.hid hb
  clear hc hb
  go_wp2_with fail
  refine (spec_l22Draw_any g A cap xs _ HC.out).mono ?_
  rintro e w2 ⟨⟨ps, A2, c2, rfl, hp, hi⟩, hf2⟩
  have HI := Lib.hid hi
  have HP := Lib.hid hp
  have HB2 := Lib.hid (HB.out.trans (hf2.below (fun c hc => by subst hc; omega) HB.out.size))
  clear hi hp hf2
  go_wp2_with fail
  go_ret
  exact ⟨⟨ps, A2, c2, rfl, HP.out, HI.out⟩, HB2.out⟩

set_option maxRecDepth 100000 in
set_option maxHeartbeats 1000000 in
theorem spec_MakeMeter_any (A : Option Addr) (cap : Nat) (xs : List Int) (n : Nat) (w : World) (hB : Byt w w.heap.size A xs) (hn : n ≤ 1000) :
    Calls Tryz.prog 23 #[.slice A xs.length cap, .int .i64 n] w fun e w' => RetP2 (MetOk) w' e ∧ Below w.heap.size w w' := by
  have HN := Lib.hid (spec_l31New_any A cap xs n w hB hn)
  clear hB
  go_enter Tryz.func23, Tryz.ntmps23
  go_wp2_with fail
  refine HN.out.mono ?_
  rintro e w1 ⟨g, rfl, hg, hc, hb⟩
  have HC := Lib.hid hc
  have HB := Lib.hid hb
  clear hc hb
  go_wp2_with fail
  refine (spec_l18Draw_any g A cap xs _ HC.out).mono ?_
  rintro e w2 ⟨⟨ps, A2, c2, rfl, hp, hi⟩, hf2⟩
  have HI := Lib.hid hi
  have HP := Lib.hid hp
  have HB2 := Lib.hid (HB.out.trans (hf2.below (fun c hc => by subst hc; omega) HB.out.size))
  clear hi hp hf2
  go_wp2_with fail
  go_ret
  exact ⟨⟨ps, A2, c2, rfl, HP.out, HI.out⟩, HB2.out⟩

set_option maxRecDepth 100000 in
set_option maxHeartbeats 1000000 in
theorem impl_FormatRhythm_ok (N : Nat) (A : Option Addr) (cap : Nat) (bs : List Int) (w : World) (hA : Ints w w.heap.size A bs) (hok : RhOk N bs) :
    Calls Tryz.prog 27 #[.agg #[.int .i64 N, .slice A bs.length cap]] w fun e w' => e = .returned (.string (mkS (textF N bs (fun _ => 120)))) ∧ Below w.heap.size w w' := by
  have hfN : Fits (N : Int) := by have := hok.1; have := hok.2.1; unfold Fits; omega
  have hRO := fun V h => impl_RhythmOk_any N A cap bs V hfN h
  rw [rhB_iff.2 hok] at hRO
  have HRO := Lib.hid hRO
  have HM := Lib.hid (fun V h => impl_text_any N A cap bs V h hok)
  generalize textF N bs (fun _ => 120) = R at HM ⊢
  have HB0 := Lib.hid ((Below.refl w.heap.size w).alloc (Nat.le_refl _) (.cells #[.int .i64 N, .slice A bs.length cap] 26))
  have HC0 := Lib.hid (Cells2.new w (.int .i64 N) (.slice A bs.length cap) 26)
  have HI0 := Lib.hid (hA.lift HB0.out)
  clear hA hRO hok
  obtain ⟨c0, c1, _, _, _⟩ := HC0.out
  go_enter Tryz.func27, Tryz.ntmps27
  go_wp2_with fail
  refine (HRO.out _ HI0.out).mono ?_
  rintro e w1 ⟨rfl, hb⟩
  have HB1 := Lib.hid (HB0.out.trans (hb.mono HB0.out.size))
  have HC1 := Lib.hid (HC0.out.below hb HC0.out.2.2.2.2)
  have HI1 := Lib.hid (HI0.out.lift hb)
  clear hb c0 c1
  obtain ⟨c0, c1, _, _, _⟩ := HC1.out
  go_wp2_with fail
  refine (HM.out _ HI1.out).mono ?_
  rintro e w2 ⟨rfl, hb⟩
  have HB2 := Lib.hid (HB1.out.trans (hb.mono HB1.out.size))
  clear hb
  go_wp2_with fail
  go_ret
  exact ⟨rfl, HB2.out⟩

/-! What is read again. -/
theorem textF_char (N : Nat) (bs : List Int) : ∀ c ∈ textF N bs (fun _ => 120), c = 120 ∨ c = 46 := by
  intro c hc
  unfold textF tabL at hc
  obtain ⟨t, _, rfl⟩ := List.mem_map.1 hc
  unfold txF
  split
  · exact .inl rfl
  · exact .inr rfl
theorem text_prh {N : Nat} {bs : List Int} (hok : RhOk N bs) : prhB (mkS (textF N bs (fun _ => 120))) = true ∧ prhN (mkS (textF N bs (fun _ => 120))) = N ∧ prhL (mkS (textF N bs (fun _ => 120))) = bs := by
  have hs : (mkS (textF N bs (fun _ => 120))).size = N := by rw [mkS_size, textF_len]
  have h1 : prhB (mkS (textF N bs (fun _ => 120))) = true := by
    unfold prhB xdB
    have := hok.1
    have := hok.2.1
    rw [hs, decide_eq_true (by omega), Bool.true_and, show (mkS (textF N bs (fun _ => 120))).data.toList = textF N bs (fun _ => 120) from str_mk _, List.all_eq_true]
    intro c hc
    rcases textF_char N bs c hc with h | h
    · subst h; rfl
    · subst h; rfl
  refine ⟨h1, by unfold prhN; rw [h1, hs]; rfl, ?_⟩
  unfold prhL
  rw [h1, hs]
  show posX _ N = bs
  have hmem : ∀ x : Int, x ∈ posX (mkS (textF N bs (fun _ => 120))) N ↔ x ∈ bs := by
    intro x
    unfold posX
    rw [List.mem_map]
    have hc : ∀ t : Nat, t < N → (chr (mkS (textF N bs (fun _ => 120))) t = 120 ↔ (t : Int) ∈ bs) := fun t ht => by
      have e : chr (mkS (textF N bs (fun _ => 120))) t = ((txF bs (fun _ => 120) t).toNat : Int) := by
        have hg := tabL_get (f := txF bs (fun _ => 120)) ht
        have hl : t < (mkS (textF N bs (fun _ => 120))).size := by omega
        rw [chr_at hl]
        have : (mkS (textF N bs (fun _ => 120)))[t] = txF bs (fun _ => 120) t := by
          have h2 : (mkS (textF N bs (fun _ => 120))).data.toList[t]? = some (txF bs (fun _ => 120) t) := by
            rw [show (mkS (textF N bs (fun _ => 120))).data.toList = textF N bs (fun _ => 120) from str_mk _]; exact hg
          rw [List.getElem?_eq_getElem (by simpa using hl)] at h2
          exact Option.some.inj h2
        rw [this]
      rw [e]
      unfold txF
      by_cases hb : (t : Int) ∈ bs
      · rw [if_pos (show hasB bs t = true by unfold hasB; exact decide_eq_true hb)]
        exact ⟨fun _ => hb, fun _ => rfl⟩
      · rw [if_neg (show ¬ hasB bs t = true by unfold hasB; rw [decide_eq_false hb]; exact Bool.false_ne_true)]
        exact ⟨fun h => absurd h (by decide), fun h => absurd h hb⟩
    constructor
    · rintro ⟨t, ht, rfl⟩
      rw [List.mem_filter, List.mem_range] at ht
      exact (hc t ht.1).1 (of_decide_eq_true ht.2)
    · intro hx
      have hr := rhok_range hok x hx
      obtain ⟨t, ht⟩ := Int.eq_ofNat_of_zero_le hr.1
      subst ht
      exact ⟨t, List.mem_filter.2 ⟨List.mem_range.2 (by omega), decide_eq_true ((hc t (by omega)).2 hx)⟩, rfl⟩
  refine asc_unique ?_ (rhok_asc hok) hmem
  unfold posX
  rw [List.pairwise_map]
  refine List.Pairwise.imp (fun {a b} h => ?_) (List.Pairwise.filter _ List.pairwise_lt_range)
  exact Int.ofNat_lt.2 h
theorem nums_again {xs : List Int} (hl : xs.length ≤ 64) (hf : ∀ x ∈ xs, Fits x) : numsV (mkS (numsT xs)) = some xs := by
  have hsp : ∀ ys : List Int, ys ≠ [] → splT 44 (mkS (joinT (ys.map itoL) [44])) = (ys.map itoL).map mkS := fun ys h0 => by
    unfold splT
    rw [show (mkS (joinT (ys.map itoL) [44])).data.toList = joinT (ys.map itoL) [44] from str_mk _]
    rw [split_join 44 _ (by simpa using h0) (fun t ht => by obtain ⟨x, _, rfl⟩ := List.mem_map.1 ht; exact itoL_not x 44 (by decide) (by decide))]
  have hgo : ∀ (ys acc : List Int), (∀ x ∈ ys, Fits x) → acc.length + ys.length ≤ 64 → numF ((ys.map itoL).map mkS) acc = some (acc ++ ys) := by
    intro ys
    induction ys with
    | nil => intro acc _ _; simp [numF]
    | cons y r ih =>
      intro acc hy hl2
      rw [List.map_cons, List.map_cons, numF_on _ ((pint_iff (mkS (itoL y)) y).2 ⟨hy y (List.mem_cons_self ..), (str_mk _).symm⟩) (by simp at hl2; omega)]
      rw [ih _ (fun x hx => hy x (List.mem_cons_of_mem _ hx)) (by simp at hl2 ⊢; omega)]
      simp
  by_cases h0 : xs = []
  · subst h0
    exact numsV_dash (show (mkS [45]).data.toList = [45] from str_mk _)
  · unfold numsT
    rw [if_neg h0]
    have hne : ¬ (mkS (joinT (xs.map itoL) [44])).data.toList = [45] := by
      intro e
      have h1 := hsp xs h0
      unfold splT at h1
      rw [e] at h1
      have h2 : splF 44 [] [45] = [[45]] := by decide
      rw [h2] at h1
      cases xs with
      | nil => exact h0 rfl
      | cons x r =>
        have h3 : mkS [45] = mkS (itoL x) := by injection h1
        have h4 := mkS_inj h3
        have h5 := (pint_iff (mkS (itoL x)) x).2 ⟨hf x (List.mem_cons_self ..), (str_mk _).symm⟩
        rw [← h4] at h5
        have h6 : pintV (mkS [45]) = none := by decide
        rw [h6] at h5; cases h5
    rw [numsV_on hne, hsp xs h0, hgo xs [] hf (by simpa using hl)]
    rfl
theorem bar_again {xs : List Int} (h1 : 1 ≤ xs.length) (h2 : xs.length ≤ 6) (h3 : ∀ x ∈ xs, 2 ≤ x ∧ x ≤ 3) : barB xs = true ∧ pbarV (mkS (fbarV xs)) = some xs := by
  have hsum : sumX xs xs.length ≤ 24 := by
    have key : ∀ i, i ≤ xs.length → sumX xs i ≤ 3 * i := by
      intro i
      induction i with
      | zero => intro _; simp [sumX]
      | succ i ih =>
        intro hi
        have := ih (by omega)
        have := h3 (xs.getD i 0) (by rw [List.getD_eq_getElem?_getD, List.getElem?_eq_getElem (by omega)]; exact List.getElem_mem _)
        unfold sumX
        omega
    have := key xs.length (Nat.le_refl _)
    omega
  have hb : barB xs = true := by
    unfold barB
    rw [decide_eq_true ⟨h1, by omega⟩, decide_eq_true hsum, Bool.true_and, Bool.and_true]
    exact List.all_eq_true.2 fun x hx => inB_true (h3 x hx)
  have hf : ∀ x ∈ xs, Fits x := fun x hx => by have := h3 x hx; unfold Fits; omega
  have hv : fbarV xs = joinT (xs.map itoL) [43] := by unfold fbarV; rw [hb]; rfl
  have hp := pby_join 43 12 xs (fun e => by subst e; simp at h1) (by omega) hf (by decide) (by decide)
  refine ⟨hb, ?_⟩
  rw [hv]
  unfold pbarV
  rw [hp, show (mkS (joinT (xs.map itoL) [43])).data.toList = joinT (xs.map itoL) [43] from str_mk _]
  refine if_pos ⟨fun e => ?_, hb, rfl⟩
  rw [e] at hp
  have h7 : pbyV 43 12 (mkS []) = [0] := by decide
  rw [h7] at hp
  have := h3 0 (by rw [← hp]; simp)
  omega

end Go.Proofs.YthookknmeajojaaGreatDoor
