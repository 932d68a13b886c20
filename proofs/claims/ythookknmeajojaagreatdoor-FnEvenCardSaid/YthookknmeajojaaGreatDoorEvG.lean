/-
  The grouped even rhythm, of the program.
-/
import Derived.Test.YthookknmeajojaaGreatDoorEaG
import Derived.Test.YthookknmeajojaaGreatDoorEaL
import Derived.Test.YthookknmeajojaaGreatDoorWdw
namespace Go.Proofs.YthookknmeajojaaGreatDoor
open Go.RowKit Go.Shelf
set_option linter.unusedVariables false
set_option linter.unusedSimpArgs false

/-- The text of the grouped rhythm, by fuel. -/
def grpF : Nat → List UInt8 → List UInt8 → Nat → Nat → List UInt8
  | 0, a, b, p, q => Lib.repeatL a p ++ Lib.repeatL b q
  | f + 1, a, b, p, q => if 1 ≤ p ∧ 2 ≤ q then grpF f (a ++ b) (if q < p then a else b) (min p q) (max (p - q) (q - p)) else Lib.repeatL a p ++ Lib.repeatL b q
def grpT (n k : Nat) : List UInt8 := grpF 24 [120] [46] k (n - k)
def grpP (n k : Nat) : List Nat := (List.range n).filter fun t => decide ((grpT n k).getD t 0 = 120)
def grpL (n k : Nat) : List Int := (grpP n k).map Int.ofNat
theorem grpF_on {f p q : Nat} {a b : List UInt8} (h1 : 1 ≤ p) (h2 : 2 ≤ q) : grpF (f + 1) a b p q = grpF f (a ++ b) (if q < p then a else b) (min p q) (max (p - q) (q - p)) := by
  show (if 1 ≤ p ∧ 2 ≤ q then _ else _) = _
  rw [if_pos ⟨h1, h2⟩]
theorem grpF_off {f p q : Nat} {a b : List UInt8} (h : ¬ (1 ≤ p ∧ 2 ≤ q)) : grpF f a b p q = Lib.repeatL a p ++ Lib.repeatL b q := by
  cases f
  · rfl
  · show (if 1 ≤ p ∧ 2 ≤ q then _ else _) = _
    rw [if_neg h]
theorem grp_look : ((List.range 14).all fun i => (List.range (i + 2)).all fun k => decide ((grpT (i + 1) k).length = i + 1) && ((grpT (i + 1) k).all fun c => c == 120 || c == 46) && decide ((grpP (i + 1) k).length = k) && memN (orM (grpP (i + 1) k)) ((List.range (i + 1)).map (emask (i + 1) k 0))) = true := by decide +kernel

section
variable {N k : Nat}
theorem grp_facts (h1 : 1 ≤ N) (h2 : N ≤ 14) (hk : k ≤ N) : (grpT N k).length = N ∧ ((grpT N k).all fun c => c == 120 || c == 46) = true ∧ (grpP N k).length = k ∧ ∃ r, r < N ∧ emask N k 0 r = orM (grpP N k) := by
  have hl := List.all_eq_true.1 (List.all_eq_true.1 grp_look (N - 1) (by simp; omega)) k (by simp; omega)
  rw [show N - 1 + 1 = N by omega, Bool.and_eq_true, Bool.and_eq_true, Bool.and_eq_true, decide_eq_true_eq, decide_eq_true_eq, memN_iff, List.mem_map] at hl
  obtain ⟨⟨⟨e1, e2⟩, e3⟩, r, hr, e4⟩ := hl
  exact ⟨e1, e2, e3, r, List.mem_range.1 hr, e4⟩
theorem grpL_len (h1 : 1 ≤ N) (h2 : N ≤ 14) (hk : k ≤ N) : (grpL N k).length = k := by
  unfold grpL; rw [List.length_map]; exact (grp_facts h1 h2 hk).2.2.1
theorem grp_ok (h1 : 1 ≤ N) (h2 : N ≤ 14) : RhOk N (grpL N k) := by
  refine asc_rhok h1 (by omega) ?_ fun x hx => ?_
  · unfold grpL grpP
    rw [List.pairwise_map]
    exact List.Pairwise.imp (fun {i j} hij => Int.ofNat_lt.2 hij) (List.Pairwise.filter _ List.pairwise_lt_range)
  · unfold grpL grpP at hx
    obtain ⟨t, ht, rfl⟩ := List.mem_map.1 hx
    have := List.mem_range.1 (List.mem_filter.1 ht).1
    exact ⟨Int.natCast_nonneg _, Int.ofNat_lt.2 this⟩
theorem grp_even (h1 : 1 ≤ N) (h2 : N ≤ 14) (hk : k ≤ N) : rotP N (evB N k) (grpL N k) := by
  obtain ⟨_, _, _, r, hr, e⟩ := grp_facts h1 h2 hk
  have ho := grp_ok (k := k) h1 h2
  have hll := grpL_len h1 h2 hk
  have he : evnB (stepsL N (grpL N k)) = true := by
    refine (mask_even ho).1 ⟨r, hr, ?_⟩
    rw [hll, e]
    congr 1
    unfold grpL
    rw [List.map_map]
    exact (List.map_id _).symm
  have := (even_rot_from ho).1 he
  rwa [hll] at this
theorem chr_mkG (T : List UInt8) (k : Nat) : chr (mkS T) k = ((T.getD k 0).toNat : Int) := by
  by_cases h : k < (mkS T).size
  · rw [chr_at h]
    have h2 : k < T.length := by rwa [mkS_size] at h
    rw [List.getD_eq_getElem?_getD, List.getElem?_eq_getElem h2]
    show (((mkS T).data[k]).toNat : Int) = _
    simp [mkS]
  · unfold chr
    rw [dif_neg h, List.getD_eq_getElem?_getD, List.getElem?_eq_none (by rw [mkS_size] at h; omega)]
    rfl
theorem grp_pos (s : ByteArray) (hs : s = mkS (grpT N k)) (h1 : 1 ≤ N) (h2 : N ≤ 14) (hk : k ≤ N) : prhN s = N ∧ prhL s = grpL N k ∧ prhB s = true := by
  obtain ⟨e1, e2, _, _⟩ := grp_facts h1 h2 hk
  have hsz : s.size = N := by rw [hs, mkS_size, e1]
  have hb : prhB s = true := by
    unfold prhB xdB
    rw [hsz, decide_eq_true (by omega : 1 ≤ N ∧ N ≤ 24), Bool.true_and, hs]
    simpa [mkS] using e2
  refine ⟨?_, ?_, hb⟩
  · unfold prhN; rw [if_pos hb, hsz]
  · unfold prhL
    rw [if_pos hb, hsz]
    unfold posX grpL grpP
    congr 1
    refine List.filter_congr fun t _ => ?_
    rw [hs, chr_mkG]
    rw [decide_eq_decide]
    constructor
    · intro h; exact UInt8.toNat_inj.1 (by rw [show (120 : UInt8).toNat = 120 from rfl]; omega)
    · intro h; rw [h]; rfl
end

theorem Below.undrewG_ {B : Nat} {a w : World} (h : Below B a.drew w) : Below B a w := ⟨h.os, h.tape, h.output, h.size, h.block⟩

set_option maxRecDepth 100000 in
set_option maxHeartbeats 2000000 in
theorem impl_GroupedEven_ok (N k : Nat) (w : World) (hn1 : 1 ≤ N) (hn2 : N ≤ 14) (hk : k ≤ N) :
    Calls Tryz.prog 7 #[.int .i64 k, .int .i64 N] w (RetRh2 w N (grpL N k) true) := by
  have hi1 : inB (N : Int) 1 24 = true := inB_true ⟨by omega, by omega⟩
  have hi2 : inB (k : Int) 0 N = true := inB_true ⟨by omega, by omega⟩
  have hw0 : IntKind.i64.wrap ((N : Int) - (k : Int)) = ((N - k : Nat) : Int) := by rw [i64w (by omega)]; omega
  have HP := Lib.hid (fun s (hs : s = mkS (grpT N k)) V => show Calls Tryz.prog 26 #[.string s] V (RetRh2 V N (grpL N k) true) from by
    obtain ⟨a1, a2, a3⟩ := grp_pos s hs hn1 hn2 hk
    have := impl_ParseRhythm_any s V (by rw [hs, mkS_size, (grp_facts hn1 hn2 hk).1]; unfold maxLen; omega)
    rwa [a1, a2, a3] at this)
  have HG := Lib.hid (show grpF 24 [120] [46] k (N - k) = grpT N k from rfl)
  have HC1 := Lib.hid (Cells2.new w (.int .i64 0) (.slice none 0 0) 26)
  have HB0 := Lib.hid ((Below.refl w.heap.size w).alloc (Nat.le_refl _) (.cells #[.int .i64 0, .slice none 0 0] 26))
  generalize grpT N k = G at HP HG
  generalize grpL N k = L at HP ⊢
  obtain ⟨p0, p1, _, _, _⟩ := HC1.out
  go_enter Tryz.func7, Tryz.ntmps7
  go_wp2_with (go_at_call 39; refine (within_any _ _ _ _).mono ?_; rintro e w' ⟨rfl, rfl⟩)
  obtain ⟨W, hW⟩ : ∃ W, w.alloc (.cells #[.int .i64 0, .slice none 0 0] 26) = W := ⟨_, rfl⟩
  rw [hW] at HC1 HB0 p0 p1 ⊢
  clear hi1 hi2 hw0 hW
  go_loop [6, 7, 8, 9] (fun f l pv qv => ∃ (fu : Nat) (a b : List UInt8) (p q : Nat), f = .string (mkS a) ∧ l = .string (mkS b) ∧ pv = .int .i64 p ∧ qv = .int .i64 q ∧ p + q ≤ fu ∧ grpF fu a b p q = G ∧ a.length ≤ 48 ∧ b.length ≤ 48 ∧ p * a.length + q * b.length = N ∧ p ≤ 24 ∧ q ≤ 24) (fun _ _ pv qv => (intOf pv).toNat + (intOf qv).toNat)
  case atStart => exact ⟨24, [120], [46], k, N - k, rfl, rfl, rfl, rfl, by omega, HG.out, by simp, by simp, by simp; omega, by omega, by omega⟩
  case round =>
    obtain ⟨fu, a, b, p, q, rfl, rfl, rfl, rfl, hf, hg, hla, hlb, hpq, hp24, hq24⟩ := hrel
    have hsa := mkS_size a
    have hsb := mkS_size b
    by_cases hc : 1 ≤ p ∧ 2 ≤ q
    · obtain ⟨fu, rfl⟩ : ∃ x, fu = x + 1 := ⟨fu - 1, by omega⟩
      obtain ⟨c1, c2⟩ := hc
      rw [grpF_on c1 c2] at hg
      have la : a.length ≤ 14 := by
        have := Nat.mul_le_mul_right a.length c1
        omega
      have lb : b.length ≤ 14 := by
        have := Nat.mul_le_mul_right b.length c2
        omega
      have HAP := Lib.hid (show mkS a ++ mkS b = mkS (a ++ b) from Str.eq ((str_mk a).app (str_mk b)))
      have HLL := Lib.hid (show (a ++ b).length = a.length + b.length from List.length_append)
      have g1 : decide ((p : Int) ≥ 1) = true := decide_eq_true (by omega)
      have g2 : decide ((q : Int) ≥ 2) = true := decide_eq_true (by omega)
      by_cases hqp : q < p
      · have g3 : decide ((p : Int) > (q : Int)) = true := decide_eq_true (by omega)
        rw [if_pos hqp, show min p q = q by omega, show max (p - q) (q - p) = p - q by omega] at hg
        go_wp2_with fail
        refine ⟨⟨fu, a ++ b, a, q, p - q, by rw [HAP.out], rfl, by congr 1; omega, by congr 1; omega, by omega, hg, by rw [HLL.out]; omega, hla, ?_, by omega, by omega⟩, by simp [intOf]; omega⟩
        obtain ⟨d, rfl⟩ : ∃ d, p = q + d := ⟨p - q, by omega⟩
        rw [HLL.out, show q + d - q = d by omega, Nat.mul_add]
        rw [Nat.add_mul] at hpq
        omega
      · have g3 : decide ((p : Int) > (q : Int)) = false := decide_eq_false (by omega)
        rw [if_neg hqp, show min p q = p by omega, show max (p - q) (q - p) = q - p by omega] at hg
        go_wp2_with fail
        refine ⟨⟨fu, a ++ b, b, p, q - p, by rw [HAP.out], rfl, by congr 1; omega, by congr 1; omega, by omega, hg, by rw [HLL.out]; omega, hlb, ?_, by omega, by omega⟩, by simp [intOf]; omega⟩
        obtain ⟨d, rfl⟩ : ∃ d, q = p + d := ⟨q - p, by omega⟩
        rw [HLL.out, show p + d - p = d by omega, Nat.mul_add]
        rw [Nat.add_mul] at hpq
        omega
    · rw [grpF_off hc] at hg
      have hpa : a.length * p ≤ 24 := by rw [Nat.mul_comm]; omega
      have hqb : b.length * q ≤ 24 := by rw [Nat.mul_comm]; omega
      have HRA := Lib.hid (fun V => strings_Repeat_any (mkS a) p V (by omega) (by rw [hsa]; omega))
      have HRB := Lib.hid (fun V => strings_Repeat_any (mkS b) q V (by omega) (by rw [hsb]; omega))
      have hs1 : (⟨(Lib.repeatL (mkS a).data.toList p).toArray⟩ : ByteArray) ++ ⟨(Lib.repeatL (mkS b).data.toList q).toArray⟩ = mkS G := by
        rw [← hg]
        refine Str.eq (Str.app ?_ ?_)
        · simp [Str, mkS]
        · simp [Str, mkS]
      have hz : ∀ l : List UInt8, ∀ c : Nat, (Lib.repeatL l c).length = l.length * c := fun l c => by
        induction c with
        | zero => rfl
        | succ c ih => show (l ++ Lib.repeatL l c).length = _; rw [List.length_append, ih, Nat.mul_succ]; omega
      have hz1 : (⟨(Lib.repeatL (mkS a).data.toList p).toArray⟩ : ByteArray).size ≤ 24 := by
        show (Lib.repeatL (mkS a).data.toList p).toArray.size ≤ 24
        rw [List.size_toArray, hz]
        simpa [mkS] using hpa
      have hz2 : (⟨(Lib.repeatL (mkS b).data.toList q).toArray⟩ : ByteArray).size ≤ 24 := by
        show (Lib.repeatL (mkS b).data.toList q).toArray.size ≤ 24
        rw [List.size_toArray, hz]
        simpa [mkS] using hqb
      generalize (⟨(Lib.repeatL (mkS a).data.toList p).toArray⟩ : ByteArray) = X at *
      generalize (⟨(Lib.repeatL (mkS b).data.toList q).toArray⟩ : ByteArray) = Y at *
      have HPS := Lib.hid (HP.out (X ++ Y) hs1)
      clear hs1 hz hg hpq
      have hcc : p < 1 ∨ (1 ≤ p ∧ q < 2) := by omega
      clear hc
      rcases hcc with h | ⟨h1, h2⟩
      · have g1 : decide ((p : Int) ≥ 1) = false := decide_eq_false (by omega)
        go_wp2_with fail
        refine (HRA.out _).mono ?_
        rintro e w1 ⟨rfl, hb1⟩
        have HB1 := Lib.hid (HB0.out.trans (hb1.mono HB0.out.size))
        have HC1 := Lib.hid (HC1.out.below hb1 HC1.out.2.2.2.2)
        clear hb1
        go_wp2_with fail
        refine (HRB.out _).mono ?_
        rintro e w2 ⟨rfl, hb2⟩
        have HB2 := Lib.hid (HB1.out.trans (hb2.mono HB1.out.size))
        have HC2 := Lib.hid (HC1.out.below hb2 HC1.out.2.2.2.2)
        clear hb2
        go_wp2_with fail
        refine (HPS.out _).mono ?_
        rintro e w3 ⟨A, c, rfl, hrw, hb3⟩
        have HB3 := Lib.hid (HB2.out.trans (hb3.mono HB2.out.size))
        have HC3 := Lib.hid (HC2.out.below hb3 HC2.out.2.2.2.2)
        have HR3 := Lib.hid hrw
        have hlt : w.heap.size < w2.heap.size := HC2.out.2.2.2.2
        clear hrw hb3 p0 p1
        obtain ⟨p0, p1, y0, y1, _⟩ := HC3.out
        have HZ3 := Lib.hid ((HC3.out.set0 (.int .i64 N)).set1 (.slice A L.length c))
        obtain ⟨x0, x1, _, _, _⟩ := HZ3.out
        have HF3 := Lib.hid ((HB3.out.setCell (p := ⟨w.heap.size, 0, none⟩) (Nat.le_refl _) (.int .i64 N)).setCell (p := ⟨w.heap.size, 1, none⟩) (Nat.le_refl _) (.slice A L.length c))
        go_wp2_with fail
        refine bodyPost_ret (v := .tuple #[.agg #[.int .i64 N, .slice A L.length c], .bool true]) (by simp [results, Tryz.results7, go_sem, x0, x1]) rfl ?_
        exact ⟨_, _, rfl, ((HR3.out.far (p := ⟨w.heap.size, 0, none⟩) hlt _).far (p := ⟨w.heap.size, 1, none⟩) hlt _).mono (by omega), HF3.out⟩
      · have g1 : decide ((p : Int) ≥ 1) = true := decide_eq_true (by omega)
        have g2 : decide ((q : Int) ≥ 2) = false := decide_eq_false (by omega)
        go_wp2_with fail
        refine (HRA.out _).mono ?_
        rintro e w1 ⟨rfl, hb1⟩
        have HB1 := Lib.hid (HB0.out.trans (hb1.mono HB0.out.size))
        have HC1 := Lib.hid (HC1.out.below hb1 HC1.out.2.2.2.2)
        clear hb1
        go_wp2_with fail
        refine (HRB.out _).mono ?_
        rintro e w2 ⟨rfl, hb2⟩
        have HB2 := Lib.hid (HB1.out.trans (hb2.mono HB1.out.size))
        have HC2 := Lib.hid (HC1.out.below hb2 HC1.out.2.2.2.2)
        clear hb2
        go_wp2_with fail
        refine (HPS.out _).mono ?_
        rintro e w3 ⟨A, c, rfl, hrw, hb3⟩
        have HB3 := Lib.hid (HB2.out.trans (hb3.mono HB2.out.size))
        have HC3 := Lib.hid (HC2.out.below hb3 HC2.out.2.2.2.2)
        have HR3 := Lib.hid hrw
        have hlt : w.heap.size < w2.heap.size := HC2.out.2.2.2.2
        clear hrw hb3 p0 p1
        obtain ⟨p0, p1, y0, y1, _⟩ := HC3.out
        have HZ3 := Lib.hid ((HC3.out.set0 (.int .i64 N)).set1 (.slice A L.length c))
        obtain ⟨x0, x1, _, _, _⟩ := HZ3.out
        have HF3 := Lib.hid ((HB3.out.setCell (p := ⟨w.heap.size, 0, none⟩) (Nat.le_refl _) (.int .i64 N)).setCell (p := ⟨w.heap.size, 1, none⟩) (Nat.le_refl _) (.slice A L.length c))
        go_wp2_with fail
        refine bodyPost_ret (v := .tuple #[.agg #[.int .i64 N, .slice A L.length c], .bool true]) (by simp [results, Tryz.results7, go_sem, x0, x1]) rfl ?_
        exact ⟨_, _, rfl, ((HR3.out.far (p := ⟨w.heap.size, 0, none⟩) hlt _).far (p := ⟨w.heap.size, 1, none⟩) hlt _).mono (by omega), HF3.out⟩

end Go.Proofs.YthookknmeajojaaGreatDoor
