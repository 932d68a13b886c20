/-
  The texts of a rhythm: the program's text of the bar, natural and alternate hands; the reference's.
-/
import Derived.Test.YthookknmeajojaaGreatDoorEaF
import Derived.Test.YthookknmeajojaaGreatDoorEaB
import Derived.Test.YthookknmeajojaaGreatDoorBRep
namespace Go.Proofs.YthookknmeajojaaGreatDoor
open Go.RowKit
set_option linter.unusedVariables false
set_option linter.unusedSimpArgs false

theorem Ints.drew2_ {w : World} {B : Nat} {A : Option Addr} {xs : List Int} (h : Ints w B A xs) : Ints w.drew B A xs := h

/-- A character for each pulse: F on a beat. -/
def txF (bs : List Int) (F : Nat → UInt8) (t : Nat) : UInt8 := if hasB bs t then F t else 46
def textF (N : Nat) (bs : List Int) (F : Nat → UInt8) : List UInt8 := tabL N (txF bs F)
theorem textF_len (N : Nat) (bs : List Int) (F : Nat → UInt8) : (textF N bs F).length = N := tabL_len _ _
theorem tabL_succ (N : Nat) (f : Nat → UInt8) : tabL (N + 1) f = tabL N f ++ [f N] := by simp [tabL, List.range_succ]
theorem textF_win (N : Nat) (bs : List Int) : textF N bs (fun _ => 120) = winL N bs 0 N := by
  unfold textF tabL winL
  refine List.map_congr_left fun t ht => ?_
  have h : t < N := List.mem_range.1 ht
  unfold txF
  rw [Nat.zero_add, ← Int.natCast_emod, Nat.mod_eq_of_lt h]

theorem hasB_take (bs : List Int) (k : Nat) (hk : k < bs.length) (t x : Int) (hx : bs.getD k 0 = x) : hasB (bs.take (k + 1)) t = (hasB (bs.take k) t || decide (t = x)) := by
  unfold hasB
  rw [List.take_succ_eq_append_getElem hk, Bool.eq_iff_iff, Bool.or_eq_true, decide_eq_true_eq, decide_eq_true_eq, decide_eq_true_eq, List.mem_append, List.mem_singleton]
  have : bs[k] = x := by rw [← hx, List.getD_eq_getElem?_getD, List.getElem?_eq_getElem hk]; rfl
  rw [this]
theorem txF_step {bs : List Int} {F : Nat → UInt8} {k j : Nat} (hk : k < bs.length) (hx : bs.getD k 0 = (j : Int)) (t : Nat) : (if t = j then F j else txF (bs.take k) F t) = txF (bs.take (k + 1)) F t := by
  unfold txF
  rw [hasB_take bs k hk t j hx]
  by_cases h : t = j
  · subst h; simp
  · have : ¬ (t : Int) = (j : Int) := by omega
    simp [h, this]

/-- How many beats lie before a pulse. -/
def cntB (bs : List Int) : Nat → Nat
  | 0 => 0
  | t + 1 => cntB bs t + if hasB bs t then 1 else 0
theorem cntB_le (bs : List Int) : ∀ t, cntB bs t ≤ t
  | 0 => Nat.le_refl _
  | t + 1 => by have := cntB_le bs t; unfold cntB; split <;> omega
theorem cntB_at {n : Int} {bs : List Int} (hok : RhOk n bs) : ∀ (t j : Nat), j ≤ bs.length → (∀ i, i < j → bs.getD i 0 < t) → (∀ i, j ≤ i → i < bs.length → (t : Int) ≤ bs.getD i 0) → cntB bs t = j
  | 0, j, hj, h1, _ => by
    have : j = 0 := by
      apply Classical.byContradiction
      intro h
      have h2 := h1 0 (by omega)
      have h3 := hok.2.2.1 0 (by omega)
      omega
    subst this
    rfl
  | t + 1, j, hj, h1, h2 => by
    unfold cntB
    cases hb : hasB bs t
    · have hno : ∀ i, i < bs.length → bs.getD i 0 ≠ t := fun i hi e => by rw [hasB_yes hi e] at hb; cases hb
      rw [cntB_at hok t j hj (fun i hi => by have := h1 i hi; have := hno i (by omega); omega) (fun i hi1 hi2 => by have := h2 i hi1 hi2; omega)]
      rfl
    · unfold hasB at hb
      rw [decide_eq_true_eq] at hb
      obtain ⟨i, hi, he⟩ := List.getElem_of_mem hb
      have hg : bs.getD i 0 = t := by rw [List.getD_eq_getElem?_getD, List.getElem?_eq_getElem hi]; exact he
      have hij : i < j := by
        apply Classical.byContradiction
        intro hh
        have := h2 i (by omega) hi
        omega
      have hmono : ∀ d a, a + d < bs.length → 0 < d → bs.getD a 0 < bs.getD (a + d) 0 := by
        intro d
        induction d with
        | zero => intro a _ h; omega
        | succ d ih =>
          intro a ha _
          by_cases hd : d = 0
          · subst hd; exact hok.2.2.2 a (by omega)
          · have h3 := ih a (by omega) (by omega)
            have h4 := hok.2.2.2 (a + d) (by omega)
            rw [show a + d + 1 = a + (d + 1) by omega] at h4
            omega
      have hje : i = j - 1 := by
        apply Classical.byContradiction
        intro hh
        have h3 := hmono (j - 1 - i) i (by omega) (by omega)
        rw [show i + (j - 1 - i) = j - 1 by omega] at h3
        have h4 := h1 (j - 1) (by omega)
        omega
      subst hje
      rw [cntB_at hok t (j - 1) (by omega) (fun i hi => by
          have h3 := hmono (j - 1 - i) i (by omega) (by omega)
          rw [show i + (j - 1 - i) = j - 1 by omega] at h3
          omega) (fun i hi1 hi2 => by
          by_cases e : i = j - 1
          · subst e; omega
          · have h3 := hmono (i - (j - 1)) (j - 1) (by omega) (by omega)
            rw [show j - 1 + (i - (j - 1)) = i by omega] at h3
            omega)]
      simp
      omega
theorem cntB_beat {n : Int} {bs : List Int} (hok : RhOk n bs) {i j : Nat} (hi : i < bs.length) (hx : bs.getD i 0 = (j : Int)) : cntB bs j = i := by
  have hmono : ∀ d a, a + d < bs.length → 0 < d → bs.getD a 0 < bs.getD (a + d) 0 := by
    intro d
    induction d with
    | zero => intro a _ h; omega
    | succ d ih =>
      intro a ha _
      by_cases hd : d = 0
      · subst hd; exact hok.2.2.2 a (by omega)
      · have h3 := ih a (by omega) (by omega)
        have h4 := hok.2.2.2 (a + d) (by omega)
        rw [show a + d + 1 = a + (d + 1) by omega] at h4
        omega
  refine cntB_at hok j i (by omega) (fun a ha => ?_) (fun a ha1 ha2 => ?_)
  · have h3 := hmono (i - a) a (by omega) (by omega)
    rw [show a + (i - a) = i by omega] at h3
    omega
  · by_cases e : a = i
    · subst e; omega
    · have h3 := hmono (a - i) i (by omega) (by omega)
      rw [show i + (a - i) = a by omega] at h3
      omega

def natF (t : Nat) : UInt8 := if t % 2 = 0 then 82 else 76
def altF (bs : List Int) (t : Nat) : UInt8 := if cntB bs t % 2 = 0 then 82 else 76

set_option maxRecDepth 100000 in
set_option maxHeartbeats 1000000 in
theorem impl_text_any (N : Nat) (A : Option Addr) (cap : Nat) (bs : List Int) (w : World) (hA : Ints w w.heap.size A bs) (hok : RhOk N bs) :
    Calls Tryz.prog 62 #[.agg #[.int .i64 N, .slice A bs.length cap]] w fun e w' => e = .returned (.string (mkS (textF N bs (fun _ => 120)))) ∧ Below w.heap.size w w' := by
  have hlen := hA.1
  unfold maxLen at hlen
  have HC := Lib.hid hA.2.2
  have hn1 : 1 ≤ N := by have := hok.1; omega
  have hn2 : N ≤ 24 := by have := hok.2.1; omega
  have HOK := Lib.hid hok
  clear hA hok
  have HW := Lib.hid ((Below.refl w.heap.size w).alloc (Nat.le_refl _) (.cells #[.int .i64 N, .slice A bs.length cap] 26))
  obtain ⟨c0, c1⟩ := box2 (Below.refl (w.heap.size + 1) (w.alloc (.cells #[.int .i64 N, .slice A bs.length cap] 26)))
  have kc : (convert 22 22 (.slice (some ⟨w.heap.size + 1, 0, none⟩) 1 1)).run Tryz.prog ((w.alloc (.cells #[.int .i64 N, .slice A bs.length cap] 26)).alloc (.cells #[.int .u8 46] 5)) = .ok (.slice (some ⟨w.heap.size + 1, 0, none⟩) 1 1) ((w.alloc (.cells #[.int .i64 N, .slice A bs.length cap] 26)).alloc (.cells #[.int .u8 46] 5 (1, 2))) :=
    Joins.run_convert_bytes_const_at (P := Tryz.prog) (w.alloc (.cells #[.int .i64 N, .slice A bs.length cap] 26)) 22 5 #[.int .u8 46] 1 1 (w.heap.size + 1) (by simp) Tryz.underlying22 Tryz.underlying5
  go_enter Tryz.func62, Tryz.ntmps62
  go_wp2_with fail
  clear kc
  refine (bytes_Repeat_any (w.heap.size + 1) 1 N 46 _ ?_ ?_ hn1 (by omega)).mono ?_
  · simp
  · exact (Joins.cell_alloc_mark_at _ _ _ _ _ 0 (by simp)).trans rfl
  rintro e w1 ⟨rfl, htab0, hb1⟩
  have hb1' := (bcellB hb1).1
  have HB1 := Lib.hid ((HW.out.alloc (by first | exact Nat.le_refl _ | (simp; done) | (simp; omega) | omega) (.cells #[.int .u8 46] 5 (1, 2))).trans (hb1.mono (by first | exact Nat.le_refl _ | (simp; done) | (simp; omega) | omega)))
  have hd0 := (hb1' w.heap.size 0 (by first | exact Nat.le_refl _ | (simp; done) | (simp; omega) | omega)).trans ((((Below.refl (w.heap.size + 1) _).alloc (by first | exact Nat.le_refl _ | (simp; done) | (simp; omega) | omega) (.cells #[.int .u8 46] 5 (1, 2))).cell (p := ⟨w.heap.size, 0, none⟩) (by first | exact Nat.le_refl _ | (simp; done) | (simp; omega) | omega)).trans c0)
  have hd1 := (hb1' w.heap.size 1 (by first | exact Nat.le_refl _ | (simp; done) | (simp; omega) | omega)).trans ((((Below.refl (w.heap.size + 1) _).alloc (by first | exact Nat.le_refl _ | (simp; done) | (simp; omega) | omega) (.cells #[.int .u8 46] 5 (1, 2))).cell (p := ⟨w.heap.size, 1, none⟩) (by first | exact Nat.le_refl _ | (simp; done) | (simp; omega) | omega)).trans c1)
  clear hb1 hb1'
  obtain ⟨h, hh⟩ : ∃ h, ((w.alloc (.cells #[.int .i64 N, .slice A bs.length cap] 26)).alloc (.cells #[.int .u8 46] 5 (1, 2))).heap.size = h := ⟨_, rfl⟩
  have hwh : w.heap.size < h := by rw [← hh]; simp; omega
  simp only [hh] at htab0 ⊢
  have HT0 := Lib.hid htab0
  clear htab0 hh
  go_wp2_with fail
  go_loopw [14] (fun i wr => ∃ k : Nat, k ≤ bs.length ∧ i = .int .i64 k ∧ TabU wr h N (txF (bs.take k) (fun _ => 120)) ∧ Below w.heap.size w wr) (fun i _ => bs.length - (intOf i).toNat)
  case atStart => exact ⟨0, Nat.zero_le _, rfl, HT0.out.congr (fun t _ => by simp [txF, hasB]), HB1.out⟩
  case round =>
    obtain ⟨k, hk, rfl, htab, hbel⟩ := hrel
    by_cases hlt : k < bs.length
    · obtain ⟨b, off, rfl, hB, hc⟩ := HC.out (by omega)
      have hcell := (hbel.cell (p := ⟨b, off + k, none⟩) hB).trans (hc k hlt)
      have hx0 := HOK.out.2.2.1 k hlt
      obtain ⟨x, hx⟩ : ∃ x, bs.getD k 0 = x := ⟨_, rfl⟩
      rw [hx] at hcell hx0
      obtain ⟨hx1, hx2⟩ := hx0
      obtain ⟨j, rfl⟩ := Int.eq_ofNat_of_zero_le hx1
      have hjN : j < N := by omega
      have hto := (htab.2 j hjN).1
      have hfr := htab.frz hjN
      have HX := Lib.hid hx
      clear hx hc
      go_wp2_with fail
      go_roundw
      case rel => exact ⟨k + 1, by omega, by go_num, (htab.set_ j 120 hjN _ rfl).congr (fun t _ => txF_step (F := fun _ => 120) hlt HX.out t), hbel.setCell (by simp; omega) _⟩
      case measure => simp [intOf]; omega
    · have hke : k = bs.length := by omega
      subst hke
      rw [List.take_length] at htab
      have hcv := htab.string N
      go_wp2_with fail
      go_ret
      exact ⟨rfl, hbel⟩

end Go.Proofs.YthookknmeajojaaGreatDoor
