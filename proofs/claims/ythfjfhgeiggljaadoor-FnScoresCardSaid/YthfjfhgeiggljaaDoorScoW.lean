/-
  letters of the program; PlayScore, UnrollScore, DepthOf of both.
-/
import Derived.Test.YthfjfhgeiggljaaDoorScore
import Derived.Test.YthfjfhgeiggljaaDoorScoD
import Derived.Test.YthfjfhgeiggljaaDoorTabU
namespace Go.Proofs.YthfjfhgeiggljaaDoor
open Go.RowKit
set_option linter.unusedVariables false
set_option linter.unusedSimpArgs false

/-- The letters on some places of a text. -/
def letL (s : ByteArray) (p : List Int) : List UInt8 := p.map (fun x => s.data.toList.getD x.toNat 0)
theorem letL_len (s : ByteArray) (p : List Int) : (letL s p).length = p.length := by simp [letL]
theorem letL_snoc (s : ByteArray) (p : List Int) (k : Nat) (hk : k < p.length) : letL s (p.take (k + 1)) = letL s (p.take k) ++ [s.data.toList.getD (p.getD k 0).toNat 0] := by
  unfold letL
  rw [List.take_succ_eq_append_getElem hk, List.map_append, List.getD_eq_getElem?_getD (l := p), List.getElem?_eq_getElem hk]
  rfl
theorem getD_byte (s : ByteArray) (j : Nat) (h : j < s.size) : s.data.toList.getD j 0 = s[j] := by
  rw [List.getD_eq_getElem?_getD, Array.getElem?_toList, Array.getElem?_eq_getElem (by simpa using h)]
  rfl

theorem scoreR_places {s : ByteArray} {p : List Int} {d : Int} (h : scoreR s = some (p, d)) : s.size ≤ 60 ∧ p.length ≤ 500 ∧ ∀ x ∈ p, 0 ≤ x ∧ x < s.size := by
  unfold scoreR at h
  by_cases h60 : s.size ≤ 60
  · rw [if_pos h60] at h
    unfold scoreOf at h
    cases hr : rowR (chr s) s.size 3 0 with
    | none => rw [hr] at h; cases h
    | some r =>
      obtain ⟨p', d', e⟩ := r
      rw [hr] at h
      simp only at h
      have hp := rowR_pass (chr s) s.size 3 0 p' d' e (Nat.zero_le _) hr
      by_cases h4 : e < s.size ∨ 500 < p'.length
      · rw [if_pos h4] at h; cases h
      · rw [if_neg h4] at h
        injection h with h
        injection h with e1 e2
        subst e1
        exact ⟨h60, by omega, fun x hx => (hp.2.2.2.2.2.1 x hx).1⟩
  · rw [if_neg h60] at h; cases h

set_option maxRecDepth 100000 in
set_option maxHeartbeats 1000000 in
theorem impl_letters_any (s : ByteArray) (A : Option Addr) (c : Nat) (p : List Int) (dd : Int) (w : World) (hs : s.size ≤ 60 ∨ p = []) (hI : Ints w w.heap.size A p) (hl : p.length ≤ 500) (hp : ∀ x ∈ p, 0 ≤ x ∧ x < s.size) :
    Calls Tryd.prog 29 #[.agg #[.slice A p.length c, .int .i64 dd], .string s] w fun e w' => e = .returned (.string (mkS (letL s p))) ∧ Below w.heap.size w w' := by
  have hmk := fun W : World => run_make_byte p.length (by omega) W
  have HC := Lib.hid hI.2.2
  have HP := Lib.hid hp
  have HS := Lib.hid hs
  clear hI hp hs
  obtain ⟨c0, c1⟩ := box2 (Below.refl (w.heap.size + 1) (w.alloc (.cells #[.slice A p.length c, .int .i64 dd] 44)))
  go_enter Tryd.func29, Tryd.ntmps29
  go_wp2
  have hnew := tabU_made (w.alloc (.cells #[.slice A p.length c, .int .i64 dd] 44)) p.length 5
  simp only [World.size_alloc] at hnew
  go_loopw [15] (fun i wr => ∃ k : Nat, k ≤ p.length ∧ i = .int .i64 k ∧ TabU wr (w.heap.size + 1) p.length (fun t => if t < k then (letL s p).getD t 0 else 0) ∧ Below w.heap.size w wr) (fun i _ => p.length - (intOf i).toNat)
  case atStart => exact ⟨0, Nat.zero_le _, rfl, hnew.congr (fun t _ => by simp), ((Below.refl _ _).alloc (Nat.le_refl _) _).alloc (by first | exact Nat.le_refl _ | (simp; done) | (simp; omega) | omega) _⟩
  case round =>
    obtain ⟨k, hk, rfl, htab, hbel⟩ := hrel
    by_cases hlt : k < p.length
    · obtain ⟨b, off, rfl, hB, hc⟩ := HC.out (by omega)
      have hcell := hc k hlt
      rw [← hbel.cell (p := ⟨b, off + k, none⟩) hB] at hcell
      have hx0 := HP.out (p.getD k 0) (by rw [List.getD_eq_getElem?_getD, List.getElem?_eq_getElem hlt]; exact List.getElem_mem hlt)
      obtain ⟨x, hx⟩ : ∃ x, p.getD k 0 = x := ⟨_, rfl⟩
      rw [hx] at hcell hx0
      obtain ⟨hxa, hxb⟩ := hx0
      obtain ⟨j, rfl⟩ := Int.eq_ofNat_of_zero_le hxa
      have hj : j < s.size := by omega
      have h60 : s.size ≤ 60 := by
        rcases HS.out with h | h
        · exact h
        · rw [h] at hlt; simp at hlt
      have hto : wr.cell? ⟨w.heap.size + 1, k, none⟩ = some (.int .u8 0) := by simpa using (htab.2 k hlt).1
      have hfr := htab.frz hlt
      have HX := Lib.hid hx
      have hget : (letL s p).getD k 0 = s[j] := by
        unfold letL
        rw [List.getD_eq_getElem?_getD, List.getElem?_map, List.getElem?_eq_getElem hlt]
        have : p[k] = (j : Int) := by rw [← hx, List.getD_eq_getElem?_getD, List.getElem?_eq_getElem hlt]; rfl
        simp only [Option.map_some, Option.getD_some, this, Int.toNat_natCast]
        exact getD_byte s j hj
      have HG := Lib.hid hget
      clear hx hc hget
      go_wp2
      go_roundw
      case rel =>
        refine ⟨k + 1, by omega, by go_num, (htab.set_ k s[j] hlt _ rfl).congr (fun t ht => ?_), hbel.setCell (by simp) _⟩
        by_cases h : t = k
        · subst h; rw [if_pos rfl, if_pos (by omega), HG.out]
        · rw [if_neg h]
          by_cases h2 : t < k
          · rw [if_pos h2, if_pos (by omega)]
          · rw [if_neg h2, if_neg (by omega)]
      case measure => simp [intOf]; omega
    · have hend := htab.congr (g := fun t => (letL s p).getD t 0) (fun t ht => by rw [if_pos (by omega)])
      have hcv := hend.string p.length
      have hL : tabL p.length (fun t => (letL s p).getD t 0) = letL s p := by
        refine List.ext_getElem? fun i => ?_
        by_cases hi : i < p.length
        · rw [tabL_get hi, List.getD_eq_getElem?_getD, List.getElem?_eq_getElem (by rw [letL_len]; exact hi)]; rfl
        · rw [List.getElem?_eq_none (by rw [tabL_len]; omega), List.getElem?_eq_none (by rw [letL_len]; omega)]
      rw [hL] at hcv
      clear hL htab hend
      go_wp2
      go_ret
      exact ⟨rfl, hbel⟩

def plaV (s : ByteArray) : List UInt8 := match scoreR s with
  | none => []
  | some r => letL s r.1

set_option maxRecDepth 100000 in
set_option maxHeartbeats 400000 in
theorem impl_PlayScore_any (s : ByteArray) (w : World) (hs : s.size ≤ maxLen) :
    Calls Tryd.prog 8 #[.string s] w fun e w' => e = .returned (.string (mkS (plaV s))) ∧ Below w.heap.size w w' := by
  have HRS := Lib.hid (fun V => impl_readScore_any s V hs)
  have HV := Lib.hid (show plaV s = match scoreR s with | none => [] | some r => letL s r.1 from rfl)
  have HPL := Lib.hid (fun p d (h : scoreR s = some (p, d)) => scoreR_places h)
  generalize plaV s = n at HV ⊢
  generalize scoreR s = R at HRS HV HPL
  go_enter Tryd.func8, Tryd.ntmps8
  go_wp2_with fail
  refine (HRS.out _).mono ?_
  rintro e w1 ⟨A, c, p, dd, ok, rfl, hI, hb, hok, hno⟩
  have hv : n = letL s p ∧ (s.size ≤ 60 ∨ p = []) ∧ p.length ≤ 500 ∧ ∀ x ∈ p, 0 ≤ x ∧ x < s.size := by
    cases ok
    · obtain ⟨h1, h2, _⟩ := hno rfl
      rw [HV.out, h1, h2]
      exact ⟨rfl, .inr rfl, by simp, fun x hx => by cases hx⟩
    · have h1 := hok rfl
      obtain ⟨h2, h3, h4⟩ := HPL.out p dd h1
      rw [HV.out, h1]
      exact ⟨rfl, .inl h2, h3, h4⟩
  have HVV := Lib.hid hv
  have HB := Lib.hid (hb.alloc hb.size (.cells #[.slice A p.length c, .int .i64 dd] 44))
  have HI := Lib.hid ((hI.alloc (Nat.le_refl _) (.cells #[.slice A p.length c, .int .i64 dd] 44)).mono (B' := (w1.alloc (.cells #[.slice A p.length c, .int .i64 dd] 44)).heap.size) (by simp))
  clear hok hno hv hb hI
  go_wp2_with fail
  refine (impl_letters_any s A c p dd _ HVV.out.2.1 HI.out HVV.out.2.2.1 HVV.out.2.2.2).mono ?_
  rintro e w2 ⟨rfl, hb2⟩
  go_wp2_with fail
  go_ret
  exact ⟨by rw [HVV.out.1]; rfl, HB.out.trans (hb2.mono HB.out.size)⟩

def depV (s : ByteArray) : Int := match scoreR s with
  | none => -1
  | some r => r.2

set_option maxHeartbeats 400000 in
theorem impl_DepthOf_any (s : ByteArray) (w : World) (hs : s.size ≤ maxLen) :
    Calls Tryd.prog 11 #[.string s] w fun e w' => e = .returned (.int .i64 (depV s)) ∧ Below w.heap.size w w' := by
  have HRS := Lib.hid (fun V => impl_readScore_any s V hs)
  have HV := Lib.hid (show depV s = match scoreR s with | none => (-1 : Int) | some r => r.2 from rfl)
  generalize depV s = n at HV ⊢
  generalize scoreR s = R at HRS HV
  go_enter Tryd.func11, Tryd.ntmps11
  go_wp2_with fail
  refine (HRS.out _).mono ?_
  rintro e w1 ⟨A, c, p, dd, ok, rfl, hI, hb, hok, hno⟩
  cases ok
  · have HF := Lib.hid (show n = -1 by rw [HV.out, (hno rfl).1])
    clear hok hno hI
    go_wp2_with fail
    go_ret
    exact ⟨ret_int HF.out.symm, hb.alloc hb.size _⟩
  · have HF := Lib.hid (show n = dd by rw [HV.out, hok rfl])
    clear hok hno hI
    go_wp2_with fail
    go_ret
    exact ⟨ret_int HF.out.symm, hb.alloc hb.size _⟩

theorem scanD_step {c : Nat → Int} {f i : Nat} {d m : Int} : scanD c (f + 1) i d m = if c i = 91 then scanD c f (i + 1) (d + 1) (max m (d + 1)) else if c i = 93 then scanD c f (i + 1) (d - 1) m else scanD c f (i + 1) d m := rfl

end Go.Proofs.YthfjfhgeiggljaaDoor
