/-
  BarsUsed of the program.
-/
import Derived.Test.YthfjfhgeiggljaaDoorBarT
import Derived.Laws.IdiomStrings
namespace Go.Proofs.YthfjfhgeiggljaaDoor
open Go.RowKit
set_option linter.unusedVariables false
set_option linter.unusedSimpArgs false

theorem Below.drewB_ {B : Nat} {a w : World} (h : Below B a w) : Below B a w.drew := ⟨h.os, h.tape, h.output, h.size, h.block⟩
theorem frm_belowG {w w' : World} {g B : Nat} (h : Frm (OneB g) w w') (hg : B ≤ g) (hB : B ≤ w.heap.size) : Below B w w' := h.below (fun c hc => by rw [show c = g from hc]; exact hg) hB
/-- '[]byte(s)' as an array of numbers. -/
theorem ad_bytes (w : World) (L : List UInt8) (cap : Nat) : AD (w.drew.alloc (.cells (bytesRow (mkS L) cap) 5 ((bytesRow (mkS L) cap).size, (bytesRow (mkS L) cap).size + 1))) w.heap.size 0 (asZ L).toArray := by
  refine ⟨by show w.heap.size < (w.drew.alloc _).heap.size; rw [World.size_alloc]; exact Nat.lt_succ_self _, fun t ht => ?_⟩
  have htL : t < L.length := by simpa [asZ] using ht
  have hts : t < (mkS L).data.size := by simpa [mkS] using htL
  have h1 := World.cell?_alloc_mark w.drew (bytesRow (mkS L) cap) 5 ((bytesRow (mkS L) cap).size, (bytesRow (mkS L) cap).size + 1) t
  have h2 := World.frozen?_alloc_mark w.drew (bytesRow (mkS L) cap) 5 (bytesRow (mkS L) cap).size ((bytesRow (mkS L) cap).size + 1) t
  rw [Nat.zero_add]
  refine ⟨h1.trans ?_, h2.trans ?_⟩
  · rw [bytesRow_at _ _ _ hts]
    rw [getElem!_pos (asZ L).toArray t ht]
    simp [asZ, mkS]
  · have : t < (bytesRow (mkS L) cap).size := by unfold bytesRow; simp [mkS]; omega
    simp [Nat.not_le.2 this]

set_option maxRecDepth 100000 in
set_option maxHeartbeats 2000000 in
theorem impl_BarsUsed_any (s : ByteArray) (w : World) (hs : s.size ≤ maxLen) :
    Calls Tryd.prog 14 #[.string s] w fun e w' => e = .returned (.string (mkS (barV s))) ∧ Below w.heap.size w w' := by
  have HRS := Lib.hid (fun V => impl_readScore_any s V hs)
  have HV := Lib.hid (show plaV s = match scoreR s with | none => [] | some r => letL s r.1 from rfl)
  have HPL := Lib.hid (fun p d (h : scoreR s = some (p, d)) => scoreR_places h)
  have HBS := Lib.hid (fun d d' h1 h2 h3 => bar_sorted (s := s) (d := d) (d' := d') h1 h2 h3)
  generalize barV s = BV at HBS ⊢
  obtain ⟨n0, hn0⟩ : ∃ x, plaV s = x := ⟨_, rfl⟩
  rw [hn0] at HV HBS
  clear hn0
  generalize scoreR s = R at HRS HV HPL
  go_enter Tryd.func14, Tryd.ntmps14
  go_wp2_with fail
  refine (HRS.out _).mono ?_
  rintro e w1 ⟨A, c, p, dd, ok, rfl, hI, hb, hok, hno⟩
  have hv : n0 = letL s p ∧ (s.size ≤ 60 ∨ p = []) ∧ p.length ≤ 500 ∧ ∀ x ∈ p, 0 ≤ x ∧ x < s.size := by
    cases ok
    · obtain ⟨h1, h2, _⟩ := hno rfl
      rw [HV.out, h1, h2]
      exact ⟨rfl, .inr rfl, by simp, fun x hx => by cases hx⟩
    · have h1 := hok rfl
      obtain ⟨h2, h3, h4⟩ := HPL.out p dd h1
      rw [HV.out, h1]
      exact ⟨rfl, .inl h2, h3, h4⟩
  have HVV := Lib.hid hv
  have HB := Lib.hid (hb.alloc hb.size (.cells #[.slice A p.length c, .int .i64 dd] 44))
  have HI := Lib.hid ((hI.alloc (Nat.le_refl _) (.cells #[.slice A p.length c, .int .i64 dd] 44)).mono (B' := (w1.alloc (.cells #[.slice A p.length c, .int .i64 dd] 44)).heap.size) (by simp))
  clear hok hno hv hb hI
  go_wp2_with fail
  refine (impl_letters_any s A c p dd _ HVV.out.2.1 HI.out HVV.out.2.2.1 HVV.out.2.2.2).mono ?_
  rintro e w2 ⟨rfl, hb2⟩
  have HB2 := Lib.hid (HB.out.trans (hb2.mono HB.out.size))
  have HLL := Lib.hid (show (letL s p).length ≤ 500 by rw [letL_len]; exact HVV.out.2.2.1)
  clear hb2
  obtain ⟨L, hL⟩ : ∃ L, letL s p = L := ⟨_, rfl⟩
  rw [hL] at HLL ⊢
  have HBU := Lib.hid (fun d d' (h1 : d.toList = asZ L) h2 h3 => HBS.out d d' (by rw [HVV.out.1, hL]; exact h1) h2 h3)
  clear hL
  have hcv := fun V : World => run_bytes_of_string (P := Tryd.prog) V 9 22 5 (mkS L) Tryd.underlying9 Tryd.underlying22 Tryd.underlying5
  rw [mkS_size] at hcv
  go_wp2_with fail
  have HB3 := Lib.hid (show Below w.heap.size w (w2.alloc (.cells (bytesRow (mkS L) (grownCap w2 L.length 0 5)) 5 ((bytesRow (mkS L) (grownCap w2 L.length 0 5)).size, (bytesRow (mkS L) (grownCap w2 L.length 0 5)).size + 1))).drew from Below.drewB_ (HB2.out.alloc HB2.out.size _))
  refine (sort_byte w2.heap.size 0 _ L.length (asZ L).toArray _ (ad_bytes w2 L _) (by simp [asZ]) (by have := HLL.out; omega)).mono ?_
  rintro e w3 ⟨rfl, d', hA3, hd3, hp3, hs3, hf3⟩
  have HB4 := Lib.hid (HB3.out.trans (frm_belowG hf3 HB2.out.size HB3.out.size))
  have HC := Lib.hid (HBU.out (asZ L).toArray d' (by simp) (by rw [show (asZ L).toArray.size = L.length by simp [asZ]]; exact hp3) (by rw [show (asZ L).toArray.size = L.length by simp [asZ]]; exact hs3))
  have HAF := Lib.hid (show AF w3 w2.heap.size 0 L.length (fun t => d'[t]!) from ⟨hA3.1, fun t ht => hA3.2 t (by omega)⟩)
  have HCP := Lib.hid (compact_byte w2.heap.size 0 (grownCap w2 L.length 0 5) L.length (fun t => d'[t]!) w3 HAF.out (grownCap_ge w2 _ 0 _) (by have := HLL.out; omega))
  clear hA3 hd3 hp3 hs3 hf3 hcv
  go_wp2_with fail
  refine HCP.out.mono ?_
  rintro e w4 ⟨rfl, hg4, hc4, hf4⟩
  have hcc : cmpN (fun t => d'[t]!) L.length = asZ BV := by
    have := HC.out
    rwa [show (asZ L).toArray.size = L.length by simp [asZ]] at this
  rw [hcc] at hc4 ⊢
  rw [show (asZ BV).length = BV.length by simp [asZ]] at hc4 ⊢
  have HB5 := Lib.hid (HB4.out.trans (frm_belowG hf4 HB2.out.size HB4.out.size))
  have hcv := run_convert_bytes_back (P := Tryd.prog) w4 22 9 5 ⟨w2.heap.size, 0, none⟩ (grownCap w2 L.length 0 5) BV Tryd.underlying22 Tryd.underlying5 Tryd.underlying9 (fun j hj => by
    have h := hc4 j hj
    rw [List.getD_eq_getElem?_getD, List.getElem?_eq_getElem (by simpa [asZ] using hj)] at h
    simp [asZ] at h
    by_cases h0 : j = 0
    · subst h0; simpa [Addr.add] using h
    · simpa [Addr.add, h0] using h)
  clear hc4 hf4 hcc
  go_wp2_with fail
  go_ret
  exact ⟨rfl, HB5.out⟩

end Go.Proofs.YthfjfhgeiggljaaDoor
