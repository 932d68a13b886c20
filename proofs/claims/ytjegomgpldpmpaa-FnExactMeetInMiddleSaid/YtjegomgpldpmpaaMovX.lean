/-
  MovesOf of the reference: the walk.
-/
import Derived.Test.YtjegomgpldpmpaaMovS
import Derived.Test.YtjegomgpldpmpaaSrok
namespace Go.Proofs.Ytjegomgpldpmpaa
open Go.RowKit Go.Shelf Go.Sort
set_option linter.unusedVariables false
set_option linter.unusedSimpArgs false

def movS (N : Nat) (bs : List Int) (m : Nat) : List (Int × List Int) := (insL N bs m).map fun x => ((N : Int), x)
theorem insL_succ (N : Nat) (bs : List Int) (m : Nat) : insL N bs (m + 1) = if hasB bs (mvQ N bs m) then insL N bs m else insF N (insL N bs m) (mvX N bs m) := rfl
theorem movS_yes {N : Nat} {bs : List Int} {m : Nat} (h : hasB bs (mvQ N bs m) = true) : movS N bs (m + 1) = movS N bs m := by
  unfold movS; rw [insL_succ, h, if_pos rfl]
theorem movS_no {N : Nat} {bs : List Int} {m : Nat} (h : hasB bs (mvQ N bs m) = false) : movS N bs (m + 1) = (insF N (insL N bs m) (mvX N bs m)).map fun x => ((N : Int), x) := by
  unfold movS; rw [insL_succ, h, if_neg (by decide)]
theorem insF_len (N : Nat) (out : List (List Int)) (x : List Int) : (insF N out x).length ≤ out.length + 1 := by
  unfold insF
  split
  · omega
  · rw [List.length_append, List.length_cons, List.length_take, List.length_drop]; omega
theorem insL_len (N : Nat) (bs : List Int) : ∀ m, (insL N bs m).length ≤ m
  | 0 => Nat.le_refl _
  | m + 1 => by
    have := insL_len N bs m
    rw [insL_succ]
    split
    · omega
    · have := insF_len N (insL N bs m) (mvX N bs m); omega
/-- What the list says of the k-th. -/
theorem key_at {N : Nat} {rs : List RV} {out : List (List Int)} (h : keyR rs = out.map fun x => ((N : Int), x)) : rs.length = out.length ∧ ∀ k (h1 : k < rs.length) (h2 : k < out.length), rs[k].n = N ∧ rs[k].xs = out[k] := by
  have hl := congrArg List.length h
  rw [keyR_len, List.length_map] at hl
  refine ⟨hl, fun k h1 h2 => ?_⟩
  have := congrArg (fun l => l[k]?) h
  simp only [keyR, List.getElem?_map, List.getElem?_eq_getElem h1, List.getElem?_eq_getElem h2, Option.map_some, Option.some.injEq, Prod.mk.injEq] at this
  exact this
theorem key_ins {N : Nat} {rs : List RV} {out : List (List Int)} {x : List Int} (r : RV) (hn : r.n = N) (hx : r.xs = x) (h : keyR rs = out.map fun x => ((N : Int), x)) (hne : out[posF N out x]? ≠ some x) :
    keyR (rs.take (posF N out x) ++ [r] ++ rs.drop (posF N out x)) = (insF N out x).map fun x => ((N : Int), x) := by
  unfold insF
  rw [if_neg hne]
  unfold keyR at h ⊢
  have h1 : (rs.take (posF N out x)).map (fun r => (r.n, r.xs)) = (out.take (posF N out x)).map fun x => ((N : Int), x) := by rw [List.map_take, List.map_take, h]
  have h2 : (rs.drop (posF N out x)).map (fun r => (r.n, r.xs)) = (out.drop (posF N out x)).map fun x => ((N : Int), x) := by rw [List.map_drop, List.map_drop, h]
  rw [List.map_append, List.map_append, h1, h2, List.map_append, List.map_cons, List.append_assoc, List.map_cons, List.map_nil, hn, hx]
  rfl
theorem key_same {N : Nat} {rs : List RV} {out : List (List Int)} {x : List Int} (h : keyR rs = out.map fun x => ((N : Int), x)) (he : out[posF N out x]? = some x) : keyR rs = (insF N out x).map fun x => ((N : Int), x) := by
  unfold insF
  rw [if_pos he]; exact h

/-- A list that is only read, its beats in memory of the call's own. -/
def RetRl (w : World) (L : List (Int × List Int)) (e : Ending) (w' : World) : Prop := ∃ A c rs, e = .returned (.slice A rs.length c) ∧ keyR rs = L ∧ RdR w' w'.heap.size A rs ∧ (∀ r ∈ rs, r.Lies w' w.heap.size) ∧ Below w.heap.size w w'

set_option maxRecDepth 100000 in
set_option maxHeartbeats 8000000 in
theorem spec_l24Moves_lies (N : Nat) (A : Option Addr) (cap : Nat) (bs : List Int) (w : World) (hA : Ints w w.heap.size A bs) (hok : RhOk N bs) :
    Calls Try.prog 21 #[.agg #[.int .i64 N, .slice A bs.length cap]] w (RetRl w (movS N bs (2 * bs.length))) := by
  have hn1 : 1 ≤ N := by have := hok.1; omega
  have hn2 : N ≤ 24 := by have := hok.2.1; omega
  have hbl : bs.length ≤ 24 := by have := rhok_len hok; omega
  have HOK := Lib.hid hok
  have HA := Lib.hid hA
  have hal0 := (Below.refl w.heap.size w).alloc (Nat.le_refl _) (.cells #[.int .i64 N, .slice A bs.length cap] 28)
  have HC0 := Lib.hid ((Cells2.new w (.int .i64 N) (.slice A bs.length cap) 28).alloc (.cells #[] 28))
  have HB0 := Lib.hid (hal0.alloc hal0.size (.cells #[] 28))
  have HR0 := Lib.hid (RowR.empty_at (w.alloc (.cells #[.int .i64 N, .slice A bs.length cap] 28)) (w.heap.size + 1) (w.heap.size + 1) (by simp) (Nat.le_refl _))
  have hq0 : w.heap.size + 1 ≤ ((w.alloc (.cells #[.int .i64 N, .slice A bs.length cap] 28)).alloc (.cells #[] 28)).heap.size := by simp
  obtain ⟨c0, c1, _, _, _⟩ := HC0.out
  clear hA hok hal0
  go_enter Try.func21, Try.ntmps21
  go_wp2_with fail
  generalize (w.alloc (.cells #[.int .i64 N, .slice A bs.length cap] 28)).alloc (.cells #[] 28) = w0 at *
  obtain ⟨q, hq⟩ : ∃ q, w.heap.size = q := ⟨_, rfl⟩
  have HQ := Lib.hid hq
  rw [hq] at HC0 hq0 HR0 ⊢
  clear hq
  go_loopw [3, 17] (fun v i wr => ∃ (k g c : Nat) (rs : List RV), k ≤ bs.length ∧ i = .int .i64 k ∧ v = .slice (some ⟨g, 0, none⟩) rs.length c ∧ keyR rs = movS N bs (2 * k) ∧ RowR wr (q + 1) v rs ∧ (∀ r ∈ rs, r.Lies wr (q + 1)) ∧ Cells2 wr q (.int .i64 N) (.slice A bs.length cap) ∧ Below w.heap.size w wr ∧ q + 1 ≤ wr.heap.size) (fun _ i _ => bs.length - (intOf i).toNat)
  case atStart => exact ⟨0, q + 1, 0, [], Nat.zero_le _, rfl, rfl, rfl, HR0.out, (fun r hr => by cases hr), HC0.out, HB0.out, hq0⟩
  case round =>
    obtain ⟨k, g, c, rs, hk, rfl, rfl, hkey, hrow, hlie, hcel, hbel, hqs⟩ := hrel
    obtain ⟨wo, rfl⟩ : ∃ wo : World, wo = wr := ⟨_, rfl⟩
    have HKE := Lib.hid hkey
    have HRO := Lib.hid hrow
    have HLI := Lib.hid hlie
    have HCE := Lib.hid hcel
    have HBE := Lib.hid hbel
    clear hkey hrow hlie hcel hbel c0 c1
    obtain ⟨c0, c1, _, _, _⟩ := HCE.out
    by_cases hlt : k < bs.length
    · have hkb : (k : Int) < (bs.length : Int) := by omega
      have hk0 : (0 : Int) ≤ (k : Int) := Int.natCast_nonneg _
      have hIO := HA.out.lift HBE.out
      obtain ⟨b, off, rfl, hB, hc⟩ := hIO.2.2 (by omega)
      have hcell := hc k hlt
      obtain ⟨p, hp⟩ : ∃ p, bs.getD k 0 = p := ⟨_, rfl⟩
      rw [hp] at hcell
      have hpr := HOK.out.2.2.1 k hlt
      rw [hp] at hpr
      have HPP := Lib.hid hp
      clear hc hp
      have hal := (Below.refl wo.heap.size wo).alloc (Nat.le_refl _) (.cells #[.int .i64 1, .int .i64 (-1)] 3)
      have HR1 := Lib.hid (HRO.out.grown hal)
      have HL1 := Lib.hid (fun r (hr : r ∈ rs) => (HLI.out r hr).frm (Frm.pure hal (fun _ => False)) (fun h => h))
      have HC1 := Lib.hid (HCE.out.below hal HCE.out.2.2.2.2)
      have HB1 := Lib.hid (HBE.out.trans (hal.mono HBE.out.size))
      have HD1 := Lib.hid (Cells2.new wo (.int .i64 1) (.int .i64 (-1)) 3)
      have hs1 := hal.size
      clear hal hIO
      go_wp2_with fail
      generalize wo.alloc (.cells #[.int .i64 1, .int .i64 (-1)] 3) = w1 at *
      obtain ⟨D, hD⟩ : ∃ D, wo.heap.size = D := ⟨_, rfl⟩
      rw [hD] at HD1 ⊢
      clear hcell hB hD c0 c1
      go_loopw [3, 24] (fun v jj wr => ∃ (j g c : Nat) (rs : List RV), j ≤ 2 ∧ jj = .int .i64 j ∧ v = .slice (some ⟨g, 0, none⟩) rs.length c ∧ keyR rs = movS N bs (2 * k + j) ∧ RowR wr (q + 1) v rs ∧ (∀ r ∈ rs, r.Lies wr (q + 1)) ∧ Cells2 wr q (.int .i64 N) (.slice (some ⟨b, off, none⟩) bs.length cap) ∧ Cells2 wr D (.int .i64 1) (.int .i64 (-1)) ∧ Below w.heap.size w wr ∧ q + 1 ≤ wr.heap.size) (fun _ jj _ => 2 - (intOf jj).toNat)
      case atStart => exact ⟨0, g, c, rs, by omega, rfl, rfl, HKE.out, HR1.out, HL1.out, HC1.out, HD1.out, HB1.out, by omega⟩
      case round =>
        obtain ⟨j, g, c, rs, hj, rfl, rfl, hkey, hrow, hlie, hcel, hdel, hbel, hqi⟩ := hrel
        obtain ⟨wi, rfl⟩ : ∃ wo : World, wo = wr := ⟨_, rfl⟩
        have HKI := Lib.hid hkey
        have HRI := Lib.hid hrow
        have HLR := Lib.hid hlie
        have HCI := Lib.hid hcel
        have HDI := Lib.hid hdel
        have HBI := Lib.hid hbel
        clear hkey hrow hlie hcel hdel hbel
        obtain ⟨c0, c1, _, _, _⟩ := HCI.out
        obtain ⟨d0, d1, _, _, _⟩ := HDI.out
        have HIW := Lib.hid (HA.out.lift HBI.out)
        by_cases hj2 : j = 2
        · subst hj2
          go_wp2_with fail
          go_roundw
          case rel => exact ⟨k + 1, g, c, rs, by omega, by go_num, rfl, HKI.out, HRI.out, HLR.out, HCI.out, HBI.out, hqi⟩
          case measure => simp [intOf]; omega
        · rcases (show j = 0 ∨ j = 1 by omega) with rfl | rfl
          · as_aux_lemma =>
            have hwy : IntKind.i64.wrap (p + 1) = p + 1 := i64w (by omega)
            obtain ⟨y0, hy0⟩ : ∃ y, p + 1 = y := ⟨_, rfl⟩
            obtain ⟨y, hy⟩ : ∃ y, y0 % (N : Int) = y := ⟨_, rfl⟩
            have hyb : 0 ≤ y ∧ y < N := by rw [← hy]; exact ⟨Int.emod_nonneg _ (by omega), Int.emod_lt_of_pos _ (by omega)⟩
            have hyf : Fits y := by unfold Fits; omega
            have HMQ := Lib.hid (show mvQ N bs (2 * k + 0) = y by
              unfold mvQ mvD
              rw [show (2 * k + 0) / 2 = k by omega, HPP.out, ← hy, ← hy0]
              congr 1
              have : (2 * k + 0) % 2 = 0 := by omega
              rw [this]; rfl)
            have HMD := Lib.hid (fun V => spec_l02Mod_any y0 N V (by omega) (by omega))
            rw [hy] at HMD
            have HHS := Lib.hid (fun V h => spec_l02Has_any (some ⟨b, off, none⟩) cap bs y V V.heap.size h)
            rw [hy0] at hwy
            clear hy
            cases hh : hasB bs y
            · rw [hh] at HHS
              have HCD := Lib.hid (movS_no (N := N) (bs := bs) (m := 2 * k + 0) (by rw [HMQ.out]; exact hh))
              have HMX := Lib.hid (show mvX N bs (2 * k + 0) = ofL (bs.set k y) N by
                unfold mvX
                rw [HMQ.out, show (2 * k + 0) / 2 = k by omega])
              have hka := key_at (out := insL N bs (2 * k + 0)) HKI.out
              have hil := insL_len N bs (2 * k + 0)
              have hdesc := (insL_desc bs hn1 hn2 (2 * k + 0)).1.2
              have HXO := Lib.hid (show RhOk N (mvX N bs (2 * k + 0)) from ofL_ok _ hn1 hn2)
              have HKI2 := Lib.hid (show keyR rs = (insL N bs (2 * k + 0)).map fun x => ((N : Int), x) from HKI.out)
              obtain ⟨L', hL'⟩ : ∃ L', movS N bs (2 * k + 0 + 1) = L' := ⟨_, rfl⟩
              rw [hL'] at HCD
              have HL' := Lib.hid hL'
              clear hh hL'
              generalize insL N bs (2 * k + 0) = out at *
              generalize mvX N bs (2 * k + 0) = X at *
              have HKA := Lib.hid hka.2
              have hrl : rs.length = out.length := hka.1
              have HDE := Lib.hid hdesc
              have hfb := rh_fits' HOK.out
              have HRN := Lib.hid hrl
              clear hka hdesc hrl
              go_wp2_with fail
              try rw [hy0]
              refine (HMD.out _).mono ?_
              rintro e w2 ⟨rfl, rfl⟩
              go_wp2_with fail
              refine (HHS.out _ HIW.out).mono ?_
              rintro e w2 ⟨rfl, rfl⟩
              have hcs := HIW.out.2.2 (by omega)
              have hcells : ∀ i, i < bs.length → wi.cell? ⟨b, off + i, none⟩ = some (.int .i64 (bs.getD i 0)) ∧ b < wi.heap.size := fun i hi => by
                obtain ⟨b', off', e, hlt', hcc⟩ := hcs
                injection e with e
                injection e with e1 e2
                subst e1 e2
                exact ⟨hcc i hi, hlt'⟩
              have HCX := Lib.hid hcells
              clear hcs hcells
              go_wp2_with (at_builtin; refine wpList_append_ints rfl (.tmp 38) (.tmp 40) rfl wi.heap.size _ [] rfl (OwnI.empty_at wi wi.heap.size wi.heap.size rfl (Nat.le_refl _)) b off cap bs (by rfl) (fun i hi => (((Below.refl wi.heap.size wi).alloc (Nat.le_refl _) (.cells #[] 3)).cell (p := ⟨b, off + i, none⟩) (HCX.out i hi).2).trans (HCX.out i hi).1) (by simp; omega) (by simp) ?_; intro v9 w9 hown9 hb9 _; rw [List.nil_append] at hown9; obtain ⟨g9, c9, rfl⟩ := hown9.posC (by omega); obtain ⟨hset, hfz, hce9, hg9, hbg9⟩ := hown9.set_ints hfb k hlt y hyf; have HB9 := Lib.hid (((Below.refl wi.heap.size wi).alloc (Nat.le_refl _) (.cells #[] 3)).trans hb9); have HB10 := Lib.hid (HB9.out.setCell (p := ⟨g9, k, none⟩) hbg9 (.int .i64 y)); obtain ⟨k0, k1, _, _, _⟩ := HCI.out.below HB9.out HCI.out.2.2.2.2; obtain ⟨l0, l1, _, _, _⟩ := HCI.out.below HB10.out HCI.out.2.2.2.2)
              have HS9 := Lib.hid hset
              generalize w9.setCell ⟨g9, k, none⟩ (.int .i64 y) = w10 at *
              have hlo := spec_l02Of_any N (some ⟨g9, 0, none⟩) c9 (bs.set k y) w10 HS9.out hn1 hn2
              rw [List.length_set, ← HMX.out] at hlo
              refine hlo.mono ?_
              rintro e w11 ⟨A10, c10, rfl, hrw, hb11⟩
              have HB11 := Lib.hid (HB10.out.trans (hb11.mono HB10.out.size))
              have hal := (Below.refl w11.heap.size w11).alloc (Nat.le_refl _) (.cells #[.int .i64 N, .slice A10 X.length c10] 28)
              have HB12 := Lib.hid (HB11.out.trans (hal.mono HB11.out.size))
              have HX12 := Lib.hid (Cells2.new w11 (.int .i64 N) (.slice A10 X.length c10) 28)
              obtain ⟨bX, hLX⟩ := (hrw.below hal).rv (show w10.heap.size < _ by have := hb11.size; simp only [World.size_alloc]; omega) N c10
              have HLX := Lib.hid (hLX.mono (show q + 1 ≤ w10.heap.size by have := HB10.out.size; omega))
              have HIX := Lib.hid ((hrw.ints (rh_fits' HXO.out)).lift hal)
              clear hrw hb11 hal hLX hset hfz hce9 hg9 hbg9 hown9 hb9 hlo c0 c1 d0 d1 k0 k1 l0 l1
              go_wp2_with fail
              generalize w11.alloc (.cells #[.int .i64 N, .slice A10 X.length c10] 28) = w12 at *
              obtain ⟨P, hP⟩ : ∃ P, w11.heap.size = P := ⟨_, rfl⟩
              rw [hP] at HX12 ⊢
              clear hP
              have HR12 := Lib.hid (HRI.out.grown HB12.out)
              have HL12 := Lib.hid (fun r (hr : r ∈ rs) => (HLR.out r hr).frm (Frm.pure HB12.out (fun _ => False)) (fun h => h))
              have HC12 := Lib.hid (HCI.out.below HB12.out HCI.out.2.2.2.2)
              have HD12 := Lib.hid (HDI.out.below HB12.out HDI.out.2.2.2.2)
              have HBW12 := Lib.hid (HBI.out.trans (HB12.out.mono HBI.out.size))
              have hpl := posF_le N out X
              go_loopw [11] (fun kk wr => ∃ kq : Nat, kq ≤ posF N out X ∧ kk = .int .i64 kq ∧ Below w12.heap.size w12 wr) (fun kk _ => posF N out X - (intOf kk).toNat)
              case atStart => exact ⟨0, Nat.zero_le _, rfl, Below.refl _ _⟩
              case round =>
                obtain ⟨kq, hkq, rfl, hbq⟩ := hrel
                obtain ⟨wk, rfl⟩ : ∃ wo : World, wo = wr := ⟨_, rfl⟩
                have HBQ := Lib.hid hbq
                have hrl := HRN.out
                have hkle : kq ≤ rs.length := by omega
                have hr48 : rs.length ≤ 1000 := by omega
                clear hbq
                obtain ⟨x0, x1, _, _, _⟩ := HX12.out.below HBQ.out HX12.out.2.2.2.2
                have hcap := HR12.out.caps
                have hg12 := hcap.2
                have hcc : (rs.length : Int) ≤ (c : Int) := by have := hcap.1; omega
                have hkq0 : (0 : Int) ≤ (kq : Int) := Int.natCast_nonneg _
                have HRK := Lib.hid (HR12.out.grown HBQ.out)
                have HLK := Lib.hid (fun r (hr : r ∈ rs) => (HL12.out r hr).frm (Frm.pure HBQ.out (fun _ => False)) (fun h => h))
                have hIXk := HIX.out.lift HBQ.out
                have HIXK := Lib.hid hIXk
                clear hIXk
                by_cases hlk : kq < rs.length
                · have hlki : (kq : Int) < (rs.length : Int) := by omega
                  have hlkd : decide ((kq : Int) < (rs.length : Int)) = true := decide_eq_true hlki
                  obtain ⟨e1, e2⟩ := HKA.out kq hlk (by omega)
                  have r0 := HRK.out.cell _ _ (cellsR_get rs kq hlk).1
                  have r1 := HRK.out.cell _ _ (cellsR_get rs kq hlk).2
                  have hyok := HDE.out out[kq] (List.getElem_mem (by omega))
                  rw [← e2] at hyok
                  have hIY := (HLK.out rs[kq] (List.getElem_mem hlk)).ints (rh_fits' hyok)
                  have hbef : kq < posF N out X → aftB N rs[kq].xs X = true := fun h => by rw [e2]; exact posF_before (by omega) h
                  have hat : kq = posF N out X → aftB N rs[kq].xs X = false := fun h => by
                    rw [e2]; subst h; exact posF_at (by omega)
                  have hsame : rs[kq].xs = X → out[kq]? = some X := fun h => by rw [List.getElem?_eq_getElem (by omega : kq < out.length), ← e2, h]
                  have hdiff : rs[kq].xs ≠ X → out[kq]? ≠ some X := fun h h2 => h (by
                    rw [List.getElem?_eq_getElem (by omega : kq < out.length)] at h2
                    rw [e2]; exact Option.some.inj h2)
                  unfold RV.slc at r1
                  rw [e1] at r0
                  generalize rs[kq].xs = Y at *
                  generalize rs[kq].A = AY at *
                  generalize rs[kq].c = cY at *
                  have HIY := Lib.hid hIY
                  have HYO := Lib.hid hyok
                  have HAT := Lib.hid hat
                  have HSM := Lib.hid (And.intro hsame hdiff)
                  have HAF := Lib.hid (fun V h1 h2 => spec_l04After_any N AY A10 cY c10 Y X V h1 h2 HYO.out HXO.out)
                  obtain ⟨af, haf⟩ : ∃ af, aftB N Y X = af := ⟨_, rfl⟩
                  rw [haf] at HAF hbef
                  have HAFV := Lib.hid haf
                  clear hIY hyok hat hsame hdiff haf e1 e2 hrl
                  have HBd := Lib.hid (Below.drew5_ HBQ.out)
                  have HIYd := Lib.hid (show Ints wk.drew wk.drew.heap.size AY Y from HIY.out)
                  have HIXd := Lib.hid (show Ints wk.drew wk.drew.heap.size A10 X from HIXK.out)
                  by_cases hbk : kq < posF N out X
                  · have hb2 := hbef hbk
                    subst hb2
                    go_wp2_with fail
                    (refine wp_region_held_drew (S := (fun w' => w'.cell? ⟨g, kq * 2, none⟩ = some (.int .i64 N) ∧ w'.cell? ⟨g, kq * 2 + 1, none⟩ = some (.slice AY Y.length cY) ∧ w'.cell? ⟨P, 0, none⟩ = some (.int .i64 N) ∧ w'.cell? ⟨P, 1, none⟩ = some (.slice A10 X.length c10))) (by kernel_rfl) ?_ (fun hHeld => ?_); (focus ((try dsimp only); exact ⟨r0, r1, x0, x1⟩)))
                    ((refine wpAnyH_take (i := 0) (v := ?_) rfl (by kernel_rfl) (by kernel_rfl) (by kernel_rfl) (fun _ _ _ h => h) (Or.inl ⟨by rfl, ?_⟩) (by assumption) ?_; rotate_left; (focus (intro wS hSw; (try dsimp only at hSw); go_simp; (try with_reducible rfl))); (try simp only [Act.put, List.getElem_toArray, List.getElem_cons_zero, List.getElem_cons_succ, List.setIfInBounds_toArray, List.set_cons_zero, List.set_cons_succ])); (refine wpAnyH_take (i := 1) (v := ?_) rfl (by kernel_rfl) (by kernel_rfl) (by kernel_rfl) (fun _ _ _ h => h) (Or.inl ⟨by rfl, ?_⟩) (by assumption) ?_; rotate_left; (focus (intro wS hSw; (try dsimp only at hSw); go_simp; (try with_reducible rfl))); (try simp only [Act.put, List.getElem_toArray, List.getElem_cons_zero, List.getElem_cons_succ, List.setIfInBounds_toArray, List.set_cons_zero, List.set_cons_succ])); (refine wpAnyH_take (i := 2) (v := ?_) rfl (by kernel_rfl) (by kernel_rfl) (by kernel_rfl) (fun _ _ _ h => h) (Or.inl ⟨by rfl, ?_⟩) (by assumption) ?_; rotate_left; (focus (intro wS hSw; (try dsimp only at hSw); go_simp; (try with_reducible rfl))); (try simp only [Act.put, List.getElem_toArray, List.getElem_cons_zero, List.getElem_cons_succ, List.setIfInBounds_toArray, List.set_cons_zero, List.set_cons_succ])); (refine wpAnyH_take (i := 3) (v := ?_) rfl (by kernel_rfl) (by kernel_rfl) (by kernel_rfl) (fun _ _ _ h => h) (Or.inl ⟨by rfl, ?_⟩) (by assumption) ?_; rotate_left; (focus (intro wS hSw; (try dsimp only at hSw); go_simp; (try with_reducible rfl))); (try simp only [Act.put, List.getElem_toArray, List.getElem_cons_zero, List.getElem_cons_succ, List.setIfInBounds_toArray, List.set_cons_zero, List.set_cons_succ])); (refine wpAnyH_take (i := 4) (v := ?_) rfl (by kernel_rfl) (by kernel_rfl) (by kernel_rfl) (fun _ _ _ h => h) (Or.inl ⟨by rfl, ?_⟩) (by assumption) ?_; rotate_left; (focus (intro wS hSw; (try dsimp only at hSw); go_simp; (try with_reducible rfl))); (try simp only [Act.put, List.getElem_toArray, List.getElem_cons_zero, List.getElem_cons_succ, List.setIfInBounds_toArray, List.set_cons_zero, List.set_cons_succ])); (refine wpAnyH_take (i := 5) (v := ?_) rfl (by kernel_rfl) (by kernel_rfl) (by kernel_rfl) (fun _ _ _ h => h) (Or.inl ⟨by rfl, ?_⟩) (by assumption) ?_; rotate_left; (focus (intro wS hSw; (try dsimp only at hSw); go_simp; (try with_reducible rfl))); (try simp only [Act.put, List.getElem_toArray, List.getElem_cons_zero, List.getElem_cons_succ, List.setIfInBounds_toArray, List.set_cons_zero, List.set_cons_succ])); (refine wpAnyH_take (i := 6) (v := ?_) rfl (by kernel_rfl) (by kernel_rfl) (by kernel_rfl) (fun _ _ _ h => h) (Or.inl ⟨by rfl, ?_⟩) (by assumption) ?_; rotate_left; (focus (intro wS hSw; (try dsimp only at hSw); go_simp; (try with_reducible rfl))); (try simp only [Act.put, List.getElem_toArray, List.getElem_cons_zero, List.getElem_cons_succ, List.setIfInBounds_toArray, List.set_cons_zero, List.set_cons_succ])); (refine wpAnyH_take (i := 7) (v := ?_) rfl (by kernel_rfl) (by kernel_rfl) (by kernel_rfl) (fun _ _ _ h => h) (Or.inl ⟨by rfl, ?_⟩) (by assumption) ?_; rotate_left; (focus (intro wS hSw; (try dsimp only at hSw); go_simp; (try with_reducible rfl))); (try simp only [Act.put, List.getElem_toArray, List.getElem_cons_zero, List.getElem_cons_succ, List.setIfInBounds_toArray, List.set_cons_zero, List.set_cons_succ])); (refine wpAnyH_take (i := 8) (v := ?_) rfl (by kernel_rfl) (by kernel_rfl) (by kernel_rfl) (fun _ _ _ h => h) (Or.inl ⟨by rfl, ?_⟩) (by assumption) ?_; rotate_left; (focus (intro wS hSw; (try dsimp only at hSw); go_simp; (try with_reducible rfl))); (try simp only [Act.put, List.getElem_toArray, List.getElem_cons_zero, List.getElem_cons_succ, List.setIfInBounds_toArray, List.set_cons_zero, List.set_cons_succ])); (refine wpAnyH_take (i := 9) (v := ?_) rfl (by kernel_rfl) (by kernel_rfl) (by kernel_rfl) (fun _ _ _ h => h) (Or.inl ⟨by rfl, ?_⟩) (by assumption) ?_; rotate_left; (focus (intro wS hSw; (try dsimp only at hSw); go_simp; (try with_reducible rfl))); (try simp only [Act.put, List.getElem_toArray, List.getElem_cons_zero, List.getElem_cons_succ, List.setIfInBounds_toArray, List.set_cons_zero, List.set_cons_succ])))
                    (refine wpAnyH_ready (rs := [10]) (by kernel_rfl) (by simp) ?_; refine AllReadyH.cons rfl (fun K hK => ?_) AllReadyH.nil; go_simp)
                    go_at_call 36
                    refine (HAF.out _ HIYd.out HIXd.out).mono ?_
                    rintro e wl ⟨rfl, hbl2⟩
                    have HBL := Lib.hid (HBd.out.trans (hbl2.mono HBd.out.size))
                    have hgk : g < wk.drew.heap.size := Nat.lt_of_lt_of_le hg12 HBd.out.size
                    have hPk : P < wk.drew.heap.size := Nat.lt_of_lt_of_le HX12.out.2.2.2.2 HBd.out.size
                    have r0 := (hbl2.cell (p := ⟨g, kq * 2, none⟩) hgk).trans r0
                    have r1 := (hbl2.cell (p := ⟨g, kq * 2 + 1, none⟩) hgk).trans r1
                    have x0 := (hbl2.cell (p := ⟨P, 0, none⟩) hPk).trans x0
                    have x1 := (hbl2.cell (p := ⟨P, 1, none⟩) hPk).trans x1
                    go_wp2_with fail
                    (refine hK.out _ _ ?_ (fun hHeld2 => ?_); (focus ((try dsimp only); exact ⟨r0, r1, x0, x1⟩)); (clear hK K); (try simp only [Act.put, List.getElem_toArray, List.getElem_cons_zero, List.getElem_cons_succ, List.setIfInBounds_toArray, List.set_cons_zero, List.set_cons_succ]))
                    (refine wpAnyH_take (i := 11) (v := ?_) rfl (by kernel_rfl) (by kernel_rfl) (by kernel_rfl) (fun _ _ _ h => h) (Or.inl ⟨by rfl, ?_⟩) (by assumption) ?_; rotate_left; (focus (intro wS hSw; (try dsimp only at hSw); go_simp; (try with_reducible rfl))); (try simp only [Act.put, List.getElem_toArray, List.getElem_cons_zero, List.getElem_cons_succ, List.setIfInBounds_toArray, List.set_cons_zero, List.set_cons_succ]))
                    refine wpAnyH_done (by kernel_rfl) ?_ _
                    go_wp2_with fail
                    go_roundw
                    case rel => exact ⟨kq + 1, by omega, by go_num, HBL.out⟩
                    case measure => simp [intOf]; omega
                  · have hkp : kq = posF N out X := by omega
                    have hb2 := HAFV.out.symm.trans (HAT.out hkp)
                    subst hb2
                    have HKP := Lib.hid hkp
                    clear hkp
                    go_wp2_with fail
                    (refine wp_region_held_drew (S := (fun w' => w'.cell? ⟨g, kq * 2, none⟩ = some (.int .i64 N) ∧ w'.cell? ⟨g, kq * 2 + 1, none⟩ = some (.slice AY Y.length cY) ∧ w'.cell? ⟨P, 0, none⟩ = some (.int .i64 N) ∧ w'.cell? ⟨P, 1, none⟩ = some (.slice A10 X.length c10))) (by kernel_rfl) ?_ (fun hHeld => ?_); (focus ((try dsimp only); exact ⟨r0, r1, x0, x1⟩)))
                    ((refine wpAnyH_take (i := 0) (v := ?_) rfl (by kernel_rfl) (by kernel_rfl) (by kernel_rfl) (fun _ _ _ h => h) (Or.inl ⟨by rfl, ?_⟩) (by assumption) ?_; rotate_left; (focus (intro wS hSw; (try dsimp only at hSw); go_simp; (try with_reducible rfl))); (try simp only [Act.put, List.getElem_toArray, List.getElem_cons_zero, List.getElem_cons_succ, List.setIfInBounds_toArray, List.set_cons_zero, List.set_cons_succ])); (refine wpAnyH_take (i := 1) (v := ?_) rfl (by kernel_rfl) (by kernel_rfl) (by kernel_rfl) (fun _ _ _ h => h) (Or.inl ⟨by rfl, ?_⟩) (by assumption) ?_; rotate_left; (focus (intro wS hSw; (try dsimp only at hSw); go_simp; (try with_reducible rfl))); (try simp only [Act.put, List.getElem_toArray, List.getElem_cons_zero, List.getElem_cons_succ, List.setIfInBounds_toArray, List.set_cons_zero, List.set_cons_succ])); (refine wpAnyH_take (i := 2) (v := ?_) rfl (by kernel_rfl) (by kernel_rfl) (by kernel_rfl) (fun _ _ _ h => h) (Or.inl ⟨by rfl, ?_⟩) (by assumption) ?_; rotate_left; (focus (intro wS hSw; (try dsimp only at hSw); go_simp; (try with_reducible rfl))); (try simp only [Act.put, List.getElem_toArray, List.getElem_cons_zero, List.getElem_cons_succ, List.setIfInBounds_toArray, List.set_cons_zero, List.set_cons_succ])); (refine wpAnyH_take (i := 3) (v := ?_) rfl (by kernel_rfl) (by kernel_rfl) (by kernel_rfl) (fun _ _ _ h => h) (Or.inl ⟨by rfl, ?_⟩) (by assumption) ?_; rotate_left; (focus (intro wS hSw; (try dsimp only at hSw); go_simp; (try with_reducible rfl))); (try simp only [Act.put, List.getElem_toArray, List.getElem_cons_zero, List.getElem_cons_succ, List.setIfInBounds_toArray, List.set_cons_zero, List.set_cons_succ])); (refine wpAnyH_take (i := 4) (v := ?_) rfl (by kernel_rfl) (by kernel_rfl) (by kernel_rfl) (fun _ _ _ h => h) (Or.inl ⟨by rfl, ?_⟩) (by assumption) ?_; rotate_left; (focus (intro wS hSw; (try dsimp only at hSw); go_simp; (try with_reducible rfl))); (try simp only [Act.put, List.getElem_toArray, List.getElem_cons_zero, List.getElem_cons_succ, List.setIfInBounds_toArray, List.set_cons_zero, List.set_cons_succ])); (refine wpAnyH_take (i := 5) (v := ?_) rfl (by kernel_rfl) (by kernel_rfl) (by kernel_rfl) (fun _ _ _ h => h) (Or.inl ⟨by rfl, ?_⟩) (by assumption) ?_; rotate_left; (focus (intro wS hSw; (try dsimp only at hSw); go_simp; (try with_reducible rfl))); (try simp only [Act.put, List.getElem_toArray, List.getElem_cons_zero, List.getElem_cons_succ, List.setIfInBounds_toArray, List.set_cons_zero, List.set_cons_succ])); (refine wpAnyH_take (i := 6) (v := ?_) rfl (by kernel_rfl) (by kernel_rfl) (by kernel_rfl) (fun _ _ _ h => h) (Or.inl ⟨by rfl, ?_⟩) (by assumption) ?_; rotate_left; (focus (intro wS hSw; (try dsimp only at hSw); go_simp; (try with_reducible rfl))); (try simp only [Act.put, List.getElem_toArray, List.getElem_cons_zero, List.getElem_cons_succ, List.setIfInBounds_toArray, List.set_cons_zero, List.set_cons_succ])); (refine wpAnyH_take (i := 7) (v := ?_) rfl (by kernel_rfl) (by kernel_rfl) (by kernel_rfl) (fun _ _ _ h => h) (Or.inl ⟨by rfl, ?_⟩) (by assumption) ?_; rotate_left; (focus (intro wS hSw; (try dsimp only at hSw); go_simp; (try with_reducible rfl))); (try simp only [Act.put, List.getElem_toArray, List.getElem_cons_zero, List.getElem_cons_succ, List.setIfInBounds_toArray, List.set_cons_zero, List.set_cons_succ])); (refine wpAnyH_take (i := 8) (v := ?_) rfl (by kernel_rfl) (by kernel_rfl) (by kernel_rfl) (fun _ _ _ h => h) (Or.inl ⟨by rfl, ?_⟩) (by assumption) ?_; rotate_left; (focus (intro wS hSw; (try dsimp only at hSw); go_simp; (try with_reducible rfl))); (try simp only [Act.put, List.getElem_toArray, List.getElem_cons_zero, List.getElem_cons_succ, List.setIfInBounds_toArray, List.set_cons_zero, List.set_cons_succ])); (refine wpAnyH_take (i := 9) (v := ?_) rfl (by kernel_rfl) (by kernel_rfl) (by kernel_rfl) (fun _ _ _ h => h) (Or.inl ⟨by rfl, ?_⟩) (by assumption) ?_; rotate_left; (focus (intro wS hSw; (try dsimp only at hSw); go_simp; (try with_reducible rfl))); (try simp only [Act.put, List.getElem_toArray, List.getElem_cons_zero, List.getElem_cons_succ, List.setIfInBounds_toArray, List.set_cons_zero, List.set_cons_succ])))
                    (refine wpAnyH_ready (rs := [10]) (by kernel_rfl) (by simp) ?_; refine AllReadyH.cons rfl (fun K hK => ?_) AllReadyH.nil; go_simp)
                    go_at_call 36
                    refine (HAF.out _ HIYd.out HIXd.out).mono ?_
                    rintro e wl ⟨rfl, hbl2⟩
                    have HBL := Lib.hid (HBd.out.trans (hbl2.mono HBd.out.size))
                    have hgk : g < wk.drew.heap.size := Nat.lt_of_lt_of_le hg12 HBd.out.size
                    have hPk : P < wk.drew.heap.size := Nat.lt_of_lt_of_le HX12.out.2.2.2.2 HBd.out.size
                    have r0 := (hbl2.cell (p := ⟨g, kq * 2, none⟩) hgk).trans r0
                    have r1 := (hbl2.cell (p := ⟨g, kq * 2 + 1, none⟩) hgk).trans r1
                    have x0 := (hbl2.cell (p := ⟨P, 0, none⟩) hPk).trans x0
                    have x1 := (hbl2.cell (p := ⟨P, 1, none⟩) hPk).trans x1
                    go_wp2_with fail
                    (refine hK.out _ _ ?_ (fun hHeld2 => ?_); (focus ((try dsimp only); exact ⟨r0, r1, x0, x1⟩)); (clear hK K); (try simp only [Act.put, List.getElem_toArray, List.getElem_cons_zero, List.getElem_cons_succ, List.setIfInBounds_toArray, List.set_cons_zero, List.set_cons_succ]))
                    (refine wpAnyH_take (i := 11) (v := ?_) rfl (by kernel_rfl) (by kernel_rfl) (by kernel_rfl) (fun _ _ _ h => h) (Or.inl ⟨by rfl, ?_⟩) (by assumption) ?_; rotate_left; (focus (intro wS hSw; (try dsimp only at hSw); go_simp; (try with_reducible rfl))); (try simp only [Act.put, List.getElem_toArray, List.getElem_cons_zero, List.getElem_cons_succ, List.setIfInBounds_toArray, List.set_cons_zero, List.set_cons_succ]))
                    refine wpAnyH_done (by kernel_rfl) ?_ _
                    have HIYl := Lib.hid (HIYd.out.lift hbl2)
                    have HIXl := Lib.hid (HIXd.out.lift hbl2)
                    have HSA := Lib.hid (fun V (h1 : Ints V V.heap.size AY Y) (h2 : Ints V V.heap.size A10 X) => spec_l02Same_any AY A10 cY c10 Y X V _ _ h1 h2)
                    have HBe := Lib.hid (Below.drew5_ HBL.out)
                    have HIYe := Lib.hid (show Ints wl.drew wl.drew.heap.size AY Y from HIYl.out)
                    have HIXe := Lib.hid (show Ints wl.drew wl.drew.heap.size A10 X from HIXl.out)
                    clear hbl2
                    by_cases hYX : Y = X
                    · have he : eqB Y X = true := by rw [hYX]; exact eqB_self X
                      have HKN := Lib.hid (key_same (x := X) HKI2.out (by rw [← HKP.out]; exact HSM.out.1 hYX))
                      rw [he] at HSA
                      clear he hYX
                      go_wp2_with fail
                      (refine wp_region_held_drew (S := (fun w' => w'.cell? ⟨g, kq * 2, none⟩ = some (.int .i64 N) ∧ w'.cell? ⟨g, kq * 2 + 1, none⟩ = some (.slice AY Y.length cY) ∧ w'.cell? ⟨P, 0, none⟩ = some (.int .i64 N) ∧ w'.cell? ⟨P, 1, none⟩ = some (.slice A10 X.length c10))) (by kernel_rfl) ?_ (fun hHeld => ?_); (focus ((try dsimp only); exact ⟨r0, r1, x0, x1⟩)))
                      ((refine wpAnyH_take (i := 0) (v := ?_) rfl (by kernel_rfl) (by kernel_rfl) (by kernel_rfl) (fun _ _ _ h => h) (Or.inl ⟨by rfl, ?_⟩) (by assumption) ?_; rotate_left; (focus (intro wS hSw; (try dsimp only at hSw); go_simp; (try with_reducible rfl))); (try simp only [Act.put, List.getElem_toArray, List.getElem_cons_zero, List.getElem_cons_succ, List.setIfInBounds_toArray, List.set_cons_zero, List.set_cons_succ])); (refine wpAnyH_take (i := 1) (v := ?_) rfl (by kernel_rfl) (by kernel_rfl) (by kernel_rfl) (fun _ _ _ h => h) (Or.inl ⟨by rfl, ?_⟩) (by assumption) ?_; rotate_left; (focus (intro wS hSw; (try dsimp only at hSw); go_simp; (try with_reducible rfl))); (try simp only [Act.put, List.getElem_toArray, List.getElem_cons_zero, List.getElem_cons_succ, List.setIfInBounds_toArray, List.set_cons_zero, List.set_cons_succ])); (refine wpAnyH_take (i := 2) (v := ?_) rfl (by kernel_rfl) (by kernel_rfl) (by kernel_rfl) (fun _ _ _ h => h) (Or.inl ⟨by rfl, ?_⟩) (by assumption) ?_; rotate_left; (focus (intro wS hSw; (try dsimp only at hSw); go_simp; (try with_reducible rfl))); (try simp only [Act.put, List.getElem_toArray, List.getElem_cons_zero, List.getElem_cons_succ, List.setIfInBounds_toArray, List.set_cons_zero, List.set_cons_succ])); (refine wpAnyH_take (i := 3) (v := ?_) rfl (by kernel_rfl) (by kernel_rfl) (by kernel_rfl) (fun _ _ _ h => h) (Or.inl ⟨by rfl, ?_⟩) (by assumption) ?_; rotate_left; (focus (intro wS hSw; (try dsimp only at hSw); go_simp; (try with_reducible rfl))); (try simp only [Act.put, List.getElem_toArray, List.getElem_cons_zero, List.getElem_cons_succ, List.setIfInBounds_toArray, List.set_cons_zero, List.set_cons_succ])); (refine wpAnyH_take (i := 4) (v := ?_) rfl (by kernel_rfl) (by kernel_rfl) (by kernel_rfl) (fun _ _ _ h => h) (Or.inl ⟨by rfl, ?_⟩) (by assumption) ?_; rotate_left; (focus (intro wS hSw; (try dsimp only at hSw); go_simp; (try with_reducible rfl))); (try simp only [Act.put, List.getElem_toArray, List.getElem_cons_zero, List.getElem_cons_succ, List.setIfInBounds_toArray, List.set_cons_zero, List.set_cons_succ])); (refine wpAnyH_take (i := 5) (v := ?_) rfl (by kernel_rfl) (by kernel_rfl) (by kernel_rfl) (fun _ _ _ h => h) (Or.inl ⟨by rfl, ?_⟩) (by assumption) ?_; rotate_left; (focus (intro wS hSw; (try dsimp only at hSw); go_simp; (try with_reducible rfl))); (try simp only [Act.put, List.getElem_toArray, List.getElem_cons_zero, List.getElem_cons_succ, List.setIfInBounds_toArray, List.set_cons_zero, List.set_cons_succ])); (refine wpAnyH_take (i := 6) (v := ?_) rfl (by kernel_rfl) (by kernel_rfl) (by kernel_rfl) (fun _ _ _ h => h) (Or.inl ⟨by rfl, ?_⟩) (by assumption) ?_; rotate_left; (focus (intro wS hSw; (try dsimp only at hSw); go_simp; (try with_reducible rfl))); (try simp only [Act.put, List.getElem_toArray, List.getElem_cons_zero, List.getElem_cons_succ, List.setIfInBounds_toArray, List.set_cons_zero, List.set_cons_succ])); (refine wpAnyH_take (i := 7) (v := ?_) rfl (by kernel_rfl) (by kernel_rfl) (by kernel_rfl) (fun _ _ _ h => h) (Or.inl ⟨by rfl, ?_⟩) (by assumption) ?_; rotate_left; (focus (intro wS hSw; (try dsimp only at hSw); go_simp; (try with_reducible rfl))); (try simp only [Act.put, List.getElem_toArray, List.getElem_cons_zero, List.getElem_cons_succ, List.setIfInBounds_toArray, List.set_cons_zero, List.set_cons_succ])); (refine wpAnyH_take (i := 8) (v := ?_) rfl (by kernel_rfl) (by kernel_rfl) (by kernel_rfl) (fun _ _ _ h => h) (Or.inl ⟨by rfl, ?_⟩) (by assumption) ?_; rotate_left; (focus (intro wS hSw; (try dsimp only at hSw); go_simp; (try with_reducible rfl))); (try simp only [Act.put, List.getElem_toArray, List.getElem_cons_zero, List.getElem_cons_succ, List.setIfInBounds_toArray, List.set_cons_zero, List.set_cons_succ])); (refine wpAnyH_take (i := 9) (v := ?_) rfl (by kernel_rfl) (by kernel_rfl) (by kernel_rfl) (fun _ _ _ h => h) (Or.inl ⟨by rfl, ?_⟩) (by assumption) ?_; rotate_left; (focus (intro wS hSw; (try dsimp only at hSw); go_simp; (try with_reducible rfl))); (try simp only [Act.put, List.getElem_toArray, List.getElem_cons_zero, List.getElem_cons_succ, List.setIfInBounds_toArray, List.set_cons_zero, List.set_cons_succ])); (refine wpAnyH_take (i := 10) (v := ?_) rfl (by kernel_rfl) (by kernel_rfl) (by kernel_rfl) (fun _ _ _ h => h) (Or.inl ⟨by rfl, ?_⟩) (by assumption) ?_; rotate_left; (focus (intro wS hSw; (try dsimp only at hSw); go_simp; (try with_reducible rfl))); (try simp only [Act.put, List.getElem_toArray, List.getElem_cons_zero, List.getElem_cons_succ, List.setIfInBounds_toArray, List.set_cons_zero, List.set_cons_succ])); (refine wpAnyH_take (i := 11) (v := ?_) rfl (by kernel_rfl) (by kernel_rfl) (by kernel_rfl) (fun _ _ _ h => h) (Or.inl ⟨by rfl, ?_⟩) (by assumption) ?_; rotate_left; (focus (intro wS hSw; (try dsimp only at hSw); go_simp; (try with_reducible rfl))); (try simp only [Act.put, List.getElem_toArray, List.getElem_cons_zero, List.getElem_cons_succ, List.setIfInBounds_toArray, List.set_cons_zero, List.set_cons_succ])))
                      (refine wpAnyH_ready (rs := [12]) (by kernel_rfl) (by simp) ?_; refine AllReadyH.cons rfl (fun K hK => ?_) AllReadyH.nil; go_simp)
                      go_at_call 37
                      refine (HSA.out _ HIYe.out HIXe.out).mono ?_
                      rintro e w5 ⟨rfl, rfl⟩
                      go_wp2_with fail
                      (refine hK.out _ _ ?_ (fun hHeld2 => ?_); (focus ((try dsimp only); exact ⟨r0, r1, x0, x1⟩)); (clear hK K); (try simp only [Act.put, List.getElem_toArray, List.getElem_cons_zero, List.getElem_cons_succ, List.setIfInBounds_toArray, List.set_cons_zero, List.set_cons_succ]))
                      (refine wpAnyH_take (i := 13) (v := ?_) rfl (by kernel_rfl) (by kernel_rfl) (by kernel_rfl) (fun _ _ _ h => h) (Or.inl ⟨by rfl, ?_⟩) (by assumption) ?_; rotate_left; (focus (intro wS hSw; (try dsimp only at hSw); go_simp; (try with_reducible rfl))); (try simp only [Act.put, List.getElem_toArray, List.getElem_cons_zero, List.getElem_cons_succ, List.setIfInBounds_toArray, List.set_cons_zero, List.set_cons_succ]))
                      refine wpAnyH_done (by kernel_rfl) ?_ _
                      go_wp2_with fail
                      go_roundw
                      case rel => exact ⟨1, g, c, rs, by omega, by go_num, rfl, by rw [HKN.out, ← HCD.out]; exact HL'.out.symm, HR12.out.grown HBe.out, (fun r hr => (HL12.out r hr).frm (Frm.pure HBe.out (fun _ => False)) (fun h => h)), HC12.out.below HBe.out HC12.out.2.2.2.2, HD12.out.below HBe.out HD12.out.2.2.2.2, HBW12.out.trans (HBe.out.mono HBW12.out.size), Nat.le_trans hqi (Nat.le_trans HB12.out.size HBe.out.size)⟩
                      case measure => simp [intOf]
                    · have he : eqB Y X = false := by unfold eqB; exact decide_eq_false hYX
                      have HNE := Lib.hid (show out[posF N out X]? ≠ some X by rw [← HKP.out]; exact HSM.out.2 hYX)
                      rw [he] at HSA
                      clear he hYX
                      go_wp2_with fail
                      (refine wp_region_held_drew (S := (fun w' => w'.cell? ⟨g, kq * 2, none⟩ = some (.int .i64 N) ∧ w'.cell? ⟨g, kq * 2 + 1, none⟩ = some (.slice AY Y.length cY) ∧ w'.cell? ⟨P, 0, none⟩ = some (.int .i64 N) ∧ w'.cell? ⟨P, 1, none⟩ = some (.slice A10 X.length c10))) (by kernel_rfl) ?_ (fun hHeld => ?_); (focus ((try dsimp only); exact ⟨r0, r1, x0, x1⟩)))
                      ((refine wpAnyH_take (i := 0) (v := ?_) rfl (by kernel_rfl) (by kernel_rfl) (by kernel_rfl) (fun _ _ _ h => h) (Or.inl ⟨by rfl, ?_⟩) (by assumption) ?_; rotate_left; (focus (intro wS hSw; (try dsimp only at hSw); go_simp; (try with_reducible rfl))); (try simp only [Act.put, List.getElem_toArray, List.getElem_cons_zero, List.getElem_cons_succ, List.setIfInBounds_toArray, List.set_cons_zero, List.set_cons_succ])); (refine wpAnyH_take (i := 1) (v := ?_) rfl (by kernel_rfl) (by kernel_rfl) (by kernel_rfl) (fun _ _ _ h => h) (Or.inl ⟨by rfl, ?_⟩) (by assumption) ?_; rotate_left; (focus (intro wS hSw; (try dsimp only at hSw); go_simp; (try with_reducible rfl))); (try simp only [Act.put, List.getElem_toArray, List.getElem_cons_zero, List.getElem_cons_succ, List.setIfInBounds_toArray, List.set_cons_zero, List.set_cons_succ])); (refine wpAnyH_take (i := 2) (v := ?_) rfl (by kernel_rfl) (by kernel_rfl) (by kernel_rfl) (fun _ _ _ h => h) (Or.inl ⟨by rfl, ?_⟩) (by assumption) ?_; rotate_left; (focus (intro wS hSw; (try dsimp only at hSw); go_simp; (try with_reducible rfl))); (try simp only [Act.put, List.getElem_toArray, List.getElem_cons_zero, List.getElem_cons_succ, List.setIfInBounds_toArray, List.set_cons_zero, List.set_cons_succ])); (refine wpAnyH_take (i := 3) (v := ?_) rfl (by kernel_rfl) (by kernel_rfl) (by kernel_rfl) (fun _ _ _ h => h) (Or.inl ⟨by rfl, ?_⟩) (by assumption) ?_; rotate_left; (focus (intro wS hSw; (try dsimp only at hSw); go_simp; (try with_reducible rfl))); (try simp only [Act.put, List.getElem_toArray, List.getElem_cons_zero, List.getElem_cons_succ, List.setIfInBounds_toArray, List.set_cons_zero, List.set_cons_succ])); (refine wpAnyH_take (i := 4) (v := ?_) rfl (by kernel_rfl) (by kernel_rfl) (by kernel_rfl) (fun _ _ _ h => h) (Or.inl ⟨by rfl, ?_⟩) (by assumption) ?_; rotate_left; (focus (intro wS hSw; (try dsimp only at hSw); go_simp; (try with_reducible rfl))); (try simp only [Act.put, List.getElem_toArray, List.getElem_cons_zero, List.getElem_cons_succ, List.setIfInBounds_toArray, List.set_cons_zero, List.set_cons_succ])); (refine wpAnyH_take (i := 5) (v := ?_) rfl (by kernel_rfl) (by kernel_rfl) (by kernel_rfl) (fun _ _ _ h => h) (Or.inl ⟨by rfl, ?_⟩) (by assumption) ?_; rotate_left; (focus (intro wS hSw; (try dsimp only at hSw); go_simp; (try with_reducible rfl))); (try simp only [Act.put, List.getElem_toArray, List.getElem_cons_zero, List.getElem_cons_succ, List.setIfInBounds_toArray, List.set_cons_zero, List.set_cons_succ])); (refine wpAnyH_take (i := 6) (v := ?_) rfl (by kernel_rfl) (by kernel_rfl) (by kernel_rfl) (fun _ _ _ h => h) (Or.inl ⟨by rfl, ?_⟩) (by assumption) ?_; rotate_left; (focus (intro wS hSw; (try dsimp only at hSw); go_simp; (try with_reducible rfl))); (try simp only [Act.put, List.getElem_toArray, List.getElem_cons_zero, List.getElem_cons_succ, List.setIfInBounds_toArray, List.set_cons_zero, List.set_cons_succ])); (refine wpAnyH_take (i := 7) (v := ?_) rfl (by kernel_rfl) (by kernel_rfl) (by kernel_rfl) (fun _ _ _ h => h) (Or.inl ⟨by rfl, ?_⟩) (by assumption) ?_; rotate_left; (focus (intro wS hSw; (try dsimp only at hSw); go_simp; (try with_reducible rfl))); (try simp only [Act.put, List.getElem_toArray, List.getElem_cons_zero, List.getElem_cons_succ, List.setIfInBounds_toArray, List.set_cons_zero, List.set_cons_succ])); (refine wpAnyH_take (i := 8) (v := ?_) rfl (by kernel_rfl) (by kernel_rfl) (by kernel_rfl) (fun _ _ _ h => h) (Or.inl ⟨by rfl, ?_⟩) (by assumption) ?_; rotate_left; (focus (intro wS hSw; (try dsimp only at hSw); go_simp; (try with_reducible rfl))); (try simp only [Act.put, List.getElem_toArray, List.getElem_cons_zero, List.getElem_cons_succ, List.setIfInBounds_toArray, List.set_cons_zero, List.set_cons_succ])); (refine wpAnyH_take (i := 9) (v := ?_) rfl (by kernel_rfl) (by kernel_rfl) (by kernel_rfl) (fun _ _ _ h => h) (Or.inl ⟨by rfl, ?_⟩) (by assumption) ?_; rotate_left; (focus (intro wS hSw; (try dsimp only at hSw); go_simp; (try with_reducible rfl))); (try simp only [Act.put, List.getElem_toArray, List.getElem_cons_zero, List.getElem_cons_succ, List.setIfInBounds_toArray, List.set_cons_zero, List.set_cons_succ])); (refine wpAnyH_take (i := 10) (v := ?_) rfl (by kernel_rfl) (by kernel_rfl) (by kernel_rfl) (fun _ _ _ h => h) (Or.inl ⟨by rfl, ?_⟩) (by assumption) ?_; rotate_left; (focus (intro wS hSw; (try dsimp only at hSw); go_simp; (try with_reducible rfl))); (try simp only [Act.put, List.getElem_toArray, List.getElem_cons_zero, List.getElem_cons_succ, List.setIfInBounds_toArray, List.set_cons_zero, List.set_cons_succ])); (refine wpAnyH_take (i := 11) (v := ?_) rfl (by kernel_rfl) (by kernel_rfl) (by kernel_rfl) (fun _ _ _ h => h) (Or.inl ⟨by rfl, ?_⟩) (by assumption) ?_; rotate_left; (focus (intro wS hSw; (try dsimp only at hSw); go_simp; (try with_reducible rfl))); (try simp only [Act.put, List.getElem_toArray, List.getElem_cons_zero, List.getElem_cons_succ, List.setIfInBounds_toArray, List.set_cons_zero, List.set_cons_succ])))
                      (refine wpAnyH_ready (rs := [12]) (by kernel_rfl) (by simp) ?_; refine AllReadyH.cons rfl (fun K hK => ?_) AllReadyH.nil; go_simp)
                      go_at_call 37
                      refine (HSA.out _ HIYe.out HIXe.out).mono ?_
                      rintro e w5 ⟨rfl, rfl⟩
                      go_wp2_with fail
                      (refine hK.out _ _ ?_ (fun hHeld2 => ?_); (focus ((try dsimp only); exact ⟨r0, r1, x0, x1⟩)); (clear hK K); (try simp only [Act.put, List.getElem_toArray, List.getElem_cons_zero, List.getElem_cons_succ, List.setIfInBounds_toArray, List.set_cons_zero, List.set_cons_succ]))
                      (refine wpAnyH_take (i := 13) (v := ?_) rfl (by kernel_rfl) (by kernel_rfl) (by kernel_rfl) (fun _ _ _ h => h) (Or.inl ⟨by rfl, ?_⟩) (by assumption) ?_; rotate_left; (focus (intro wS hSw; (try dsimp only at hSw); go_simp; (try with_reducible rfl))); (try simp only [Act.put, List.getElem_toArray, List.getElem_cons_zero, List.getElem_cons_succ, List.setIfInBounds_toArray, List.set_cons_zero, List.set_cons_succ]))
                      refine wpAnyH_done (by kernel_rfl) ?_ _
                      have hck1 : ¬ c - kq = 0 := by have := HR12.out.caps.1; omega
                      have hck2 : ¬ c = kq := by have := HR12.out.caps.1; omega
                      have hck3 : ¬ (c : Int) - (kq : Int) = 0 := by have := HR12.out.caps.1; omega
                      have HRL := Lib.hid (HR12.out.grown HBe.out)
                      have HLL := Lib.hid (fun r (hr : r ∈ rs) => (HL12.out r hr).frm (Frm.pure HBe.out (fun _ => False)) (fun h => h))
                      have HCL := Lib.hid (HC12.out.below HBe.out HC12.out.2.2.2.2)
                      have HDL := Lib.hid (HD12.out.below HBe.out HD12.out.2.2.2.2)
                      have HBW := Lib.hid (HBW12.out.trans (HBe.out.mono HBW12.out.size))
                      have HXL := Lib.hid (HX12.out.below HBe.out HX12.out.2.2.2.2)
                      have HLXL := Lib.hid (HLX.out.frm (Frm.pure HBe.out (fun _ => False)) (fun h => h))
                      have hql := HBe.out.size
                      have hq12 := HB12.out.size
                      have HKN := Lib.hid (key_ins (⟨N, X, A10, c10, bX⟩ : RV) rfl rfl HKI2.out HNE.out)
                      clear x0 x1
                      generalize wl.drew = wm at *
                      obtain ⟨x0, x1, _, _, _⟩ := HXL.out
                      have hgm := HRL.out.caps.2
                      have HLN48 := Lib.hid hr48
                      have HKL := Lib.hid hkle
                      have HLI2 := Lib.hid (show (0 : Int) ≤ (kq : Int) ∧ (kq : Int) ≤ (rs.length : Int) from ⟨Int.natCast_nonneg _, by omega⟩)
                      have hkl2 : (kq : Int) ≤ (rs.length : Int) := by omega
                      have hkc2 : (kq : Int) ≤ (c : Int) := by omega
                      have hkc3 : kq ≤ c := by omega
                      have hrc3 : rs.length ≤ c := by omega
                      have HT1 := Lib.hid ((Below.refl wm.heap.size wm).alloc (Nat.le_refl _) (.cells #[] 28))
                      have HGM := Lib.hid hgm
                      go_wp2_with (first
                        | (at_builtin; refine wpList_append_rows rfl (.tmp 78) (.tmp 81) rfl wm.heap.size _ [] rfl (RowR.empty_at wm _ _ rfl (Nat.le_refl _)) g 0 kq _ (rs.take kq) (by rfl) (by rw [List.length_take]; have := HKL.out; omega) (fun j u hu => by rw [Nat.zero_add]; exact (HT1.out.cell (p := ⟨g, j, none⟩) HGM.out).trans (HRL.out.cell j u (cells_take rs kq j u hu))) (by rw [List.length_take]; have := HLN48.out; simp; omega) (by simp) ?_; intro v13 w13 hown13 hb13; rw [List.nil_append] at hown13; obtain ⟨t1, ht1⟩ : ∃ l, rs.take kq = l := ⟨_, rfl⟩; rw [ht1] at hown13; obtain ⟨A13, c13, rfl⟩ := hown13.form; have HT2 := Lib.hid ht1; have HB13 := Lib.hid (HT1.out.trans hb13); have HR13 := Lib.hid hown13; obtain ⟨m0, m1, _, _, _⟩ := HXL.out.below HB13.out HXL.out.2.2.2.2; clear ht1 hown13 hb13 x0 x1; have HAL := Lib.hid ((Below.refl w13.heap.size w13).alloc (Nat.le_refl _) (.cells #[.int .i64 N, .slice A10 X.length c10] 28)); have HNC := Lib.hid (Cells2.new w13 (.int .i64 N) (.slice A10 X.length c10) 28); have HL1 := Lib.hid (show t1.length ≤ 1000 by rw [← HT2.out, List.length_take]; have := HLN48.out; omega))
                        | (at_builtin; refine wpList_append_rows rfl (.tmp 83) (.tmp 85) rfl wm.heap.size _ t1 rfl (HR13.out.grown HAL.out) w13.heap.size 0 1 1 [(⟨N, X, A10, c10, bX⟩ : RV)] (by rfl) rfl (cells_single HNC.out.1 HNC.out.2.1) (by have := HL1.out; simp; omega) (by have := HB13.out.size; simp only [World.size_alloc]; omega) ?_; intro v14 w14 hown14 hb14; obtain ⟨t2, ht2⟩ : ∃ l, t1 ++ [(⟨N, X, A10, c10, bX⟩ : RV)] = l := ⟨_, rfl⟩; rw [ht2] at hown14; obtain ⟨A14, c14, rfl⟩ := hown14.form; have HT3 := Lib.hid ht2; have HB14 := Lib.hid (HB13.out.trans ((HAL.out.mono HB13.out.size).trans hb14)); have HR14 := Lib.hid hown14; clear ht2 hown14 hb14 m0 m1; have HL2 := Lib.hid (show 0 < t2.length ∧ t2.length ≤ 1001 by rw [← HT3.out, List.length_append]; have := HL1.out; show 0 < t1.length + 1 ∧ t1.length + 1 ≤ 1001; omega))
                        | (at_builtin; refine wpList_append_rows rfl (.tmp 87) (.tmp 90) rfl wm.heap.size _ t2 rfl HR14.out g _ _ _ (rs.drop kq) (by rfl) (by first | (rw [List.length_drop]; done) | (rw [List.length_drop]; omega)) (fun j u hu => by have hfin := (HB14.out.cell (p := ⟨g, kq * 2 + j, none⟩) HGM.out).trans (HRL.out.cell _ u (cells_drop rs kq j HKL.out u hu)); first | exact hfin | (rw [HDR.out] at hu; cases hu; done) | (rw [HDR.out] at hu; simp [cellsR] at hu; done) | (rw [Nat.zero_add]; exact hfin) | simpa using hfin) (by rw [List.length_drop]; have := HL2.out; have := HLN48.out; omega) HB14.out.size ?_; intro v15 w15 hown15 hb15; obtain ⟨t3, ht3⟩ : ∃ l, t2 ++ rs.drop kq = l := ⟨_, rfl⟩; rw [ht3] at hown15; obtain ⟨g15, c15, rfl⟩ := hown15.pos (by rw [← ht3, List.length_append]; have := HL2.out; omega); have HT4 := Lib.hid ht3; have HB15 := Lib.hid (HB14.out.trans hb15); have HR15 := Lib.hid hown15; clear ht3 hown15 hb15))
                      have HALL := Lib.hid (show t3 = rs.take (posF N out X) ++ [(⟨N, X, A10, c10, bX⟩ : RV)] ++ rs.drop (posF N out X) by rw [← HT4.out, ← HT3.out, ← HT2.out, HKP.out])
                      have HLIE := Lib.hid (show ∀ r ∈ t3, r.Lies w15 (q + 1) from fun r hr => by
                        rw [HALL.out, List.mem_append, List.mem_append, List.mem_singleton] at hr
                        rcases hr with (h1 | rfl) | h1
                        · exact (HLL.out r (List.mem_of_mem_take h1)).frm (Frm.pure HB15.out (fun _ => False)) (fun h => h)
                        · exact HLXL.out.frm (Frm.pure HB15.out (fun _ => False)) (fun h => h)
                        · exact (HLL.out r (List.mem_of_mem_drop h1)).frm (Frm.pure HB15.out (fun _ => False)) (fun h => h))
                      go_roundw
                      case rel => exact ⟨1, g15, c15, t3, by omega, by go_num, rfl, by rw [HALL.out, HKN.out, ← HCD.out]; exact HL'.out.symm, HR15.out.mono (by omega), HLIE.out, HCL.out.below HB15.out HCL.out.2.2.2.2, HDL.out.below HB15.out HDL.out.2.2.2.2, HBW.out.trans (HB15.out.mono HBW.out.size), Nat.le_trans hqi (Nat.le_trans hq12 (Nat.le_trans HBe.out.size HB15.out.size))⟩
                      case measure => simp [intOf]
                · have hkp : kq = posF N out X := by omega
                  have HKP := Lib.hid hkp
                  clear hkp
                  have hlki : ¬ (kq : Int) < (rs.length : Int) := by omega
                  have hlkd : decide ((kq : Int) < (rs.length : Int)) = false := decide_eq_false hlki
                  have HNE := Lib.hid (show out[posF N out X]? ≠ some X by rw [List.getElem?_eq_none (by omega)]; exact fun h => by cases h)
                  have HBe := Lib.hid (Below.drew5_ (Below.drew5_ HBQ.out))
                  clear hrl
                  go_wp2_with fail
                  (refine wp_region_held_drew (S := (fun w' => True)) (by kernel_rfl) ?_ (fun hHeld => ?_); (focus ((try dsimp only); (try exact trivial))))
                  ((refine wpAnyH_take (i := 0) (v := ?_) rfl (by kernel_rfl) (by kernel_rfl) (by kernel_rfl) (fun _ _ _ h => h) (Or.inl ⟨by rfl, ?_⟩) (by assumption) ?_; rotate_left; (focus (intro wS hSw; (try dsimp only at hSw); go_simp; (try with_reducible rfl))); (try simp only [Act.put, List.getElem_toArray, List.getElem_cons_zero, List.getElem_cons_succ, List.setIfInBounds_toArray, List.set_cons_zero, List.set_cons_succ])); (refine wpAnyH_take (i := 1) (v := ?_) rfl (by kernel_rfl) (by kernel_rfl) (by kernel_rfl) (fun _ _ _ h => h) (Or.inl ⟨by rfl, ?_⟩) (by assumption) ?_; rotate_left; (focus (intro wS hSw; (try dsimp only at hSw); go_simp; (try with_reducible rfl))); (try simp only [Act.put, List.getElem_toArray, List.getElem_cons_zero, List.getElem_cons_succ, List.setIfInBounds_toArray, List.set_cons_zero, List.set_cons_succ])); (refine wpAnyH_take (i := 2) (v := ?_) rfl (by kernel_rfl) (by kernel_rfl) (by kernel_rfl) (fun _ _ _ h => h) (Or.inl ⟨by rfl, ?_⟩) (by assumption) ?_; rotate_left; (focus (intro wS hSw; (try dsimp only at hSw); go_simp; (try with_reducible rfl))); (try simp only [Act.put, List.getElem_toArray, List.getElem_cons_zero, List.getElem_cons_succ, List.setIfInBounds_toArray, List.set_cons_zero, List.set_cons_succ])); (refine wpAnyH_take (i := 3) (v := ?_) rfl (by kernel_rfl) (by kernel_rfl) (by kernel_rfl) (fun _ _ _ h => h) (Or.inl ⟨by rfl, ?_⟩) (by assumption) ?_; rotate_left; (focus (intro wS hSw; (try dsimp only at hSw); go_simp; (try with_reducible rfl))); (try simp only [Act.put, List.getElem_toArray, List.getElem_cons_zero, List.getElem_cons_succ, List.setIfInBounds_toArray, List.set_cons_zero, List.set_cons_succ])); (refine wpAnyH_take (i := 4) (v := ?_) rfl (by kernel_rfl) (by kernel_rfl) (by kernel_rfl) (fun _ _ _ h => h) (Or.inl ⟨by rfl, ?_⟩) (by assumption) ?_; rotate_left; (focus (intro wS hSw; (try dsimp only at hSw); go_simp; (try with_reducible rfl))); (try simp only [Act.put, List.getElem_toArray, List.getElem_cons_zero, List.getElem_cons_succ, List.setIfInBounds_toArray, List.set_cons_zero, List.set_cons_succ])))
                  ((refine wpAnyH_take (i := 5) (v := undef) rfl (by kernel_rfl) (by kernel_rfl) (by kernel_rfl) (fun _ _ _ h => h) (Or.inr ⟨by rfl, rfl⟩) (by assumption) ?_; (try simp only [Act.put, List.getElem_toArray, List.getElem_cons_zero, List.getElem_cons_succ, List.setIfInBounds_toArray, List.set_cons_zero, List.set_cons_succ])); (refine wpAnyH_take (i := 6) (v := undef) rfl (by kernel_rfl) (by kernel_rfl) (by kernel_rfl) (fun _ _ _ h => h) (Or.inr ⟨by rfl, rfl⟩) (by assumption) ?_; (try simp only [Act.put, List.getElem_toArray, List.getElem_cons_zero, List.getElem_cons_succ, List.setIfInBounds_toArray, List.set_cons_zero, List.set_cons_succ])); (refine wpAnyH_take (i := 7) (v := undef) rfl (by kernel_rfl) (by kernel_rfl) (by kernel_rfl) (fun _ _ _ h => h) (Or.inr ⟨by rfl, rfl⟩) (by assumption) ?_; (try simp only [Act.put, List.getElem_toArray, List.getElem_cons_zero, List.getElem_cons_succ, List.setIfInBounds_toArray, List.set_cons_zero, List.set_cons_succ])); (refine wpAnyH_take (i := 8) (v := undef) rfl (by kernel_rfl) (by kernel_rfl) (by kernel_rfl) (fun _ _ _ h => h) (Or.inr ⟨by rfl, rfl⟩) (by assumption) ?_; (try simp only [Act.put, List.getElem_toArray, List.getElem_cons_zero, List.getElem_cons_succ, List.setIfInBounds_toArray, List.set_cons_zero, List.set_cons_succ])); (refine wpAnyH_take (i := 9) (v := undef) rfl (by kernel_rfl) (by kernel_rfl) (by kernel_rfl) (fun _ _ _ h => h) (Or.inr ⟨by rfl, rfl⟩) (by assumption) ?_; (try simp only [Act.put, List.getElem_toArray, List.getElem_cons_zero, List.getElem_cons_succ, List.setIfInBounds_toArray, List.set_cons_zero, List.set_cons_succ])); (refine wpAnyH_take (i := 10) (v := undef) rfl (by kernel_rfl) (by kernel_rfl) (by kernel_rfl) (fun _ _ _ h => h) (Or.inr ⟨by rfl, rfl⟩) (by assumption) ?_; (try simp only [Act.put, List.getElem_toArray, List.getElem_cons_zero, List.getElem_cons_succ, List.setIfInBounds_toArray, List.set_cons_zero, List.set_cons_succ])))
                  (refine wpAnyH_take (i := 11) (v := ?_) rfl (by kernel_rfl) (by kernel_rfl) (by kernel_rfl) (fun _ _ _ h => h) (Or.inl ⟨by rfl, ?_⟩) (by assumption) ?_; rotate_left; (focus (intro wS hSw; (try dsimp only at hSw); go_simp; (try with_reducible rfl))); (try simp only [Act.put, List.getElem_toArray, List.getElem_cons_zero, List.getElem_cons_succ, List.setIfInBounds_toArray, List.set_cons_zero, List.set_cons_succ]))
                  refine wpAnyH_done (by kernel_rfl) ?_ _
                  go_wp2_with fail
                  (refine wp_region_held_drew (S := (fun w' => True)) (by kernel_rfl) ?_ (fun hHeld => ?_); (focus ((try dsimp only); (try exact trivial))))
                  ((refine wpAnyH_take (i := 0) (v := ?_) rfl (by kernel_rfl) (by kernel_rfl) (by kernel_rfl) (fun _ _ _ h => h) (Or.inl ⟨by rfl, ?_⟩) (by assumption) ?_; rotate_left; (focus (intro wS hSw; (try dsimp only at hSw); go_simp; (try with_reducible rfl))); (try simp only [Act.put, List.getElem_toArray, List.getElem_cons_zero, List.getElem_cons_succ, List.setIfInBounds_toArray, List.set_cons_zero, List.set_cons_succ])); (refine wpAnyH_take (i := 1) (v := ?_) rfl (by kernel_rfl) (by kernel_rfl) (by kernel_rfl) (fun _ _ _ h => h) (Or.inl ⟨by rfl, ?_⟩) (by assumption) ?_; rotate_left; (focus (intro wS hSw; (try dsimp only at hSw); go_simp; (try with_reducible rfl))); (try simp only [Act.put, List.getElem_toArray, List.getElem_cons_zero, List.getElem_cons_succ, List.setIfInBounds_toArray, List.set_cons_zero, List.set_cons_succ])); (refine wpAnyH_take (i := 2) (v := ?_) rfl (by kernel_rfl) (by kernel_rfl) (by kernel_rfl) (fun _ _ _ h => h) (Or.inl ⟨by rfl, ?_⟩) (by assumption) ?_; rotate_left; (focus (intro wS hSw; (try dsimp only at hSw); go_simp; (try with_reducible rfl))); (try simp only [Act.put, List.getElem_toArray, List.getElem_cons_zero, List.getElem_cons_succ, List.setIfInBounds_toArray, List.set_cons_zero, List.set_cons_succ])); (refine wpAnyH_take (i := 3) (v := ?_) rfl (by kernel_rfl) (by kernel_rfl) (by kernel_rfl) (fun _ _ _ h => h) (Or.inl ⟨by rfl, ?_⟩) (by assumption) ?_; rotate_left; (focus (intro wS hSw; (try dsimp only at hSw); go_simp; (try with_reducible rfl))); (try simp only [Act.put, List.getElem_toArray, List.getElem_cons_zero, List.getElem_cons_succ, List.setIfInBounds_toArray, List.set_cons_zero, List.set_cons_succ])); (refine wpAnyH_take (i := 4) (v := ?_) rfl (by kernel_rfl) (by kernel_rfl) (by kernel_rfl) (fun _ _ _ h => h) (Or.inl ⟨by rfl, ?_⟩) (by assumption) ?_; rotate_left; (focus (intro wS hSw; (try dsimp only at hSw); go_simp; (try with_reducible rfl))); (try simp only [Act.put, List.getElem_toArray, List.getElem_cons_zero, List.getElem_cons_succ, List.setIfInBounds_toArray, List.set_cons_zero, List.set_cons_succ])))
                  ((refine wpAnyH_take (i := 5) (v := undef) rfl (by kernel_rfl) (by kernel_rfl) (by kernel_rfl) (fun _ _ _ h => h) (Or.inr ⟨by rfl, rfl⟩) (by assumption) ?_; (try simp only [Act.put, List.getElem_toArray, List.getElem_cons_zero, List.getElem_cons_succ, List.setIfInBounds_toArray, List.set_cons_zero, List.set_cons_succ])); (refine wpAnyH_take (i := 6) (v := undef) rfl (by kernel_rfl) (by kernel_rfl) (by kernel_rfl) (fun _ _ _ h => h) (Or.inr ⟨by rfl, rfl⟩) (by assumption) ?_; (try simp only [Act.put, List.getElem_toArray, List.getElem_cons_zero, List.getElem_cons_succ, List.setIfInBounds_toArray, List.set_cons_zero, List.set_cons_succ])); (refine wpAnyH_take (i := 7) (v := undef) rfl (by kernel_rfl) (by kernel_rfl) (by kernel_rfl) (fun _ _ _ h => h) (Or.inr ⟨by rfl, rfl⟩) (by assumption) ?_; (try simp only [Act.put, List.getElem_toArray, List.getElem_cons_zero, List.getElem_cons_succ, List.setIfInBounds_toArray, List.set_cons_zero, List.set_cons_succ])); (refine wpAnyH_take (i := 8) (v := undef) rfl (by kernel_rfl) (by kernel_rfl) (by kernel_rfl) (fun _ _ _ h => h) (Or.inr ⟨by rfl, rfl⟩) (by assumption) ?_; (try simp only [Act.put, List.getElem_toArray, List.getElem_cons_zero, List.getElem_cons_succ, List.setIfInBounds_toArray, List.set_cons_zero, List.set_cons_succ])); (refine wpAnyH_take (i := 9) (v := undef) rfl (by kernel_rfl) (by kernel_rfl) (by kernel_rfl) (fun _ _ _ h => h) (Or.inr ⟨by rfl, rfl⟩) (by assumption) ?_; (try simp only [Act.put, List.getElem_toArray, List.getElem_cons_zero, List.getElem_cons_succ, List.setIfInBounds_toArray, List.set_cons_zero, List.set_cons_succ])); (refine wpAnyH_take (i := 10) (v := undef) rfl (by kernel_rfl) (by kernel_rfl) (by kernel_rfl) (fun _ _ _ h => h) (Or.inr ⟨by rfl, rfl⟩) (by assumption) ?_; (try simp only [Act.put, List.getElem_toArray, List.getElem_cons_zero, List.getElem_cons_succ, List.setIfInBounds_toArray, List.set_cons_zero, List.set_cons_succ])); (refine wpAnyH_take (i := 11) (v := undef) rfl (by kernel_rfl) (by kernel_rfl) (by kernel_rfl) (fun _ _ _ h => h) (Or.inr ⟨by rfl, rfl⟩) (by assumption) ?_; (try simp only [Act.put, List.getElem_toArray, List.getElem_cons_zero, List.getElem_cons_succ, List.setIfInBounds_toArray, List.set_cons_zero, List.set_cons_succ])); (refine wpAnyH_take (i := 12) (v := undef) rfl (by kernel_rfl) (by kernel_rfl) (by kernel_rfl) (fun _ _ _ h => h) (Or.inr ⟨by rfl, rfl⟩) (by assumption) ?_; (try simp only [Act.put, List.getElem_toArray, List.getElem_cons_zero, List.getElem_cons_succ, List.setIfInBounds_toArray, List.set_cons_zero, List.set_cons_succ])))
                  (refine wpAnyH_take (i := 13) (v := ?_) rfl (by kernel_rfl) (by kernel_rfl) (by kernel_rfl) (fun _ _ _ h => h) (Or.inl ⟨by rfl, ?_⟩) (by assumption) ?_; rotate_left; (focus (intro wS hSw; (try dsimp only at hSw); go_simp; (try with_reducible rfl))); (try simp only [Act.put, List.getElem_toArray, List.getElem_cons_zero, List.getElem_cons_succ, List.setIfInBounds_toArray, List.set_cons_zero, List.set_cons_succ]))
                  refine wpAnyH_done (by kernel_rfl) ?_ _
                  obtain ⟨wl, hwl⟩ : ∃ wl : World, wl.drew = wk.drew.drew := ⟨wk.drew, rfl⟩
                  rw [← hwl] at HBe ⊢
                  clear hwl
                  by_cases hck2 : c = kq
                  · have hck1 : c - kq = 0 := by omega
                    have hck3 : (c : Int) - (kq : Int) = 0 := by omega
                    have HDR := Lib.hid (show rs.drop kq = [] from List.drop_eq_nil_of_le (by have := HR12.out.caps.1; omega))
                    have HRL := Lib.hid (HR12.out.grown HBe.out)
                    have HLL := Lib.hid (fun r (hr : r ∈ rs) => (HL12.out r hr).frm (Frm.pure HBe.out (fun _ => False)) (fun h => h))
                    have HCL := Lib.hid (HC12.out.below HBe.out HC12.out.2.2.2.2)
                    have HDL := Lib.hid (HD12.out.below HBe.out HD12.out.2.2.2.2)
                    have HBW := Lib.hid (HBW12.out.trans (HBe.out.mono HBW12.out.size))
                    have HXL := Lib.hid (HX12.out.below HBe.out HX12.out.2.2.2.2)
                    have HLXL := Lib.hid (HLX.out.frm (Frm.pure HBe.out (fun _ => False)) (fun h => h))
                    have hql := HBe.out.size
                    have hq12 := HB12.out.size
                    have HKN := Lib.hid (key_ins (⟨N, X, A10, c10, bX⟩ : RV) rfl rfl HKI2.out HNE.out)
                    clear x0 x1
                    generalize wl.drew = wm at *
                    obtain ⟨x0, x1, _, _, _⟩ := HXL.out
                    have hgm := HRL.out.caps.2
                    have HLN48 := Lib.hid hr48
                    have HKL := Lib.hid hkle
                    have HLI2 := Lib.hid (show (0 : Int) ≤ (kq : Int) ∧ (kq : Int) ≤ (rs.length : Int) from ⟨Int.natCast_nonneg _, by omega⟩)
                    have hkl2 : (kq : Int) ≤ (rs.length : Int) := by omega
                    have hkc2 : (kq : Int) ≤ (c : Int) := by omega
                    have hkc3 : kq ≤ c := by omega
                    have hrc3 : rs.length ≤ c := by omega
                    have HT1 := Lib.hid ((Below.refl wm.heap.size wm).alloc (Nat.le_refl _) (.cells #[] 28))
                    have HGM := Lib.hid hgm
                    go_wp2_with (first
                      | (at_builtin; refine wpList_append_rows rfl (.tmp 78) (.tmp 81) rfl wm.heap.size _ [] rfl (RowR.empty_at wm _ _ rfl (Nat.le_refl _)) g 0 kq _ (rs.take kq) (by rfl) (by rw [List.length_take]; have := HKL.out; omega) (fun j u hu => by rw [Nat.zero_add]; exact (HT1.out.cell (p := ⟨g, j, none⟩) HGM.out).trans (HRL.out.cell j u (cells_take rs kq j u hu))) (by rw [List.length_take]; have := HLN48.out; simp; omega) (by simp) ?_; intro v13 w13 hown13 hb13; rw [List.nil_append] at hown13; obtain ⟨t1, ht1⟩ : ∃ l, rs.take kq = l := ⟨_, rfl⟩; rw [ht1] at hown13; obtain ⟨A13, c13, rfl⟩ := hown13.form; have HT2 := Lib.hid ht1; have HB13 := Lib.hid (HT1.out.trans hb13); have HR13 := Lib.hid hown13; obtain ⟨m0, m1, _, _, _⟩ := HXL.out.below HB13.out HXL.out.2.2.2.2; clear ht1 hown13 hb13 x0 x1; have HAL := Lib.hid ((Below.refl w13.heap.size w13).alloc (Nat.le_refl _) (.cells #[.int .i64 N, .slice A10 X.length c10] 28)); have HNC := Lib.hid (Cells2.new w13 (.int .i64 N) (.slice A10 X.length c10) 28); have HL1 := Lib.hid (show t1.length ≤ 1000 by rw [← HT2.out, List.length_take]; have := HLN48.out; omega))
                      | (at_builtin; refine wpList_append_rows rfl (.tmp 83) (.tmp 85) rfl wm.heap.size _ t1 rfl (HR13.out.grown HAL.out) w13.heap.size 0 1 1 [(⟨N, X, A10, c10, bX⟩ : RV)] (by rfl) rfl (cells_single HNC.out.1 HNC.out.2.1) (by have := HL1.out; simp; omega) (by have := HB13.out.size; simp only [World.size_alloc]; omega) ?_; intro v14 w14 hown14 hb14; obtain ⟨t2, ht2⟩ : ∃ l, t1 ++ [(⟨N, X, A10, c10, bX⟩ : RV)] = l := ⟨_, rfl⟩; rw [ht2] at hown14; obtain ⟨A14, c14, rfl⟩ := hown14.form; have HT3 := Lib.hid ht2; have HB14 := Lib.hid (HB13.out.trans ((HAL.out.mono HB13.out.size).trans hb14)); have HR14 := Lib.hid hown14; clear ht2 hown14 hb14 m0 m1; have HL2 := Lib.hid (show 0 < t2.length ∧ t2.length ≤ 1001 by rw [← HT3.out, List.length_append]; have := HL1.out; show 0 < t1.length + 1 ∧ t1.length + 1 ≤ 1001; omega))
                      | (at_builtin; refine wpList_append_rows rfl (.tmp 87) (.tmp 90) rfl wm.heap.size _ t2 rfl HR14.out g _ _ _ (rs.drop kq) (by rfl) (by first | (rw [List.length_drop]; done) | (rw [List.length_drop]; omega)) (fun j u hu => by have hfin := (HB14.out.cell (p := ⟨g, kq * 2 + j, none⟩) HGM.out).trans (HRL.out.cell _ u (cells_drop rs kq j HKL.out u hu)); first | exact hfin | (rw [HDR.out] at hu; cases hu; done) | (rw [HDR.out] at hu; simp [cellsR] at hu; done) | (rw [Nat.zero_add]; exact hfin) | simpa using hfin) (by rw [List.length_drop]; have := HL2.out; have := HLN48.out; omega) HB14.out.size ?_; intro v15 w15 hown15 hb15; obtain ⟨t3, ht3⟩ : ∃ l, t2 ++ rs.drop kq = l := ⟨_, rfl⟩; rw [ht3] at hown15; obtain ⟨g15, c15, rfl⟩ := hown15.pos (by rw [← ht3, List.length_append]; have := HL2.out; omega); have HT4 := Lib.hid ht3; have HB15 := Lib.hid (HB14.out.trans hb15); have HR15 := Lib.hid hown15; clear ht3 hown15 hb15))
                    have HALL := Lib.hid (show t3 = rs.take (posF N out X) ++ [(⟨N, X, A10, c10, bX⟩ : RV)] ++ rs.drop (posF N out X) by rw [← HT4.out, ← HT3.out, ← HT2.out, HKP.out])
                    have HLIE := Lib.hid (show ∀ r ∈ t3, r.Lies w15 (q + 1) from fun r hr => by
                      rw [HALL.out, List.mem_append, List.mem_append, List.mem_singleton] at hr
                      rcases hr with (h1 | rfl) | h1
                      · exact (HLL.out r (List.mem_of_mem_take h1)).frm (Frm.pure HB15.out (fun _ => False)) (fun h => h)
                      · exact HLXL.out.frm (Frm.pure HB15.out (fun _ => False)) (fun h => h)
                      · exact (HLL.out r (List.mem_of_mem_drop h1)).frm (Frm.pure HB15.out (fun _ => False)) (fun h => h))
                    go_roundw
                    case rel => exact ⟨1, g15, c15, t3, by omega, by go_num, rfl, by rw [HALL.out, HKN.out, ← HCD.out]; exact HL'.out.symm, HR15.out.mono (by omega), HLIE.out, HCL.out.below HB15.out HCL.out.2.2.2.2, HDL.out.below HB15.out HDL.out.2.2.2.2, HBW.out.trans (HB15.out.mono HBW.out.size), Nat.le_trans hqi (Nat.le_trans hq12 (Nat.le_trans HBe.out.size HB15.out.size))⟩
                    case measure => simp [intOf]
                  · have hck1 : ¬ c - kq = 0 := by omega
                    have hck3 : ¬ (c : Int) - (kq : Int) = 0 := by omega
                    have HRL := Lib.hid (HR12.out.grown HBe.out)
                    have HLL := Lib.hid (fun r (hr : r ∈ rs) => (HL12.out r hr).frm (Frm.pure HBe.out (fun _ => False)) (fun h => h))
                    have HCL := Lib.hid (HC12.out.below HBe.out HC12.out.2.2.2.2)
                    have HDL := Lib.hid (HD12.out.below HBe.out HD12.out.2.2.2.2)
                    have HBW := Lib.hid (HBW12.out.trans (HBe.out.mono HBW12.out.size))
                    have HXL := Lib.hid (HX12.out.below HBe.out HX12.out.2.2.2.2)
                    have HLXL := Lib.hid (HLX.out.frm (Frm.pure HBe.out (fun _ => False)) (fun h => h))
                    have hql := HBe.out.size
                    have hq12 := HB12.out.size
                    have HKN := Lib.hid (key_ins (⟨N, X, A10, c10, bX⟩ : RV) rfl rfl HKI2.out HNE.out)
                    clear x0 x1
                    generalize wl.drew = wm at *
                    obtain ⟨x0, x1, _, _, _⟩ := HXL.out
                    have hgm := HRL.out.caps.2
                    have HLN48 := Lib.hid hr48
                    have HKL := Lib.hid hkle
                    have HLI2 := Lib.hid (show (0 : Int) ≤ (kq : Int) ∧ (kq : Int) ≤ (rs.length : Int) from ⟨Int.natCast_nonneg _, by omega⟩)
                    have hkl2 : (kq : Int) ≤ (rs.length : Int) := by omega
                    have hkc2 : (kq : Int) ≤ (c : Int) := by omega
                    have hkc3 : kq ≤ c := by omega
                    have hrc3 : rs.length ≤ c := by omega
                    have HT1 := Lib.hid ((Below.refl wm.heap.size wm).alloc (Nat.le_refl _) (.cells #[] 28))
                    have HGM := Lib.hid hgm
                    go_wp2_with (first
                      | (at_builtin; refine wpList_append_rows rfl (.tmp 78) (.tmp 81) rfl wm.heap.size _ [] rfl (RowR.empty_at wm _ _ rfl (Nat.le_refl _)) g 0 kq _ (rs.take kq) (by rfl) (by rw [List.length_take]; have := HKL.out; omega) (fun j u hu => by rw [Nat.zero_add]; exact (HT1.out.cell (p := ⟨g, j, none⟩) HGM.out).trans (HRL.out.cell j u (cells_take rs kq j u hu))) (by rw [List.length_take]; have := HLN48.out; simp; omega) (by simp) ?_; intro v13 w13 hown13 hb13; rw [List.nil_append] at hown13; obtain ⟨t1, ht1⟩ : ∃ l, rs.take kq = l := ⟨_, rfl⟩; rw [ht1] at hown13; obtain ⟨A13, c13, rfl⟩ := hown13.form; have HT2 := Lib.hid ht1; have HB13 := Lib.hid (HT1.out.trans hb13); have HR13 := Lib.hid hown13; obtain ⟨m0, m1, _, _, _⟩ := HXL.out.below HB13.out HXL.out.2.2.2.2; clear ht1 hown13 hb13 x0 x1; have HAL := Lib.hid ((Below.refl w13.heap.size w13).alloc (Nat.le_refl _) (.cells #[.int .i64 N, .slice A10 X.length c10] 28)); have HNC := Lib.hid (Cells2.new w13 (.int .i64 N) (.slice A10 X.length c10) 28); have HL1 := Lib.hid (show t1.length ≤ 1000 by rw [← HT2.out, List.length_take]; have := HLN48.out; omega))
                      | (at_builtin; refine wpList_append_rows rfl (.tmp 83) (.tmp 85) rfl wm.heap.size _ t1 rfl (HR13.out.grown HAL.out) w13.heap.size 0 1 1 [(⟨N, X, A10, c10, bX⟩ : RV)] (by rfl) rfl (cells_single HNC.out.1 HNC.out.2.1) (by have := HL1.out; simp; omega) (by have := HB13.out.size; simp only [World.size_alloc]; omega) ?_; intro v14 w14 hown14 hb14; obtain ⟨t2, ht2⟩ : ∃ l, t1 ++ [(⟨N, X, A10, c10, bX⟩ : RV)] = l := ⟨_, rfl⟩; rw [ht2] at hown14; obtain ⟨A14, c14, rfl⟩ := hown14.form; have HT3 := Lib.hid ht2; have HB14 := Lib.hid (HB13.out.trans ((HAL.out.mono HB13.out.size).trans hb14)); have HR14 := Lib.hid hown14; clear ht2 hown14 hb14 m0 m1; have HL2 := Lib.hid (show 0 < t2.length ∧ t2.length ≤ 1001 by rw [← HT3.out, List.length_append]; have := HL1.out; show 0 < t1.length + 1 ∧ t1.length + 1 ≤ 1001; omega))
                      | (at_builtin; refine wpList_append_rows rfl (.tmp 87) (.tmp 90) rfl wm.heap.size _ t2 rfl HR14.out g _ _ _ (rs.drop kq) (by rfl) (by first | (rw [List.length_drop]; done) | (rw [List.length_drop]; omega)) (fun j u hu => by have hfin := (HB14.out.cell (p := ⟨g, kq * 2 + j, none⟩) HGM.out).trans (HRL.out.cell _ u (cells_drop rs kq j HKL.out u hu)); first | exact hfin | (rw [HDR.out] at hu; cases hu; done) | (rw [HDR.out] at hu; simp [cellsR] at hu; done) | (rw [Nat.zero_add]; exact hfin) | simpa using hfin) (by rw [List.length_drop]; have := HL2.out; have := HLN48.out; omega) HB14.out.size ?_; intro v15 w15 hown15 hb15; obtain ⟨t3, ht3⟩ : ∃ l, t2 ++ rs.drop kq = l := ⟨_, rfl⟩; rw [ht3] at hown15; obtain ⟨g15, c15, rfl⟩ := hown15.pos (by rw [← ht3, List.length_append]; have := HL2.out; omega); have HT4 := Lib.hid ht3; have HB15 := Lib.hid (HB14.out.trans hb15); have HR15 := Lib.hid hown15; clear ht3 hown15 hb15))
                    have HALL := Lib.hid (show t3 = rs.take (posF N out X) ++ [(⟨N, X, A10, c10, bX⟩ : RV)] ++ rs.drop (posF N out X) by rw [← HT4.out, ← HT3.out, ← HT2.out, HKP.out])
                    have HLIE := Lib.hid (show ∀ r ∈ t3, r.Lies w15 (q + 1) from fun r hr => by
                      rw [HALL.out, List.mem_append, List.mem_append, List.mem_singleton] at hr
                      rcases hr with (h1 | rfl) | h1
                      · exact (HLL.out r (List.mem_of_mem_take h1)).frm (Frm.pure HB15.out (fun _ => False)) (fun h => h)
                      · exact HLXL.out.frm (Frm.pure HB15.out (fun _ => False)) (fun h => h)
                      · exact (HLL.out r (List.mem_of_mem_drop h1)).frm (Frm.pure HB15.out (fun _ => False)) (fun h => h))
                    go_roundw
                    case rel => exact ⟨1, g15, c15, t3, by omega, by go_num, rfl, by rw [HALL.out, HKN.out, ← HCD.out]; exact HL'.out.symm, HR15.out.mono (by omega), HLIE.out, HCL.out.below HB15.out HCL.out.2.2.2.2, HDL.out.below HB15.out HDL.out.2.2.2.2, HBW.out.trans (HB15.out.mono HBW.out.size), Nat.le_trans hqi (Nat.le_trans hq12 (Nat.le_trans HBe.out.size HB15.out.size))⟩
                    case measure => simp [intOf]
            · rw [hh] at HHS
              have HCD := Lib.hid (movS_yes (N := N) (bs := bs) (m := 2 * k + 0) (by rw [HMQ.out]; exact hh))
              obtain ⟨L', hL'⟩ : ∃ L', movS N bs (2 * k + 0 + 1) = L' := ⟨_, rfl⟩
              rw [hL'] at HCD
              have HL' := Lib.hid hL'
              clear hh hL'
              go_wp2_with fail
              try rw [hy0]
              refine (HMD.out _).mono ?_
              rintro e w2 ⟨rfl, rfl⟩
              go_wp2_with fail
              refine (HHS.out _ HIW.out).mono ?_
              rintro e w2 ⟨rfl, rfl⟩
              clear d0 d1
              go_wp2_with fail
              go_roundw
              case rel => exact ⟨1, g, c, rs, by omega, by go_num, rfl, by rw [HKI.out, ← HCD.out]; exact HL'.out.symm, HRI.out, HLR.out, HCI.out, HDI.out, HBI.out, hqi⟩
              case measure => simp [intOf]
          · as_aux_lemma =>
            have hwy : IntKind.i64.wrap (p + (-1)) = p + (-1) := i64w (by omega)
            obtain ⟨y0, hy0⟩ : ∃ y, p + (-1) = y := ⟨_, rfl⟩
            obtain ⟨y, hy⟩ : ∃ y, y0 % (N : Int) = y := ⟨_, rfl⟩
            have hyb : 0 ≤ y ∧ y < N := by rw [← hy]; exact ⟨Int.emod_nonneg _ (by omega), Int.emod_lt_of_pos _ (by omega)⟩
            have hyf : Fits y := by unfold Fits; omega
            have HMQ := Lib.hid (show mvQ N bs (2 * k + 1) = y by
              unfold mvQ mvD
              rw [show (2 * k + 1) / 2 = k by omega, HPP.out, ← hy, ← hy0]
              congr 1
              have : (2 * k + 1) % 2 = 1 := by omega
              rw [this]; rfl)
            have HMD := Lib.hid (fun V => spec_l02Mod_any y0 N V (by omega) (by omega))
            rw [hy] at HMD
            have HHS := Lib.hid (fun V h => spec_l02Has_any (some ⟨b, off, none⟩) cap bs y V V.heap.size h)
            rw [hy0] at hwy
            clear hy
            cases hh : hasB bs y
            · rw [hh] at HHS
              have HCD := Lib.hid (movS_no (N := N) (bs := bs) (m := 2 * k + 1) (by rw [HMQ.out]; exact hh))
              have HMX := Lib.hid (show mvX N bs (2 * k + 1) = ofL (bs.set k y) N by
                unfold mvX
                rw [HMQ.out, show (2 * k + 1) / 2 = k by omega])
              have hka := key_at (out := insL N bs (2 * k + 1)) HKI.out
              have hil := insL_len N bs (2 * k + 1)
              have hdesc := (insL_desc bs hn1 hn2 (2 * k + 1)).1.2
              have HXO := Lib.hid (show RhOk N (mvX N bs (2 * k + 1)) from ofL_ok _ hn1 hn2)
              have HKI2 := Lib.hid (show keyR rs = (insL N bs (2 * k + 1)).map fun x => ((N : Int), x) from HKI.out)
              obtain ⟨L', hL'⟩ : ∃ L', movS N bs (2 * k + 1 + 1) = L' := ⟨_, rfl⟩
              rw [hL'] at HCD
              have HL' := Lib.hid hL'
              clear hh hL'
              generalize insL N bs (2 * k + 1) = out at *
              generalize mvX N bs (2 * k + 1) = X at *
              have HKA := Lib.hid hka.2
              have hrl : rs.length = out.length := hka.1
              have HDE := Lib.hid hdesc
              have hfb := rh_fits' HOK.out
              have HRN := Lib.hid hrl
              clear hka hdesc hrl
              go_wp2_with fail
              try rw [hy0]
              refine (HMD.out _).mono ?_
              rintro e w2 ⟨rfl, rfl⟩
              go_wp2_with fail
              refine (HHS.out _ HIW.out).mono ?_
              rintro e w2 ⟨rfl, rfl⟩
              have hcs := HIW.out.2.2 (by omega)
              have hcells : ∀ i, i < bs.length → wi.cell? ⟨b, off + i, none⟩ = some (.int .i64 (bs.getD i 0)) ∧ b < wi.heap.size := fun i hi => by
                obtain ⟨b', off', e, hlt', hcc⟩ := hcs
                injection e with e
                injection e with e1 e2
                subst e1 e2
                exact ⟨hcc i hi, hlt'⟩
              have HCX := Lib.hid hcells
              clear hcs hcells
              go_wp2_with (at_builtin; refine wpList_append_ints rfl (.tmp 38) (.tmp 40) rfl wi.heap.size _ [] rfl (OwnI.empty_at wi wi.heap.size wi.heap.size rfl (Nat.le_refl _)) b off cap bs (by rfl) (fun i hi => (((Below.refl wi.heap.size wi).alloc (Nat.le_refl _) (.cells #[] 3)).cell (p := ⟨b, off + i, none⟩) (HCX.out i hi).2).trans (HCX.out i hi).1) (by simp; omega) (by simp) ?_; intro v9 w9 hown9 hb9 _; rw [List.nil_append] at hown9; obtain ⟨g9, c9, rfl⟩ := hown9.posC (by omega); obtain ⟨hset, hfz, hce9, hg9, hbg9⟩ := hown9.set_ints hfb k hlt y hyf; have HB9 := Lib.hid (((Below.refl wi.heap.size wi).alloc (Nat.le_refl _) (.cells #[] 3)).trans hb9); have HB10 := Lib.hid (HB9.out.setCell (p := ⟨g9, k, none⟩) hbg9 (.int .i64 y)); obtain ⟨k0, k1, _, _, _⟩ := HCI.out.below HB9.out HCI.out.2.2.2.2; obtain ⟨l0, l1, _, _, _⟩ := HCI.out.below HB10.out HCI.out.2.2.2.2)
              have HS9 := Lib.hid hset
              generalize w9.setCell ⟨g9, k, none⟩ (.int .i64 y) = w10 at *
              have hlo := spec_l02Of_any N (some ⟨g9, 0, none⟩) c9 (bs.set k y) w10 HS9.out hn1 hn2
              rw [List.length_set, ← HMX.out] at hlo
              refine hlo.mono ?_
              rintro e w11 ⟨A10, c10, rfl, hrw, hb11⟩
              have HB11 := Lib.hid (HB10.out.trans (hb11.mono HB10.out.size))
              have hal := (Below.refl w11.heap.size w11).alloc (Nat.le_refl _) (.cells #[.int .i64 N, .slice A10 X.length c10] 28)
              have HB12 := Lib.hid (HB11.out.trans (hal.mono HB11.out.size))
              have HX12 := Lib.hid (Cells2.new w11 (.int .i64 N) (.slice A10 X.length c10) 28)
              obtain ⟨bX, hLX⟩ := (hrw.below hal).rv (show w10.heap.size < _ by have := hb11.size; simp only [World.size_alloc]; omega) N c10
              have HLX := Lib.hid (hLX.mono (show q + 1 ≤ w10.heap.size by have := HB10.out.size; omega))
              have HIX := Lib.hid ((hrw.ints (rh_fits' HXO.out)).lift hal)
              clear hrw hb11 hal hLX hset hfz hce9 hg9 hbg9 hown9 hb9 hlo c0 c1 d0 d1 k0 k1 l0 l1
              go_wp2_with fail
              generalize w11.alloc (.cells #[.int .i64 N, .slice A10 X.length c10] 28) = w12 at *
              obtain ⟨P, hP⟩ : ∃ P, w11.heap.size = P := ⟨_, rfl⟩
              rw [hP] at HX12 ⊢
              clear hP
              have HR12 := Lib.hid (HRI.out.grown HB12.out)
              have HL12 := Lib.hid (fun r (hr : r ∈ rs) => (HLR.out r hr).frm (Frm.pure HB12.out (fun _ => False)) (fun h => h))
              have HC12 := Lib.hid (HCI.out.below HB12.out HCI.out.2.2.2.2)
              have HD12 := Lib.hid (HDI.out.below HB12.out HDI.out.2.2.2.2)
              have HBW12 := Lib.hid (HBI.out.trans (HB12.out.mono HBI.out.size))
              have hpl := posF_le N out X
              go_loopw [11] (fun kk wr => ∃ kq : Nat, kq ≤ posF N out X ∧ kk = .int .i64 kq ∧ Below w12.heap.size w12 wr) (fun kk _ => posF N out X - (intOf kk).toNat)
              case atStart => exact ⟨0, Nat.zero_le _, rfl, Below.refl _ _⟩
              case round =>
                obtain ⟨kq, hkq, rfl, hbq⟩ := hrel
                obtain ⟨wk, rfl⟩ : ∃ wo : World, wo = wr := ⟨_, rfl⟩
                have HBQ := Lib.hid hbq
                have hrl := HRN.out
                have hkle : kq ≤ rs.length := by omega
                have hr48 : rs.length ≤ 1000 := by omega
                clear hbq
                obtain ⟨x0, x1, _, _, _⟩ := HX12.out.below HBQ.out HX12.out.2.2.2.2
                have hcap := HR12.out.caps
                have hg12 := hcap.2
                have hcc : (rs.length : Int) ≤ (c : Int) := by have := hcap.1; omega
                have hkq0 : (0 : Int) ≤ (kq : Int) := Int.natCast_nonneg _
                have HRK := Lib.hid (HR12.out.grown HBQ.out)
                have HLK := Lib.hid (fun r (hr : r ∈ rs) => (HL12.out r hr).frm (Frm.pure HBQ.out (fun _ => False)) (fun h => h))
                have hIXk := HIX.out.lift HBQ.out
                have HIXK := Lib.hid hIXk
                clear hIXk
                by_cases hlk : kq < rs.length
                · have hlki : (kq : Int) < (rs.length : Int) := by omega
                  have hlkd : decide ((kq : Int) < (rs.length : Int)) = true := decide_eq_true hlki
                  obtain ⟨e1, e2⟩ := HKA.out kq hlk (by omega)
                  have r0 := HRK.out.cell _ _ (cellsR_get rs kq hlk).1
                  have r1 := HRK.out.cell _ _ (cellsR_get rs kq hlk).2
                  have hyok := HDE.out out[kq] (List.getElem_mem (by omega))
                  rw [← e2] at hyok
                  have hIY := (HLK.out rs[kq] (List.getElem_mem hlk)).ints (rh_fits' hyok)
                  have hbef : kq < posF N out X → aftB N rs[kq].xs X = true := fun h => by rw [e2]; exact posF_before (by omega) h
                  have hat : kq = posF N out X → aftB N rs[kq].xs X = false := fun h => by
                    rw [e2]; subst h; exact posF_at (by omega)
                  have hsame : rs[kq].xs = X → out[kq]? = some X := fun h => by rw [List.getElem?_eq_getElem (by omega : kq < out.length), ← e2, h]
                  have hdiff : rs[kq].xs ≠ X → out[kq]? ≠ some X := fun h h2 => h (by
                    rw [List.getElem?_eq_getElem (by omega : kq < out.length)] at h2
                    rw [e2]; exact Option.some.inj h2)
                  unfold RV.slc at r1
                  rw [e1] at r0
                  generalize rs[kq].xs = Y at *
                  generalize rs[kq].A = AY at *
                  generalize rs[kq].c = cY at *
                  have HIY := Lib.hid hIY
                  have HYO := Lib.hid hyok
                  have HAT := Lib.hid hat
                  have HSM := Lib.hid (And.intro hsame hdiff)
                  have HAF := Lib.hid (fun V h1 h2 => spec_l04After_any N AY A10 cY c10 Y X V h1 h2 HYO.out HXO.out)
                  obtain ⟨af, haf⟩ : ∃ af, aftB N Y X = af := ⟨_, rfl⟩
                  rw [haf] at HAF hbef
                  have HAFV := Lib.hid haf
                  clear hIY hyok hat hsame hdiff haf e1 e2 hrl
                  have HBd := Lib.hid (Below.drew5_ HBQ.out)
                  have HIYd := Lib.hid (show Ints wk.drew wk.drew.heap.size AY Y from HIY.out)
                  have HIXd := Lib.hid (show Ints wk.drew wk.drew.heap.size A10 X from HIXK.out)
                  by_cases hbk : kq < posF N out X
                  · have hb2 := hbef hbk
                    subst hb2
                    go_wp2_with fail
                    (refine wp_region_held_drew (S := (fun w' => w'.cell? ⟨g, kq * 2, none⟩ = some (.int .i64 N) ∧ w'.cell? ⟨g, kq * 2 + 1, none⟩ = some (.slice AY Y.length cY) ∧ w'.cell? ⟨P, 0, none⟩ = some (.int .i64 N) ∧ w'.cell? ⟨P, 1, none⟩ = some (.slice A10 X.length c10))) (by kernel_rfl) ?_ (fun hHeld => ?_); (focus ((try dsimp only); exact ⟨r0, r1, x0, x1⟩)))
                    ((refine wpAnyH_take (i := 0) (v := ?_) rfl (by kernel_rfl) (by kernel_rfl) (by kernel_rfl) (fun _ _ _ h => h) (Or.inl ⟨by rfl, ?_⟩) (by assumption) ?_; rotate_left; (focus (intro wS hSw; (try dsimp only at hSw); go_simp; (try with_reducible rfl))); (try simp only [Act.put, List.getElem_toArray, List.getElem_cons_zero, List.getElem_cons_succ, List.setIfInBounds_toArray, List.set_cons_zero, List.set_cons_succ])); (refine wpAnyH_take (i := 1) (v := ?_) rfl (by kernel_rfl) (by kernel_rfl) (by kernel_rfl) (fun _ _ _ h => h) (Or.inl ⟨by rfl, ?_⟩) (by assumption) ?_; rotate_left; (focus (intro wS hSw; (try dsimp only at hSw); go_simp; (try with_reducible rfl))); (try simp only [Act.put, List.getElem_toArray, List.getElem_cons_zero, List.getElem_cons_succ, List.setIfInBounds_toArray, List.set_cons_zero, List.set_cons_succ])); (refine wpAnyH_take (i := 2) (v := ?_) rfl (by kernel_rfl) (by kernel_rfl) (by kernel_rfl) (fun _ _ _ h => h) (Or.inl ⟨by rfl, ?_⟩) (by assumption) ?_; rotate_left; (focus (intro wS hSw; (try dsimp only at hSw); go_simp; (try with_reducible rfl))); (try simp only [Act.put, List.getElem_toArray, List.getElem_cons_zero, List.getElem_cons_succ, List.setIfInBounds_toArray, List.set_cons_zero, List.set_cons_succ])); (refine wpAnyH_take (i := 3) (v := ?_) rfl (by kernel_rfl) (by kernel_rfl) (by kernel_rfl) (fun _ _ _ h => h) (Or.inl ⟨by rfl, ?_⟩) (by assumption) ?_; rotate_left; (focus (intro wS hSw; (try dsimp only at hSw); go_simp; (try with_reducible rfl))); (try simp only [Act.put, List.getElem_toArray, List.getElem_cons_zero, List.getElem_cons_succ, List.setIfInBounds_toArray, List.set_cons_zero, List.set_cons_succ])); (refine wpAnyH_take (i := 4) (v := ?_) rfl (by kernel_rfl) (by kernel_rfl) (by kernel_rfl) (fun _ _ _ h => h) (Or.inl ⟨by rfl, ?_⟩) (by assumption) ?_; rotate_left; (focus (intro wS hSw; (try dsimp only at hSw); go_simp; (try with_reducible rfl))); (try simp only [Act.put, List.getElem_toArray, List.getElem_cons_zero, List.getElem_cons_succ, List.setIfInBounds_toArray, List.set_cons_zero, List.set_cons_succ])); (refine wpAnyH_take (i := 5) (v := ?_) rfl (by kernel_rfl) (by kernel_rfl) (by kernel_rfl) (fun _ _ _ h => h) (Or.inl ⟨by rfl, ?_⟩) (by assumption) ?_; rotate_left; (focus (intro wS hSw; (try dsimp only at hSw); go_simp; (try with_reducible rfl))); (try simp only [Act.put, List.getElem_toArray, List.getElem_cons_zero, List.getElem_cons_succ, List.setIfInBounds_toArray, List.set_cons_zero, List.set_cons_succ])); (refine wpAnyH_take (i := 6) (v := ?_) rfl (by kernel_rfl) (by kernel_rfl) (by kernel_rfl) (fun _ _ _ h => h) (Or.inl ⟨by rfl, ?_⟩) (by assumption) ?_; rotate_left; (focus (intro wS hSw; (try dsimp only at hSw); go_simp; (try with_reducible rfl))); (try simp only [Act.put, List.getElem_toArray, List.getElem_cons_zero, List.getElem_cons_succ, List.setIfInBounds_toArray, List.set_cons_zero, List.set_cons_succ])); (refine wpAnyH_take (i := 7) (v := ?_) rfl (by kernel_rfl) (by kernel_rfl) (by kernel_rfl) (fun _ _ _ h => h) (Or.inl ⟨by rfl, ?_⟩) (by assumption) ?_; rotate_left; (focus (intro wS hSw; (try dsimp only at hSw); go_simp; (try with_reducible rfl))); (try simp only [Act.put, List.getElem_toArray, List.getElem_cons_zero, List.getElem_cons_succ, List.setIfInBounds_toArray, List.set_cons_zero, List.set_cons_succ])); (refine wpAnyH_take (i := 8) (v := ?_) rfl (by kernel_rfl) (by kernel_rfl) (by kernel_rfl) (fun _ _ _ h => h) (Or.inl ⟨by rfl, ?_⟩) (by assumption) ?_; rotate_left; (focus (intro wS hSw; (try dsimp only at hSw); go_simp; (try with_reducible rfl))); (try simp only [Act.put, List.getElem_toArray, List.getElem_cons_zero, List.getElem_cons_succ, List.setIfInBounds_toArray, List.set_cons_zero, List.set_cons_succ])); (refine wpAnyH_take (i := 9) (v := ?_) rfl (by kernel_rfl) (by kernel_rfl) (by kernel_rfl) (fun _ _ _ h => h) (Or.inl ⟨by rfl, ?_⟩) (by assumption) ?_; rotate_left; (focus (intro wS hSw; (try dsimp only at hSw); go_simp; (try with_reducible rfl))); (try simp only [Act.put, List.getElem_toArray, List.getElem_cons_zero, List.getElem_cons_succ, List.setIfInBounds_toArray, List.set_cons_zero, List.set_cons_succ])))
                    (refine wpAnyH_ready (rs := [10]) (by kernel_rfl) (by simp) ?_; refine AllReadyH.cons rfl (fun K hK => ?_) AllReadyH.nil; go_simp)
                    go_at_call 36
                    refine (HAF.out _ HIYd.out HIXd.out).mono ?_
                    rintro e wl ⟨rfl, hbl2⟩
                    have HBL := Lib.hid (HBd.out.trans (hbl2.mono HBd.out.size))
                    have hgk : g < wk.drew.heap.size := Nat.lt_of_lt_of_le hg12 HBd.out.size
                    have hPk : P < wk.drew.heap.size := Nat.lt_of_lt_of_le HX12.out.2.2.2.2 HBd.out.size
                    have r0 := (hbl2.cell (p := ⟨g, kq * 2, none⟩) hgk).trans r0
                    have r1 := (hbl2.cell (p := ⟨g, kq * 2 + 1, none⟩) hgk).trans r1
                    have x0 := (hbl2.cell (p := ⟨P, 0, none⟩) hPk).trans x0
                    have x1 := (hbl2.cell (p := ⟨P, 1, none⟩) hPk).trans x1
                    go_wp2_with fail
                    (refine hK.out _ _ ?_ (fun hHeld2 => ?_); (focus ((try dsimp only); exact ⟨r0, r1, x0, x1⟩)); (clear hK K); (try simp only [Act.put, List.getElem_toArray, List.getElem_cons_zero, List.getElem_cons_succ, List.setIfInBounds_toArray, List.set_cons_zero, List.set_cons_succ]))
                    (refine wpAnyH_take (i := 11) (v := ?_) rfl (by kernel_rfl) (by kernel_rfl) (by kernel_rfl) (fun _ _ _ h => h) (Or.inl ⟨by rfl, ?_⟩) (by assumption) ?_; rotate_left; (focus (intro wS hSw; (try dsimp only at hSw); go_simp; (try with_reducible rfl))); (try simp only [Act.put, List.getElem_toArray, List.getElem_cons_zero, List.getElem_cons_succ, List.setIfInBounds_toArray, List.set_cons_zero, List.set_cons_succ]))
                    refine wpAnyH_done (by kernel_rfl) ?_ _
                    go_wp2_with fail
                    go_roundw
                    case rel => exact ⟨kq + 1, by omega, by go_num, HBL.out⟩
                    case measure => simp [intOf]; omega
                  · have hkp : kq = posF N out X := by omega
                    have hb2 := HAFV.out.symm.trans (HAT.out hkp)
                    subst hb2
                    have HKP := Lib.hid hkp
                    clear hkp
                    go_wp2_with fail
                    (refine wp_region_held_drew (S := (fun w' => w'.cell? ⟨g, kq * 2, none⟩ = some (.int .i64 N) ∧ w'.cell? ⟨g, kq * 2 + 1, none⟩ = some (.slice AY Y.length cY) ∧ w'.cell? ⟨P, 0, none⟩ = some (.int .i64 N) ∧ w'.cell? ⟨P, 1, none⟩ = some (.slice A10 X.length c10))) (by kernel_rfl) ?_ (fun hHeld => ?_); (focus ((try dsimp only); exact ⟨r0, r1, x0, x1⟩)))
                    ((refine wpAnyH_take (i := 0) (v := ?_) rfl (by kernel_rfl) (by kernel_rfl) (by kernel_rfl) (fun _ _ _ h => h) (Or.inl ⟨by rfl, ?_⟩) (by assumption) ?_; rotate_left; (focus (intro wS hSw; (try dsimp only at hSw); go_simp; (try with_reducible rfl))); (try simp only [Act.put, List.getElem_toArray, List.getElem_cons_zero, List.getElem_cons_succ, List.setIfInBounds_toArray, List.set_cons_zero, List.set_cons_succ])); (refine wpAnyH_take (i := 1) (v := ?_) rfl (by kernel_rfl) (by kernel_rfl) (by kernel_rfl) (fun _ _ _ h => h) (Or.inl ⟨by rfl, ?_⟩) (by assumption) ?_; rotate_left; (focus (intro wS hSw; (try dsimp only at hSw); go_simp; (try with_reducible rfl))); (try simp only [Act.put, List.getElem_toArray, List.getElem_cons_zero, List.getElem_cons_succ, List.setIfInBounds_toArray, List.set_cons_zero, List.set_cons_succ])); (refine wpAnyH_take (i := 2) (v := ?_) rfl (by kernel_rfl) (by kernel_rfl) (by kernel_rfl) (fun _ _ _ h => h) (Or.inl ⟨by rfl, ?_⟩) (by assumption) ?_; rotate_left; (focus (intro wS hSw; (try dsimp only at hSw); go_simp; (try with_reducible rfl))); (try simp only [Act.put, List.getElem_toArray, List.getElem_cons_zero, List.getElem_cons_succ, List.setIfInBounds_toArray, List.set_cons_zero, List.set_cons_succ])); (refine wpAnyH_take (i := 3) (v := ?_) rfl (by kernel_rfl) (by kernel_rfl) (by kernel_rfl) (fun _ _ _ h => h) (Or.inl ⟨by rfl, ?_⟩) (by assumption) ?_; rotate_left; (focus (intro wS hSw; (try dsimp only at hSw); go_simp; (try with_reducible rfl))); (try simp only [Act.put, List.getElem_toArray, List.getElem_cons_zero, List.getElem_cons_succ, List.setIfInBounds_toArray, List.set_cons_zero, List.set_cons_succ])); (refine wpAnyH_take (i := 4) (v := ?_) rfl (by kernel_rfl) (by kernel_rfl) (by kernel_rfl) (fun _ _ _ h => h) (Or.inl ⟨by rfl, ?_⟩) (by assumption) ?_; rotate_left; (focus (intro wS hSw; (try dsimp only at hSw); go_simp; (try with_reducible rfl))); (try simp only [Act.put, List.getElem_toArray, List.getElem_cons_zero, List.getElem_cons_succ, List.setIfInBounds_toArray, List.set_cons_zero, List.set_cons_succ])); (refine wpAnyH_take (i := 5) (v := ?_) rfl (by kernel_rfl) (by kernel_rfl) (by kernel_rfl) (fun _ _ _ h => h) (Or.inl ⟨by rfl, ?_⟩) (by assumption) ?_; rotate_left; (focus (intro wS hSw; (try dsimp only at hSw); go_simp; (try with_reducible rfl))); (try simp only [Act.put, List.getElem_toArray, List.getElem_cons_zero, List.getElem_cons_succ, List.setIfInBounds_toArray, List.set_cons_zero, List.set_cons_succ])); (refine wpAnyH_take (i := 6) (v := ?_) rfl (by kernel_rfl) (by kernel_rfl) (by kernel_rfl) (fun _ _ _ h => h) (Or.inl ⟨by rfl, ?_⟩) (by assumption) ?_; rotate_left; (focus (intro wS hSw; (try dsimp only at hSw); go_simp; (try with_reducible rfl))); (try simp only [Act.put, List.getElem_toArray, List.getElem_cons_zero, List.getElem_cons_succ, List.setIfInBounds_toArray, List.set_cons_zero, List.set_cons_succ])); (refine wpAnyH_take (i := 7) (v := ?_) rfl (by kernel_rfl) (by kernel_rfl) (by kernel_rfl) (fun _ _ _ h => h) (Or.inl ⟨by rfl, ?_⟩) (by assumption) ?_; rotate_left; (focus (intro wS hSw; (try dsimp only at hSw); go_simp; (try with_reducible rfl))); (try simp only [Act.put, List.getElem_toArray, List.getElem_cons_zero, List.getElem_cons_succ, List.setIfInBounds_toArray, List.set_cons_zero, List.set_cons_succ])); (refine wpAnyH_take (i := 8) (v := ?_) rfl (by kernel_rfl) (by kernel_rfl) (by kernel_rfl) (fun _ _ _ h => h) (Or.inl ⟨by rfl, ?_⟩) (by assumption) ?_; rotate_left; (focus (intro wS hSw; (try dsimp only at hSw); go_simp; (try with_reducible rfl))); (try simp only [Act.put, List.getElem_toArray, List.getElem_cons_zero, List.getElem_cons_succ, List.setIfInBounds_toArray, List.set_cons_zero, List.set_cons_succ])); (refine wpAnyH_take (i := 9) (v := ?_) rfl (by kernel_rfl) (by kernel_rfl) (by kernel_rfl) (fun _ _ _ h => h) (Or.inl ⟨by rfl, ?_⟩) (by assumption) ?_; rotate_left; (focus (intro wS hSw; (try dsimp only at hSw); go_simp; (try with_reducible rfl))); (try simp only [Act.put, List.getElem_toArray, List.getElem_cons_zero, List.getElem_cons_succ, List.setIfInBounds_toArray, List.set_cons_zero, List.set_cons_succ])))
                    (refine wpAnyH_ready (rs := [10]) (by kernel_rfl) (by simp) ?_; refine AllReadyH.cons rfl (fun K hK => ?_) AllReadyH.nil; go_simp)
                    go_at_call 36
                    refine (HAF.out _ HIYd.out HIXd.out).mono ?_
                    rintro e wl ⟨rfl, hbl2⟩
                    have HBL := Lib.hid (HBd.out.trans (hbl2.mono HBd.out.size))
                    have hgk : g < wk.drew.heap.size := Nat.lt_of_lt_of_le hg12 HBd.out.size
                    have hPk : P < wk.drew.heap.size := Nat.lt_of_lt_of_le HX12.out.2.2.2.2 HBd.out.size
                    have r0 := (hbl2.cell (p := ⟨g, kq * 2, none⟩) hgk).trans r0
                    have r1 := (hbl2.cell (p := ⟨g, kq * 2 + 1, none⟩) hgk).trans r1
                    have x0 := (hbl2.cell (p := ⟨P, 0, none⟩) hPk).trans x0
                    have x1 := (hbl2.cell (p := ⟨P, 1, none⟩) hPk).trans x1
                    go_wp2_with fail
                    (refine hK.out _ _ ?_ (fun hHeld2 => ?_); (focus ((try dsimp only); exact ⟨r0, r1, x0, x1⟩)); (clear hK K); (try simp only [Act.put, List.getElem_toArray, List.getElem_cons_zero, List.getElem_cons_succ, List.setIfInBounds_toArray, List.set_cons_zero, List.set_cons_succ]))
                    (refine wpAnyH_take (i := 11) (v := ?_) rfl (by kernel_rfl) (by kernel_rfl) (by kernel_rfl) (fun _ _ _ h => h) (Or.inl ⟨by rfl, ?_⟩) (by assumption) ?_; rotate_left; (focus (intro wS hSw; (try dsimp only at hSw); go_simp; (try with_reducible rfl))); (try simp only [Act.put, List.getElem_toArray, List.getElem_cons_zero, List.getElem_cons_succ, List.setIfInBounds_toArray, List.set_cons_zero, List.set_cons_succ]))
                    refine wpAnyH_done (by kernel_rfl) ?_ _
                    have HIYl := Lib.hid (HIYd.out.lift hbl2)
                    have HIXl := Lib.hid (HIXd.out.lift hbl2)
                    have HSA := Lib.hid (fun V (h1 : Ints V V.heap.size AY Y) (h2 : Ints V V.heap.size A10 X) => spec_l02Same_any AY A10 cY c10 Y X V _ _ h1 h2)
                    have HBe := Lib.hid (Below.drew5_ HBL.out)
                    have HIYe := Lib.hid (show Ints wl.drew wl.drew.heap.size AY Y from HIYl.out)
                    have HIXe := Lib.hid (show Ints wl.drew wl.drew.heap.size A10 X from HIXl.out)
                    clear hbl2
                    by_cases hYX : Y = X
                    · have he : eqB Y X = true := by rw [hYX]; exact eqB_self X
                      have HKN := Lib.hid (key_same (x := X) HKI2.out (by rw [← HKP.out]; exact HSM.out.1 hYX))
                      rw [he] at HSA
                      clear he hYX
                      go_wp2_with fail
                      (refine wp_region_held_drew (S := (fun w' => w'.cell? ⟨g, kq * 2, none⟩ = some (.int .i64 N) ∧ w'.cell? ⟨g, kq * 2 + 1, none⟩ = some (.slice AY Y.length cY) ∧ w'.cell? ⟨P, 0, none⟩ = some (.int .i64 N) ∧ w'.cell? ⟨P, 1, none⟩ = some (.slice A10 X.length c10))) (by kernel_rfl) ?_ (fun hHeld => ?_); (focus ((try dsimp only); exact ⟨r0, r1, x0, x1⟩)))
                      ((refine wpAnyH_take (i := 0) (v := ?_) rfl (by kernel_rfl) (by kernel_rfl) (by kernel_rfl) (fun _ _ _ h => h) (Or.inl ⟨by rfl, ?_⟩) (by assumption) ?_; rotate_left; (focus (intro wS hSw; (try dsimp only at hSw); go_simp; (try with_reducible rfl))); (try simp only [Act.put, List.getElem_toArray, List.getElem_cons_zero, List.getElem_cons_succ, List.setIfInBounds_toArray, List.set_cons_zero, List.set_cons_succ])); (refine wpAnyH_take (i := 1) (v := ?_) rfl (by kernel_rfl) (by kernel_rfl) (by kernel_rfl) (fun _ _ _ h => h) (Or.inl ⟨by rfl, ?_⟩) (by assumption) ?_; rotate_left; (focus (intro wS hSw; (try dsimp only at hSw); go_simp; (try with_reducible rfl))); (try simp only [Act.put, List.getElem_toArray, List.getElem_cons_zero, List.getElem_cons_succ, List.setIfInBounds_toArray, List.set_cons_zero, List.set_cons_succ])); (refine wpAnyH_take (i := 2) (v := ?_) rfl (by kernel_rfl) (by kernel_rfl) (by kernel_rfl) (fun _ _ _ h => h) (Or.inl ⟨by rfl, ?_⟩) (by assumption) ?_; rotate_left; (focus (intro wS hSw; (try dsimp only at hSw); go_simp; (try with_reducible rfl))); (try simp only [Act.put, List.getElem_toArray, List.getElem_cons_zero, List.getElem_cons_succ, List.setIfInBounds_toArray, List.set_cons_zero, List.set_cons_succ])); (refine wpAnyH_take (i := 3) (v := ?_) rfl (by kernel_rfl) (by kernel_rfl) (by kernel_rfl) (fun _ _ _ h => h) (Or.inl ⟨by rfl, ?_⟩) (by assumption) ?_; rotate_left; (focus (intro wS hSw; (try dsimp only at hSw); go_simp; (try with_reducible rfl))); (try simp only [Act.put, List.getElem_toArray, List.getElem_cons_zero, List.getElem_cons_succ, List.setIfInBounds_toArray, List.set_cons_zero, List.set_cons_succ])); (refine wpAnyH_take (i := 4) (v := ?_) rfl (by kernel_rfl) (by kernel_rfl) (by kernel_rfl) (fun _ _ _ h => h) (Or.inl ⟨by rfl, ?_⟩) (by assumption) ?_; rotate_left; (focus (intro wS hSw; (try dsimp only at hSw); go_simp; (try with_reducible rfl))); (try simp only [Act.put, List.getElem_toArray, List.getElem_cons_zero, List.getElem_cons_succ, List.setIfInBounds_toArray, List.set_cons_zero, List.set_cons_succ])); (refine wpAnyH_take (i := 5) (v := ?_) rfl (by kernel_rfl) (by kernel_rfl) (by kernel_rfl) (fun _ _ _ h => h) (Or.inl ⟨by rfl, ?_⟩) (by assumption) ?_; rotate_left; (focus (intro wS hSw; (try dsimp only at hSw); go_simp; (try with_reducible rfl))); (try simp only [Act.put, List.getElem_toArray, List.getElem_cons_zero, List.getElem_cons_succ, List.setIfInBounds_toArray, List.set_cons_zero, List.set_cons_succ])); (refine wpAnyH_take (i := 6) (v := ?_) rfl (by kernel_rfl) (by kernel_rfl) (by kernel_rfl) (fun _ _ _ h => h) (Or.inl ⟨by rfl, ?_⟩) (by assumption) ?_; rotate_left; (focus (intro wS hSw; (try dsimp only at hSw); go_simp; (try with_reducible rfl))); (try simp only [Act.put, List.getElem_toArray, List.getElem_cons_zero, List.getElem_cons_succ, List.setIfInBounds_toArray, List.set_cons_zero, List.set_cons_succ])); (refine wpAnyH_take (i := 7) (v := ?_) rfl (by kernel_rfl) (by kernel_rfl) (by kernel_rfl) (fun _ _ _ h => h) (Or.inl ⟨by rfl, ?_⟩) (by assumption) ?_; rotate_left; (focus (intro wS hSw; (try dsimp only at hSw); go_simp; (try with_reducible rfl))); (try simp only [Act.put, List.getElem_toArray, List.getElem_cons_zero, List.getElem_cons_succ, List.setIfInBounds_toArray, List.set_cons_zero, List.set_cons_succ])); (refine wpAnyH_take (i := 8) (v := ?_) rfl (by kernel_rfl) (by kernel_rfl) (by kernel_rfl) (fun _ _ _ h => h) (Or.inl ⟨by rfl, ?_⟩) (by assumption) ?_; rotate_left; (focus (intro wS hSw; (try dsimp only at hSw); go_simp; (try with_reducible rfl))); (try simp only [Act.put, List.getElem_toArray, List.getElem_cons_zero, List.getElem_cons_succ, List.setIfInBounds_toArray, List.set_cons_zero, List.set_cons_succ])); (refine wpAnyH_take (i := 9) (v := ?_) rfl (by kernel_rfl) (by kernel_rfl) (by kernel_rfl) (fun _ _ _ h => h) (Or.inl ⟨by rfl, ?_⟩) (by assumption) ?_; rotate_left; (focus (intro wS hSw; (try dsimp only at hSw); go_simp; (try with_reducible rfl))); (try simp only [Act.put, List.getElem_toArray, List.getElem_cons_zero, List.getElem_cons_succ, List.setIfInBounds_toArray, List.set_cons_zero, List.set_cons_succ])); (refine wpAnyH_take (i := 10) (v := ?_) rfl (by kernel_rfl) (by kernel_rfl) (by kernel_rfl) (fun _ _ _ h => h) (Or.inl ⟨by rfl, ?_⟩) (by assumption) ?_; rotate_left; (focus (intro wS hSw; (try dsimp only at hSw); go_simp; (try with_reducible rfl))); (try simp only [Act.put, List.getElem_toArray, List.getElem_cons_zero, List.getElem_cons_succ, List.setIfInBounds_toArray, List.set_cons_zero, List.set_cons_succ])); (refine wpAnyH_take (i := 11) (v := ?_) rfl (by kernel_rfl) (by kernel_rfl) (by kernel_rfl) (fun _ _ _ h => h) (Or.inl ⟨by rfl, ?_⟩) (by assumption) ?_; rotate_left; (focus (intro wS hSw; (try dsimp only at hSw); go_simp; (try with_reducible rfl))); (try simp only [Act.put, List.getElem_toArray, List.getElem_cons_zero, List.getElem_cons_succ, List.setIfInBounds_toArray, List.set_cons_zero, List.set_cons_succ])))
                      (refine wpAnyH_ready (rs := [12]) (by kernel_rfl) (by simp) ?_; refine AllReadyH.cons rfl (fun K hK => ?_) AllReadyH.nil; go_simp)
                      go_at_call 37
                      refine (HSA.out _ HIYe.out HIXe.out).mono ?_
                      rintro e w5 ⟨rfl, rfl⟩
                      go_wp2_with fail
                      (refine hK.out _ _ ?_ (fun hHeld2 => ?_); (focus ((try dsimp only); exact ⟨r0, r1, x0, x1⟩)); (clear hK K); (try simp only [Act.put, List.getElem_toArray, List.getElem_cons_zero, List.getElem_cons_succ, List.setIfInBounds_toArray, List.set_cons_zero, List.set_cons_succ]))
                      (refine wpAnyH_take (i := 13) (v := ?_) rfl (by kernel_rfl) (by kernel_rfl) (by kernel_rfl) (fun _ _ _ h => h) (Or.inl ⟨by rfl, ?_⟩) (by assumption) ?_; rotate_left; (focus (intro wS hSw; (try dsimp only at hSw); go_simp; (try with_reducible rfl))); (try simp only [Act.put, List.getElem_toArray, List.getElem_cons_zero, List.getElem_cons_succ, List.setIfInBounds_toArray, List.set_cons_zero, List.set_cons_succ]))
                      refine wpAnyH_done (by kernel_rfl) ?_ _
                      go_wp2_with fail
                      go_roundw
                      case rel => exact ⟨2, g, c, rs, by omega, by go_num, rfl, by rw [HKN.out, ← HCD.out]; exact HL'.out.symm, HR12.out.grown HBe.out, (fun r hr => (HL12.out r hr).frm (Frm.pure HBe.out (fun _ => False)) (fun h => h)), HC12.out.below HBe.out HC12.out.2.2.2.2, HD12.out.below HBe.out HD12.out.2.2.2.2, HBW12.out.trans (HBe.out.mono HBW12.out.size), Nat.le_trans hqi (Nat.le_trans HB12.out.size HBe.out.size)⟩
                      case measure => simp [intOf]
                    · have he : eqB Y X = false := by unfold eqB; exact decide_eq_false hYX
                      have HNE := Lib.hid (show out[posF N out X]? ≠ some X by rw [← HKP.out]; exact HSM.out.2 hYX)
                      rw [he] at HSA
                      clear he hYX
                      go_wp2_with fail
                      (refine wp_region_held_drew (S := (fun w' => w'.cell? ⟨g, kq * 2, none⟩ = some (.int .i64 N) ∧ w'.cell? ⟨g, kq * 2 + 1, none⟩ = some (.slice AY Y.length cY) ∧ w'.cell? ⟨P, 0, none⟩ = some (.int .i64 N) ∧ w'.cell? ⟨P, 1, none⟩ = some (.slice A10 X.length c10))) (by kernel_rfl) ?_ (fun hHeld => ?_); (focus ((try dsimp only); exact ⟨r0, r1, x0, x1⟩)))
                      ((refine wpAnyH_take (i := 0) (v := ?_) rfl (by kernel_rfl) (by kernel_rfl) (by kernel_rfl) (fun _ _ _ h => h) (Or.inl ⟨by rfl, ?_⟩) (by assumption) ?_; rotate_left; (focus (intro wS hSw; (try dsimp only at hSw); go_simp; (try with_reducible rfl))); (try simp only [Act.put, List.getElem_toArray, List.getElem_cons_zero, List.getElem_cons_succ, List.setIfInBounds_toArray, List.set_cons_zero, List.set_cons_succ])); (refine wpAnyH_take (i := 1) (v := ?_) rfl (by kernel_rfl) (by kernel_rfl) (by kernel_rfl) (fun _ _ _ h => h) (Or.inl ⟨by rfl, ?_⟩) (by assumption) ?_; rotate_left; (focus (intro wS hSw; (try dsimp only at hSw); go_simp; (try with_reducible rfl))); (try simp only [Act.put, List.getElem_toArray, List.getElem_cons_zero, List.getElem_cons_succ, List.setIfInBounds_toArray, List.set_cons_zero, List.set_cons_succ])); (refine wpAnyH_take (i := 2) (v := ?_) rfl (by kernel_rfl) (by kernel_rfl) (by kernel_rfl) (fun _ _ _ h => h) (Or.inl ⟨by rfl, ?_⟩) (by assumption) ?_; rotate_left; (focus (intro wS hSw; (try dsimp only at hSw); go_simp; (try with_reducible rfl))); (try simp only [Act.put, List.getElem_toArray, List.getElem_cons_zero, List.getElem_cons_succ, List.setIfInBounds_toArray, List.set_cons_zero, List.set_cons_succ])); (refine wpAnyH_take (i := 3) (v := ?_) rfl (by kernel_rfl) (by kernel_rfl) (by kernel_rfl) (fun _ _ _ h => h) (Or.inl ⟨by rfl, ?_⟩) (by assumption) ?_; rotate_left; (focus (intro wS hSw; (try dsimp only at hSw); go_simp; (try with_reducible rfl))); (try simp only [Act.put, List.getElem_toArray, List.getElem_cons_zero, List.getElem_cons_succ, List.setIfInBounds_toArray, List.set_cons_zero, List.set_cons_succ])); (refine wpAnyH_take (i := 4) (v := ?_) rfl (by kernel_rfl) (by kernel_rfl) (by kernel_rfl) (fun _ _ _ h => h) (Or.inl ⟨by rfl, ?_⟩) (by assumption) ?_; rotate_left; (focus (intro wS hSw; (try dsimp only at hSw); go_simp; (try with_reducible rfl))); (try simp only [Act.put, List.getElem_toArray, List.getElem_cons_zero, List.getElem_cons_succ, List.setIfInBounds_toArray, List.set_cons_zero, List.set_cons_succ])); (refine wpAnyH_take (i := 5) (v := ?_) rfl (by kernel_rfl) (by kernel_rfl) (by kernel_rfl) (fun _ _ _ h => h) (Or.inl ⟨by rfl, ?_⟩) (by assumption) ?_; rotate_left; (focus (intro wS hSw; (try dsimp only at hSw); go_simp; (try with_reducible rfl))); (try simp only [Act.put, List.getElem_toArray, List.getElem_cons_zero, List.getElem_cons_succ, List.setIfInBounds_toArray, List.set_cons_zero, List.set_cons_succ])); (refine wpAnyH_take (i := 6) (v := ?_) rfl (by kernel_rfl) (by kernel_rfl) (by kernel_rfl) (fun _ _ _ h => h) (Or.inl ⟨by rfl, ?_⟩) (by assumption) ?_; rotate_left; (focus (intro wS hSw; (try dsimp only at hSw); go_simp; (try with_reducible rfl))); (try simp only [Act.put, List.getElem_toArray, List.getElem_cons_zero, List.getElem_cons_succ, List.setIfInBounds_toArray, List.set_cons_zero, List.set_cons_succ])); (refine wpAnyH_take (i := 7) (v := ?_) rfl (by kernel_rfl) (by kernel_rfl) (by kernel_rfl) (fun _ _ _ h => h) (Or.inl ⟨by rfl, ?_⟩) (by assumption) ?_; rotate_left; (focus (intro wS hSw; (try dsimp only at hSw); go_simp; (try with_reducible rfl))); (try simp only [Act.put, List.getElem_toArray, List.getElem_cons_zero, List.getElem_cons_succ, List.setIfInBounds_toArray, List.set_cons_zero, List.set_cons_succ])); (refine wpAnyH_take (i := 8) (v := ?_) rfl (by kernel_rfl) (by kernel_rfl) (by kernel_rfl) (fun _ _ _ h => h) (Or.inl ⟨by rfl, ?_⟩) (by assumption) ?_; rotate_left; (focus (intro wS hSw; (try dsimp only at hSw); go_simp; (try with_reducible rfl))); (try simp only [Act.put, List.getElem_toArray, List.getElem_cons_zero, List.getElem_cons_succ, List.setIfInBounds_toArray, List.set_cons_zero, List.set_cons_succ])); (refine wpAnyH_take (i := 9) (v := ?_) rfl (by kernel_rfl) (by kernel_rfl) (by kernel_rfl) (fun _ _ _ h => h) (Or.inl ⟨by rfl, ?_⟩) (by assumption) ?_; rotate_left; (focus (intro wS hSw; (try dsimp only at hSw); go_simp; (try with_reducible rfl))); (try simp only [Act.put, List.getElem_toArray, List.getElem_cons_zero, List.getElem_cons_succ, List.setIfInBounds_toArray, List.set_cons_zero, List.set_cons_succ])); (refine wpAnyH_take (i := 10) (v := ?_) rfl (by kernel_rfl) (by kernel_rfl) (by kernel_rfl) (fun _ _ _ h => h) (Or.inl ⟨by rfl, ?_⟩) (by assumption) ?_; rotate_left; (focus (intro wS hSw; (try dsimp only at hSw); go_simp; (try with_reducible rfl))); (try simp only [Act.put, List.getElem_toArray, List.getElem_cons_zero, List.getElem_cons_succ, List.setIfInBounds_toArray, List.set_cons_zero, List.set_cons_succ])); (refine wpAnyH_take (i := 11) (v := ?_) rfl (by kernel_rfl) (by kernel_rfl) (by kernel_rfl) (fun _ _ _ h => h) (Or.inl ⟨by rfl, ?_⟩) (by assumption) ?_; rotate_left; (focus (intro wS hSw; (try dsimp only at hSw); go_simp; (try with_reducible rfl))); (try simp only [Act.put, List.getElem_toArray, List.getElem_cons_zero, List.getElem_cons_succ, List.setIfInBounds_toArray, List.set_cons_zero, List.set_cons_succ])))
                      (refine wpAnyH_ready (rs := [12]) (by kernel_rfl) (by simp) ?_; refine AllReadyH.cons rfl (fun K hK => ?_) AllReadyH.nil; go_simp)
                      go_at_call 37
                      refine (HSA.out _ HIYe.out HIXe.out).mono ?_
                      rintro e w5 ⟨rfl, rfl⟩
                      go_wp2_with fail
                      (refine hK.out _ _ ?_ (fun hHeld2 => ?_); (focus ((try dsimp only); exact ⟨r0, r1, x0, x1⟩)); (clear hK K); (try simp only [Act.put, List.getElem_toArray, List.getElem_cons_zero, List.getElem_cons_succ, List.setIfInBounds_toArray, List.set_cons_zero, List.set_cons_succ]))
                      (refine wpAnyH_take (i := 13) (v := ?_) rfl (by kernel_rfl) (by kernel_rfl) (by kernel_rfl) (fun _ _ _ h => h) (Or.inl ⟨by rfl, ?_⟩) (by assumption) ?_; rotate_left; (focus (intro wS hSw; (try dsimp only at hSw); go_simp; (try with_reducible rfl))); (try simp only [Act.put, List.getElem_toArray, List.getElem_cons_zero, List.getElem_cons_succ, List.setIfInBounds_toArray, List.set_cons_zero, List.set_cons_succ]))
                      refine wpAnyH_done (by kernel_rfl) ?_ _
                      have hck1 : ¬ c - kq = 0 := by have := HR12.out.caps.1; omega
                      have hck2 : ¬ c = kq := by have := HR12.out.caps.1; omega
                      have hck3 : ¬ (c : Int) - (kq : Int) = 0 := by have := HR12.out.caps.1; omega
                      have HRL := Lib.hid (HR12.out.grown HBe.out)
                      have HLL := Lib.hid (fun r (hr : r ∈ rs) => (HL12.out r hr).frm (Frm.pure HBe.out (fun _ => False)) (fun h => h))
                      have HCL := Lib.hid (HC12.out.below HBe.out HC12.out.2.2.2.2)
                      have HDL := Lib.hid (HD12.out.below HBe.out HD12.out.2.2.2.2)
                      have HBW := Lib.hid (HBW12.out.trans (HBe.out.mono HBW12.out.size))
                      have HXL := Lib.hid (HX12.out.below HBe.out HX12.out.2.2.2.2)
                      have HLXL := Lib.hid (HLX.out.frm (Frm.pure HBe.out (fun _ => False)) (fun h => h))
                      have hql := HBe.out.size
                      have hq12 := HB12.out.size
                      have HKN := Lib.hid (key_ins (⟨N, X, A10, c10, bX⟩ : RV) rfl rfl HKI2.out HNE.out)
                      clear x0 x1
                      generalize wl.drew = wm at *
                      obtain ⟨x0, x1, _, _, _⟩ := HXL.out
                      have hgm := HRL.out.caps.2
                      have HLN48 := Lib.hid hr48
                      have HKL := Lib.hid hkle
                      have HLI2 := Lib.hid (show (0 : Int) ≤ (kq : Int) ∧ (kq : Int) ≤ (rs.length : Int) from ⟨Int.natCast_nonneg _, by omega⟩)
                      have hkl2 : (kq : Int) ≤ (rs.length : Int) := by omega
                      have hkc2 : (kq : Int) ≤ (c : Int) := by omega
                      have hkc3 : kq ≤ c := by omega
                      have hrc3 : rs.length ≤ c := by omega
                      have HT1 := Lib.hid ((Below.refl wm.heap.size wm).alloc (Nat.le_refl _) (.cells #[] 28))
                      have HGM := Lib.hid hgm
                      go_wp2_with (first
                        | (at_builtin; refine wpList_append_rows rfl (.tmp 78) (.tmp 81) rfl wm.heap.size _ [] rfl (RowR.empty_at wm _ _ rfl (Nat.le_refl _)) g 0 kq _ (rs.take kq) (by rfl) (by rw [List.length_take]; have := HKL.out; omega) (fun j u hu => by rw [Nat.zero_add]; exact (HT1.out.cell (p := ⟨g, j, none⟩) HGM.out).trans (HRL.out.cell j u (cells_take rs kq j u hu))) (by rw [List.length_take]; have := HLN48.out; simp; omega) (by simp) ?_; intro v13 w13 hown13 hb13; rw [List.nil_append] at hown13; obtain ⟨t1, ht1⟩ : ∃ l, rs.take kq = l := ⟨_, rfl⟩; rw [ht1] at hown13; obtain ⟨A13, c13, rfl⟩ := hown13.form; have HT2 := Lib.hid ht1; have HB13 := Lib.hid (HT1.out.trans hb13); have HR13 := Lib.hid hown13; obtain ⟨m0, m1, _, _, _⟩ := HXL.out.below HB13.out HXL.out.2.2.2.2; clear ht1 hown13 hb13 x0 x1; have HAL := Lib.hid ((Below.refl w13.heap.size w13).alloc (Nat.le_refl _) (.cells #[.int .i64 N, .slice A10 X.length c10] 28)); have HNC := Lib.hid (Cells2.new w13 (.int .i64 N) (.slice A10 X.length c10) 28); have HL1 := Lib.hid (show t1.length ≤ 1000 by rw [← HT2.out, List.length_take]; have := HLN48.out; omega))
                        | (at_builtin; refine wpList_append_rows rfl (.tmp 83) (.tmp 85) rfl wm.heap.size _ t1 rfl (HR13.out.grown HAL.out) w13.heap.size 0 1 1 [(⟨N, X, A10, c10, bX⟩ : RV)] (by rfl) rfl (cells_single HNC.out.1 HNC.out.2.1) (by have := HL1.out; simp; omega) (by have := HB13.out.size; simp only [World.size_alloc]; omega) ?_; intro v14 w14 hown14 hb14; obtain ⟨t2, ht2⟩ : ∃ l, t1 ++ [(⟨N, X, A10, c10, bX⟩ : RV)] = l := ⟨_, rfl⟩; rw [ht2] at hown14; obtain ⟨A14, c14, rfl⟩ := hown14.form; have HT3 := Lib.hid ht2; have HB14 := Lib.hid (HB13.out.trans ((HAL.out.mono HB13.out.size).trans hb14)); have HR14 := Lib.hid hown14; clear ht2 hown14 hb14 m0 m1; have HL2 := Lib.hid (show 0 < t2.length ∧ t2.length ≤ 1001 by rw [← HT3.out, List.length_append]; have := HL1.out; show 0 < t1.length + 1 ∧ t1.length + 1 ≤ 1001; omega))
                        | (at_builtin; refine wpList_append_rows rfl (.tmp 87) (.tmp 90) rfl wm.heap.size _ t2 rfl HR14.out g _ _ _ (rs.drop kq) (by rfl) (by first | (rw [List.length_drop]; done) | (rw [List.length_drop]; omega)) (fun j u hu => by have hfin := (HB14.out.cell (p := ⟨g, kq * 2 + j, none⟩) HGM.out).trans (HRL.out.cell _ u (cells_drop rs kq j HKL.out u hu)); first | exact hfin | (rw [HDR.out] at hu; cases hu; done) | (rw [HDR.out] at hu; simp [cellsR] at hu; done) | (rw [Nat.zero_add]; exact hfin) | simpa using hfin) (by rw [List.length_drop]; have := HL2.out; have := HLN48.out; omega) HB14.out.size ?_; intro v15 w15 hown15 hb15; obtain ⟨t3, ht3⟩ : ∃ l, t2 ++ rs.drop kq = l := ⟨_, rfl⟩; rw [ht3] at hown15; obtain ⟨g15, c15, rfl⟩ := hown15.pos (by rw [← ht3, List.length_append]; have := HL2.out; omega); have HT4 := Lib.hid ht3; have HB15 := Lib.hid (HB14.out.trans hb15); have HR15 := Lib.hid hown15; clear ht3 hown15 hb15))
                      have HALL := Lib.hid (show t3 = rs.take (posF N out X) ++ [(⟨N, X, A10, c10, bX⟩ : RV)] ++ rs.drop (posF N out X) by rw [← HT4.out, ← HT3.out, ← HT2.out, HKP.out])
                      have HLIE := Lib.hid (show ∀ r ∈ t3, r.Lies w15 (q + 1) from fun r hr => by
                        rw [HALL.out, List.mem_append, List.mem_append, List.mem_singleton] at hr
                        rcases hr with (h1 | rfl) | h1
                        · exact (HLL.out r (List.mem_of_mem_take h1)).frm (Frm.pure HB15.out (fun _ => False)) (fun h => h)
                        · exact HLXL.out.frm (Frm.pure HB15.out (fun _ => False)) (fun h => h)
                        · exact (HLL.out r (List.mem_of_mem_drop h1)).frm (Frm.pure HB15.out (fun _ => False)) (fun h => h))
                      go_roundw
                      case rel => exact ⟨2, g15, c15, t3, by omega, by go_num, rfl, by rw [HALL.out, HKN.out, ← HCD.out]; exact HL'.out.symm, HR15.out.mono (by omega), HLIE.out, HCL.out.below HB15.out HCL.out.2.2.2.2, HDL.out.below HB15.out HDL.out.2.2.2.2, HBW.out.trans (HB15.out.mono HBW.out.size), Nat.le_trans hqi (Nat.le_trans hq12 (Nat.le_trans HBe.out.size HB15.out.size))⟩
                      case measure => simp [intOf]
                · have hkp : kq = posF N out X := by omega
                  have HKP := Lib.hid hkp
                  clear hkp
                  have hlki : ¬ (kq : Int) < (rs.length : Int) := by omega
                  have hlkd : decide ((kq : Int) < (rs.length : Int)) = false := decide_eq_false hlki
                  have HNE := Lib.hid (show out[posF N out X]? ≠ some X by rw [List.getElem?_eq_none (by omega)]; exact fun h => by cases h)
                  have HBe := Lib.hid (Below.drew5_ (Below.drew5_ HBQ.out))
                  clear hrl
                  go_wp2_with fail
                  (refine wp_region_held_drew (S := (fun w' => True)) (by kernel_rfl) ?_ (fun hHeld => ?_); (focus ((try dsimp only); (try exact trivial))))
                  ((refine wpAnyH_take (i := 0) (v := ?_) rfl (by kernel_rfl) (by kernel_rfl) (by kernel_rfl) (fun _ _ _ h => h) (Or.inl ⟨by rfl, ?_⟩) (by assumption) ?_; rotate_left; (focus (intro wS hSw; (try dsimp only at hSw); go_simp; (try with_reducible rfl))); (try simp only [Act.put, List.getElem_toArray, List.getElem_cons_zero, List.getElem_cons_succ, List.setIfInBounds_toArray, List.set_cons_zero, List.set_cons_succ])); (refine wpAnyH_take (i := 1) (v := ?_) rfl (by kernel_rfl) (by kernel_rfl) (by kernel_rfl) (fun _ _ _ h => h) (Or.inl ⟨by rfl, ?_⟩) (by assumption) ?_; rotate_left; (focus (intro wS hSw; (try dsimp only at hSw); go_simp; (try with_reducible rfl))); (try simp only [Act.put, List.getElem_toArray, List.getElem_cons_zero, List.getElem_cons_succ, List.setIfInBounds_toArray, List.set_cons_zero, List.set_cons_succ])); (refine wpAnyH_take (i := 2) (v := ?_) rfl (by kernel_rfl) (by kernel_rfl) (by kernel_rfl) (fun _ _ _ h => h) (Or.inl ⟨by rfl, ?_⟩) (by assumption) ?_; rotate_left; (focus (intro wS hSw; (try dsimp only at hSw); go_simp; (try with_reducible rfl))); (try simp only [Act.put, List.getElem_toArray, List.getElem_cons_zero, List.getElem_cons_succ, List.setIfInBounds_toArray, List.set_cons_zero, List.set_cons_succ])); (refine wpAnyH_take (i := 3) (v := ?_) rfl (by kernel_rfl) (by kernel_rfl) (by kernel_rfl) (fun _ _ _ h => h) (Or.inl ⟨by rfl, ?_⟩) (by assumption) ?_; rotate_left; (focus (intro wS hSw; (try dsimp only at hSw); go_simp; (try with_reducible rfl))); (try simp only [Act.put, List.getElem_toArray, List.getElem_cons_zero, List.getElem_cons_succ, List.setIfInBounds_toArray, List.set_cons_zero, List.set_cons_succ])); (refine wpAnyH_take (i := 4) (v := ?_) rfl (by kernel_rfl) (by kernel_rfl) (by kernel_rfl) (fun _ _ _ h => h) (Or.inl ⟨by rfl, ?_⟩) (by assumption) ?_; rotate_left; (focus (intro wS hSw; (try dsimp only at hSw); go_simp; (try with_reducible rfl))); (try simp only [Act.put, List.getElem_toArray, List.getElem_cons_zero, List.getElem_cons_succ, List.setIfInBounds_toArray, List.set_cons_zero, List.set_cons_succ])))
                  ((refine wpAnyH_take (i := 5) (v := undef) rfl (by kernel_rfl) (by kernel_rfl) (by kernel_rfl) (fun _ _ _ h => h) (Or.inr ⟨by rfl, rfl⟩) (by assumption) ?_; (try simp only [Act.put, List.getElem_toArray, List.getElem_cons_zero, List.getElem_cons_succ, List.setIfInBounds_toArray, List.set_cons_zero, List.set_cons_succ])); (refine wpAnyH_take (i := 6) (v := undef) rfl (by kernel_rfl) (by kernel_rfl) (by kernel_rfl) (fun _ _ _ h => h) (Or.inr ⟨by rfl, rfl⟩) (by assumption) ?_; (try simp only [Act.put, List.getElem_toArray, List.getElem_cons_zero, List.getElem_cons_succ, List.setIfInBounds_toArray, List.set_cons_zero, List.set_cons_succ])); (refine wpAnyH_take (i := 7) (v := undef) rfl (by kernel_rfl) (by kernel_rfl) (by kernel_rfl) (fun _ _ _ h => h) (Or.inr ⟨by rfl, rfl⟩) (by assumption) ?_; (try simp only [Act.put, List.getElem_toArray, List.getElem_cons_zero, List.getElem_cons_succ, List.setIfInBounds_toArray, List.set_cons_zero, List.set_cons_succ])); (refine wpAnyH_take (i := 8) (v := undef) rfl (by kernel_rfl) (by kernel_rfl) (by kernel_rfl) (fun _ _ _ h => h) (Or.inr ⟨by rfl, rfl⟩) (by assumption) ?_; (try simp only [Act.put, List.getElem_toArray, List.getElem_cons_zero, List.getElem_cons_succ, List.setIfInBounds_toArray, List.set_cons_zero, List.set_cons_succ])); (refine wpAnyH_take (i := 9) (v := undef) rfl (by kernel_rfl) (by kernel_rfl) (by kernel_rfl) (fun _ _ _ h => h) (Or.inr ⟨by rfl, rfl⟩) (by assumption) ?_; (try simp only [Act.put, List.getElem_toArray, List.getElem_cons_zero, List.getElem_cons_succ, List.setIfInBounds_toArray, List.set_cons_zero, List.set_cons_succ])); (refine wpAnyH_take (i := 10) (v := undef) rfl (by kernel_rfl) (by kernel_rfl) (by kernel_rfl) (fun _ _ _ h => h) (Or.inr ⟨by rfl, rfl⟩) (by assumption) ?_; (try simp only [Act.put, List.getElem_toArray, List.getElem_cons_zero, List.getElem_cons_succ, List.setIfInBounds_toArray, List.set_cons_zero, List.set_cons_succ])))
                  (refine wpAnyH_take (i := 11) (v := ?_) rfl (by kernel_rfl) (by kernel_rfl) (by kernel_rfl) (fun _ _ _ h => h) (Or.inl ⟨by rfl, ?_⟩) (by assumption) ?_; rotate_left; (focus (intro wS hSw; (try dsimp only at hSw); go_simp; (try with_reducible rfl))); (try simp only [Act.put, List.getElem_toArray, List.getElem_cons_zero, List.getElem_cons_succ, List.setIfInBounds_toArray, List.set_cons_zero, List.set_cons_succ]))
                  refine wpAnyH_done (by kernel_rfl) ?_ _
                  go_wp2_with fail
                  (refine wp_region_held_drew (S := (fun w' => True)) (by kernel_rfl) ?_ (fun hHeld => ?_); (focus ((try dsimp only); (try exact trivial))))
                  ((refine wpAnyH_take (i := 0) (v := ?_) rfl (by kernel_rfl) (by kernel_rfl) (by kernel_rfl) (fun _ _ _ h => h) (Or.inl ⟨by rfl, ?_⟩) (by assumption) ?_; rotate_left; (focus (intro wS hSw; (try dsimp only at hSw); go_simp; (try with_reducible rfl))); (try simp only [Act.put, List.getElem_toArray, List.getElem_cons_zero, List.getElem_cons_succ, List.setIfInBounds_toArray, List.set_cons_zero, List.set_cons_succ])); (refine wpAnyH_take (i := 1) (v := ?_) rfl (by kernel_rfl) (by kernel_rfl) (by kernel_rfl) (fun _ _ _ h => h) (Or.inl ⟨by rfl, ?_⟩) (by assumption) ?_; rotate_left; (focus (intro wS hSw; (try dsimp only at hSw); go_simp; (try with_reducible rfl))); (try simp only [Act.put, List.getElem_toArray, List.getElem_cons_zero, List.getElem_cons_succ, List.setIfInBounds_toArray, List.set_cons_zero, List.set_cons_succ])); (refine wpAnyH_take (i := 2) (v := ?_) rfl (by kernel_rfl) (by kernel_rfl) (by kernel_rfl) (fun _ _ _ h => h) (Or.inl ⟨by rfl, ?_⟩) (by assumption) ?_; rotate_left; (focus (intro wS hSw; (try dsimp only at hSw); go_simp; (try with_reducible rfl))); (try simp only [Act.put, List.getElem_toArray, List.getElem_cons_zero, List.getElem_cons_succ, List.setIfInBounds_toArray, List.set_cons_zero, List.set_cons_succ])); (refine wpAnyH_take (i := 3) (v := ?_) rfl (by kernel_rfl) (by kernel_rfl) (by kernel_rfl) (fun _ _ _ h => h) (Or.inl ⟨by rfl, ?_⟩) (by assumption) ?_; rotate_left; (focus (intro wS hSw; (try dsimp only at hSw); go_simp; (try with_reducible rfl))); (try simp only [Act.put, List.getElem_toArray, List.getElem_cons_zero, List.getElem_cons_succ, List.setIfInBounds_toArray, List.set_cons_zero, List.set_cons_succ])); (refine wpAnyH_take (i := 4) (v := ?_) rfl (by kernel_rfl) (by kernel_rfl) (by kernel_rfl) (fun _ _ _ h => h) (Or.inl ⟨by rfl, ?_⟩) (by assumption) ?_; rotate_left; (focus (intro wS hSw; (try dsimp only at hSw); go_simp; (try with_reducible rfl))); (try simp only [Act.put, List.getElem_toArray, List.getElem_cons_zero, List.getElem_cons_succ, List.setIfInBounds_toArray, List.set_cons_zero, List.set_cons_succ])))
                  ((refine wpAnyH_take (i := 5) (v := undef) rfl (by kernel_rfl) (by kernel_rfl) (by kernel_rfl) (fun _ _ _ h => h) (Or.inr ⟨by rfl, rfl⟩) (by assumption) ?_; (try simp only [Act.put, List.getElem_toArray, List.getElem_cons_zero, List.getElem_cons_succ, List.setIfInBounds_toArray, List.set_cons_zero, List.set_cons_succ])); (refine wpAnyH_take (i := 6) (v := undef) rfl (by kernel_rfl) (by kernel_rfl) (by kernel_rfl) (fun _ _ _ h => h) (Or.inr ⟨by rfl, rfl⟩) (by assumption) ?_; (try simp only [Act.put, List.getElem_toArray, List.getElem_cons_zero, List.getElem_cons_succ, List.setIfInBounds_toArray, List.set_cons_zero, List.set_cons_succ])); (refine wpAnyH_take (i := 7) (v := undef) rfl (by kernel_rfl) (by kernel_rfl) (by kernel_rfl) (fun _ _ _ h => h) (Or.inr ⟨by rfl, rfl⟩) (by assumption) ?_; (try simp only [Act.put, List.getElem_toArray, List.getElem_cons_zero, List.getElem_cons_succ, List.setIfInBounds_toArray, List.set_cons_zero, List.set_cons_succ])); (refine wpAnyH_take (i := 8) (v := undef) rfl (by kernel_rfl) (by kernel_rfl) (by kernel_rfl) (fun _ _ _ h => h) (Or.inr ⟨by rfl, rfl⟩) (by assumption) ?_; (try simp only [Act.put, List.getElem_toArray, List.getElem_cons_zero, List.getElem_cons_succ, List.setIfInBounds_toArray, List.set_cons_zero, List.set_cons_succ])); (refine wpAnyH_take (i := 9) (v := undef) rfl (by kernel_rfl) (by kernel_rfl) (by kernel_rfl) (fun _ _ _ h => h) (Or.inr ⟨by rfl, rfl⟩) (by assumption) ?_; (try simp only [Act.put, List.getElem_toArray, List.getElem_cons_zero, List.getElem_cons_succ, List.setIfInBounds_toArray, List.set_cons_zero, List.set_cons_succ])); (refine wpAnyH_take (i := 10) (v := undef) rfl (by kernel_rfl) (by kernel_rfl) (by kernel_rfl) (fun _ _ _ h => h) (Or.inr ⟨by rfl, rfl⟩) (by assumption) ?_; (try simp only [Act.put, List.getElem_toArray, List.getElem_cons_zero, List.getElem_cons_succ, List.setIfInBounds_toArray, List.set_cons_zero, List.set_cons_succ])); (refine wpAnyH_take (i := 11) (v := undef) rfl (by kernel_rfl) (by kernel_rfl) (by kernel_rfl) (fun _ _ _ h => h) (Or.inr ⟨by rfl, rfl⟩) (by assumption) ?_; (try simp only [Act.put, List.getElem_toArray, List.getElem_cons_zero, List.getElem_cons_succ, List.setIfInBounds_toArray, List.set_cons_zero, List.set_cons_succ])); (refine wpAnyH_take (i := 12) (v := undef) rfl (by kernel_rfl) (by kernel_rfl) (by kernel_rfl) (fun _ _ _ h => h) (Or.inr ⟨by rfl, rfl⟩) (by assumption) ?_; (try simp only [Act.put, List.getElem_toArray, List.getElem_cons_zero, List.getElem_cons_succ, List.setIfInBounds_toArray, List.set_cons_zero, List.set_cons_succ])))
                  (refine wpAnyH_take (i := 13) (v := ?_) rfl (by kernel_rfl) (by kernel_rfl) (by kernel_rfl) (fun _ _ _ h => h) (Or.inl ⟨by rfl, ?_⟩) (by assumption) ?_; rotate_left; (focus (intro wS hSw; (try dsimp only at hSw); go_simp; (try with_reducible rfl))); (try simp only [Act.put, List.getElem_toArray, List.getElem_cons_zero, List.getElem_cons_succ, List.setIfInBounds_toArray, List.set_cons_zero, List.set_cons_succ]))
                  refine wpAnyH_done (by kernel_rfl) ?_ _
                  obtain ⟨wl, hwl⟩ : ∃ wl : World, wl.drew = wk.drew.drew := ⟨wk.drew, rfl⟩
                  rw [← hwl] at HBe ⊢
                  clear hwl
                  by_cases hck2 : c = kq
                  · have hck1 : c - kq = 0 := by omega
                    have hck3 : (c : Int) - (kq : Int) = 0 := by omega
                    have HDR := Lib.hid (show rs.drop kq = [] from List.drop_eq_nil_of_le (by have := HR12.out.caps.1; omega))
                    have HRL := Lib.hid (HR12.out.grown HBe.out)
                    have HLL := Lib.hid (fun r (hr : r ∈ rs) => (HL12.out r hr).frm (Frm.pure HBe.out (fun _ => False)) (fun h => h))
                    have HCL := Lib.hid (HC12.out.below HBe.out HC12.out.2.2.2.2)
                    have HDL := Lib.hid (HD12.out.below HBe.out HD12.out.2.2.2.2)
                    have HBW := Lib.hid (HBW12.out.trans (HBe.out.mono HBW12.out.size))
                    have HXL := Lib.hid (HX12.out.below HBe.out HX12.out.2.2.2.2)
                    have HLXL := Lib.hid (HLX.out.frm (Frm.pure HBe.out (fun _ => False)) (fun h => h))
                    have hql := HBe.out.size
                    have hq12 := HB12.out.size
                    have HKN := Lib.hid (key_ins (⟨N, X, A10, c10, bX⟩ : RV) rfl rfl HKI2.out HNE.out)
                    clear x0 x1
                    generalize wl.drew = wm at *
                    obtain ⟨x0, x1, _, _, _⟩ := HXL.out
                    have hgm := HRL.out.caps.2
                    have HLN48 := Lib.hid hr48
                    have HKL := Lib.hid hkle
                    have HLI2 := Lib.hid (show (0 : Int) ≤ (kq : Int) ∧ (kq : Int) ≤ (rs.length : Int) from ⟨Int.natCast_nonneg _, by omega⟩)
                    have hkl2 : (kq : Int) ≤ (rs.length : Int) := by omega
                    have hkc2 : (kq : Int) ≤ (c : Int) := by omega
                    have hkc3 : kq ≤ c := by omega
                    have hrc3 : rs.length ≤ c := by omega
                    have HT1 := Lib.hid ((Below.refl wm.heap.size wm).alloc (Nat.le_refl _) (.cells #[] 28))
                    have HGM := Lib.hid hgm
                    go_wp2_with (first
                      | (at_builtin; refine wpList_append_rows rfl (.tmp 78) (.tmp 81) rfl wm.heap.size _ [] rfl (RowR.empty_at wm _ _ rfl (Nat.le_refl _)) g 0 kq _ (rs.take kq) (by rfl) (by rw [List.length_take]; have := HKL.out; omega) (fun j u hu => by rw [Nat.zero_add]; exact (HT1.out.cell (p := ⟨g, j, none⟩) HGM.out).trans (HRL.out.cell j u (cells_take rs kq j u hu))) (by rw [List.length_take]; have := HLN48.out; simp; omega) (by simp) ?_; intro v13 w13 hown13 hb13; rw [List.nil_append] at hown13; obtain ⟨t1, ht1⟩ : ∃ l, rs.take kq = l := ⟨_, rfl⟩; rw [ht1] at hown13; obtain ⟨A13, c13, rfl⟩ := hown13.form; have HT2 := Lib.hid ht1; have HB13 := Lib.hid (HT1.out.trans hb13); have HR13 := Lib.hid hown13; obtain ⟨m0, m1, _, _, _⟩ := HXL.out.below HB13.out HXL.out.2.2.2.2; clear ht1 hown13 hb13 x0 x1; have HAL := Lib.hid ((Below.refl w13.heap.size w13).alloc (Nat.le_refl _) (.cells #[.int .i64 N, .slice A10 X.length c10] 28)); have HNC := Lib.hid (Cells2.new w13 (.int .i64 N) (.slice A10 X.length c10) 28); have HL1 := Lib.hid (show t1.length ≤ 1000 by rw [← HT2.out, List.length_take]; have := HLN48.out; omega))
                      | (at_builtin; refine wpList_append_rows rfl (.tmp 83) (.tmp 85) rfl wm.heap.size _ t1 rfl (HR13.out.grown HAL.out) w13.heap.size 0 1 1 [(⟨N, X, A10, c10, bX⟩ : RV)] (by rfl) rfl (cells_single HNC.out.1 HNC.out.2.1) (by have := HL1.out; simp; omega) (by have := HB13.out.size; simp only [World.size_alloc]; omega) ?_; intro v14 w14 hown14 hb14; obtain ⟨t2, ht2⟩ : ∃ l, t1 ++ [(⟨N, X, A10, c10, bX⟩ : RV)] = l := ⟨_, rfl⟩; rw [ht2] at hown14; obtain ⟨A14, c14, rfl⟩ := hown14.form; have HT3 := Lib.hid ht2; have HB14 := Lib.hid (HB13.out.trans ((HAL.out.mono HB13.out.size).trans hb14)); have HR14 := Lib.hid hown14; clear ht2 hown14 hb14 m0 m1; have HL2 := Lib.hid (show 0 < t2.length ∧ t2.length ≤ 1001 by rw [← HT3.out, List.length_append]; have := HL1.out; show 0 < t1.length + 1 ∧ t1.length + 1 ≤ 1001; omega))
                      | (at_builtin; refine wpList_append_rows rfl (.tmp 87) (.tmp 90) rfl wm.heap.size _ t2 rfl HR14.out g _ _ _ (rs.drop kq) (by rfl) (by first | (rw [List.length_drop]; done) | (rw [List.length_drop]; omega)) (fun j u hu => by have hfin := (HB14.out.cell (p := ⟨g, kq * 2 + j, none⟩) HGM.out).trans (HRL.out.cell _ u (cells_drop rs kq j HKL.out u hu)); first | exact hfin | (rw [HDR.out] at hu; cases hu; done) | (rw [HDR.out] at hu; simp [cellsR] at hu; done) | (rw [Nat.zero_add]; exact hfin) | simpa using hfin) (by rw [List.length_drop]; have := HL2.out; have := HLN48.out; omega) HB14.out.size ?_; intro v15 w15 hown15 hb15; obtain ⟨t3, ht3⟩ : ∃ l, t2 ++ rs.drop kq = l := ⟨_, rfl⟩; rw [ht3] at hown15; obtain ⟨g15, c15, rfl⟩ := hown15.pos (by rw [← ht3, List.length_append]; have := HL2.out; omega); have HT4 := Lib.hid ht3; have HB15 := Lib.hid (HB14.out.trans hb15); have HR15 := Lib.hid hown15; clear ht3 hown15 hb15))
                    have HALL := Lib.hid (show t3 = rs.take (posF N out X) ++ [(⟨N, X, A10, c10, bX⟩ : RV)] ++ rs.drop (posF N out X) by rw [← HT4.out, ← HT3.out, ← HT2.out, HKP.out])
                    have HLIE := Lib.hid (show ∀ r ∈ t3, r.Lies w15 (q + 1) from fun r hr => by
                      rw [HALL.out, List.mem_append, List.mem_append, List.mem_singleton] at hr
                      rcases hr with (h1 | rfl) | h1
                      · exact (HLL.out r (List.mem_of_mem_take h1)).frm (Frm.pure HB15.out (fun _ => False)) (fun h => h)
                      · exact HLXL.out.frm (Frm.pure HB15.out (fun _ => False)) (fun h => h)
                      · exact (HLL.out r (List.mem_of_mem_drop h1)).frm (Frm.pure HB15.out (fun _ => False)) (fun h => h))
                    go_roundw
                    case rel => exact ⟨2, g15, c15, t3, by omega, by go_num, rfl, by rw [HALL.out, HKN.out, ← HCD.out]; exact HL'.out.symm, HR15.out.mono (by omega), HLIE.out, HCL.out.below HB15.out HCL.out.2.2.2.2, HDL.out.below HB15.out HDL.out.2.2.2.2, HBW.out.trans (HB15.out.mono HBW.out.size), Nat.le_trans hqi (Nat.le_trans hq12 (Nat.le_trans HBe.out.size HB15.out.size))⟩
                    case measure => simp [intOf]
                  · have hck1 : ¬ c - kq = 0 := by omega
                    have hck3 : ¬ (c : Int) - (kq : Int) = 0 := by omega
                    have HRL := Lib.hid (HR12.out.grown HBe.out)
                    have HLL := Lib.hid (fun r (hr : r ∈ rs) => (HL12.out r hr).frm (Frm.pure HBe.out (fun _ => False)) (fun h => h))
                    have HCL := Lib.hid (HC12.out.below HBe.out HC12.out.2.2.2.2)
                    have HDL := Lib.hid (HD12.out.below HBe.out HD12.out.2.2.2.2)
                    have HBW := Lib.hid (HBW12.out.trans (HBe.out.mono HBW12.out.size))
                    have HXL := Lib.hid (HX12.out.below HBe.out HX12.out.2.2.2.2)
                    have HLXL := Lib.hid (HLX.out.frm (Frm.pure HBe.out (fun _ => False)) (fun h => h))
                    have hql := HBe.out.size
                    have hq12 := HB12.out.size
                    have HKN := Lib.hid (key_ins (⟨N, X, A10, c10, bX⟩ : RV) rfl rfl HKI2.out HNE.out)
                    clear x0 x1
                    generalize wl.drew = wm at *
                    obtain ⟨x0, x1, _, _, _⟩ := HXL.out
                    have hgm := HRL.out.caps.2
                    have HLN48 := Lib.hid hr48
                    have HKL := Lib.hid hkle
                    have HLI2 := Lib.hid (show (0 : Int) ≤ (kq : Int) ∧ (kq : Int) ≤ (rs.length : Int) from ⟨Int.natCast_nonneg _, by omega⟩)
                    have hkl2 : (kq : Int) ≤ (rs.length : Int) := by omega
                    have hkc2 : (kq : Int) ≤ (c : Int) := by omega
                    have hkc3 : kq ≤ c := by omega
                    have hrc3 : rs.length ≤ c := by omega
                    have HT1 := Lib.hid ((Below.refl wm.heap.size wm).alloc (Nat.le_refl _) (.cells #[] 28))
                    have HGM := Lib.hid hgm
                    go_wp2_with (first
                      | (at_builtin; refine wpList_append_rows rfl (.tmp 78) (.tmp 81) rfl wm.heap.size _ [] rfl (RowR.empty_at wm _ _ rfl (Nat.le_refl _)) g 0 kq _ (rs.take kq) (by rfl) (by rw [List.length_take]; have := HKL.out; omega) (fun j u hu => by rw [Nat.zero_add]; exact (HT1.out.cell (p := ⟨g, j, none⟩) HGM.out).trans (HRL.out.cell j u (cells_take rs kq j u hu))) (by rw [List.length_take]; have := HLN48.out; simp; omega) (by simp) ?_; intro v13 w13 hown13 hb13; rw [List.nil_append] at hown13; obtain ⟨t1, ht1⟩ : ∃ l, rs.take kq = l := ⟨_, rfl⟩; rw [ht1] at hown13; obtain ⟨A13, c13, rfl⟩ := hown13.form; have HT2 := Lib.hid ht1; have HB13 := Lib.hid (HT1.out.trans hb13); have HR13 := Lib.hid hown13; obtain ⟨m0, m1, _, _, _⟩ := HXL.out.below HB13.out HXL.out.2.2.2.2; clear ht1 hown13 hb13 x0 x1; have HAL := Lib.hid ((Below.refl w13.heap.size w13).alloc (Nat.le_refl _) (.cells #[.int .i64 N, .slice A10 X.length c10] 28)); have HNC := Lib.hid (Cells2.new w13 (.int .i64 N) (.slice A10 X.length c10) 28); have HL1 := Lib.hid (show t1.length ≤ 1000 by rw [← HT2.out, List.length_take]; have := HLN48.out; omega))
                      | (at_builtin; refine wpList_append_rows rfl (.tmp 83) (.tmp 85) rfl wm.heap.size _ t1 rfl (HR13.out.grown HAL.out) w13.heap.size 0 1 1 [(⟨N, X, A10, c10, bX⟩ : RV)] (by rfl) rfl (cells_single HNC.out.1 HNC.out.2.1) (by have := HL1.out; simp; omega) (by have := HB13.out.size; simp only [World.size_alloc]; omega) ?_; intro v14 w14 hown14 hb14; obtain ⟨t2, ht2⟩ : ∃ l, t1 ++ [(⟨N, X, A10, c10, bX⟩ : RV)] = l := ⟨_, rfl⟩; rw [ht2] at hown14; obtain ⟨A14, c14, rfl⟩ := hown14.form; have HT3 := Lib.hid ht2; have HB14 := Lib.hid (HB13.out.trans ((HAL.out.mono HB13.out.size).trans hb14)); have HR14 := Lib.hid hown14; clear ht2 hown14 hb14 m0 m1; have HL2 := Lib.hid (show 0 < t2.length ∧ t2.length ≤ 1001 by rw [← HT3.out, List.length_append]; have := HL1.out; show 0 < t1.length + 1 ∧ t1.length + 1 ≤ 1001; omega))
                      | (at_builtin; refine wpList_append_rows rfl (.tmp 87) (.tmp 90) rfl wm.heap.size _ t2 rfl HR14.out g _ _ _ (rs.drop kq) (by rfl) (by first | (rw [List.length_drop]; done) | (rw [List.length_drop]; omega)) (fun j u hu => by have hfin := (HB14.out.cell (p := ⟨g, kq * 2 + j, none⟩) HGM.out).trans (HRL.out.cell _ u (cells_drop rs kq j HKL.out u hu)); first | exact hfin | (rw [HDR.out] at hu; cases hu; done) | (rw [HDR.out] at hu; simp [cellsR] at hu; done) | (rw [Nat.zero_add]; exact hfin) | simpa using hfin) (by rw [List.length_drop]; have := HL2.out; have := HLN48.out; omega) HB14.out.size ?_; intro v15 w15 hown15 hb15; obtain ⟨t3, ht3⟩ : ∃ l, t2 ++ rs.drop kq = l := ⟨_, rfl⟩; rw [ht3] at hown15; obtain ⟨g15, c15, rfl⟩ := hown15.pos (by rw [← ht3, List.length_append]; have := HL2.out; omega); have HT4 := Lib.hid ht3; have HB15 := Lib.hid (HB14.out.trans hb15); have HR15 := Lib.hid hown15; clear ht3 hown15 hb15))
                    have HALL := Lib.hid (show t3 = rs.take (posF N out X) ++ [(⟨N, X, A10, c10, bX⟩ : RV)] ++ rs.drop (posF N out X) by rw [← HT4.out, ← HT3.out, ← HT2.out, HKP.out])
                    have HLIE := Lib.hid (show ∀ r ∈ t3, r.Lies w15 (q + 1) from fun r hr => by
                      rw [HALL.out, List.mem_append, List.mem_append, List.mem_singleton] at hr
                      rcases hr with (h1 | rfl) | h1
                      · exact (HLL.out r (List.mem_of_mem_take h1)).frm (Frm.pure HB15.out (fun _ => False)) (fun h => h)
                      · exact HLXL.out.frm (Frm.pure HB15.out (fun _ => False)) (fun h => h)
                      · exact (HLL.out r (List.mem_of_mem_drop h1)).frm (Frm.pure HB15.out (fun _ => False)) (fun h => h))
                    go_roundw
                    case rel => exact ⟨2, g15, c15, t3, by omega, by go_num, rfl, by rw [HALL.out, HKN.out, ← HCD.out]; exact HL'.out.symm, HR15.out.mono (by omega), HLIE.out, HCL.out.below HB15.out HCL.out.2.2.2.2, HDL.out.below HB15.out HDL.out.2.2.2.2, HBW.out.trans (HB15.out.mono HBW.out.size), Nat.le_trans hqi (Nat.le_trans hq12 (Nat.le_trans HBe.out.size HB15.out.size))⟩
                    case measure => simp [intOf]
            · rw [hh] at HHS
              have HCD := Lib.hid (movS_yes (N := N) (bs := bs) (m := 2 * k + 1) (by rw [HMQ.out]; exact hh))
              obtain ⟨L', hL'⟩ : ∃ L', movS N bs (2 * k + 1 + 1) = L' := ⟨_, rfl⟩
              rw [hL'] at HCD
              have HL' := Lib.hid hL'
              clear hh hL'
              go_wp2_with fail
              try rw [hy0]
              refine (HMD.out _).mono ?_
              rintro e w2 ⟨rfl, rfl⟩
              go_wp2_with fail
              refine (HHS.out _ HIW.out).mono ?_
              rintro e w2 ⟨rfl, rfl⟩
              clear d0 d1
              go_wp2_with fail
              go_roundw
              case rel => exact ⟨2, g, c, rs, by omega, by go_num, rfl, by rw [HKI.out, ← HCD.out]; exact HL'.out.symm, HRI.out, HLR.out, HCI.out, HDI.out, HBI.out, hqi⟩
              case measure => simp [intOf]
    · have hke : k = bs.length := by omega
      subst hke
      have hfit : ∀ r ∈ rs, Ints wo wo.heap.size r.A r.xs := fun r hr => by
        refine (HLI.out r hr).ints ?_
        obtain ⟨i, hi, rfl⟩ := List.getElem_of_mem hr
        have hka := key_at (out := insL N bs (2 * bs.length)) HKE.out
        rw [(hka.2 i hi (by rw [← hka.1]; exact hi)).2]
        exact rh_fits' ((insL_desc bs hn1 hn2 (2 * bs.length)).1.2 _ (List.getElem_mem _))
      have hrl : rs.length ≤ 1048576 := by
        have hka := (key_at (out := insL N bs (2 * bs.length)) HKE.out).1
        have := insL_len N bs (2 * bs.length)
        omega
      have HRD := Lib.hid (HRO.out.rd hrl hfit)
      clear hfit c0 c1
      go_wp2_with fail
      go_ret
      exact ⟨_, _, rs, rfl, HKE.out, HRD.out, (fun r hr => (HLI.out r hr).mono (by have := HQ.out; omega)), HBE.out⟩

theorem spec_l24Moves_any (N : Nat) (A : Option Addr) (cap : Nat) (bs : List Int) (w : World) (hA : Ints w w.heap.size A bs) (hok : RhOk N bs) :
    Calls Try.prog 21 #[.agg #[.int .i64 N, .slice A bs.length cap]] w (RetRd w (movS N bs (2 * bs.length))) :=
  (spec_l24Moves_lies N A cap bs w hA hok).mono fun e w' ⟨A', c, rs, h1, h2, h3, _, h4⟩ => ⟨A', c, rs, h1, h2, h3, h4⟩

end Go.Proofs.Ytjegomgpldpmpaa
