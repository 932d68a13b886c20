/-
  IsCover at the first cover, CoverText, CoverLine of the program.
-/
import Derived.Test.YtoofkchhjkhdeaaDoorCovI
import Derived.Test.YtoofkchhjkhdeaaDoorTabU
import Derived.Test.YtoofkchhjkhdeaaDoorFullC
namespace Go.Proofs.YtoofkchhjkhdeaaDoor
open Go.RowKit Go.Shelf
set_option linter.unusedVariables false
set_option linter.unusedSimpArgs false

set_option maxRecDepth 100000 in
set_option maxHeartbeats 1000000 in
theorem impl_IsCover1_any (A1 A2 : Option Addr) (c1 c2 g : Nat) (l : List Int) (w : World) (h1 : Ints w w.heap.size A1 l) (h2 : Ints w w.heap.size A2 l) (hg : Bx w g (.slice A2 l.length c2)) :
    Calls Tryd.prog 40 #[.slice A1 l.length c1, .pointer (some ⟨g, 0, none⟩)] w fun e w' => e = .returned (.bool true) ∧ Below w.heap.size w w' := by
  have HEQ := equal_intsC A1 A2 c1 c2 l l w w.heap.size w.heap.size h1 h2
  rw [decide_eq_true rfl] at HEQ
  have HEQ := Lib.hid HEQ
  obtain ⟨_, g0, _⟩ := hg
  clear h1 h2
  go_enter Tryd.func40, Tryd.ntmps40
  go_wp2_with fail
  refine HEQ.out.mono ?_
  rintro e w2 ⟨rfl, z, rfl⟩
  go_wp2_with fail
  go_ret
  exact ⟨rfl, Below.drewN_ (Below.refl w.heap.size w) z⟩

set_option maxRecDepth 100000 in
set_option maxHeartbeats 1000000 in
theorem slices_IndexFuncC_any (A1 A2 : Option Addr) (c1 c2 g gr m cr : Nat) (l : List Int) (w : World) (h1 : Ints w w.heap.size A1 l) (h2 : Ints w w.heap.size A2 l) (hg : Bx w g (.slice A2 l.length c2)) (hr : w.cell? ⟨gr, 0, none⟩ = some (.slice A1 l.length c1)) (hm : 0 < m) :
    Calls Tryd.prog 45 #[.slice (some ⟨gr, 0, none⟩) m cr, .func (.func 40) #[] #[.pointer (some ⟨g, 0, none⟩)]] w fun e w' => e = .returned (.int .i64 0) ∧ Below w.heap.size w w' := by
  have HC := Lib.hid (impl_IsCover1_any A1 A2 c1 c2 g l w h1 h2 hg)
  have hm0 : (0 : Int) < (m : Int) := by omega
  clear h1 h2 hg
  go_enter Tryd.func45, Tryd.ntmps45
  go_wp2_with fail
  go_loopw [8] (fun i wr => i = .int .i64 0 ∧ w = wr) (fun _ _ => 0)
  case atStart => exact ⟨rfl, rfl⟩
  case round =>
    obtain ⟨rfl, rfl⟩ := hrel
    go_wp2_with fail
    refine HC.out.mono ?_
    rintro e w2 ⟨rfl, hb⟩
    go_wp2_with fail
    go_ret
    exact ⟨rfl, hb⟩

set_option maxRecDepth 100000 in
set_option maxHeartbeats 1000000 in
theorem slices_ContainsFuncC_any (A1 A2 : Option Addr) (c1 c2 g gr m cr : Nat) (l : List Int) (w : World) (h1 : Ints w w.heap.size A1 l) (h2 : Ints w w.heap.size A2 l) (hg : Bx w g (.slice A2 l.length c2)) (hr : w.cell? ⟨gr, 0, none⟩ = some (.slice A1 l.length c1)) (hm : 0 < m) :
    Calls Tryd.prog 39 #[.slice (some ⟨gr, 0, none⟩) m cr, .func (.func 40) #[] #[.pointer (some ⟨g, 0, none⟩)]] w fun e w' => e = .returned (.bool true) ∧ Below w.heap.size w w' := by
  have HC := Lib.hid (slices_IndexFuncC_any A1 A2 c1 c2 g gr m cr l w h1 h2 hg hr hm)
  clear h1 h2 hg hr hm
  go_enter Tryd.func39, Tryd.ntmps39
  go_wp2_with fail
  refine HC.out.mono ?_
  rintro e w2 ⟨rfl, hb⟩
  go_wp2_with fail
  go_ret
  exact ⟨rfl, hb⟩

set_option maxRecDepth 100000 in
set_option maxHeartbeats 1000000 in
theorem impl_IsCover_first (A A2 : Option Addr) (cap c2 : Nat) (xs : List Int) (n : Nat) (cs : List Nat) (rest : List (List Nat)) (w : World) (hA : Ints w w.heap.size A xs) (hL : Ints w w.heap.size A2 (castN cs)) (hp : patB xs = true) (hn : n ≤ 24) (hD : DeB w) (hc : covN xs n = cs :: rest) :
    Calls Tryd.prog 27 #[.slice A xs.length cap, .int .i64 n, .slice A2 (castN cs).length c2] w fun e w' => e = .returned (.bool true) ∧ Below w.heap.size w w' := by
  have hb := (Below.refl w.heap.size w).alloc (Nat.le_refl _) (.cells #[.slice A2 (castN cs).length c2] 22)
  have hx := Bx.new w (.slice A2 (castN cs).length c2) 22
  have hL2 := hL.lift hb
  have hA2 := hA.lift hb
  have hD2 := hD.below hb
  have HB := Lib.hid hb
  have HX := Lib.hid hx
  have HL := Lib.hid hL2
  have HPO := impl_PatternOk_any A cap xs _ hA2
  rw [hp] at HPO
  have HPO := Lib.hid HPO
  have hin : inB (n : Int) 0 24 = true := inB_iff.2 (by omega)
  have HCV := Lib.hid (impl_covers_any A cap xs n _ hA2 hp hn hD2)
  rw [hc] at HCV
  clear hA hL hD hb hx hL2 hA2 hD2 hc
  go_enter Tryd.func27, Tryd.ntmps27
  go_wp2_with fail
  generalize w.alloc (.cells #[.slice A2 (castN cs).length c2] 22) = w1 at *
  refine HPO.out.mono ?_
  rintro e w' ⟨rfl, hw'⟩
  obtain rfl := hw'
  go_wp2_with (go_at_call 16; refine (within_any _ _ _ _).mono ?_; rintro e w' ⟨rfl, rfl⟩)
  refine HCV.out.mono ?_
  rintro e w2 ⟨v2, rs, rfl, hown2, hkey, hb2⟩
  obtain ⟨A3, c3, rfl⟩ := hown2.form
  have hlen : 0 < rs.length := by
    have := congrArg List.length hkey
    rw [List.length_map, List.length_map] at this
    simp at this
    omega
  obtain ⟨g3, rfl, _, _, hcell⟩ := hown2.cells hlen
  have hc0 := hcell 0 hlen
  have hr0 := (hown2.2 _ (List.getElem_mem hlen)).2.1
  have hx0 : rs[0].xs = castN cs := by
    have := congrArg (fun L => L[0]?) hkey
    simp only [List.getElem?_map, List.getElem?_eq_getElem hlen, Option.map_some, List.map_cons, List.getElem?_cons_zero, Option.some.injEq] at this
    exact this
  unfold SV.slc at hc0
  rw [hx0] at hc0 hr0
  have HCF := Lib.hid (slices_ContainsFuncC_any rs[0].A A2 rs[0].c c2 w.heap.size g3 rs.length c3 (castN cs) w2 hr0 (HL.out.lift hb2) (HX.out.lift hb2) hc0 hlen)
  have HB := Lib.hid (HB.out.trans (hb2.mono HB.out.size))
  clear hown2 hkey hb2 hcell hc0 hr0 hx0 hlen
  go_wp2_with fail
  refine HCF.out.mono ?_
  rintro e w3 ⟨rfl, hb3⟩
  go_wp2_with fail
  go_ret
  exact ⟨rfl, HB.out.trans (hb3.mono HB.out.size)⟩

end Go.Proofs.YtoofkchhjkhdeaaDoor
