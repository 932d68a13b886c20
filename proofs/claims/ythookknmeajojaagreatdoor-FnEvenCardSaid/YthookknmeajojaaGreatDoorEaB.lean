/-
  Several texts of this proof in one: Tab, Win, AllD, FulT, FirT.
-/
import Derived.Test.YthookknmeajojaaGreatDoorIntW
import Derived.Laws.MakeOwn
import Derived.Laws.NewBlocks
import Derived.Test.YthookknmeajojaaGreatDoorStr
import Derived.Test.YthookknmeajojaaGreatDoorEaA
namespace Go.Proofs.YthookknmeajojaaGreatDoor
open Go.RowKit
set_option linter.unusedVariables false
set_option linter.unusedSimpArgs false

/-- Cells 0 .. N-1 of block b hold f, and may be written. -/
def Tab (w : World) (b N : Nat) (f : Nat → Int) : Prop :=
  b < w.heap.size ∧ ∀ t, t < N → w.cell? ⟨b, t, none⟩ = some (.int .i64 (f t)) ∧ w.frozen? ⟨b, t, none⟩ = false

section
variable {w w' : World} {b N : Nat} {f g : Nat → Int}
theorem Tab.get (h : Tab w b N f) {t : Nat} (ht : t < N) {v : Int} (hv : f t = v) : w.cell? ⟨b, t, none⟩ = some (.int .i64 v) := by rw [← hv]; exact (h.2 t ht).1
theorem Tab.frz (h : Tab w b N f) {t : Nat} (ht : t < N) : w.frozen? ⟨b, t, none⟩ = false := (h.2 t ht).2
theorem Tab.below {B : Nat} (h : Tab w b N f) (hb : Below B w w') (hB : b < B) : Tab w' b N f :=
  ⟨Nat.lt_of_lt_of_le h.1 hb.size, fun t ht => ⟨(hb.cell (p := ⟨b, t, none⟩) hB).trans (h.2 t ht).1, (hb.frozen (p := ⟨b, t, none⟩) hB).trans (h.2 t ht).2⟩⟩
theorem Tab.alloc (h : Tab w b N f) (o : Obj) : Tab (w.alloc o) b N f := h.below ((Below.refl _ _).alloc (Nat.le_refl _) o) h.1
theorem Tab.drew (h : Tab w b N f) : Tab w.drew b N f := h
theorem Tab.congr (h : Tab w b N f) (hfg : ∀ t, t < N → f t = g t) : Tab w b N g := ⟨h.1, fun t ht => ⟨by rw [← hfg t ht]; exact (h.2 t ht).1, (h.2 t ht).2⟩⟩
theorem Tab.far (h : Tab w b N f) {p : Addr} (hp : b ≠ p.block) (u : Value) : Tab (w.setCell p u) b N f := by
  have hh : (w.setCell p u).heap[b]? = w.heap[b]? := Below.heap_setCell w p u b hp
  refine ⟨by simpa [World.setCell] using h.1, fun t ht => ⟨?_, ?_⟩⟩
  · rw [World.cell?_of_block (w := w) (w' := w.setCell p u) (a := ⟨b, t, none⟩) hh]; exact (h.2 t ht).1
  · rw [World.frozen?_of_block (w := w) (w' := w.setCell p u) (a := ⟨b, t, none⟩) hh]; exact (h.2 t ht).2
theorem Tab.set_ (h : Tab w b N f) (j : Nat) (u : Int) (hj : j < N) (hu : g j = u) (hg : ∀ t, t < N → t ≠ j → g t = f t) : Tab (w.setCell ⟨b, j, none⟩ (.int .i64 u)) b N g := by
  refine ⟨by simpa [World.setCell] using h.1, fun t ht => ⟨?_, ?_⟩⟩
  · by_cases e : t = j
    · subst e
      rw [World.cell?_setCell_same w _ _ (h.2 t ht).1, hu]
    · rw [World.cell?_setCell_other w _ _ _ (fun q => e (by injection q; omega)), (h.2 t ht).1, hg t ht e]
  · rw [World.frozen?_setCell]; exact (h.2 t ht).2

theorem tab_made (w : World) (N : Nat) (e : TypeId) : Tab (w.alloc (.cells (madeCells #[.int .i64 0] N) e)) w.heap.size N (fun _ => 0) := by
  have hh : (w.alloc (.cells (madeCells #[.int .i64 0] N) e)).heap[w.heap.size]? = some (.cells (madeCells #[.int .i64 0] N) e (0, 0)) := heap_alloc_new w _
  refine ⟨by simp, fun t ht => ⟨?_, frozen_of_row _ _ _ _ _ hh⟩⟩
  rw [cell_of_row _ _ _ _ _ _ hh, ← Array.getElem?_toList, toList_madeCells_one]
  simp [ht]
end

theorem run_make_ints {P : Program} (t e : TypeId) (i : TypeInfo) (ht : P.underlying t = some (.slice e)) (hi : P.info? e = some i) (hz : i.zero = some (.int .i64 0)) (hsz : i.size = 1) (hby : i.bytes = 8)
    (n : Nat) (hn : n ≤ 16777216) (w : World) :
    (Instr.makeSlice t (.int .i64 (n : Int)) (.int .i64 (n : Int))).run P w = .ok (.slice (some ⟨w.heap.size, 0, none⟩) n n) (w.alloc (.cells (madeCells #[.int .i64 0] n) e)) := by
  have hr := run_make (P := P) w t e i _ ht hi hz .i64 .i64 n n (by omega) (by omega) (by rw [hby]; omega) (by omega)
  simp only [Int.toNat_natCast, hsz, Nat.mul_one] at hr
  exact hr

theorem Tryz.infoInt : (Tryz.prog.info? 3).map (fun i => (i.zero, i.size, i.bytes)) = some (some (.int .i64 0), 1, 8) := by kernel_rfl

theorem run_make_int (n : Nat) (hn : n ≤ 16777216) (w : World) :
    (Instr.makeSlice 24 (.int .i64 (n : Int)) (.int .i64 (n : Int))).run Tryz.prog w = .ok (.slice (some ⟨w.heap.size, 0, none⟩) n n) (w.alloc (.cells (madeCells #[.int .i64 0] n) 3)) := by
  obtain ⟨i, hi, hz, hs, hb⟩ := info_parts Tryz.infoInt
  exact run_make_ints _ _ i Tryz.underlying24 hi hz hs hb n hn w

theorem box2 {w w1 : World} {u v : Value} {t : TypeId} (h : Below (w.heap.size + 1) (w.alloc (.cells #[u, v] t)) w1) : w1.cell? ⟨w.heap.size, 0, none⟩ = some u ∧ w1.cell? ⟨w.heap.size, 1, none⟩ = some v :=
  ⟨(h.cell (p := ⟨w.heap.size, 0, none⟩) (Nat.lt_succ_self _)).trans (by rw [cell_of_row _ _ _ _ _ _ (heap_alloc_new w _)]; rfl), (h.cell (p := ⟨w.heap.size, 1, none⟩) (Nat.lt_succ_self _)).trans (by rw [cell_of_row _ _ _ _ _ _ (heap_alloc_new w _)]; rfl)⟩

end Go.Proofs.YthookknmeajojaaGreatDoor

namespace Go.Proofs.YthookknmeajojaaGreatDoor
open Go.RowKit
set_option linter.unusedVariables false
set_option linter.unusedSimpArgs false

def hasB (xs : List Int) (x : Int) : Bool := decide (x ∈ xs)
theorem hasB_yes {xs : List Int} {x : Int} {i : Nat} (hi : i < xs.length) (h : xs.getD i 0 = x) : hasB xs x = true := by
  unfold hasB
  rw [decide_eq_true_eq, ← h, List.getD_eq_getElem?_getD, List.getElem?_eq_getElem hi]
  exact List.getElem_mem hi
theorem hasB_no {xs : List Int} {x : Int} (h : ∀ i, i < xs.length → xs.getD i 0 ≠ x) : hasB xs x = false := by
  unfold hasB
  rw [decide_eq_false_iff_not]
  intro hm
  obtain ⟨i, hi, he⟩ := List.getElem_of_mem hm
  refine h i hi ?_
  rw [List.getD_eq_getElem?_getD, List.getElem?_eq_getElem hi]
  exact he

set_option maxHeartbeats 400000 in
theorem spec_l02Has_any (A : Option Addr) (cap : Nat) (xs : List Int) (x : Int) (w : World) (B : Nat) (hA : Ints w B A xs) :
    Calls Tryz.prog 127 #[.slice A xs.length cap, .int .i64 x] w fun e w' => e = .returned (.bool (hasB xs x)) ∧ w = w' := by
  obtain ⟨hlen, hfit, hcells⟩ := hA
  unfold maxLen at hlen
  have HC := Lib.hid hcells
  clear hfit hcells
  go_enter Tryz.func127, Tryz.ntmps127
  go_wp2
  go_loop [9] (fun i => ∃ k : Nat, k ≤ xs.length ∧ i = .int .i64 k ∧ ∀ j, j < k → xs.getD j 0 ≠ x) (fun i => xs.length - (intOf i).toNat)
  case atStart => exact ⟨0, Nat.zero_le _, rfl, fun j h => by omega⟩
  case round =>
    obtain ⟨k, hk, rfl, hno⟩ := hrel
    have HNO := Lib.hid hno
    clear hno
    by_cases hlt : k < xs.length
    · obtain ⟨b, off, rfl, hB, hc⟩ := HC.out (by omega)
      have hcell := hc k hlt
      obtain ⟨y, hy⟩ : ∃ y, xs.getD k 0 = y := ⟨_, rfl⟩
      rw [hy] at hcell
      have HY := Lib.hid hy
      clear hy hc
      by_cases hxy : x = y
      · have hb : (x == y) = true := beq_iff_eq.2 hxy
        have HF := Lib.hid (hasB_yes hlt (HY.out.trans hxy.symm))
        clear hxy
        go_wp2
        go_ret
        exact ⟨ret_bool HF.out.symm, rfl⟩
      · have hb : (x == y) = false := beq_eq_false_iff_ne.2 hxy
        have HX := Lib.hid hxy
        clear hxy
        go_wp2
        go_round
        case rel =>
          refine ⟨k + 1, by omega, by go_num, fun j hj => ?_⟩
          by_cases e : j = k
          · subst e; rw [HY.out]; exact fun h => HX.out h.symm
          · exact HNO.out j (by omega)
        case measure => simp [intOf]; omega
    · have HF := Lib.hid (hasB_no (fun i hi => HNO.out i (by omega)))
      go_wp2
      go_ret
      exact ⟨ret_bool HF.out.symm, rfl⟩

theorem Calls.quiet_of_left {P : Program} {f : FuncId} {args : Array Value} {w : World} {n : Nat} {v : Value}
    (h : Calls P f args (w.drewN n) fun e w' => e = .returned v ∧ w.drewN n = w') : Calls P f args (w.drewN n) fun e w'' => e = .returned v ∧ ∃ m, w'' = w.drewN m :=
  h.mono fun _ _ ⟨he, hm⟩ => ⟨he, n, hm.symm⟩

/-- The window of k pulses that begins on p. -/
def winL (n : Int) (bs : List Int) (p k : Nat) : List UInt8 := (List.range k).map fun i => if hasB bs (((p + i : Nat) : Int) % n) then 120 else 46
theorem winL_zero (n : Int) (bs : List Int) (p : Nat) : winL n bs p 0 = [] := rfl
theorem winL_succ (n : Int) (bs : List Int) (p k : Nat) : winL n bs p (k + 1) = winL n bs p k ++ [if hasB bs (((p + k : Nat) : Int) % n) then 120 else 46] := by simp [winL, List.range_succ]
theorem winL_len (n : Int) (bs : List Int) (p k : Nat) : (winL n bs p k).length = k := by simp [winL]

end Go.Proofs.YthookknmeajojaaGreatDoor

namespace Go.Proofs.YthookknmeajojaaGreatDoor
set_option linter.unusedVariables false
set_option linter.unusedSimpArgs false

/-- The order of texts, behind a name. -/
def ltL (a b : List UInt8) : Bool := decide (a < b)
theorem ltL_irrefl (a : List UInt8) : ltL a a = false := by
  unfold ltL; rw [decide_eq_false_iff_not]; exact List.lt_irrefl a
theorem ltL_trans {a b c : List UInt8} (h : ltL a b = true) (h' : ltL b c = true) : ltL a c = true := by
  unfold ltL at *; rw [decide_eq_true_eq] at *; exact List.lt_trans h h'
theorem ltL_tri {a b : List UInt8} (h : ltL a b = false) (hne : a ≠ b) : ltL b a = true := by
  unfold ltL at *; rw [decide_eq_false_iff_not] at h; rw [decide_eq_true_eq]
  rcases Std.lt_trichotomy a b with h1 | h1 | h1
  · exact absurd h1 h
  · exact absurd h1 hne
  · exact h1

/-- From last to first, each once. -/
def DescL (l : List (List UInt8)) : Prop := l.Pairwise (fun a b => ltL b a = true)
theorem DescL.nodup {l : List (List UInt8)} (h : DescL l) : l.Nodup :=
  List.Pairwise.imp (fun {a b} hab e => by subst e; rw [ltL_irrefl] at hab; cases hab) h

/-- Two such lists with the same members are one. -/
theorem DescL.unique : ∀ {l m : List (List UInt8)}, DescL l → DescL m → (∀ x, x ∈ l ↔ x ∈ m) → l = m
  | [], [], _, _, _ => rfl
  | [], y :: m, _, _, h => by have := (h y).2 (by simp); cases this
  | x :: l, [], _, _, h => by have := (h x).1 (by simp); cases this
  | x :: l, y :: m, hl, hm, h => by
    have hl' := List.pairwise_cons.1 hl
    have hm' := List.pairwise_cons.1 hm
    have hxy : x = y := by
      apply Classical.byContradiction
      intro hne
      have h1 : x ∈ m := by
        rcases List.mem_cons.1 ((h x).1 (by simp)) with e | e
        · exact absurd e hne
        · exact e
      have h2 : y ∈ l := by
        rcases List.mem_cons.1 ((h y).2 (by simp)) with e | e
        · exact absurd e.symm hne
        · exact e
      have := ltL_trans (hl'.1 y h2) (hm'.1 x h1)
      rw [ltL_irrefl] at this
      cases this
    subst hxy
    have hxl : ∀ z ∈ l, z ≠ x := fun z hz e => by subst e; have := hl'.1 _ hz; rw [ltL_irrefl] at this; cases this
    have hxm : ∀ z ∈ m, z ≠ x := fun z hz e => by subst e; have := hm'.1 _ hz; rw [ltL_irrefl] at this; cases this
    rw [DescL.unique hl'.2 hm'.2 (fun z => ⟨fun hz => by
      rcases List.mem_cons.1 ((h z).1 (by simp [hz])) with e | e
      · exact absurd e (hxl z hz)
      · exact e, fun hz => by
      rcases List.mem_cons.1 ((h z).2 (by simp [hz])) with e | e
      · exact absurd e (hxm z hz)
      · exact e⟩)]

/-- Where a text belongs: behind those that are later. -/
def posD (w : List UInt8) : List (List UInt8) → Nat
  | [] => 0
  | x :: l => if ltL w x then posD w l + 1 else 0
theorem posD_le (w : List UInt8) : ∀ l, posD w l ≤ l.length
  | [] => Nat.le_refl _
  | x :: l => by unfold posD; split <;> simp [posD_le w l]
theorem posD_before (w : List UInt8) : ∀ (l : List (List UInt8)) i, i < posD w l → ltL w (l.getD i []) = true
  | [], i, h => by simp [posD] at h
  | x :: l, i, h => by
    unfold posD at h
    split at h
    · cases i with
      | zero => simpa
      | succ i => simpa using posD_before w l i (by omega)
    · omega
theorem posD_here (w : List UInt8) : ∀ (l : List (List UInt8)), posD w l < l.length → ltL w (l.getD (posD w l) []) = false
  | [], h => by simp [posD] at h
  | x :: l, h => by
    unfold posD at h ⊢
    split
    · rename_i hx
      rw [if_pos hx] at h
      simpa using posD_here w l (by simpa using h)
    · rename_i hx
      simpa using hx
theorem posD_unique (w : List UInt8) : ∀ (l : List (List UInt8)) k, k ≤ l.length → (∀ i, i < k → ltL w (l.getD i []) = true) → (k < l.length → ltL w (l.getD k []) = false) → posD w l = k
  | [], k, h, _, _ => by simp at h; simp [posD, h]
  | x :: l, 0, _, _, h => by
    have := h (by simp)
    simp at this
    simp [posD, this]
  | x :: l, k + 1, h, h1, h2 => by
    have h0 := h1 0 (by omega)
    simp at h0
    unfold posD
    rw [if_pos h0, posD_unique w l k (by simpa using h) (fun i hi => by simpa using h1 (i + 1) (by omega)) (fun hk => by simpa using h2 (by simpa using hk))]

def insD (w : List UInt8) (l : List (List UInt8)) : List (List UInt8) :=
  if posD w l < l.length ∧ l.getD (posD w l) [] = w then l else l.take (posD w l) ++ [w] ++ l.drop (posD w l)
theorem insD_cons_lt {w x : List UInt8} {l : List (List UInt8)} (h : ltL w x = true) : insD w (x :: l) = x :: insD w l := by
  unfold insD
  have e : posD w (x :: l) = posD w l + 1 := by rw [posD, if_pos h]
  rw [e]
  by_cases hc : posD w l < l.length ∧ l.getD (posD w l) [] = w
  · rw [if_pos hc, if_pos ⟨by simpa using hc.1, by simpa using hc.2⟩]
  · rw [if_neg hc, if_neg (fun hh => hc ⟨by simpa using hh.1, by simpa using hh.2⟩)]
    simp
theorem insD_mem (w : List UInt8) : ∀ (l : List (List UInt8)) x, x ∈ insD w l ↔ x = w ∨ x ∈ l := by
  intro l x
  unfold insD
  split
  · rename_i h
    constructor
    · exact .inr
    · rintro (rfl | h')
      · rw [← h.2, List.getD_eq_getElem?_getD, List.getElem?_eq_getElem h.1]
        exact List.getElem_mem h.1
      · exact h'
  · conv => rhs; rw [← List.take_append_drop (posD w l) l]
    simp only [List.mem_append, List.mem_singleton]
    constructor
    · rintro ((h | h) | h)
      · exact .inr (.inl h)
      · exact .inl h
      · exact .inr (.inr h)
    · rintro (h | h | h)
      · exact .inl (.inr h)
      · exact .inl (.inl h)
      · exact .inr h
theorem insD_desc (w : List UInt8) : ∀ (l : List (List UInt8)), DescL l → DescL (insD w l)
  | [], _ => by simp [insD, posD, DescL]
  | x :: l, h => by
    have h' := List.pairwise_cons.1 h
    by_cases hx : ltL w x = true
    · rw [insD_cons_lt hx]
      refine List.pairwise_cons.2 ⟨fun y hy => ?_, insD_desc w l h'.2⟩
      rcases (insD_mem w l y).1 hy with rfl | hy
      · exact hx
      · exact h'.1 y hy
    · have hx' : ltL w x = false := by simpa using hx
      have e : posD w (x :: l) = 0 := by rw [posD, if_neg hx]
      unfold insD
      rw [e]
      by_cases hc : x = w
      · rw [if_pos ⟨by simp, by simpa using hc⟩]; exact h
      · rw [if_neg (fun hh => hc (by simpa using hh.2))]
        have hw := ltL_tri hx' (fun e => hc e.symm)
        refine List.pairwise_cons.2 ⟨fun y hy => ?_, h⟩
        rcases List.mem_cons.1 hy with rfl | hy
        · exact hw
        · exact ltL_trans (h'.1 y hy) hw

/-- The different windows, from last to first. -/
def allD (n : Int) (bs : List Int) (k : Nat) : Nat → List (List UInt8)
  | 0 => []
  | p + 1 => insD (winL n bs p k) (allD n bs k p)
theorem allD_mem (n : Int) (bs : List Int) (k : Nat) : ∀ m x, x ∈ allD n bs k m ↔ ∃ p, p < m ∧ winL n bs p k = x
  | 0, x => by simp [allD]
  | m + 1, x => by
    unfold allD
    rw [insD_mem, allD_mem n bs k m]
    constructor
    · rintro (rfl | ⟨p, hp, rfl⟩)
      · exact ⟨m, by omega, rfl⟩
      · exact ⟨p, by omega, rfl⟩
    · rintro ⟨p, hp, rfl⟩
      by_cases h : p = m
      · subst h; exact .inl rfl
      · exact .inr ⟨p, by omega, rfl⟩
theorem allD_desc (n : Int) (bs : List Int) (k : Nat) : ∀ m, DescL (allD n bs k m)
  | 0 => List.Pairwise.nil
  | m + 1 => insD_desc _ _ (allD_desc n bs k m)
theorem allD_len (n : Int) (bs : List Int) (k : Nat) : ∀ m, (allD n bs k m).length ≤ m
  | 0 => Nat.le_refl _
  | m + 1 => by
    have := allD_len n bs k m
    unfold allD insD
    split
    · omega
    · simp; omega

theorem nodup_leG {α : Type} [DecidableEq α] : ∀ (l m : List α), l.Nodup → (∀ x ∈ l, x ∈ m) → l.length ≤ m.length
  | [], _, _, _ => Nat.zero_le _
  | x :: l, m, hn, hs => by
    have hx : x ∈ m := hs x (by simp)
    have hn' := List.nodup_cons.1 hn
    have := nodup_leG l (m.erase x) hn'.2 (fun y hy => (List.mem_erase_of_ne (fun e => hn'.1 (by subst e; exact hy))).2 (hs y (by simp [hy])))
    rw [List.length_erase_of_mem hx] at this
    have hpos : 0 < m.length := List.length_pos_of_mem hx
    simp only [List.length_cons]
    omega

theorem allD_full (n : Int) (bs : List Int) (k m : Nat) : (allD n bs k m).length = m ↔ ∀ p q, p < m → q < m → winL n bs p k = winL n bs q k → p = q := by
  constructor
  · intro h p q hp hq e
    apply Classical.byContradiction
    intro hne
    have := nodup_leG (allD n bs k m) (((List.range m).erase q).map (fun p => winL n bs p k)) (allD_desc n bs k m).nodup (fun v hv => by
      obtain ⟨r, hr, rfl⟩ := (allD_mem n bs k m v).1 hv
      by_cases hrq : r = q
      · subst hrq
        exact List.mem_map.2 ⟨p, (List.mem_erase_of_ne hne).2 (List.mem_range.2 hp), e⟩
      · exact List.mem_map.2 ⟨r, (List.mem_erase_of_ne hrq).2 (List.mem_range.2 hr), rfl⟩)
    rw [List.length_map, List.length_erase_of_mem (List.mem_range.2 hq), List.length_range] at this
    omega
  · intro h
    have h1 := allD_len n bs k m
    have h2 := nodup_leG ((List.range m).map (fun p => winL n bs p k)) (allD n bs k m) (by
      rw [List.Nodup, List.pairwise_map]
      exact List.Pairwise.imp_of_mem (fun {a b} ha hb' hne e => hne (h a b (List.mem_range.1 ha) (List.mem_range.1 hb') e)) List.nodup_range) (fun x hx => by
      obtain ⟨p, hp, rfl⟩ := List.mem_map.1 hx
      exact (allD_mem n bs k m _).2 ⟨p, List.mem_range.1 hp, rfl⟩)
    simp at h2
    omega

theorem winL_ext (n : Int) (bs : List Int) (p q k : Nat) : winL n bs p k = winL n bs q k ↔ ∀ i, i < k → hasB bs (((p + i : Nat) : Int) % n) = hasB bs (((q + i : Nat) : Int) % n) := by
  unfold winL
  constructor
  · intro h i hi
    have := congrArg (fun l => l[i]?) h
    simp only [List.getElem?_map, List.getElem?_range hi, Option.map_some, Option.some.injEq] at this
    cases h1 : hasB bs (((p + i : Nat) : Int) % n) <;> cases h2 : hasB bs (((q + i : Nat) : Int) % n) <;> rw [h1, h2] at this <;> first | rfl | (exfalso; revert this; decide)
  · intro h
    apply List.map_congr_left
    intro i hi
    rw [h i (List.mem_range.1 hi)]

end Go.Proofs.YthookknmeajojaaGreatDoor

namespace Go.Proofs.YthookknmeajojaaGreatDoor
set_option linter.unusedVariables false
set_option linter.unusedSimpArgs false

/-- The code of a list of beats. -/
def codeN (n : Int) : List Int → Nat → Nat
  | bs, 0 => 0
  | bs, j + 1 => codeN n bs j ||| 2 ^ (n - 1 - bs.getD j 0).toNat
theorem codeN_bit (n : Int) (bs : List Int) : ∀ j b, (codeN n bs j).testBit b = true ↔ ∃ i, i < j ∧ (n - 1 - bs.getD i 0).toNat = b
  | 0, b => by simp [codeN]
  | j + 1, b => by
    unfold codeN
    rw [Nat.testBit_or, Bool.or_eq_true, codeN_bit n bs j b, Nat.testBit_two_pow]
    simp only [decide_eq_true_eq]
    constructor
    · rintro (⟨i, hi, e⟩ | e)
      · exact ⟨i, by omega, e⟩
      · exact ⟨j, by omega, e⟩
    · rintro ⟨i, hi, e⟩
      by_cases h : i = j
      · subst h; exact .inr e
      · exact .inl ⟨i, by omega, e⟩
theorem codeN_lt (n : Int) (bs : List Int) (h0 : 0 < n) (hb : ∀ i, i < bs.length → 0 ≤ bs.getD i 0 ∧ bs.getD i 0 < n) : ∀ j, j ≤ bs.length → codeN n bs j < 2 ^ n.toNat
  | 0, _ => Nat.two_pow_pos _
  | j + 1, h => Nat.or_lt_two_pow (codeN_lt n bs h0 hb j (by omega)) (Nat.pow_lt_pow_right (by omega) (by have := hb j (by omega); omega))
theorem codeN_has (n : Int) (bs : List Int) (h0 : 0 < n) (hb : ∀ i, i < bs.length → 0 ≤ bs.getD i 0 ∧ bs.getD i 0 < n) (b : Nat) (hbn : (b : Int) < n) : (codeN n bs bs.length).testBit b = hasB bs (n - 1 - b) := by
  rw [Bool.eq_iff_iff, codeN_bit]
  unfold hasB
  rw [decide_eq_true_eq]
  constructor
  · rintro ⟨i, hi, e⟩
    have := hb i hi
    have e2 : n - 1 - (b : Int) = bs.getD i 0 := by omega
    rw [e2, List.getD_eq_getElem?_getD, List.getElem?_eq_getElem hi]
    exact List.getElem_mem hi
  · intro hm
    obtain ⟨i, hi, he⟩ := List.getElem_of_mem hm
    refine ⟨i, hi, ?_⟩
    rw [List.getD_eq_getElem?_getD, List.getElem?_eq_getElem hi]
    simp only [Option.getD_some]
    omega

/-- Where the window of a code lies in the bar. -/
def turnW (S k p : Nat) : Nat := (2 * S - k - p) % S
theorem turnW_at (k S p j : Nat) (hk : (k = 1 ∧ S = 2) ∨ (k = 2 ∧ S = 4) ∨ (k = 3 ∧ S = 8) ∨ (k = 4 ∧ S = 16)) (hp : p < S) (hj : j < k) : (turnW S k p + (k - 1 - j)) % S = S - 1 - (p + j) % S := by
  unfold turnW
  rcases hk with ⟨rfl, rfl⟩ | ⟨rfl, rfl⟩ | ⟨rfl, rfl⟩ | ⟨rfl, rfl⟩ <;> omega
theorem turnW_lt (k S p : Nat) (hk : (k = 1 ∧ S = 2) ∨ (k = 2 ∧ S = 4) ∨ (k = 3 ∧ S = 8) ∨ (k = 4 ∧ S = 16)) : turnW S k p < S := by
  unfold turnW
  rcases hk with ⟨rfl, rfl⟩ | ⟨rfl, rfl⟩ | ⟨rfl, rfl⟩ | ⟨rfl, rfl⟩ <;> omega
theorem turnW_twice (k S p : Nat) (hk : (k = 1 ∧ S = 2) ∨ (k = 2 ∧ S = 4) ∨ (k = 3 ∧ S = 8) ∨ (k = 4 ∧ S = 16)) (hp : p < S) : turnW S k (turnW S k p) = p := by
  unfold turnW
  rcases hk with ⟨rfl, rfl⟩ | ⟨rfl, rfl⟩ | ⟨rfl, rfl⟩ | ⟨rfl, rfl⟩ <;> omega

theorem win_turn (k S : Nat) (bs : List Int) (hk : (k = 1 ∧ S = 2) ∨ (k = 2 ∧ S = 4) ∨ (k = 3 ∧ S = 8) ∨ (k = 4 ∧ S = 16)) (hb : ∀ i, i < bs.length → 0 ≤ bs.getD i 0 ∧ bs.getD i 0 < (S : Int)) (p q : Nat) (hp : p < S) (hq : q < S) :
    winV S (codeN S bs bs.length) p = winV S (codeN S bs bs.length) q ↔ winL S bs (turnW S k p) k = winL S bs (turnW S k q) k := by
  have hS0 : 0 < S := by rcases hk with ⟨_, rfl⟩ | ⟨_, rfl⟩ | ⟨_, rfl⟩ | ⟨_, rfl⟩ <;> omega
  have hS : S = 2 ^ k := by rcases hk with ⟨rfl, rfl⟩ | ⟨rfl, rfl⟩ | ⟨rfl, rfl⟩ | ⟨rfl, rfl⟩ <;> rfl
  have hlt := codeN_lt (S : Int) bs (by omega) hb bs.length (Nat.le_refl _)
  rw [Int.toNat_natCast] at hlt
  rw [winV_ext k S _ p q hS hlt hp hq, winL_ext]
  have hc : ∀ r j, r < S → j < k → (codeN S bs bs.length).testBit ((r + j) % S) = hasB bs (((turnW S k r + (k - 1 - j) : Nat) : Int) % (S : Int)) := by
    intro r j hr hj
    have h1 : (r + j) % S < S := Nat.mod_lt _ hS0
    rw [codeN_has (S : Int) bs (by omega) hb _ (by omega), ← Int.natCast_emod, turnW_at k S r j hk hr hj]
    congr 1
    omega
  constructor
  · intro h i hi
    have := h (k - 1 - i) (by omega)
    rwa [hc p _ hp (by omega), hc q _ hq (by omega), show k - 1 - (k - 1 - i) = i by omega] at this
  · intro h j hj
    rw [hc p j hp hj, hc q j hq hj]
    exact h _ (by omega)

/-- As many windows as pulses: the code is full. -/
theorem full_iff (k S : Nat) (bs : List Int) (hk : (k = 1 ∧ S = 2) ∨ (k = 2 ∧ S = 4) ∨ (k = 3 ∧ S = 8) ∨ (k = 4 ∧ S = 16)) (hb : ∀ i, i < bs.length → 0 ≤ bs.getD i 0 ∧ bs.getD i 0 < (S : Int)) :
    fullB S (codeN S bs bs.length) = decide ((allD S bs k S).length = S) := by
  have hS0 : 0 < S := by rcases hk with ⟨_, rfl⟩ | ⟨_, rfl⟩ | ⟨_, rfl⟩ | ⟨_, rfl⟩ <;> omega
  rw [Bool.eq_iff_iff, decide_eq_true_eq, fullB_inj S _ hS0, allD_full]
  constructor
  · intro h p q hp hq e
    have h1 := turnW_lt k S p hk
    have h2 := turnW_lt k S q hk
    have := h (turnW S k p) (turnW S k q) h1 h2 ((win_turn k S bs hk hb _ _ h1 h2).2 (by rw [turnW_twice k S p hk hp, turnW_twice k S q hk hq]; exact e))
    rw [← turnW_twice k S p hk hp, this, turnW_twice k S q hk hq]
  · intro h p q hp hq e
    have h1 := turnW_lt k S p hk
    have h2 := turnW_lt k S q hk
    have := h _ _ h1 h2 ((win_turn k S bs hk hb p q hp hq).1 e)
    rw [← turnW_twice k S p hk hp, this, turnW_twice k S q hk hq]

end Go.Proofs.YthookknmeajojaaGreatDoor

namespace Go.Proofs.YthookknmeajojaaGreatDoor
set_option linter.unusedVariables false
set_option linter.unusedSimpArgs false

/-- No code above c0 is full, c0 is. -/
def topB (S c0 m : Nat) : Bool := (List.range m).all (fun j => !fullB S (c0 + 1 + j)) && fullB S c0
theorem top_spec {S c0 m : Nat} (h : topB S c0 m = true) : fullB S c0 = true ∧ ∀ c, c0 < c → c < c0 + 1 + m → fullB S c = false := by
  unfold topB at h
  rw [Bool.and_eq_true, List.all_eq_true] at h
  refine ⟨h.2, fun c h1 h2 => ?_⟩
  have := h.1 (c - (c0 + 1)) (List.mem_range.2 (by omega))
  rw [show c0 + 1 + (c - (c0 + 1)) = c by omega] at this
  simpa using this
def topC : Nat → Nat
  | 1 => 2
  | 2 => 12
  | 3 => 232
  | _ => 63056
theorem top_1 : topB 2 2 1 = true := by decide +kernel
theorem top_2 : topB 4 12 3 = true := by decide +kernel
theorem top_3 : topB 8 232 23 = true := by decide +kernel
theorem top_4 : topB 16 63056 2479 = true := by decide +kernel

/-- The beats of a code. -/
def bitsB (n c : Nat) (m : Nat) : List Int := ((List.range m).filter (fun p => c.testBit (n - 1 - p))).map Int.ofNat
theorem bitsB_zero (n c : Nat) : bitsB n c 0 = [] := rfl
theorem bitsB_yes {n c m : Nat} (h : c.testBit (n - 1 - m) = true) : bitsB n c (m + 1) = bitsB n c m ++ [(m : Int)] := by
  simp [bitsB, List.range_succ, h]
theorem bitsB_no {n c m : Nat} (h : c.testBit (n - 1 - m) = false) : bitsB n c (m + 1) = bitsB n c m := by
  simp [bitsB, List.range_succ, h]
theorem bitsB_mem {n c m : Nat} {x : Int} : x ∈ bitsB n c m ↔ ∃ p : Nat, p < m ∧ c.testBit (n - 1 - p) = true ∧ x = p := by
  unfold bitsB
  rw [List.mem_map]
  constructor
  · rintro ⟨p, hp, rfl⟩
    rw [List.mem_filter, List.mem_range] at hp
    exact ⟨p, hp.1, hp.2, rfl⟩
  · rintro ⟨p, h1, h2, rfl⟩
    exact ⟨p, by rw [List.mem_filter, List.mem_range]; exact ⟨h1, h2⟩, rfl⟩
theorem bitsB_len (n c m : Nat) : (bitsB n c m).length ≤ m := by
  unfold bitsB
  rw [List.length_map]
  exact Nat.le_trans (List.length_filter_le _ _) (by simp)
theorem bitsB_range (n c m : Nat) : ∀ i, i < (bitsB n c m).length → 0 ≤ (bitsB n c m).getD i 0 ∧ (bitsB n c m).getD i 0 < m := by
  intro i hi
  obtain ⟨p, hp, _, e⟩ := bitsB_mem.1 (show (bitsB n c m).getD i 0 ∈ bitsB n c m by
    rw [List.getD_eq_getElem?_getD, List.getElem?_eq_getElem hi]; exact List.getElem_mem hi)
  rw [e]
  omega
theorem bitsB_sorted (n c : Nat) : ∀ m, (bitsB n c m).Pairwise (fun a b => a < b)
  | 0 => List.Pairwise.nil
  | m + 1 => by
    cases h : c.testBit (n - 1 - m)
    · rw [bitsB_no h]; exact bitsB_sorted n c m
    · rw [bitsB_yes h, List.pairwise_append]
      refine ⟨bitsB_sorted n c m, by simp, fun a ha b hb => ?_⟩
      rw [List.mem_singleton] at hb
      obtain ⟨p, hp, _, rfl⟩ := bitsB_mem.1 ha
      omega
theorem bitsB_ok (n c : Nat) (h1 : 1 ≤ n) (h24 : n ≤ 24) : RhOk n (bitsB n c n) := by
  refine ⟨by omega, by omega, bitsB_range n c n, fun i hi => ?_⟩
  have := List.pairwise_iff_getElem.1 (bitsB_sorted n c n) i (i + 1) (by omega) hi (by omega)
  rw [List.getD_eq_getElem?_getD, List.getElem?_eq_getElem (by omega), List.getD_eq_getElem?_getD, List.getElem?_eq_getElem hi]
  exact this
theorem bitsB_code (n c : Nat) (hc : c < 2 ^ n) (h0 : 0 < n) : codeN n (bitsB n c n) (bitsB n c n).length = c := by
  apply Nat.eq_of_testBit_eq
  intro b
  by_cases hb : b < n
  · rw [codeN_has (n : Int) _ (by omega) (bitsB_range n c n) b (by omega)]
    unfold hasB
    rw [Bool.eq_iff_iff, decide_eq_true_eq, bitsB_mem]
    constructor
    · rintro ⟨p, hp, h, e⟩
      rwa [show n - 1 - p = b by omega] at h
    · intro h
      exact ⟨n - 1 - b, by omega, by rwa [show n - 1 - (n - 1 - b) = b by omega], by omega⟩
  · have h1 := codeN_lt (n : Int) (bitsB n c n) (by omega) (bitsB_range n c n) _ (Nat.le_refl _)
    rw [Int.toNat_natCast] at h1
    have h2 : (2 : Nat) ^ n ≤ 2 ^ b := Nat.pow_le_pow_right (by omega) (by omega)
    rw [Nat.testBit_lt_two_pow (by omega), Nat.testBit_lt_two_pow (by omega)]

end Go.Proofs.YthookknmeajojaaGreatDoor

