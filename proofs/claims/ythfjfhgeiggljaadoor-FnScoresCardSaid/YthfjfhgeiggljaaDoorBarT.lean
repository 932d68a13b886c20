/-
  The letters that a score uses, in plain words.
-/
import Derived.Test.YthfjfhgeiggljaaDoorSrM
import Derived.Test.YthfjfhgeiggljaaDoorScoW
namespace Go.Proofs.YthfjfhgeiggljaaDoor
open Go.Sort
set_option linter.unusedVariables false
set_option linter.unusedSimpArgs false

def abcB : List UInt8 := (List.range 26).map (fun k => UInt8.ofNat (97 + k))
def usedB (s : ByteArray) : List UInt8 := abcB.filter (fun c => decide (c ∈ s.data.toList))
def barV (s : ByteArray) : List UInt8 := match scoreR s with
  | none => []
  | some _ => usedB s
theorem abcB_asc : abcB.Pairwise (fun a b => a.toNat < b.toNat) := by decide +kernel
theorem abcB_mem (c : UInt8) : c ∈ abcB ↔ 97 ≤ c.toNat ∧ c.toNat ≤ 122 := by
  have h : ∀ n : Fin 256, (UInt8.ofNat n.val ∈ abcB ↔ 97 ≤ n.val ∧ n.val ≤ 122) := by decide +kernel
  have h2 := h ⟨c.toNat, c.toNat_lt⟩
  simpa using h2
def asZ (l : List UInt8) : List Int := l.map (fun c => (c.toNat : Int))
theorem asZ_mem {l : List UInt8} {c : UInt8} : (c.toNat : Int) ∈ asZ l ↔ c ∈ l := by
  unfold asZ
  rw [List.mem_map]
  constructor
  · rintro ⟨d, hd, e⟩
    have : d = c := UInt8.toNat_inj.1 (by omega)
    rwa [this] at hd
  · exact fun h => ⟨c, h, rfl⟩
theorem usedB_asc (s : ByteArray) : (asZ (usedB s)).Pairwise (fun a b => a < b) := by
  unfold asZ usedB
  rw [List.pairwise_map]
  exact (abcB_asc.filter _).imp (fun h => by omega)
theorem usedB_mem (s : ByteArray) (c : UInt8) : c ∈ usedB s ↔ (97 ≤ c.toNat ∧ c.toNat ≤ 122) ∧ c ∈ s.data.toList := by
  unfold usedB
  rw [List.mem_filter, abcB_mem, decide_eq_true_eq]
theorem byte_at (s : ByteArray) (c : UInt8) : c ∈ s.data.toList ↔ ∃ j, j < s.size ∧ s.data.toList.getD j 0 = c := by
  constructor
  · intro h
    obtain ⟨j, hj, e⟩ := List.getElem_of_mem h
    exact ⟨j, by simpa using hj, by rw [List.getD_eq_getElem?_getD, List.getElem?_eq_getElem hj]; exact e⟩
  · rintro ⟨j, hj, e⟩
    have hj' : j < s.data.toList.length := by simpa using hj
    rw [List.getD_eq_getElem?_getD, List.getElem?_eq_getElem hj'] at e
    rw [← show s.data.toList[j] = c from e]
    exact List.getElem_mem hj'
theorem chr_getD (s : ByteArray) (j : Nat) (h : j < s.size) : chr s j = ((s.data.toList.getD j 0).toNat : Int) := by rw [chr_at h, getD_byte s j h]
theorem scoreR_mem {s : ByteArray} {p : List Int} {d : Int} (h : scoreR s = some (p, d)) (c : UInt8) : c ∈ letL s p ↔ c ∈ usedB s := by
  rw [usedB_mem, byte_at]
  unfold scoreR at h
  by_cases h60 : s.size ≤ 60
  · rw [if_pos h60] at h
    have hd := (scoreOf_dep h).2
    have hl : ∀ x ∈ p, (0 ≤ x ∧ x < s.size) ∧ isLet (chr s x.toNat) = true := by
      unfold scoreOf at h
      cases hr : rowR (chr s) s.size 3 0 with
      | none => rw [hr] at h; cases h
      | some r =>
        obtain ⟨p', d', e⟩ := r
        rw [hr] at h
        simp only at h
        have hp := rowR_pass (chr s) s.size 3 0 p' d' e (Nat.zero_le _) hr
        by_cases h4 : e < s.size ∨ 500 < p'.length
        · rw [if_pos h4] at h; cases h
        · rw [if_neg h4] at h
          injection h with h
          injection h with e1 e2
          subst e1
          exact hp.2.2.2.2.2.1
    unfold letL
    rw [List.mem_map]
    constructor
    · rintro ⟨x, hx, e⟩
      obtain ⟨⟨h0, h1⟩, h2⟩ := hl x hx
      have hj : x.toNat < s.size := by omega
      rw [chr_getD s _ hj, e, isLet_iff] at h2
      exact ⟨⟨by omega, by omega⟩, x.toNat, hj, e⟩
    · rintro ⟨⟨h1, h2⟩, j, hj, e⟩
      have := hd j hj (by rw [chr_getD s j hj, e, isLet_iff]; omega)
      exact ⟨(j : Int), this, by rw [Int.toNat_natCast]; exact e⟩
  · rw [if_neg h60] at h; cases h
theorem plaV_mem (s : ByteArray) (c : UInt8) : c ∈ plaV s ↔ c ∈ barV s := by
  unfold plaV barV
  cases h : scoreR s with
  | none => simp
  | some r => obtain ⟨p, d⟩ := r; exact scoreR_mem h c
theorem barV_asc (s : ByteArray) : (asZ (barV s)).Pairwise (fun a b => a < b) := by
  unfold barV
  split
  · exact List.Pairwise.nil
  · exact usedB_asc s
/-- What the sort and the compacting of the letters that are played give. -/
theorem bar_sorted {s : ByteArray} {d d' : Array Int} (hd : d.toList = asZ (plaV s)) (hp : PermIn 0 d.size d d') (hs : SortedIn ltZ 0 d.size d') : cmpN (fun t => d'[t]!) d.size = asZ (barV s) := by
  have hsz : d'.size = d.size := hp.1
  have hperm : d'.toList.Perm d.toList := by
    have := hp.2.2
    rw [Array.extract_eq_self_of_le (Nat.le_refl _)] at this
    rw [Array.extract_eq_self_of_le (by omega)] at this
    exact this
  refine asc_unique (cmpN_asc _ d.size (fun i j hij hj => ?_) d.size (Nat.le_refl _)) (barV_asc s) (fun x => ?_)
  · have := hs i j (Nat.zero_le _) hij hj
    unfold ltZ ltInt at this
    have := of_decide_eq_false this
    omega
  · rw [cmpN_mem]
    have h1 : (∃ t, t < d.size ∧ d'[t]! = x) ↔ x ∈ d'.toList := by
      constructor
      · rintro ⟨t, ht, e⟩
        rw [getElem!_pos d' t (by omega)] at e
        rw [← e]; simp
      · intro h
        obtain ⟨t, ht, e⟩ := List.getElem_of_mem h
        have ht' : t < d'.size := by simpa using ht
        exact ⟨t, by omega, by rw [getElem!_pos d' t ht']; simpa using e⟩
    rw [h1, hperm.mem_iff, hd]
    constructor
    · intro h
      unfold asZ at h
      obtain ⟨c, hc, rfl⟩ := List.mem_map.1 h
      exact asZ_mem.2 ((plaV_mem s c).1 hc)
    · intro h
      unfold asZ at h
      obtain ⟨c, hc, rfl⟩ := List.mem_map.1 h
      exact asZ_mem.2 ((plaV_mem s c).2 hc)

end Go.Proofs.YthfjfhgeiggljaaDoor
