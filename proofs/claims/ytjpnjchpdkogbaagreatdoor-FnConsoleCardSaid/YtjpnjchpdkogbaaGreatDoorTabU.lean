/- Parts of the proof of the card of the law FnConsole. -/
import Derived.Test.YtjpnjchpdkogbaaGreatDoorG01
import Derived.Test.YtjpnjchpdkogbaaGreatDoorStr
import Derived.Laws.BytesArg
import Derived.Laws.IdiomCopy
import Derived.Lib.MakeNoZero
set_option linter.unusedVariables false
set_option linter.unusedSimpArgs false
namespace Go.Proofs.YtjpnjchpdkogbaaGreatDoor
open Go.RowKit
def TabU (w:World)(b N:Nat)(f:Nat->UInt8):Prop :=
 b<w.heap.size /\ ∀ t,t<N->w.cell? ⟨b,t,none⟩=some (.int .u8 ((f t).toNat:Int))/\w.frozen? ⟨b,t,none⟩=false
section
variable {w w':World} {b N:Nat} {f g:Nat->UInt8}
theorem TabU.frz (h:TabU w b N f){t:Nat}(ht:t<N):w.frozen? ⟨b,t,none⟩=false:=(h.2 t ht).2
theorem TabU.below {B:Nat}(h:TabU w b N f)(hb:Below B w w')(hB:b<B):TabU w' b N f :=
 ⟨Nat.lt_of_lt_of_le h.1 hb.size,fun t ht=>⟨(hb.cell (p:=⟨b,t,none⟩) hB).trans (h.2 t ht).1,(hb.frozen (p:=⟨b,t,none⟩) hB).trans (h.2 t ht).2⟩⟩
theorem TabU.congr (h:TabU w b N f)(hfg : ∀ t,t<N->f t=g t):TabU w b N g:=⟨h.1,fun t ht=>⟨by rw [<- hfg t ht];exact (h.2 t ht).1,(h.2 t ht).2⟩⟩
theorem TabU.set_ (h:TabU w b N f)(j:Nat)(u:UInt8)(hj:j<N)(v:Value)(hv:v = .int .u8 (u.toNat:Int)):TabU (w.setCell ⟨b,j,none⟩ v) b N (fun t=>if t=j then u else f t):=by
 subst hv
 refine ⟨by simpa [World.setCell] using h.1,fun t ht=>⟨?_,?_⟩⟩
 ·by_cases e:t=j
  ·subst e
   rw [World.cell?_setCell_same w _ _ (h.2 t ht).1];simp
  ·rw [World.cell?_setCell_other w _ _ _ (fun q=>e (by injection q;omega)),(h.2 t ht).1];simp [e]
 ·rw [World.frozen?_setCell];exact (h.2 t ht).2
def tabL (N:Nat)(f:Nat->UInt8):List UInt8:=(List.range N).map f
theorem zgz (N:Nat)(f:Nat->UInt8):(tabL N f).length=N:=by simp [tabL]
theorem zkf {N:Nat}{f:Nat->UInt8}{i:Nat}(hi:i<N):(tabL N f)[i]? = some (f i):=by simp [tabL,hi]
theorem TabU.string (h:TabU w b N f)(cap:Nat):(convert 22 9 (.slice (some ⟨b,0,none⟩) N cap)).run Tryz.prog w = .ok (.string (mkS (tabL N f))) w:=by
 rw [run_convert_bytes_arg (P:=Tryz.prog) w 22 5 Tryz.underlying22 Tryz.underlying5 b 0 N cap ((tabL N f).map fun x=>(x.toNat:Int)) (by rw [List.length_map,zgz]) (fun i hi=>?_) _ Tryz.underlying9]
 ·congr 2
  unfold strOfNums mkS
  congr 1
  rw [List.map_map]
  congr 1
  conv=>rhs;rw [<- List.map_id (tabL N f)]
  apply List.map_congr_left
  intro x _
  simp
 ·rw [Nat.zero_add,(h.2 i hi).1,List.getD_eq_getElem?_getD,List.getElem?_map,zkf hi]
  rfl
end
theorem zkg (w:World)(N:Nat)(e:TypeId):TabU (w.alloc (.cells (madeCells #[.int .u8 0] N) e)) w.heap.size N (fun _=>0):=by
 have hh:(w.alloc (.cells (madeCells #[.int .u8 0] N) e)).heap[w.heap.size]? = some (.cells (madeCells #[.int .u8 0] N) e (0,0)):=heap_alloc_new w _
 refine ⟨by simp,fun t ht=>⟨?_,frozen_of_row _ _ _ _ _ hh⟩⟩
 rw [cell_of_row _ _ _ _ _ _ hh,<- Array.getElem?_toList,toList_madeCells_one]
 simp [ht]
theorem Tryz.infoByte:(Tryz.prog.info? 5).map (fun i=>(i.zero,i.size,i.bytes))=some (some (.int .u8 0),1,1):=by kernel_rfl
theorem zkh (n:Nat)(hn:n<=16777216)(w:World) :
  (Instr.makeSlice 22 (.int .i64 (n:Int)) (.int .i64 (n:Int))).run Tryz.prog w = .ok (.slice (some ⟨w.heap.size,0,none⟩) n n) (w.alloc (.cells (madeCells #[.int .u8 0] n) 5)):=by
 obtain ⟨i,hi,hz,hs,hb⟩:=info_parts Tryz.infoByte
 have hr:=run_make (P:=Tryz.prog) w 22 5 i _ Tryz.underlying22 hi hz .i64 .i64 n n (by omega) (by omega) (by rw [hb];omega) (by omega)
 simp only [Int.toNat_natCast,hs,Nat.mul_one] at hr
 exact hr
end Go.Proofs.YtjpnjchpdkogbaaGreatDoor
