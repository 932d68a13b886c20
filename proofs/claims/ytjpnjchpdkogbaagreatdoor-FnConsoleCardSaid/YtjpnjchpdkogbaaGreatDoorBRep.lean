/- Parts of the proof of the card of the law FnConsole. -/
import Derived.Test.YtjpnjchpdkogbaaGreatDoorTabU
import Derived.Test.YtjpnjchpdkogbaaGreatDoorOwn
import Derived.Laws.CopyOwn
import Derived.Deep.RegionLaw
import Derived.Test.YtjpnjchpdkogbaaGreatDoorShM
set_option linter.unusedVariables false
set_option linter.unusedSimpArgs false
set_option maxRecDepth 100000
set_option maxHeartbeats 1000000
namespace Go.Proofs.YtjpnjchpdkogbaaGreatDoor
open Go.RowKit Go.Shelf
theorem ztv (x y:Nat)(hx:x<18446744073709551616)(hy:y<18446744073709551616)(w:World) :
  Calls Tryz.prog 193 #[.int .u64 x,.int .u64 y] w fun e w'=>e = .returned (.tuple #[.int .u64 ((x*y / 18446744073709551616:Nat):Int),.int .u64 ((x*y % 18446744073709551616:Nat):Int)])/\w'=w:=Any.bits_Mul Tryz.lays212 x y hx hy w
def zby (c:Value)(R:List Value)(n:Nat):List Value:=List.replicate n c++R.drop n
def repB (c:Value)(m:Nat):List Value:=List.replicate m c
theorem zlx {c:Value}{R:List Value}{n:Nat}(h:n<=R.length):(zby c R n).length=R.length:=by simp [zby];omega
theorem zd2 (c:Value)(m:Nat):(repB c m).length=m:=by simp [repB]
theorem zly {c:Value}{R:List Value}{n m:Nat}(h:n+m<=R.length):splice (zby c R n) n (repB c m)=zby c R (n+m):=by
 unfold splice zby repB
 have h1:(List.replicate n c++R.drop n).take n=List.replicate n c:=List.take_left' (by simp)
 have h2:(List.replicate n c++R.drop n).drop (n+m)=R.drop (n+m):=by
  rw [List.drop_append,List.length_replicate,List.drop_eq_nil_of_le (by simp),List.nil_append,List.drop_drop,Nat.add_sub_cancel_left]
 rw [List.length_replicate,h1,h2,<- List.append_assoc,List.replicate_append_replicate]
theorem zlz {c:Value}{R:List Value}{n i:Nat}(h:i<n):(zby c R n)[i]? = some c:=by
 unfold zby
 rw [List.getElem?_append_left (by simpa using h)]
 simp [h]
theorem ztw {c:Value}{m:Nat}{W:World}{g N:Nat}{R:List Value}{n:Nat}{t:TypeId}(hn:n<=R.length)(hm:m<=n)(hrow:W.heap[g]? = some (.cells (zby c R n).toArray t (0,0))) : ∀ j v,(repB c m)[j]? = some v->W.cell? ((⟨g,0,none⟩:Addr).add j)=some v:=by
 intro j v hv
 have hj:j<m:=by
  have:=(List.getElem?_eq_some_iff.1 hv).1
  rwa [zd2] at this
 have e:(repB c m)[j]? = some c:=by simp [repB,hj]
 rw [e] at hv
 injection hv with hv
 subst hv
 rw [Addr.add_lit,Nat.zero_add,cell_of_row _ _ _ _ _ _ hrow]
 have:=zlz (c:=c) (R:=R) (n:=n) (i:=j) (by omega)
 rw [<- this]
 simp
theorem zl0 (g cap n:Nat)(c:UInt8)(w:World)(hg:g<w.heap.size)(hc:w.cell? ⟨g,0,none⟩=some (.int .u8 (c.toNat:Int)))(hn:1<=n)(hn2:n<=1000) :
  Calls Tryz.prog 130 #[.slice (some ⟨g,0,none⟩) 1 cap,.int .i64 n] w fun e w'=>e = .returned (.slice (some ⟨w.heap.size,0,none⟩) n n)/\TabU w' w.heap.size n (fun _=>c)/\Below w.heap.size w w':=by
 obtain ⟨cv,hcv⟩ : ∃ cv,Value.int .u8 (c.toNat:Int)=cv:=⟨_,rfl⟩
 rw [hcv] at hc
 have HCV:=Zh hcv
 have hmul:=fun W:World=>ztv 1 n (by omega) (by omega) W
 rw [Nat.one_mul,Nat.div_eq_of_lt (by omega),Nat.mod_eq_of_lt (by omega)] at hmul
 have HM:=Zh hmul
 have hsz:(Tryz.prog.info? 5).map (·.size)=some 1:=by kernel_rfl
 have HSZ:=Zh hsz
 obtain ⟨cs,hrunM,hle,hmax⟩:=Lib.run_makeNoZero (P:=Tryz.prog) w #[3] 22 5 Tryz.underlying22 n (by omega)
 have hcall:(callFunc 194 #[.int .i64 (n:Int)]).run Tryz.prog w = .ok (.value (.slice (some ⟨w.heap.size,0,none⟩) n cs.size)) ((w.alloc (.cells cs 5)).drewN 2):=by
  rw [run_callFunc_extern Tryz.func194 (by kernel_rfl) (by kernel_rfl) (by kernel_rfl) (e:=Extern.BytealgMakeNoZero.makeNoZero #[3] #[22]) (by kernel_rfl),hrunM]
  rfl
 have hcl:n<=cs.toList.length:=by simpa using hle
 have hrow:((w.alloc (.cells cs 5)).drewN 2).heap[w.heap.size]? = some (.cells (zby cv cs.toList 0).toArray 5 (0,0)):=by
  show (w.alloc (.cells cs 5)).heap[w.heap.size]? = _
  rw [heap_alloc_new]
  simp [zby]
 have hsrc : ∀ j v,(repB cv 1)[j]? = some v->((w.alloc (.cells cs 5)).drewN 2).cell? ((⟨g,0,none⟩:Addr).add j)=some v:=by
  intro j v hv
  have hj:j<1:=by
   have:=(List.getElem?_eq_some_iff.1 hv).1
   rwa [zd2] at this
  have:j=0:=by omega
  subst this
  have e:(repB cv 1)[0]? = some cv:=rfl
  rw [e] at hv
  injection hv with hv
  subst hv
  rw [Addr.add_lit,Nat.add_zero]
  exact (((Below.refl w.heap.size w).alloc (Nat.le_refl _) _).cell (p:=⟨g,0,none⟩) hg).trans hc
 have hone : ∀ m,∀ v∈repB cv m,v.oneCell'=true:=by
  intro m v hv
  rw [List.eq_of_mem_replicate hv,<- hcv]
  rfl
 have HR:=Zh hrow
 have HSR:=Zh hsrc
 have HON:=Zh hone
 have HCL:=Zh hcl
 have HBE:=Zh (Below.drewN_ ((Below.refl w.heap.size w).alloc (Nat.le_refl _) (.cells cs 5)) 2)
 have i0:(0:Int)<=(n:Int):=by omega
 have i1:(n:Int)<=(cs.size:Int):=by omega
 clear hmul hrow hsrc hone hsz hrunM hcl hcv hc hmax
 go_enter Tryz.func130,Tryz.ntmps130
 go_upto_region 17 with (go_at_call 193;refine (HM.o _).mono ?_;rintro e w' ⟨rfl,hw⟩;rw [hw];clear hw)
 clear hcall
 go_wp2_with ((refine wpList_copy_splice (o:=⟨some 60,_,_,_,_,_⟩) rfl _ _ _ _ rfl 5 Tryz.underlying22 HSZ.o _ _ _ _ _ _ rfl rfl w.heap.size 0 (zby cv cs.toList 0) 5 HR.o (repB cv 1) (by rw [zd2];exact (Nat.min_eq_left hn).symm) (fun _=>⟨rfl,_,rfl,HSR.o⟩) (by have:=HCL.o;rw [zd2,zlx (by omega)];omega) (HON.o _) w.heap.size w HBE.o (Nat.le_refl _) ?_;intro w2 hg2 hb2))
 have hg0:=hg2.out
 rw [zly (by have:=HCL.o;omega),Nat.zero_add] at hg0
 rw [zd2]
 have HG0:=Zh hg0
 clear hg2 hg0
 go_loopw [10] (fun s8 wr=>∃ k:Nat,s8 = .int .i64 k/\0<k/\k<=n/\wr.heap[w.heap.size]? = some (.cells (zby cv cs.toList k).toArray 5 (0,0))/\Below w.heap.size w wr) (fun s8 _=>n-(intOf s8).toNat)
 case atStart=>exact ⟨1,by first | rfl | trivial,by omega,hn,HG0.o,hb2⟩
 case round =>
  obtain ⟨k,rfl,hk0,hkn,hrow,hbel⟩:=hrel
  by_cases hlt:k<n
  ·obtain ⟨m,hm⟩ : ∃ m,Nat.min k (n-k)=m:=⟨_,rfl⟩
   have hmk:m<=k:=by rw [<- hm];exact Nat.min_le_left _ _
   have hmN:m<=n-k:=by rw [<- hm];exact Nat.min_le_right _ _
   have hm0:0<m:=by rw [<- hm];exact Nat.lt_min.2 ⟨hk0,by omega⟩
   have hsrc:=ztw (c:=cv) (m:=m) (N:=n) (R:=cs.toList) (n:=k) (by have:=HCL.o;omega) hmk hrow
   have hsp:=zly (c:=cv) (R:=cs.toList) (n:=k) (m:=m) (by have:=HCL.o;omega)
   have HS:=Zh hsrc
   have HSP:=Zh hsp
   have HRW:=Zh hrow
   have hpm:=zd2 cv m
   have HPM:=Zh hpm
   have HMM:=Zh hm
   have hwr:IntKind.i64.wrap ((k:Int)+m)=(k:Int)+m:=i64w (by omega)
   clear hsrc hsp hrow hpm hm
   go_wp2_with fail
   go_region_law (refine step_copy_splice rfl (.tmp 70) (.tmp 73) _ _ rfl 5 Tryz.underlying22 HSZ.o (some ⟨w.heap.size,k,none⟩) (some ⟨w.heap.size,0,none⟩) (n-k) (n-k) k n (by first | (simp [Act.eval,Act.put];done) | (simp [Act.eval,Act.put];omega)) (by first | (simp [Act.eval,Act.put];done) | (simp [Act.eval,Act.put];omega)) w.heap.size k (zby cv cs.toList k) 5 HRW.o (repB cv m) (by rw [HPM.o,HMM.o]) (fun _=>⟨rfl,_,rfl,HS.o⟩) (by have:=HCL.o;rw [HPM.o,zlx (by omega)];omega) (HON.o _) w.heap.size w (by first | exact hbel | exact Below.drew hbel) (Nat.le_refl _) ?_;intro w3 hg3 hb3)
   all_goals
    have hg3':=hg3.out
    rw [HSP.o] at hg3'
    have HG3:=Zh hg3'
    clear hg3 hg3'
    try rw [HPM.o]
    go_wp2_with fail
    go_roundw
    case rel=>exact ⟨k+m,by omega,by omega,by omega,HG3.o⟩
    case measure=>simp [intOf];omega
  ·have hnN':k=n:=by omega
   subst hnN'
   go_wp2_with fail
   go_ret
   refine ⟨rfl,⟨(Array.getElem?_eq_some_iff.1 hrow).1,fun t ht=>⟨?_,frozen_of_row _ _ _ _ _ hrow⟩⟩,hbel⟩
   rw [cell_of_row _ _ _ _ _ _ hrow,HCV.o]
   have:=zlz (c:=cv) (R:=cs.toList) (n:=k) (i:=t) ht
   rw [<- this]
   simp
end Go.Proofs.YtjpnjchpdkogbaaGreatDoor
