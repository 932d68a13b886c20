/- Parts of the proof of the card of the law FnConsole. -/
import Derived.Test.YtjpnjchpdkogbaaGreatDoorG02
import Derived.Test.YtjpnjchpdkogbaaGreatDoorJoin
import Derived.RangeFuncBound
import Derived.RangeFuncCalls
import Derived.RangeFuncLeaves
import Derived.Shelf.Abstract
import Derived.Shelf.RegionOpen
import Derived.WalkKit
import Derived.OwnWalkIn
import Derived.TacticsInMore
import Derived.LoopNIn
import Derived.LoopIn
import Derived.Shelf.Strings.Search3
import Derived.Test.YtjpnjchpdkogbaaGreatDoorG01
import Derived.Deep.Light
import Derived.Deep.QuietTactic
import Derived.BigQuiet
import Derived.RangeFuncKeeps
import Derived.RangeFuncBox
import Derived.Maps.AppendAt
import Derived.Laws.BitsAllLaws
import Derived.Laws.BitsLemmas
set_option linter.unusedVariables false
set_option linter.unusedSimpArgs false
set_option maxRecDepth 100000
set_option maxHeartbeats 2000000
namespace Go.Proofs.YtjpnjchpdkogbaaGreatDoor
theorem zrg (n:Int) : ∀ c∈itoL n,c=45\/digB c=true:=by
 intro c hc
 obtain ⟨N,rfl | rfl⟩:=Int.eq_nat_or_neg n
 ·rw [zco] at hc
  exact .inr ((zdq N).1 c hc)
 ·by_cases h0:0<N
  ·rw [ze5 N h0] at hc
   rcases List.mem_cons.1 hc with h1 | h1
   ·exact .inl h1
   ·exact .inr ((zdq N).1 c h1)
  ·have:N=0:=by omega
   subst this
   exact .inr ((zdq 0).1 c (by rw [<- zco];exact hc))
theorem zrh (n:Int)(d:UInt8)(h1:d≠45)(h2:digB d=false) : ∀ c∈itoL n,c≠d:=fun c hc e=>by
 subst e
 rcases zrg n c hc with h | h
 ·exact h1 h
 ·rw [h2] at h;cases h
theorem zg7 (d:UInt8) (r:List UInt8) : ∀ (t cur:List UInt8),(∀ c∈t,c≠d)->splF d cur (t++r)=splF d (cur++t) r
 | [],cur,_=>by simp
 | c::t,cur,h=>by
  rw [List.cons_append,zef _ _ (h c (List.mem_cons_self ..)),zg7 d r t (cur++[c]) (fun x hx=>h x (List.mem_cons_of_mem _ hx))]
  simp
theorem zks (d:UInt8) : ∀ (r:List Txt) (cur:Txt),(∀ t∈r,∀ c∈t,c≠d)->splF d cur (Lib.joinTail [d] r)=cur::r
 | [],cur,_=>rfl
 | t::r,cur,h=>by
  have e:Lib.joinTail [d] (t::r)=d::(t++Lib.joinTail [d] r):=by simp [Lib.joinTail]
  rw [e,ze6,zg7 d _ t [] (h t (List.mem_cons_self ..)),List.nil_append,zks d r t (fun x hx=>h x (List.mem_cons_of_mem _ hx))]
theorem zri (d:UInt8)(ts:List Txt)(h0:ts≠[])(h : ∀ t∈ts,∀ c∈t,c≠d):splF d [] (zaf ts [d])=ts:=by
 cases ts with
 | nil=>exact absurd rfl h0
 | cons t r =>
  have e:zaf (t::r) [d]=t++Lib.joinTail [d] r:=Lib.join_cons t r [d]
  rw [e,zg7 d _ t [] (h t (List.mem_cons_self ..)),List.nil_append,zks d r t (fun x hx=>h x (List.mem_cons_of_mem _ hx))]
theorem zg8 (d:UInt8) : ∀ (l cur:List UInt8),0<(splF d cur l).length
 | [],cur=>by simp [splF]
 | y::l,cur=>by
  rw [splF]
  split
  ·simp
  ·exact zg8 d l _
def pbyV (d:UInt8)(most:Nat)(s:ByteArray):List Int:=if (splT d s).length<=most then (splT d s).map (fun u=>(zab u).getD 0) else []
theorem zrj (d:UInt8)(most:Nat)(s:ByteArray) : ∀ x∈pbyV d most s,Fits x:=by
 intro x hx
 unfold pbyV at hx
 split at hx
 ·obtain ⟨u,_,rfl⟩:=List.mem_map.1 hx
  cases hp:zab u with
  | none=>exact ⟨by decide,by decide⟩
  | some v=>exact ((zkq u v).1 hp).1
 ·cases hx
end Go.Proofs.YtjpnjchpdkogbaaGreatDoor
namespace Go.Proofs.YtjpnjchpdkogbaaGreatDoor
open Go.RowKit
theorem OwnTx.cap_ {w:World}{base:Nat}{A:Option Addr}{cap:Nat}{us:List ByteArray}(h:OwnTx w base (.slice A us.length cap) us):us.length<=cap:=by
 rcases h.2 with ⟨hv,h0⟩ | ⟨g,cap',cur,hv,_,hh,hnc,hm,hsz,hxs⟩
 ·omega
 ·injection hv with _ _ h3;omega
def TxR (w:World)(base g:Nat)(us:List ByteArray):Prop:=base<=g/\g<w.heap.size /\ ∀ i,i<us.length->w.cell? ⟨g,i,none⟩=some (.string (us.getD i ⟨#[]⟩))
theorem TxR.below {w w':World}{base g:Nat}{us:List ByteArray}(h:TxR w base g us)(hb:Below w.heap.size w w'):TxR w' base g us :=
 ⟨h.1,Nat.lt_of_lt_of_le h.2.1 hb.size,fun i hi=>(hb.cell (p:=⟨g,i,none⟩) h.2.1).trans (h.2.2 i hi)⟩
theorem TxR.take {w:World}{base g:Nat}{us:List ByteArray}(h:TxR w base g us)(k:Nat):TxR w base g (us.take k) :=
 ⟨h.1,h.2.1,fun i hi=>by
  rw [List.length_take] at hi
  rw [h.2.2 i (by omega),List.getD_eq_getElem?_getD,List.getD_eq_getElem?_getD,List.getElem?_take_of_lt (by omega)]⟩
def slnV (s:ByteArray):List ByteArray:=if (splT 10 s).getD ((splT 10 s).length-1) ⟨#[]⟩=⟨#[]⟩ then (splT 10 s).take ((splT 10 s).length-1) else splT 10 s
theorem zrk (a:Addr)(n cap:Nat)(w:World)(hn:n<=cap)(hs:n<=2000000) :
  Calls Tryz.prog 81 #[.slice (some a) n cap] w fun e w'=>e = .returned (.slice (some a) n n)/\w=w':=by
 have h0:(0:Int)<=(n:Int):=Int.natCast_nonneg _
 have h1:(n:Int)<=(cap:Int):=by omega
 go_enter Tryz.func81,Tryz.ntmps81
 go_wp2_with fail
 go_ret
 exact ⟨rfl,rfl⟩
theorem zrl (s:ByteArray)(w:World)(hs:s.size<=1048576)(hM:MaxL w) :
  Calls Tryz.prog 15 #[.string s] w fun e w'=>∃ g,e = .returned (.slice (some ⟨g,0,none⟩) (slnV s).length (slnV s).length)/\TxR w' w.heap.size g (slnV s)/\Below w.heap.size w w':=by
 have HSP:=Zh (zg3 10 s w hs hM)
 have hpos:0<(splT 10 s).length:=by unfold splT;rw [List.length_map];exact zg8 _ _ _
 have hle:(splT 10 s).length<=1048577:=by
  unfold splT
  rw [List.length_map]
  have:=zeg 10 s.data.toList []
  have:s.data.toList.length=s.size:=by simp
  omega
 have HV:=Zh (show slnV s=if (splT 10 s).getD ((splT 10 s).length-1) ⟨#[]⟩=⟨#[]⟩ then (splT 10 s).take ((splT 10 s).length-1) else splT 10 s from rfl)
 generalize slnV s=V at *
 generalize splT 10 s=us at *
 have hw1:IntKind.i64.wrap ((us.length:Int)-1)=((us.length-1:Nat):Int):=by rw [show (us.length:Int)-1=((us.length-1:Nat):Int) by omega];exact i64w (by omega)
 go_enter Tryz.func15,Tryz.ntmps15
 go_wp2_with fail
 refine HSP.o.mono ?_
 rintro e w1 ⟨A1,c1,rfl,hown,hb⟩
 have hcap:=hown.cap_
 obtain ⟨g,rfl,hge,hlt,hc⟩:=hown.read hpos
 have HT:=Zh (show TxR w1 w.heap.size g us from ⟨hge,hlt,hc⟩)
 have HB:=Zh hb
 have hcl:=hc (us.length-1) (by omega)
 clear hown hb hc
 obtain ⟨m,hm⟩ : ∃ m,us.length-1=m:=⟨_,rfl⟩
 rw [hm] at hcl hw1 HV
 have hm0:(0:Int)<=(m:Int):=Int.natCast_nonneg _
 have hml:(m:Int)<(us.length:Int):=by omega
 have hml2:m<us.length:=by omega
 have hmc:(m:Int)<=(c1:Int):=by omega
 have HCS:=Zh (fun V n (h:n<=us.length)=>zrk ⟨g,0,none⟩ n c1 V (by omega) (by omega))
 by_cases he:us.getD m ⟨#[]⟩=⟨#[]⟩
 ·rw [if_pos he] at HV
  rw [he] at hcl
  have hVl:V.length=m:=by rw [HV.o,List.length_take];omega
  have HT2:=Zh (show TxR w1 w.heap.size g V by rw [HV.o];exact HT.o.take m)
  clear he
  go_wp2_with (go_at_call 81;refine (HCS.o _ _ (by omega)).mono ?_;rintro e w2 ⟨rfl,rfl⟩)
  go_ret
  rw [hVl]
  exact ⟨_,rfl,HT2.o,HB.o⟩
 ·rw [if_neg he] at HV
  generalize us.getD m ⟨#[]⟩=u at *
  have hd:u.data.toList≠[]:=fun h=>he (by
   have e:u.data = #[]:=Array.toList_inj.1 h
   cases u
   simp only at e
   rw [e])
  have hu0:u.toList≠[]:=by rw [Lib.toList_data];exact hd
  have hu1:(u.toList==(⟨#[]⟩:ByteArray).toList)=false:=by
   rw [Lib.toList_data,Lib.toList_data,beq_eq_false_iff_ne]
   exact hd
  have hu2:(u.toList==[])=false:=beq_eq_false_iff_ne.2 hu0
  have hu3:(u.toList=[])=False:=eq_false hu0
  go_wp2_with (go_at_call 81;refine (HCS.o _ _ (by omega)).mono ?_;rintro e w2 ⟨rfl,rfl⟩)
  go_ret
  rw [HV.o]
  exact ⟨_,rfl,HT.o,HB.o⟩
end Go.Proofs.YtjpnjchpdkogbaaGreatDoor
namespace Go.Proofs.YtjpnjchpdkogbaaGreatDoor
open Go.RowKit Go.Shelf
def boxT (W:World)(b:Nat):Nat:=match W.cell? ⟨b,0,none⟩ with
 | some (.string r)=>r.size
 | _=>0
theorem zkt {W:World}{b:Nat}{r:ByteArray}(h:W.cell? ⟨b,0,none⟩=some (.string r)):boxT W b=r.size:=by unfold boxT;rw [h]
theorem zrm (n l bs bp bv:Nat)(us:List ByteArray)(J:List ByteArray->World->Prop)(Jx:World->Prop)
  (hJs : ∀ pre W v,J pre W->J pre (W.setCell ⟨bs,0,none⟩ v))
  (hJc : ∀ pre W,J pre W->W.cell? ⟨bp,0,none⟩=some (.string ⟨#[44]⟩)/\W.cell? ⟨bv,0,none⟩=some (.int .i64 0)/\W.frozen? ⟨bs,0,none⟩=false)
  (hY : ∀ pre x W,J pre W->(∃ post,us=pre++x::post)->YieldAt Fence.wide (n-1) Tryz.prog l #[.string x] W fun e W' =>
   (e = .returned (.bool true)/\J (pre++[x]) W'/\W'.cell? ⟨bs,0,none⟩=W.cell? ⟨bs,0,none⟩)\/(e = .returned (.bool false)/\Jx W'))
  (s:ByteArray)(hs:s.size<=1048576)(W:World)(hc:W.cell? ⟨bs,0,none⟩=some (.string s))(h0:J [] W)(hu:splT 44 s=us)(hn:1<=n) :
  CallsIn Fence.wide n Tryz.prog 286 #[.func (.yield l) #[] #[],.pointer (some ⟨bp,0,none⟩),.pointer (some ⟨bs,0,none⟩),.pointer (some ⟨bv,0,none⟩)] W fun e W' =>
   (∃ v,e = .returned v)/\(J us W' \/Jx W'):=by
 have HU:=Zh hu
 have HJS:=Zh hJs
 have HJC:=Zh hJc
 have HY:=Zh hY
 have HJ0:=Zh h0
 obtain ⟨hp0,hv0,hfz0⟩:=hJc [] W h0
 clear hJs hJc hY hu h0
 refine callsIn_of_wp Tryz.func286 rfl trivial ?_ rfl
 simp only [Tryz.ntmps286,List.size_toArray,List.length_cons,List.length_nil,Nat.reduceAdd,Nat.reduceSub,Array.replicate_succ,Array.replicate_zero,List.push_toArray,List.append_toArray,List.nil_append,List.cons_append]
 gi_wp2
 gi_loopw [7] (fun _ wr=>∃ (pre:List ByteArray) (r:ByteArray),wr.cell? ⟨bs,0,none⟩=some (.string r)/\r.size<=1048576/\J pre wr/\us=pre++splT 44 r) (fun _ wr=>boxT wr bs)
 case atStart=>exact ⟨[],s,hc,hs,HJ0.o,by rw [HU.o];rfl⟩
 case round =>
  obtain ⟨pre,r,hcr,hrs,hJr,hur⟩:=hrel
  obtain ⟨hpc,hvc,hfc⟩:=HJC.o _ _ hJr
  have HIX:=Zh (fun V=>(callsIn_wide (n:=n-1)).2 (Any.strings_Index_one { Tryz.lays155 with } r 44 V))
  have HUR:=Zh hur
  have HJR:=Zh hJr
  have HRS:=Zh hrs
  clear hur hJr hc hp0 hv0 hfz0
  cases hix:decide (Lib.indexByte r.data.toList 44 = -1) with
  | true =>
   have hix':=of_decide_eq_true hix
   rw [hix'] at HIX
   have hsp:=zkm 44 r hix'
   clear hix hix'
   obtain ⟨fn,tmps,assign,body,hy,hR⟩:=HY.o pre r wr HJR.o ⟨[],by rw [HUR.o,hsp]⟩
   have HUE:=Zh (show us=pre++[r] by rw [HUR.o,hsp])
   clear hsp
   gi_wp2_with (refine ⟨trivial,?_⟩;gi_at_call 94;refine (HIX.o _).mono ?_;rintro e w' ⟨rfl,rfl⟩)
   refine hR.mono ?_
   rintro e W3 (⟨rfl,hJ3,hk3⟩ | ⟨rfl,hJx3⟩)
   ·gi_wp2
    go_end0
    exact ⟨⟨_,rfl⟩,.inl (by rw [HUE.o];exact hJ3)⟩
   ·gi_wp2
    go_end0
    exact ⟨⟨_,rfl⟩,.inr hJx3⟩
  | false =>
   have hix':=of_decide_eq_false hix
   obtain ⟨o,ho⟩ : ∃ o:Nat,Lib.indexByte r.data.toList 44=o:=⟨(Lib.indexByte r.data.toList 44).toNat,by have:=Lib.indexByte_ge r.data.toList 44;omega⟩
   rw [ho] at HIX
   obtain ⟨ho1,hsp⟩:=zkn 44 r o ho
   clear hix hix' ho
   obtain ⟨fn,tmps,assign,body,hy,hR⟩:=HY.o pre (r.extract 0 o) wr HJR.o ⟨_,by rw [HUR.o,hsp]⟩
   have HUE:=Zh (show us=(pre++[r.extract 0 o])++splT 44 (r.extract (o+1) r.size) by rw [HUR.o,hsp];simp)
   clear hsp
   have ho0:(0:Int)<=(o:Int):=Int.natCast_nonneg _
   gi_wp2_with (refine ⟨trivial,?_⟩;gi_at_call 94;refine (HIX.o _).mono ?_;rintro e w' ⟨rfl,rfl⟩)
   refine hR.mono ?_
   rintro e W3 (⟨rfl,hJ3,hk3⟩ | ⟨rfl,hJx3⟩)
   ·obtain ⟨hpc3,hvc3,hfc3⟩:=HJC.o _ _ hJ3
    have hcr3:=hk3.trans hcr
    gi_wp2
    have hcn:=World.cell?_setCell_same W3 ⟨bs,0,none⟩ (.string (r.extract (o+1) r.size)) hcr3
    have hlt:(r.extract (o+1) r.size).size<r.size:=by simp;omega
    exact ⟨⟨pre++[r.extract 0 o],r.extract (o+1) r.size,hcn,by have:=HRS.o;omega,HJS.o _ _ _ hJ3,HUE.o⟩,by rw [zkt hcn,zkt hcr];exact hlt⟩
   ·gi_wp2
    refine bodyPost_ret (results_none rfl _ _ _) rfl ?_
    exact ⟨⟨_,rfl⟩,.inr hJx3⟩
end Go.Proofs.YtjpnjchpdkogbaaGreatDoor
namespace Go.Proofs.YtjpnjchpdkogbaaGreatDoor
open Go.RowKit
theorem Tab.ints {w:World}{b:Nat}{xs:List Int}{B:Nat}(h:Tab w b xs.length (fun t=>xs.getD t 0))(hB:b<B)(hl:xs.length<=maxLen)(hf : ∀ x∈xs,Fits x):Ints w B (some ⟨b,0,none⟩) xs :=
 ⟨hl,hf,fun _=>⟨b,0,rfl,hB,fun i hi=>by rw [Nat.zero_add];exact (h.2 i hi).1⟩⟩
def eqB (xs ys:List Int):Bool:=decide (xs=ys)
end Go.Proofs.YtjpnjchpdkogbaaGreatDoor
namespace Go.Proofs.YtjpnjchpdkogbaaGreatDoor
open Go.RowKit
structure Frm (S:Nat->Prop) (w w':World):Prop where
 os:w'.os=w.os
 tape:w'.tape=w.tape
 output:w'.output=w.output
 size:w.heap.size<=w'.heap.size
 block : ∀ c,c<w.heap.size -> ¬ S c->w'.heap[c]? = w.heap[c]?
section
variable {S T:Nat->Prop} {w w' w1 w2:World}
theorem Frm.refl (S:Nat->Prop)(w:World):Frm S w w:=⟨rfl,rfl,rfl,Nat.le_refl _,fun _ _ _=>rfl⟩
theorem Frm.trans (h:Frm S w w1)(k:Frm S w1 w2):Frm S w w2 :=
 ⟨k.os.trans h.os,k.tape.trans h.tape,k.output.trans h.output,Nat.le_trans h.size k.size,fun c hc hS=>(k.block c (Nat.lt_of_lt_of_le hc h.size) hS).trans (h.block c hc hS)⟩
theorem Frm.mono (h:Frm S w w')(hS : ∀ c,S c->T c):Frm T w w':=⟨h.os,h.tape,h.output,h.size,fun c hc hT=>h.block c hc (fun hs=>hT (hS c hs))⟩
theorem Frm.of_below {B:Nat}(h:Below B w w')(hS : ∀ c,c<w.heap.size->B<=c->S c):Frm S w w' :=
 ⟨h.os,h.tape,h.output,h.size,fun c hc hn=>h.block c (by
  apply Classical.byContradiction
  intro hh
  exact hn (hS c hc (by omega)))⟩
theorem Frm.pure (h:Below w.heap.size w w')(S:Nat->Prop):Frm S w w':=Frm.of_below h (fun c h1 h2=>by omega)
theorem Frm.below {B:Nat}(h:Frm S w w')(hS : ∀ c,S c->B<=c)(hB:B<=w.heap.size):Below B w w' :=
 ⟨h.os,h.tape,h.output,h.size,fun c hc=>h.block c (by omega) (fun hs=>by have:=hS c hs;omega)⟩
theorem Frm.setCell (h:Frm S w w'){p:Addr}(hp:S p.block)(u:Value):Frm S w (w'.setCell p u) :=
 ⟨h.os,h.tape,h.output,by simpa [World.setCell] using h.size,fun c hc hS=>(Below.heap_setCell w' p u c (fun e=>by subst e;exact hS hp)).trans (h.block c hc hS)⟩
theorem Below.drew5_ {B:Nat}{a w:World}(h:Below B a w):Below B a w.drew:=⟨h.os,h.tape,h.output,h.size,h.block⟩
theorem Frm.alloc (h:Frm S w w')(o:Obj):Frm S w (w'.alloc o):=h.trans (Frm.pure ((Below.refl _ _).alloc (Nat.le_refl _) o) S)
theorem Frm.drew (h:Frm S w w'):Frm S w w'.drew:=⟨h.os,h.tape,h.output,h.size,h.block⟩
theorem Frm.drewN (h:Frm S w w')(n:Nat):Frm S w (w'.drewN n):=⟨h.os,h.tape,h.output,h.size,h.block⟩
theorem Frm.cell (h:Frm S w w'){c o:Nat}(hc:c<w.heap.size)(hS : ¬ S c):w'.cell? ⟨c,o,none⟩=w.cell? ⟨c,o,none⟩:=World.cell?_of_block (a:=⟨c,o,none⟩) (h.block c hc hS)
theorem Frm.frozen (h:Frm S w w'){c o:Nat}(hc:c<w.heap.size)(hS : ¬ S c):w'.frozen? ⟨c,o,none⟩=w.frozen? ⟨c,o,none⟩:=World.frozen?_of_block (a:=⟨c,o,none⟩) (h.block c hc hS)
end
def TabV (w:World)(b N:Nat)(f:Nat->Value):Prop:=b<w.heap.size /\ ∀ t,t<N->w.cell? ⟨b,t,none⟩=some (f t)/\w.frozen? ⟨b,t,none⟩=false
section
variable {w w':World} {b N:Nat} {f g:Nat->Value} {S:Nat->Prop}
theorem TabV.frm (h:TabV w b N f)(hf:Frm S w w')(hb : ¬ S b):TabV w' b N f :=
 ⟨Nat.lt_of_lt_of_le h.1 hf.size,fun t ht=>⟨(hf.cell h.1 hb).trans (h.2 t ht).1,(hf.frozen h.1 hb).trans (h.2 t ht).2⟩⟩
theorem Tab.tabV {f:Nat->Int}(h:Tab w b N f):TabV w b N (fun t=>.int .i64 (f t)):=h
end
end Go.Proofs.YtjpnjchpdkogbaaGreatDoor
namespace Go.Proofs.YtjpnjchpdkogbaaGreatDoor
open Go.RowKit Go.Shelf
theorem zrn (s sep:ByteArray)(w:World) :
  Calls Tryz.prog 196 #[.string s,.string sep] w fun e w' =>
   e = .returned (.func (.func 286) #[] #[.pointer (some ⟨w.heap.size+1,0,none⟩),.pointer (some ⟨w.heap.size,0,none⟩),.pointer (some ⟨w.heap.size+2,0,none⟩)]) /\
   w'=((w.alloc (.cells #[.string s] 9)).alloc (.cells #[.string sep] 9)).alloc (.cells #[.int .i64 0] 3):=by
 have H : ∀ W:World,Calls Tryz.prog 243 #[.string s,.string sep,.int .i64 0] W fun e w' =>
   e = .returned (.func (.func 286) #[] #[.pointer (some ⟨W.heap.size+1,0,none⟩),.pointer (some ⟨W.heap.size,0,none⟩),.pointer (some ⟨W.heap.size+2,0,none⟩)]) /\
   w'=((W.alloc (.cells #[.string s] 9)).alloc (.cells #[.string sep] 9)).alloc (.cells #[.int .i64 0] 3):=by
  intro W
  go_enter Tryz.func243,Tryz.ntmps243
  go_wp2_with fail
  go_ret
  exact ⟨rfl,rfl⟩
 go_enter Tryz.func196,Tryz.ntmps196
 go_wp2_with (go_at_call 243;refine (H _).mono ?_;rintro e w' ⟨rfl,rfl⟩)
 go_ret
 exact ⟨rfl,rfl⟩
structure PS (W0:World) (b2 bs:Nat) (v:Value) (acc:List Int) (W:World):Prop where
 frm:Frm (fun c=>c=b2\/c=bs) W0 W
 size:W0.heap.size+2<=W.heap.size
 out:W.cell? ⟨b2,0,none⟩=some v
 fz:W.frozen? ⟨b2,0,none⟩=false
 fs:W.frozen? ⟨bs,0,none⟩=false
 own:OwnI W (W0.heap.size+2) v acc
theorem zku {S:Nat->Prop}{W0 W:World}(h:Frm S W0 W){l:Nat}(hl:W0.heap.size<=l)(o:Obj):Frm S W0 (W.putObj l o) :=
 ⟨h.os,h.tape,h.output,by rw [World.putObj_size];exact h.size,fun c hc hS=>(World.putObj_heap_other (by omega)).trans (h.block c hc hS)⟩
theorem PS.setS {W0 W:World}{b2 bs:Nat}{v:Value}{acc:List Int}(h:PS W0 b2 bs v acc W)(h1:b2≠bs)(h3:bs<W0.heap.size)(u:Value):PS W0 b2 bs v acc (W.setCell ⟨bs,0,none⟩ u) where
 frm:=h.frm.setCell (.inr rfl) u
 size:=by have:=h.size;simpa [World.setCell] using this
 out:=by rw [World.cell?_setCell_other W _ _ _ (fun e=>h1 (by injection e with e1;first | exact e1 | exact e1.symm))];exact h.out
 fz:=by rw [World.frozen?_setCell];exact h.fz
 fs:=by rw [World.frozen?_setCell];exact h.fs
 own:=ownsRow_setCell_below h.own (by show bs<W0.heap.size+2;omega) u
theorem PS.putL {W0 W:World}{b2 bs l:Nat}{v:Value}{acc:List Int}(h:PS W0 b2 bs v acc W)(h1:b2<W0.heap.size)(h2:bs<W0.heap.size)(hl:W0.heap.size<=l){o:Obj}(ho:W.heap[l]? = some o)(hlp:o.isCells=false)(o':Obj):PS W0 b2 bs v acc (W.putObj l o') where
 frm:=zku h.frm hl o'
 size:=by rw [World.putObj_size];exact h.size
 out:=(World.cell?_of_block (a:=⟨b2,0,none⟩) (World.putObj_heap_other (by show b2≠l;omega))).trans h.out
 fz:=(World.frozen?_of_block (a:=⟨b2,0,none⟩) (World.putObj_heap_other (by show b2≠l;omega))).trans h.fz
 fs:=(World.frozen?_of_block (a:=⟨bs,0,none⟩) (World.putObj_heap_other (by show bs≠l;omega))).trans h.fs
 own:=ownsRow_putObj h.own _ ho hlp
theorem Frm.next {S T S':Nat->Prop}{W0 W W':World}(h:Frm S W0 W)(k:Frm T W W')(hT : ∀ c,c<W0.heap.size->T c->S' c)(hS : ∀ c,S c->S' c):Frm S' W0 W' :=
 ⟨k.os.trans h.os,k.tape.trans h.tape,k.output.trans h.output,Nat.le_trans h.size k.size,fun c hc hn=>(k.block c (Nat.lt_of_lt_of_le hc h.size) (fun t=>hn (hT c hc t))).trans (h.block c hc (fun t=>hn (hS c t)))⟩
theorem zro {w3 w4:World}{B b:Nat}{o:Obj}{v:Value}(hb4:Below B (w3.alloc o) w4)(h:b<B)(hc:w3.cell? ⟨b,0,none⟩=some v)(hf:w3.frozen? ⟨b,0,none⟩=false):w4.cell? ⟨b,0,none⟩=some v/\w4.frozen? ⟨b,0,none⟩=false :=
 ⟨(hb4.cell (p:=⟨b,0,none⟩) h).trans (cell_kept hc (World.grownBy_alloc w3 o none) (fun r e=>by cases e)),(hb4.frozen (p:=⟨b,0,none⟩) h).trans ((frozen_kept hc (World.grownBy_alloc w3 o none) (fun r e=>by cases e)).trans hf)⟩
theorem zrp {F:Fence}{n:Nat}{w:World}{ops:Array Oper}{rest:List Oper}{o:Oper}{a:Act}{Q:Exit->Act->World->Prop}(hgd:o.guard=none)(s x:Operand)
  (ho:o.op = .call { callee:=.builtin .append,args:=#[s,x],argTypes:=#[25,25] })
  (base:Nat) (v:Value) (xs:List Int) (hs:a.eval s=v) (hown:OwnI w base v xs) (g:Nat) (y:Int) (hx:a.eval x = .slice (some ⟨g,0,none⟩) 1 1)
  (hcell:w.cell? ⟨g,0,none⟩=some (.int .i64 y)) (hlen:xs.length<=1048576) (hbase:base<=w.heap.size)
  (h : ∀ v' w',OwnI w' base v' (xs++[y])->Below base w w'->wpListIn F n Tryz.prog ops Q rest (a.put o.dst v') w'):wpListIn F n Tryz.prog ops Q (o::rest) a w:=by
 obtain ⟨i,hi,hz,hsz,hby⟩:=info_parts Tryz.infoInt
 refine wpListIn_append_own _ hgd s x _ ho base 3 i _ 1 8 Tryz.underlying25 hi hz hsz hby rfl (by omega) v xs.length _ hs hown ⟨g,0,none⟩ 1 1 [.int .i64 y] hx rfl ?_ ?_ (by unfold maxLen;omega) (by omega) hbase ?_
 ·intro j u hj
  match j,hj with
  | 0,hj =>
   simp at hj
   subst hj
   exact hcell
 ·intro u hu
  simp at hu
  subst hu
  rfl
 ·intro v' w' hown' hgrow _
  refine h v' w' ?_ ?_
  ·unfold OwnI
   simpa using hown'
  ·exact (Below.refl base w).grown hgrow hbase (fun k hk=>(hown.lt k hk).1)
def KpR (d bs:Nat)(W W':World):Prop:=W'.cell? ⟨bs,0,none⟩=W.cell? ⟨bs,0,none⟩/\W'.heap[d]? = W.heap[d]? /\ W'.heap[d+1]? = W.heap[d+1]?
theorem KpR.of {d bs:Nat}{W W':World}{T:Nat->Prop}(h:Frm T W W')(h1:d+1<W.heap.size)(h2:bs<W.heap.size)(t1 : ¬ T bs)(t2 : ¬ T d)(t3 : ¬ T (d+1)):KpR d bs W W' :=
 ⟨h.cell h2 t1,h.block d (by omega) t2,h.block (d+1) h1 t3⟩
def rndP (d bs:Nat) (I Ix:World->Prop) (W:World):Exit->Act->World->Prop
 | .normal,_,W'=>KpR d bs W W'/\I W'
 | .ret,_,W'=>KpR d bs W W'/\Ix W'
 | .exit _,_,_=>False
 | .goto _,_,_=>False
 | .panic _,_,_=>False
 | .outgrown,_,_=>False
theorem zrq {g:Operand}{p:Tmp}{assign body:Code}{Q:Exit->Act->World->Prop}{a:Act}{w:World}{n:Nat}(hn:3<=n){bs bp bv:Nat}
  (hg:a.eval g = .func (.func 286) #[] #[.pointer (some ⟨bp,0,none⟩),.pointer (some ⟨bs,0,none⟩),.pointer (some ⟨bv,0,none⟩)])
  {us:List ByteArray}{s:ByteArray}(hs:s.size<=1048576)(hu:splT 44 s=us)(hc:w.cell? ⟨bs,0,none⟩=some (.string s))
  (I:List ByteArray->World->Prop)(Ix:World->Prop)
  (hIs : ∀ pre W v,I pre W->I pre (W.setCell ⟨bs,0,none⟩ v))
  (hIc : ∀ pre W,I pre W->W.cell? ⟨bp,0,none⟩=some (.string ⟨#[44]⟩)/\W.cell? ⟨bv,0,none⟩=some (.int .i64 0)/\W.frozen? ⟨bs,0,none⟩=false)
  (hIp : ∀ pre W o o',I pre W->W.heap[w.heap.size+1]? = some o->o.isCells=false->I pre (W.putObj (w.heap.size+1) o'))
  (hIxp : ∀ W o o',Ix W->W.heap[w.heap.size+1]? = some o->o.isCells=false->Ix (W.putObj (w.heap.size+1) o'))
  (h0 : ∀ r,I [] ((w.alloc (.deferred (some []))).alloc (.loop r)))(a₁:ByteArray->Act)
  (hassign : ∀ (l:Nat)(x:ByteArray)(W:World)(K:Act->World->Prop),K (a₁ x) W ->
   assign.wpIn (Fence.wide.inRound l) (n-1-1) Tryz.prog (Exit.then K (fun _ _ _=>False)) { tmps:=((#[p]:Array Tmp).zip #[Value.string x]).foldl (fun t (p,v)=>t.setIfInBounds p v) a.tmps,defers:=[] } W)
  (hbody : ∀ (l:Nat) (pre:List ByteArray) (x:ByteArray) (W:World),I pre W->(∃ post,us=pre++x::post) ->
   body.wpIn (Fence.wide.inRound l) (n-1-1) Tryz.prog (rndP w.heap.size bs (I (pre++[x])) Ix W) (a₁ x) W)
  (hdone : ∀ W,I us W->W.heap[w.heap.size]? = some (.deferred (some []))->Q .normal { a with defers:={ target:=.collected w.heap.size,args:=#[] } :: a.defers } W)
  (hstop : ∀ W,Ix W->W.heap[w.heap.size]? = some (.deferred (some []))->Code.ret.wpIn Fence.wide n Tryz.prog Q { a with defers:={ target:=.collected w.heap.size,args:=#[] } :: a.defers } W) :
  (Code.rangeFunc g #[p] assign body).wpIn Fence.wide n Tryz.prog Q a w:=by
 have hbs:bs<w.heap.size:=World.block_lt_of_cell? _ _ hc
 refine wpIn_rangeFunc fun fn _=>?_
 obtain ⟨R,hR⟩ : ∃ R:LoopState->Option Code->Loop,∀ st pe,R st pe = { state:=st,pending:=pe,fn,tmps:=a.tmps,params:=#[p],assign,body,defers:=w.heap.size }:=⟨_,fun _ _=>rfl⟩
 obtain ⟨W1,hW1⟩ : ∃ W1,(w.alloc (.deferred (some []))).alloc (.loop (R .ready none))=W1:=⟨_,rfl⟩
 have hl1:W1.heap[w.heap.size+1]? = some (.loop (R .ready none)):=by
  rw [<- hW1]
  simpa using World.alloc_heap_new (w.alloc (.deferred (some []))) (.loop (R .ready none))
 have hd1:W1.heap[w.heap.size]? = some (.deferred (some [])):=by
  rw [<- hW1]
  exact (Below.heap_alloc _ _ _ (by simp)).trans (World.alloc_heap_new w _)
 have hc1:W1.cell? ⟨bs,0,none⟩=some (.string s):=by
  rw [<- hW1]
  exact ((((Below.refl w.heap.size w).alloc (Nat.le_refl _) _).alloc (by simp) _).cell (p:=⟨bs,0,none⟩) hbs).trans hc
 refine ⟨w.heap.size+1,[{ target:=.collected w.heap.size,args:=#[] }],W1,{ target:=.fn (.func 286) #[.pointer (some ⟨bp,0,none⟩),.pointer (some ⟨bs,0,none⟩),.pointer (some ⟨bv,0,none⟩)],args:=#[.func (.yield (w.heap.size+1)) #[] #[]] },W1,286,#[.func (.yield (w.heap.size+1)) #[] #[],.pointer (some ⟨bp,0,none⟩),.pointer (some ⟨bs,0,none⟩),.pointer (some ⟨bv,0,none⟩)],W1,?_,?_,fun _ _=>trivial,?_,fun _=>by omega,?_⟩
 ·rw [<- hW1,hR]
  exact run_enterLoop_outer _ _ _ _ _
 ·simp only [resolve,hg]
  simp [go_sem]
 ·simp [invoke,go_sem,enters_of Tryz.func286 (by kernel_rfl) rfl]
 ·refine (zrm (n-1) (w.heap.size+1) bs bp bv us
   (fun pre W=>I pre W/\W.heap[w.heap.size+1]? = some (.loop (R .ready none))/\W.heap[w.heap.size]? = some (.deferred (some [])))
   (fun W=>Ix W/\W.heap[w.heap.size+1]? = some (.loop (R .done (some .ret)))/\W.heap[w.heap.size]? = some (.deferred (some [])))
   (fun pre W v h=>⟨hIs pre W v h.1,(Below.heap_setCell W ⟨bs,0,none⟩ v _ (by show w.heap.size+1≠bs;omega)).trans h.2.1,(Below.heap_setCell W ⟨bs,0,none⟩ v _ (by show w.heap.size≠bs;omega)).trans h.2.2⟩)
   (fun pre W h=>hIc pre W h.1) ?_ s hs W1 hc1 ⟨by rw [<- hW1];exact h0 _,hl1,hd1⟩ hu (by omega)).mono ?_
  ·rintro pre x W ⟨hi,hl,hd⟩ hpost
   have hlt:=(Array.getElem?_eq_some_iff.1 hl).1
   have hy:=run_yield (P:=Tryz.prog) (args:=#[.string x]) hl (by rw [hR];rfl)
   rw [hR] at hy
   obtain ⟨Wb,hWb⟩ : ∃ Wb,W.putObj (w.heap.size+1) (.loop (R .busy none))=Wb:=⟨_,rfl⟩
   have hlb:Wb.heap[w.heap.size+1]? = some (.loop (R .busy none)):=by rw [<- hWb];exact World.putObj_heap_same hlt
   have hdb:Wb.heap[w.heap.size]? = some (.deferred (some [])):=by rw [<- hWb];exact (World.putObj_heap_other (by omega)).trans hd
   have hcb:Wb.cell? ⟨bs,0,none⟩=W.cell? ⟨bs,0,none⟩:=by rw [<- hWb];exact World.cell?_of_block (a:=⟨bs,0,none⟩) (World.putObj_heap_other (by show bs≠w.heap.size+1;omega))
   have hib:I pre Wb:=by rw [<- hWb];exact hIp _ _ _ _ hi hl rfl
   refine ⟨fn,_,assign,body,hy,roundIn_of_wpIn trivial (hassign _ x W _ ?_)⟩
   refine ⟨Wb,?_,?_⟩
   ·rw [run_beginRound hl (by rw [hR]),<- hWb,hR,hR]
   ·refine wpIn_mono (hbody _ pre x Wb hib hpost) fun e a3 W3 hp=>?_
    have fin : ∀ jump,KpR w.heap.size bs Wb W3->W3.heap[w.heap.size+1]? = some (.loop (R .busy none)) /\
      (Instr.endRound (w.heap.size+1) jump).run Tryz.prog W3 = .ok (.bool jump.isNone) (W3.putObj (w.heap.size+1) (.loop (R (if jump.isNone then .ready else .done) jump))) /\
      (W3.putObj (w.heap.size+1) (.loop (R (if jump.isNone then .ready else .done) jump))).heap[w.heap.size+1]? = some (.loop (R (if jump.isNone then .ready else .done) jump)) /\
      (W3.putObj (w.heap.size+1) (.loop (R (if jump.isNone then .ready else .done) jump))).heap[w.heap.size]? = some (.deferred (some [])) /\
      (W3.putObj (w.heap.size+1) (.loop (R (if jump.isNone then .ready else .done) jump))).cell? ⟨bs,0,none⟩=W.cell? ⟨bs,0,none⟩:=by
     intro jump hk
     have hl3:=hk.2.2.trans hlb
     refine ⟨hl3,?_,World.putObj_heap_same (Array.getElem?_eq_some_iff.1 hl3).1,(World.putObj_heap_other (by omega)).trans (hk.2.1.trans hdb),
      (World.cell?_of_block (a:=⟨bs,0,none⟩) (World.putObj_heap_other (by show bs≠w.heap.size+1;omega))).trans (hk.1.trans hcb)⟩
     rw [run_endRound jump hl3,hR,hR]
    cases e with
    | normal =>
     obtain ⟨k1,k2,k3,k4,k5⟩:=fin none hp.1
     exact ⟨_,_,k2,.inl ⟨rfl,⟨hIp _ _ _ _ hp.2 k1 rfl,k3,k4⟩,k5⟩⟩
    | ret =>
     obtain ⟨k1,k2,k3,k4,k5⟩:=fin (some .ret) hp.1
     exact ⟨_,_,k2,.inr ⟨rfl,hIxp _ _ _ hp.2 k1 rfl,k3,k4⟩⟩
    | exit id=>exact hp.elim
    | goto t=>exact hp.elim
    | panic ch=>exact hp.elim
    | outgrown=>exact hp.elim
  ·rintro e W2 ⟨⟨v,rfl⟩,(⟨hi,hl,hd⟩ | ⟨hi,hl,hd⟩)⟩
   ·refine ⟨none,_,by rw [run_endLoop hl (by rw [hR];simp),hR],hdone _ (hIp _ _ _ _ hi hl rfl) ((World.putObj_heap_other (by omega)).trans hd)⟩
   ·refine ⟨some .ret,_,by rw [run_endLoop hl (by rw [hR];simp),hR],hstop _ (hIxp _ _ _ hi hl rfl) ((World.putObj_heap_other (by omega)).trans hd)⟩
theorem zkv {w W0 W w3:World}{v:Value}{acc:List Int}{us:List ByteArray}{J:World->Prop}{a:Act}(h:PS W0 (w.heap.size+1+1) (w.heap.size+1+1+1) v acc W)(hsz:W0.heap.size=w.heap.size+6)(hn:numF us []=none)(hb3:Below W.heap.size W w3)
  (hcR:w3.cell? ⟨w.heap.size,0,none⟩=some (.slice none 0 0))(hcK:w3.cell? ⟨w.heap.size+1,0,none⟩=some (.bool false)) :
  rndP W0.heap.size (w.heap.size+1+1+1) J (fun W=>numF us []=none/\Frm (fun c=>c=w.heap.size+1+1\/c=w.heap.size+1+1+1\/c=w.heap.size\/c=w.heap.size+1) W0 W/\W0.heap.size+2<=W.heap.size/\W.cell? ⟨w.heap.size,0,none⟩=some (.slice none 0 0)/\W.cell? ⟨w.heap.size+1,0,none⟩=some (.bool false)) W .ret a
   ((w3.setCell ⟨w.heap.size,0,none⟩ (.slice none 0 0)).setCell ⟨w.heap.size+1,0,none⟩ (.bool false)):=by
 have hz:=h.size
 have hz3:=hb3.size
 have hF:Frm (fun c=>c=w.heap.size\/c=w.heap.size+1) W ((w3.setCell ⟨w.heap.size,0,none⟩ (.slice none 0 0)).setCell ⟨w.heap.size+1,0,none⟩ (.bool false)):=((Frm.pure hb3 _).setCell (.inl rfl) _).setCell (.inr rfl) _
 refine ⟨KpR.of hF (by omega) (by omega) (by omega) (by omega) (by omega),hn,h.frm.next hF (fun c _ hc=>by omega) (fun c hc=>by omega),Nat.le_trans hz hF.size,?_,?_⟩
 ·rw [World.cell?_setCell_other _ _ _ _ (fun e=>by injection e with e1;omega)]
  exact World.cell?_setCell_same _ _ _ hcR
 ·have h2:(w3.setCell ⟨w.heap.size,0,none⟩ (.slice none 0 0)).cell? ⟨w.heap.size+1,0,none⟩=some (.bool false):=by
   rw [World.cell?_setCell_other _ _ _ _ (fun e=>by injection e with e1;omega)]
   exact hcK
  exact World.cell?_setCell_same _ _ _ h2
def zg9 (w:World)(o:Option (List Int))(e:Ending)(w':World):Prop :=
 ∃ A cap,e = .returned (.tuple #[.slice A (o.getD []).length cap,.bool o.isSome])/\OwnI w' w.heap.size (.slice A (o.getD []).length cap) (o.getD [])/\(∀ x∈o.getD [],Fits x)/\Below w.heap.size w w'
theorem zrr (s:ByteArray)(w:World)(hs:s.size<=1048576)(hE:Errs w)(hP:Pow w) :
  Calls Tryz.prog 136 #[.string s] w (zg9 w (zal s)):=by
 refine (callsIn_wide (n:=6)).1 ?_
 have hsm:=@Oper.semAt_some
 have HE:=Zh hE
 have HP:=Zh hP
 clear hE hP
 by_cases hd:s.data.toList=[45]
 ·have HV:=Zh (zrd hd)
  have hse:s=⟨#[45]⟩:=(show Str s [45] from hd).eq
  subst hse
  clear hd
  refine callsIn_of_wp_marks Tryz.func136 rfl trivial ?_ rfl
  simp only [Tryz.ntmps136,List.size_toArray,List.length_cons,List.length_nil,Nat.reduceAdd,Nat.reduceSub,Array.replicate_succ,Array.replicate_zero,List.push_toArray,List.append_toArray,List.nil_append,List.cons_append]
  gi_wp2
  have bR:=(Boxed.new w 25 (.slice none 0 0)).alloc (.cells #[.bool true] 4)
  have bK:=Boxed.new (w.alloc (.cells #[.slice none 0 0] 25)) 4 (.bool true)
  have h1:=bR.cell
  have h2:=bK.cell
  simp only [World.size_alloc] at h2
  refine ⟨.tuple #[.slice none 0 0,.bool true],?_,?_⟩
  ·simp [results,Tryz.f136,go_sem,h1,h2]
  ·rw [HV.o]
   exact ⟨none,0,rfl,OwnI.nil _ _,by simp,((Below.refl _ w).alloc (Nat.le_refl _) _).alloc (by simp) _⟩
 ·have HV:=Zh (zre hd)
  have heq:(s.toList==[45])=false:=by rw [beq_eq_false_iff_ne];intro h;exact hd (by rw [<- Lib.toList_data];exact h)
  clear hd
  generalize zal s=nv at HV ⊢
  refine callsIn_of_wp_marks Tryz.func136 rfl trivial ?_ rfl
  simp only [Tryz.ntmps136,List.size_toArray,List.length_cons,List.length_nil,Nat.reduceAdd,Nat.reduceSub,Array.replicate_succ,Array.replicate_zero,List.push_toArray,List.append_toArray,List.nil_append,List.cons_append]
  gi_wp2_with (refine ⟨trivial,?_⟩;gi_at_call 196;refine (callsIn_wide.2 (zrn s _ _)).mono ?_;rintro e w' ⟨rfl,rfl⟩)
  have bR:=Boxed.new w 25 (.slice none 0 0)
  have bK:=Boxed.new (w.alloc (.cells #[.slice none 0 0] 25)) 4 (.bool false)
  have b2:=Boxed.new ((w.alloc (.cells #[.slice none 0 0] 25)).alloc (.cells #[.bool false] 4)) 25 (.slice none 0 0)
  have bs:=Boxed.new (((w.alloc (.cells #[.slice none 0 0] 25)).alloc (.cells #[.bool false] 4)).alloc (.cells #[.slice none 0 0] 25)) 9 (.string s)
  have bp:=Boxed.new ((((w.alloc (.cells #[.slice none 0 0] 25)).alloc (.cells #[.bool false] 4)).alloc (.cells #[.slice none 0 0] 25)).alloc (.cells #[.string s] 9)) 9 (.string ⟨#[44]⟩)
  have bv:=Boxed.new (((((w.alloc (.cells #[.slice none 0 0] 25)).alloc (.cells #[.bool false] 4)).alloc (.cells #[.slice none 0 0] 25)).alloc (.cells #[.string s] 9)).alloc (.cells #[.string ⟨#[44]⟩] 9)) 3 (.int .i64 0)
  have bR:=((((bR.alloc (.cells #[.bool false] 4)).alloc (.cells #[.slice none 0 0] 25)).alloc (.cells #[.string s] 9)).alloc (.cells #[.string ⟨#[44]⟩] 9)).alloc (.cells #[.int .i64 0] 3)
  have bK:=(((bK.alloc (.cells #[.slice none 0 0] 25)).alloc (.cells #[.string s] 9)).alloc (.cells #[.string ⟨#[44]⟩] 9)).alloc (.cells #[.int .i64 0] 3)
  have b2:=((b2.alloc (.cells #[.string s] 9)).alloc (.cells #[.string ⟨#[44]⟩] 9)).alloc (.cells #[.int .i64 0] 3)
  have bs:=(bs.alloc (.cells #[.string ⟨#[44]⟩] 9)).alloc (.cells #[.int .i64 0] 3)
  have bp:=bp.alloc (.cells #[.int .i64 0] 3)
  have hbW:Below w.heap.size w ((((((w.alloc (.cells #[.slice none 0 0] 25)).alloc (.cells #[.bool false] 4)).alloc (.cells #[.slice none 0 0] 25)).alloc (.cells #[.string s] 9)).alloc (.cells #[.string ⟨#[44]⟩] 9)).alloc (.cells #[.int .i64 0] 3)) :=
   ((((((Below.refl _ w).alloc (Nat.le_refl _) _).alloc (by simp) _).alloc (by simp;omega) _).alloc (by simp;omega) _).alloc (by simp;omega) _).alloc (by simp;omega) _
  generalize hW0:((((((w.alloc (.cells #[.slice none 0 0] 25)).alloc (.cells #[.bool false] 4)).alloc (.cells #[.slice none 0 0] 25)).alloc (.cells #[.string s] 9)).alloc (.cells #[.string ⟨#[44]⟩] 9)).alloc (.cells #[.int .i64 0] 3))=W0 at bR bK b2 bs bp bv hbW ⊢
  have hsz:W0.heap.size=w.heap.size+6:=by rw [<- hW0];simp
  simp only [World.size_alloc] at bR bK b2 bs bp bv
  clear hW0
  obtain ⟨us,hu⟩ : ∃ us,splT 44 s=us:=⟨_,rfl⟩
  have HUL:=Zh (fun u=>zg2 44 s u)
  rw [hu] at HV HUL
  refine zrq (n:=6) (by omega) rfl hs hu (bs:=w.heap.size+1+1+1) (bp:=w.heap.size+1+1+1+1) (bv:=w.heap.size+1+1+1+2) bs.cell
   (fun pre W=>∃ v acc post,us=pre++post/\numF us []=numF post acc/\acc.length<=64/\(∀ x∈acc,Fits x)/\PS W0 (w.heap.size+1+1) (w.heap.size+1+1+1) v acc W)
   (fun W=>numF us []=none/\Frm (fun c=>c=w.heap.size+1+1\/c=w.heap.size+1+1+1\/c=w.heap.size\/c=w.heap.size+1) W0 W/\W0.heap.size+2<=W.heap.size/\W.cell? ⟨w.heap.size,0,none⟩=some (.slice none 0 0)/\W.cell? ⟨w.heap.size+1,0,none⟩=some (.bool false))
   ?_ ?_ ?_ ?_ ?_ (fun x=>{ tmps:=#[.string s,undef,.pointer (some ⟨w.heap.size,0,none⟩),.pointer (some ⟨w.heap.size+1,0,none⟩),.pointer (some ⟨w.heap.size+1+1,0,none⟩),.string x,undef,undef,.string s,.bool false,.string s,.func (.func 286) #[] #[.pointer (some ⟨w.heap.size+1+1+1+1,0,none⟩),.pointer (some ⟨w.heap.size+1+1+1,0,none⟩),.pointer (some ⟨w.heap.size+1+1+1+2,0,none⟩)],.string x,undef,undef,undef,undef,undef,undef,undef,undef,undef,undef,undef,undef,undef,undef,undef,undef,undef],defers:=[] }) ?_ ?_ ?_ ?_
  ·rintro pre W v ⟨v1,acc,post,e1,e2,e3,e4,e5⟩
   exact ⟨v1,acc,post,e1,e2,e3,e4,e5.setS (by omega) (by omega) v⟩
  ·rintro pre W ⟨v1,acc,post,e1,e2,e3,e4,e5⟩
   exact ⟨(e5.frm.cell (by omega) (by omega)).trans bp.cell,(e5.frm.cell (by omega) (by omega)).trans bv.cell,e5.fs⟩
  ·rintro pre W o o' ⟨v1,acc,post,e1,e2,e3,e4,e5⟩ ho hn
   exact ⟨v1,acc,post,e1,e2,e3,e4,e5.putL (by omega) (by omega) (by omega) ho hn o'⟩
  ·rintro W o o' ⟨e1,e2,e3,e4,e5⟩ ho hn
   exact ⟨e1,zku e2 (by omega) o',by rw [World.putObj_size];exact e3,(World.cell?_of_block (a:=⟨w.heap.size,0,none⟩) (World.putObj_heap_other (by show w.heap.size≠_;omega))).trans e4,(World.cell?_of_block (a:=⟨w.heap.size+1,0,none⟩) (World.putObj_heap_other (by show w.heap.size+1≠_;omega))).trans e5⟩
  ·intro r
   refine ⟨.slice none 0 0,[],us,rfl,rfl,by simp,by simp,?_⟩
   exact { frm:=((Frm.refl _ W0).alloc _).alloc _,size:=by simp,out:=((b2.alloc _).alloc _).cell,fz:=((b2.alloc _).alloc _).frozen,fs:=((bs.alloc _).alloc _).frozen,own:=OwnI.nil _ _ }
  ·intro l x W K hK
   gi_wp2
   exact hK
  ·rintro l pre x W ⟨v1,acc,post,e1,e2,e3,e4,e5⟩ ⟨post',hpost⟩
   have hpp:post=x::post':=List.append_cancel_left (e1.symm.trans hpost)
   subst hpp
   have hbB:Below w.heap.size w W:=hbW.trans (e5.frm.below (fun c h=>by omega) (by omega))
   have HPI:=Zh (zg4 x (by have:=HUL.o x (by rw [e1];simp);omega) W (HE.o.below hbB) (HP.o.below hbB))
   have hc2:=e5.out
   have hf2:=e5.fz
   have hcR:=(e5.frm.cell (c:=w.heap.size) (o:=0) (by omega) (by omega)).trans bR.cell
   have hfR:=(e5.frm.frozen (c:=w.heap.size) (o:=0) (by omega) (by omega)).trans bR.frozen
   have hcK:=(e5.frm.cell (c:=w.heap.size+1) (o:=0) (by omega) (by omega)).trans bK.cell
   have hfK:=(e5.frm.frozen (c:=w.heap.size+1) (o:=0) (by omega) (by omega)).trans bK.frozen
   obtain ⟨A1,c1,rfl⟩:=e5.own.form
   have HE5:=Zh e5
   have HE2:=Zh e2
   have HE4:=Zh e4
   have HE1:=Zh e1
   have HSZ:=Zh hsz
   have hWz:=e5.size
   clear bR bK b2 bs bp bv hbW e5 e2 e4 e1 hsz hpost
   cases hpv:zab x with
   | none =>
    rw [hpv] at HPI
    have HNN:=Zh (show numF us []=none by rw [HE2.o];exact zra _ _ hpv)
    clear hpv
    gi_wp2_with (refine ⟨trivial,?_⟩;gi_at_call 96;refine (CallsIn.inRound l (callsIn_wide.2 HPI.o)).mono ?_;rintro e w3 ⟨rfl,hb3⟩;have hcR3:=(hb3.cell (p:=⟨w.heap.size,0,none⟩) (by show w.heap.size<W.heap.size;have:=HSZ.o;omega)).trans hcR;have hcK3:=(hb3.cell (p:=⟨w.heap.size+1,0,none⟩) (by show w.heap.size+1<W.heap.size;have:=HSZ.o;omega)).trans hcK;have hfR3:=(hb3.frozen (p:=⟨w.heap.size,0,none⟩) (by show w.heap.size<W.heap.size;have:=HSZ.o;omega)).trans hfR;have hfK3:=(hb3.frozen (p:=⟨w.heap.size+1,0,none⟩) (by show w.heap.size+1<W.heap.size;have:=HSZ.o;omega)).trans hfK)
    exact zkv HE5.o HSZ.o HNN.o hb3 hcR3 hcK3
   | some k =>
    rw [hpv] at HPI
    by_cases h64:acc.length=64
    ·have heq6:((acc.length:Int)==64)=true:=by rw [h64];rfl
     have HNN:=Zh (show numF us []=none by rw [HE2.o];exact zrb _ hpv h64)
     clear hpv h64
     gi_wp2_with (refine ⟨trivial,?_⟩;gi_at_call 96;refine (CallsIn.inRound l (callsIn_wide.2 HPI.o)).mono ?_;rintro e w3 ⟨rfl,hb3⟩;have hc23:=(hb3.cell (p:=⟨w.heap.size+1+1,0,none⟩) (by show w.heap.size+1+1<W.heap.size;have:=HSZ.o;omega)).trans hc2;have hcR3:=(hb3.cell (p:=⟨w.heap.size,0,none⟩) (by show w.heap.size<W.heap.size;have:=HSZ.o;omega)).trans hcR;have hcK3:=(hb3.cell (p:=⟨w.heap.size+1,0,none⟩) (by show w.heap.size+1<W.heap.size;have:=HSZ.o;omega)).trans hcK;have hfR3:=(hb3.frozen (p:=⟨w.heap.size,0,none⟩) (by show w.heap.size<W.heap.size;have:=HSZ.o;omega)).trans hfR;have hfK3:=(hb3.frozen (p:=⟨w.heap.size+1,0,none⟩) (by show w.heap.size+1<W.heap.size;have:=HSZ.o;omega)).trans hfK)
     exact zkv HE5.o HSZ.o HNN.o hb3 hcR3 hcK3
    ·have heq6:((acc.length:Int)==64)=false:=by rw [beq_eq_false_iff_ne];omega
     have HNN:=Zh (show numF us []=numF post' (acc++[k]) by rw [HE2.o];exact zrc _ hpv h64)
     have HKF:=Zh ((zkq x k).1 hpv).1
     have H64:=Zh h64
     clear hpv h64
     gi_wp2_with (first
      | (refine ⟨trivial,?_⟩;gi_at_call 96;refine (CallsIn.inRound l (callsIn_wide.2 HPI.o)).mono ?_;rintro e w3 ⟨rfl,hb3⟩;have hc23:=(hb3.cell (p:=⟨w.heap.size+1+1,0,none⟩) (by show w.heap.size+1+1<W.heap.size;have:=HSZ.o;omega)).trans hc2;have hf23:=(hb3.frozen (p:=⟨w.heap.size+1+1,0,none⟩) (by show w.heap.size+1+1<W.heap.size;have:=HSZ.o;omega)).trans hf2)
      | (gi_at_builtin;refine zrp rfl _ _ rfl (W0.heap.size+2) _ acc rfl ((HE5.o.own.grown hb3).alloc _) _ k rfl ?_ ?_ ?_ ?_;(exact zag _ _ _);(omega);(have hqq:=hb3.size;simp;omega);intro v' w4 hown4 hb4;obtain ⟨A6,c6,rfl⟩:=hown4.form;obtain ⟨hc24,hf24⟩:=zro hb4 (b:=w.heap.size+1+1) (by have:=HSZ.o;omega) hc23 hf23))
     have hsz:=HSZ.o
     have hz3:=hb3.size
     have hz4:=hb4.size
     simp at hz4
     have ho5:OwnI w4 (W0.heap.size+2) (.slice A6 (acc.length+1) c6) (acc++[k]):=by simpa using hown4
     have hF4:Frm (fun c=>c=w.heap.size+1+1\/W0.heap.size+2<=c) W w4:=((Frm.of_below (hb3.mono hWz) (fun c _ h=>.inr h)).alloc _).trans (Frm.of_below hb4 (fun c _ h=>.inr h))
     have hF5:=hF4.setCell (p:=⟨w.heap.size+1+1,0,none⟩) (.inl rfl) (.slice A6 (acc.length+1) c6)
     refine ⟨KpR.of hF5 (by omega) (by omega) (by omega) (by omega) (by omega),?_⟩
     refine ⟨.slice A6 (acc.length+1) c6,acc++[k],post',by rw [HE1.o];simp,HNN.o,by have:=H64.o;simp;omega,fun y hy=>?_,?_⟩
     ·rcases List.mem_append.1 hy with h | h
      ·exact HE4.o y h
      ·simp at h;subst h;exact HKF.o
     ·exact { frm:=HE5.o.frm.next hF5 (fun c hc h=>by omega) (fun c h=>h),size:=Nat.le_trans hWz hF5.size,out:=World.cell?_setCell_same _ _ _ hc24,fz:=by rw [World.frozen?_setCell];exact hf24,fs:=(hF5.frozen (by omega) (by omega)).trans HE5.o.fs,own:=ownsRow_setCell_below ho5 (by show w.heap.size+1+1<W0.heap.size+2;omega) _ }
  ·rintro W ⟨v1,acc,post,e1,e2,e3,e4,e5⟩ hD
   have hpp:post=[]:=by have:=congrArg List.length e1;rw [List.length_append] at this;exact List.eq_nil_of_length_eq_zero (by omega)
   subst hpp
   have hc2:=e5.out
   have hcR:=(e5.frm.cell (c:=w.heap.size) (o:=0) (by omega) (by omega)).trans bR.cell
   have hfR:=(e5.frm.frozen (c:=w.heap.size) (o:=0) (by omega) (by omega)).trans bR.frozen
   have hcK:=(e5.frm.cell (c:=w.heap.size+1) (o:=0) (by omega) (by omega)).trans bK.cell
   have hfK:=(e5.frm.frozen (c:=w.heap.size+1) (o:=0) (by omega) (by omega)).trans bK.frozen
   obtain ⟨A1,c1,rfl⟩:=e5.own.form
   have hfr:=e5.frm
   have hown:=e5.own
   have hsz5:=e5.size
   have hn:nv=some acc:=by rw [HV.o,e2];rfl
   clear b2 bR bK bs bp bv
   gi_wp2
   obtain ⟨W5,hW5⟩ : ∃ W5,(W.setCell ⟨w.heap.size,0,none⟩ (.slice A1 acc.length c1)).setCell ⟨w.heap.size+1,0,none⟩ (.bool true)=W5:=⟨_,rfl⟩
   have h2:W5.cell? ⟨w.heap.size+1,0,none⟩=some (.bool true):=by
    rw [<- hW5]
    refine World.cell?_setCell_same' _ _ _ ?_
    rw [World.cell?_setCell_other _ _ _ _ (fun e=>by injection e with e1;omega),hcK];rfl
   have h1:W5.cell? ⟨w.heap.size,0,none⟩=some (.slice A1 acc.length c1):=by
    rw [<- hW5,World.cell?_setCell_other _ _ _ _ (fun e=>by injection e with e1;omega)]
    exact World.cell?_setCell_same _ _ _ hcR
   have hD5:W5.heap[W0.heap.size]? = some (.deferred (some [])):=by
    rw [<- hW5]
    exact (Below.heap_setCell _ ⟨w.heap.size+1,0,none⟩ _ _ (by show W0.heap.size≠w.heap.size+1;omega)).trans ((Below.heap_setCell _ ⟨w.heap.size,0,none⟩ _ _ (by show W0.heap.size≠w.heap.size;omega)).trans hD)
   have ho5:OwnI W5 (W0.heap.size+2) (.slice A1 acc.length c1) acc:=by
    rw [<- hW5]
    exact ownsRow_setCell_below (ownsRow_setCell_below hown (by show w.heap.size<W0.heap.size+2;omega) _) (by show w.heap.size+1<W0.heap.size+2;omega) _
   have hb5:Below w.heap.size w W5:=by
    rw [<- hW5]
    exact (((hbW.trans (hfr.below (fun c h=>by omega) (by omega))).setCell (p:=⟨w.heap.size,0,none⟩) (by simp) _).setCell (p:=⟨w.heap.size+1,0,none⟩) (by simp) _)
   rw [hW5]
   clear hW5
   have hp1:=(World.cell?_of_block (a:=⟨w.heap.size,0,none⟩) (World.putObj_heap_other (w:=W5) (r:=W0.heap.size) (o:=.deferred none) (by show w.heap.size≠W0.heap.size;omega))).trans h1
   have hp2:=(World.cell?_of_block (a:=⟨w.heap.size+1,0,none⟩) (World.putObj_heap_other (w:=W5) (r:=W0.heap.size) (o:=.deferred none) (by show w.heap.size+1≠W0.heap.size;omega))).trans h2
   refine ⟨by simp,.inl ⟨_,_,rfl,run_takeDeferred hD5,?_⟩⟩
   refine ⟨.tuple #[.slice A1 acc.length c1,.bool true],?_,?_⟩
   ·simp [results,Tryz.f136,go_sem,hp1,hp2]
   ·rw [hn]
    exact ⟨A1,c1,rfl,zkr (base:=W0.heap.size+2) (ownsRow_putObj ho5 _ hD5 rfl) (by omega),e4,hb5.trans (belowK_b (w:=w) (Nat.le_refl _) W5 W0.heap.size _ _ (by omega) hD5 rfl rfl)⟩
  ·rintro W ⟨e1,e2,e3,e4,e5⟩ hD
   clear b2 bR bK bs bp bv
   gi_wp2
   have hp1:=(World.cell?_of_block (a:=⟨w.heap.size,0,none⟩) (World.putObj_heap_other (w:=W) (r:=W0.heap.size) (o:=.deferred none) (by show w.heap.size≠W0.heap.size;omega))).trans e4
   have hp2:=(World.cell?_of_block (a:=⟨w.heap.size+1,0,none⟩) (World.putObj_heap_other (w:=W) (r:=W0.heap.size) (o:=.deferred none) (by show w.heap.size+1≠W0.heap.size;omega))).trans e5
   refine ⟨by simp,.inl ⟨_,_,rfl,run_takeDeferred hD,?_⟩⟩
   refine ⟨.tuple #[.slice none 0 0,.bool false],?_,?_⟩
   ·simp [results,Tryz.f136,go_sem,hp1,hp2]
   ·rw [HV.o,e1]
    exact ⟨none,0,rfl,OwnI.nil _ _,by simp,(hbW.trans (e2.below (fun c h=>by omega) (by omega))).trans (belowK_b (w:=w) (Nat.le_refl _) W W0.heap.size _ _ (by omega) hD rfl rfl)⟩
end Go.Proofs.YtjpnjchpdkogbaaGreatDoor
namespace Go.Proofs.YtjpnjchpdkogbaaGreatDoor
open Go.RowKit
theorem zrs (n:Int)(A:Option Addr)(cap:Nat)(bs:List Int)(w:World)(hn:Fits n)(hA:Ints w w.heap.size A bs)(hbad : ¬ (1<=n/\n<=24)) :
    Calls Tryz.prog 98 #[.agg #[.int .i64 n,.slice A bs.length cap]] w fun e w'=>e = .returned (.bool false)/\Below w.heap.size w w':=by
  obtain ⟨hlen,hfit,hcells⟩:=hA
  unfold maxLen at hlen
  unfold Fits at hn
  have HF:=Zh hfit
  have HC:=Zh hcells
  have HI:=Zh (zed hbad)
  clear hfit hcells
  go_enter Tryz.func98,Tryz.ntmps98
  go_wp2
  go_loop [8] (fun i=>∃ k:Nat,k<=bs.length/\i = .int .i64 k) (fun i=>bs.length-(intOf i).toNat)
  case atStart=>exact ⟨0,Nat.zero_le _,rfl⟩
  case round =>
    obtain ⟨k,hk,rfl⟩:=hrel
    by_cases hlt:k<bs.length
    · obtain ⟨b,off,rfl,hB,hc⟩:=HC.o (by omega)
      have hcell:=hc k hlt
      have hcell1:=hc (k-1) (by omega)
      obtain ⟨x,hx⟩ : ∃ x,bs.getD k 0=x:=⟨_,rfl⟩
      obtain ⟨y,hy⟩ : ∃ y,bs.getD (k-1) 0=y:=⟨_,rfl⟩
      rw [hx] at hcell
      rw [hy] at hcell1
      clear hx hy hc
      go_wp2_with (go_at_call 22;refine (zac _ _ _ _).mono ?_;rintro e w' ⟨rfl,rfl⟩)
      all_goals first
        | (go_ret;exact ⟨rfl,(by repeat (first | exact Below.refl _ _ | assumption | (refine Below.alloc ?_ (by first | exact Nat.le_refl _ | (simp;done) | (simp;omega) | omega) _) | (refine Below.drew ?_) | (refine Below.setCell ?_ (by first | exact Nat.le_refl _ | (simp;done) | (simp;omega) | omega) _)))⟩)
        | (go_round
           case rel=>exact ⟨k+1,by omega,by go_num⟩
           case measure=>simp [intOf];omega)
    · go_wp2_with (go_at_call 22;refine (zac _ _ _ _).mono ?_;rintro e w' ⟨rfl,rfl⟩)
      go_ret
      exact ⟨by rw [HI.o];rfl,(by repeat (first | exact Below.refl _ _ | assumption | (refine Below.alloc ?_ (by first | exact Nat.le_refl _ | (simp;done) | (simp;omega) | omega) _) | (refine Below.drew ?_) | (refine Below.setCell ?_ (by first | exact Nat.le_refl _ | (simp;done) | (simp;omega) | omega) _)))⟩
theorem zrt (n:Int)(A:Option Addr)(cap:Nat)(bs:List Int)(w:World)(hA:Ints w w.heap.size A bs)(h1:1<=n)(h24:n<=24) :
    Calls Tryz.prog 98 #[.agg #[.int .i64 n,.slice A bs.length cap]] w fun e w'=>e = .returned (.bool (rhB n bs))/\Below w.heap.size w w':=by
  obtain ⟨hlen,hfit,hcells⟩:=hA
  unfold maxLen at hlen
  have HF:=Zh hfit
  have HC:=Zh hcells
  have HI:=Zh (za1 ⟨h1,h24⟩)
  clear hfit hcells
  go_enter Tryz.func98,Tryz.ntmps98
  go_wp2
  go_loop [8] (fun i=>∃ k:Nat,RhPre n bs k/\i = .int .i64 k) (fun i=>bs.length-(intOf i).toNat)
  case atStart=>exact ⟨0,RhPre.zero _ _,rfl⟩
  case round =>
    obtain ⟨k,hpre,rfl⟩:=hrel
    have hk:=hpre.1
    have HP:=Zh hpre
    clear hpre
    by_cases hlt:k<bs.length
    · obtain ⟨b,off,rfl,hB,hc⟩:=HC.o (by omega)
      have hcell:=hc k hlt
      have hcell1:=hc (k-1) (by omega)
      obtain ⟨x,hx⟩ : ∃ x,bs.getD k 0=x:=⟨_,rfl⟩
      obtain ⟨y,hy⟩ : ∃ y,bs.getD (k-1) 0=y:=⟨_,rfl⟩
      rw [hx] at hcell
      rw [hy] at hcell1
      have HX:=Zh hx
      have HY:=Zh hy
      clear hx hy hc
      go_wp2_with (go_at_call 22;refine (zac _ _ _ _).mono ?_;rintro e w' ⟨rfl,rfl⟩)
      all_goals first
        | (go_ret;exact ⟨zaq (zqx hlt HX.o ‹_›).symm,(by repeat (first | exact Below.refl _ _ | assumption | (refine Below.alloc ?_ (by first | exact Nat.le_refl _ | (simp;done) | (simp;omega) | omega) _) | (refine Below.drew ?_) | (refine Below.setCell ?_ (by first | exact Nat.le_refl _ | (simp;done) | (simp;omega) | omega) _)))⟩)
        | (go_ret;exact ⟨zaq (zqy hlt HX.o HY.o ‹_› ‹_›).symm,(by repeat (first | exact Below.refl _ _ | assumption | (refine Below.alloc ?_ (by first | exact Nat.le_refl _ | (simp;done) | (simp;omega) | omega) _) | (refine Below.drew ?_) | (refine Below.setCell ?_ (by first | exact Nat.le_refl _ | (simp;done) | (simp;omega) | omega) _)))⟩)
        | (go_round
           case rel=>exact ⟨k+1,HP.o.step hlt HX.o HY.o ‹_› (fun _=>by first | assumption | omega),by go_num⟩
           case measure=>simp [intOf];omega)
    · have hke:k=bs.length:=by omega
      subst hke
      have HR:=Zh (HP.o.done h1 h24)
      go_wp2_with (go_at_call 22;refine (zac _ _ _ _).mono ?_;rintro e w' ⟨rfl,rfl⟩)
      go_ret
      exact ⟨by rw [HI.o,HR.o];rfl,(by repeat (first | exact Below.refl _ _ | assumption | (refine Below.alloc ?_ (by first | exact Nat.le_refl _ | (simp;done) | (simp;omega) | omega) _) | (refine Below.drew ?_) | (refine Below.setCell ?_ (by first | exact Nat.le_refl _ | (simp;done) | (simp;omega) | omega) _)))⟩
theorem zav (n:Int)(A:Option Addr)(cap:Nat)(bs:List Int)(w:World)(hn:Fits n)(hA:Ints w w.heap.size A bs) :
    Calls Tryz.prog 98 #[.agg #[.int .i64 n,.slice A bs.length cap]] w fun e w'=>e = .returned (.bool (rhB n bs))/\Below w.heap.size w w':=by
  by_cases h:1<=n/\n<=24
  · exact zrt n A cap bs w hA h.1 h.2
  · rw [zqw h]
    exact zrs n A cap bs w hn hA h
end Go.Proofs.YtjpnjchpdkogbaaGreatDoor
namespace Go.Proofs.YtjpnjchpdkogbaaGreatDoor
open Go.RowKit
theorem zds (a:Nat)(ha:a<9223372036854775808):(BitVec.ofInt 64 (a:Int)).toNat=a:=by
 rw [BitVec.ofInt_natCast,BitVec.toNat_ofNat];exact Nat.mod_eq_of_lt (by omega)
theorem zcp (a b:Nat)(ha:a<9223372036854775808)(hb:b<9223372036854775808):bits .and .i64 (a:Int) (b:Int)=((a &&& b:Nat):Int):=by
 have hx:a &&& b<2 ^ 63:=Nat.and_lt_two_pow _ (by omega)
 show IntKind.i64.wrap ((BitVec.ofInt 64 (a:Int) &&& BitVec.ofInt 64 (b:Int)).toNat:Int)=_
 rw [BitVec.toNat_and,zds a ha,zds b hb,IntKind.wrap_i64]
 omega
theorem zc1 (a b:Nat)(ha:a<9223372036854775808)(hb:b<9223372036854775808):bits .or .i64 (a:Int) (b:Int)=((a ||| b:Nat):Int):=by
 have hx:a ||| b<2 ^ 63:=Nat.or_lt_two_pow (by omega) (by omega)
 show IntKind.i64.wrap ((BitVec.ofInt 64 (a:Int) ||| BitVec.ofInt 64 (b:Int)).toNat:Int)=_
 rw [BitVec.toNat_or,zds a ha,zds b hb,IntKind.wrap_i64]
 omega
theorem zkw (m v:Nat)(hm:m<65536)(hv:v<16):bits BinOp.or IntKind.i64 (m:Int) (wrap64 (2 ^ v))=((m ||| 2 ^ v:Nat):Int):=by
 have h2:(2:Nat) ^ v<2 ^ 16:=Nat.pow_lt_pow_right (by omega) hv
 have e:wrap64 (2 ^ v)=((2 ^ v:Nat):Int):=by
  rw [show ((2:Int) ^ v)=((2 ^ v:Nat):Int) by simp]
  generalize 2 ^ v=x at h2
  unfold wrap64
  omega
 rw [e]
 exact zc1 m (2 ^ v) (by omega) (by omega)
end Go.Proofs.YtjpnjchpdkogbaaGreatDoor
namespace Go.Proofs.YtjpnjchpdkogbaaGreatDoor
end Go.Proofs.YtjpnjchpdkogbaaGreatDoor
