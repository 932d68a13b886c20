/- Parts of the proof of the card of the law FnConsole. -/
import Derived.Test.YtjpnjchpdkogbaaGreatDoorG15
import Derived.Test.YtjpnjchpdkogbaaGreatDoorG04
import Derived.Test.YtjpnjchpdkogbaaGreatDoorG06
import Derived.Deep.AppendLies
import Derived.ArgAppend
import Derived.Deep.RegionLawGrows
import Derived.Laws.OwnMore
import Derived.Deep.CutRange
import Derived.Test.YtjpnjchpdkogbaaGreatDoorG14
import Derived.Test.YtjpnjchpdkogbaaGreatDoorG05
import Derived.WalkSpells
set_option linter.unusedVariables false
set_option linter.unusedSimpArgs false
set_option maxRecDepth 100000
set_option maxHeartbeats 16000000
namespace Go.Proofs.YtjpnjchpdkogbaaGreatDoor
open Go.RowKit
def kpt (p:Int->Bool)(f:Nat->Int)(k:Nat):List Int:=(lstF f k).filter (fun x=>!p x)
theorem zdl (p:Int->Bool)(f:Nat->Int)(k:Nat):kpt p f (k+1)=if p (f k) then kpt p f k else kpt p f k++[f k]:=by
 unfold kpt lstF
 rw [List.range_succ,List.map_append,List.filter_append]
 cases h:p (f k) <;> simp [h]
theorem zns (p:Int->Bool)(f:Nat->Int) : ∀ k,(∀ j,j<k->p (f j)=false)->kpt p f k=lstF f k:=by
 intro k h
 unfold kpt
 rw [List.filter_eq_self]
 intro x hx
 obtain ⟨j,hj,rfl⟩:=List.mem_map.1 hx
 rw [h j (List.mem_range.1 hj)]
 rfl
theorem zx3 (p:Int->Bool)(f:Nat->Int)(k:Nat):(kpt p f k).length<=k:=by
 unfold kpt
 exact Nat.le_trans (List.length_filter_le _ _) (by rw [za8];exact Nat.le_refl _)
def kptF (p:Int->Bool)(f:Nat->Int)(k t:Nat):Int:=if t<(kpt p f k).length then (kpt p f k).getD t 0 else f t
theorem zx4 {p:Int->Bool}{f:Nat->Int}{k:Nat}(h:p (f k)=true)(t:Nat):kptF p f (k+1) t=kptF p f k t:=by
 unfold kptF
 rw [zdl,if_pos h]
theorem zx5 {p:Int->Bool}{f:Nat->Int}{k:Nat}(h:p (f k)=false):kptF p f (k+1) (kpt p f k).length=f k:=by
 have e:kpt p f (k+1)=kpt p f k++[f k]:=by rw [zdl,if_neg (by rw [h];exact Bool.false_ne_true)]
 unfold kptF
 rw [e,if_pos (by simp)]
 simp [List.getD_eq_getElem?_getD]
theorem zx6 {p:Int->Bool}{f:Nat->Int}{k:Nat}(h:p (f k)=false){t:Nat}(ht:t≠(kpt p f k).length):kptF p f (k+1) t=kptF p f k t:=by
 have e:kpt p f (k+1)=kpt p f k++[f k]:=by rw [zdl,if_neg (by rw [h];exact Bool.false_ne_true)]
 unfold kptF
 rw [e]
 by_cases hl:t<(kpt p f k).length
 ·rw [if_pos hl,if_pos (by simp;omega),List.getD_eq_getElem?_getD,List.getD_eq_getElem?_getD,List.getElem?_append_left hl]
 ·rw [if_neg hl,if_neg (by simp;omega)]
theorem zx7 {p:Int->Bool}{f:Nat->Int}{k t:Nat}(h:k<=t):kptF p f k t=f t:=by
 unfold kptF
 rw [if_neg (by have:=zx3 p f k;omega)]
theorem zx8 (p:Int->Bool)(f:Nat->Int)(n:Nat):lstF (kptF p f n) (kpt p f n).length=kpt p f n:=by
 rw [zxa (g:=fun t=>(kpt p f n).getD t 0) (fun t ht=>by unfold kptF;rw [if_pos ht]),znl]
theorem Tab.pastT {w:World}{b N:Nat}{f:Nat->Int}(h:Tab w b N f)(j:Nat)(u:Value)(hj:N<=j):Tab (w.setCell ⟨b,j,none⟩ u) b N f:=by
 refine ⟨by simpa [World.setCell] using h.1,fun t ht=>⟨?_,?_⟩⟩
 ·rw [World.cell?_setCell_other w _ _ _ (fun q=>by injection q;omega),(h.2 t ht).1]
 ·rw [World.frozen?_setCell];exact (h.2 t ht).2
theorem Tab.clearT {b N:Nat} {f:Nat->Int} : ∀ (vs:List Value) (o:Nat) (w:World),Tab w b N f->N<=o->Tab (w.setCells b o vs) b N f
 | [],_,_,h,_=>h
 | v::vs,o,w,h,ho=>Tab.clearT vs (o+1) _ (h.pastT o v ho) (by omega)
theorem znt {B b:Nat} {a:World} (hb:B<=b) : ∀ (vs:List Value) (o:Nat) (w:World),Below B a w->Below B a (w.setCells b o vs)
 | [],_,_,h=>h
 | v::r,o,w,h=>znt hb r (o+1) _ (h.setCell (by exact hb) v)
theorem zx9 (N g b n c:Nat)(A:Option Addr)(cap:Nat)(bs:List Int)(f:Nat->Int)(w0 w:World)(hA:Hav w0 N g A cap bs)(hok:RhOk N bs)(hbel0:Below w0.heap.size w0 w)(hT:Tab w b n f)(hb0:w0.heap.size<=b)(hn:n<=24)(hnc:n<=c)
  (hf : ∀ j,j<n->1<=f j/\f j<=24) :
  Calls Tryz.prog 175 #[.slice (some ⟨b,0,none⟩) n c,.func (.func 177) #[] #[.pointer (some ⟨g,0,none⟩)]] w fun e w'=>e = .returned (.slice (some ⟨b,0,none⟩) (kpt (drpB N bs) f n).length c)/\Tab w' b (kpt (drpB N bs) f n).length (kptF (drpB N bs) f n)/\Below w0.heap.size w0 w':=by
 have HII:=Zh (zx2 N g A (some ⟨b,0,none⟩) cap c bs (lstF f n) w (hA.lift hbel0) hok (hT.intsT (by unfold maxLen;omega) (fun t ht=>by unfold Fits;have:=hf t ht;omega) c) (fun x hx=>by obtain ⟨j,hj,rfl⟩:=List.mem_map.1 hx;exact hf j (List.mem_range.1 hj)))
 rw [za8] at HII
 have HCL:=Zh (fun (x:Int) (V:World) (hV:Below w0.heap.size w0 V) (hx:1<=x/\x<=24)=>znr N g x A cap bs V (hA.lift hV) hok hx)
 have HF:=Zh hf
 have HT:=Zh hT
 have HB0:=Zh hbel0
 clear hA hok hf hT hbel0
 generalize drpB N bs=p at *
 go_enter Tryz.func175,Tryz.ntmps175
 go_wp2_with fail
 refine HII.o.mono ?_
 rintro e w1 ⟨⟨r,rfl,hr⟩,hb⟩
 have HT:=Zh (HT.o.below hb HT.o.1)
 have HB0:=Zh (HB0.o.trans (hb.mono HB0.o.size))
 rcases hr with ⟨rfl,hno⟩ | ⟨k0,rfl,hk0,hyes,hno⟩
 ·have HE:=Zh (zns p f n (fun j hj=>by have:=hno j hj;rwa [zcm f hj] at this))
  clear hno hb
  go_wp2_with fail
  go_ret
  refine ⟨?_,?_,HB0.o⟩
  ·rw [HE.o,za8];rfl
  ·rw [HE.o,za8]
   exact HT.o.congr (fun t ht=>by unfold kptF;rw [HE.o,za8,if_pos ht,zcm f ht])
 ·have HK0:=Zh (zns p f k0 (fun j hj=>by have:=hno j hj;rwa [zcm f (by omega)] at this))
  rw [zcm f hk0] at hyes
  have hk1:(kpt p f (k0+1)).length=k0:=by rw [zdl,if_pos hyes,HK0.o,za8]
  have HT:=Zh (HT.o.congr (g:=kptF p f (k0+1)) (fun t ht=>by
   unfold kptF
   rw [hk1]
   by_cases h:t<k0
   ·rw [if_pos h,zdl,if_pos hyes,HK0.o,zcm f h]
   ·rw [if_neg h]))
  clear hno hb hyes
  have HK1:=Zh hk1
  clear hk1
  go_wp2_with fail
  go_loopw [5,6,7] (fun i j _ wr=>∃ k:Nat,i = .int .i64 (kpt p f k).length/\j = .int .i64 k/\k<=n/\(kpt p f k).length<k/\Tab wr b n (kptF p f k)/\Below w0.heap.size w0 wr) (fun _ j _ _=>n-(intOf j).toNat)
  case atStart=>exact ⟨k0+1,by rw [HK1.o],rfl,hk0,by rw [HK1.o];omega,HT.o,HB0.o⟩
  case round =>
   obtain ⟨k,rfl,rfl,hk,hlt,htab,hbel⟩:=hrel
   have HTB:=Zh htab
   have HBL:=Zh hbel
   obtain ⟨i,hi⟩ : ∃ i,(kpt p f k).length=i:=⟨_,rfl⟩
   rw [hi] at hlt
   rw [hi]
   have HI:=Zh hi
   clear hi
   by_cases hkn:k<n
   ·have hck:=htab.get hkn (zx7 (Nat.le_refl k))
    have hin:=HF.o k hkn
    have hci:=(htab.2 i (by omega)).1
    have hfi:=(htab.2 i (by omega)).2
    have hbs:=htab.1
    clear htab hbel
    obtain ⟨y,hy⟩ : ∃ y,f k=y:=⟨_,rfl⟩
    rw [hy] at hck hin
    have HY:=Zh hy
    clear hy
    have HCY:=Zh (HCL.o y wr HBL.o hin)
    clear hin
    cases hxy:p y
    ·have HX:=Zh hxy
     rw [hxy] at HCY
     clear hxy
     clear hci hfi
     go_wp2_with (go_at_call 177;refine HCY.o.mono ?_;rintro e w2 ⟨rfl,hb1⟩;have HTB:=Zh (HTB.o.below hb1 HTB.o.1);have HBL:=Zh (HBL.o.trans (hb1.mono HBL.o.size));have hci:=(HTB.o.2 i (by omega)).1;have hfi:=(HTB.o.2 i (by omega)).2)
     go_roundw
     case rel =>
      refine ⟨_,_,_,_,_,_,_,_,_,_,_,_,_,_,_,_,_,_,_,_,_,_,_,?_,rfl⟩
      have hp':p (f k)=false:=by rw [HY.o];exact HX.o
      have hl':(kpt p f (k+1)).length=i+1:=by rw [zdl,if_neg (by rw [hp'];exact Bool.false_ne_true),List.length_append,HI.o];rfl
      refine ⟨k+1,by rw [hl'];go_num,by go_num,by omega,by omega,?_,?_⟩
      ·exact HTB.o.set_ i y (by omega) (by rw [<- HI.o,zx5 hp',HY.o]) (fun t ht hne=>zx6 hp' (by rw [HI.o];exact hne))
      ·exact HBL.o.setCell (p:=⟨b,i,none⟩) hb0 _
     case measure=>simp [intOf];omega
    ·have HX:=Zh hxy
     rw [hxy] at HCY
     clear hxy
     go_wp2_with (go_at_call 177;refine HCY.o.mono ?_;rintro e w2 ⟨rfl,hb1⟩)
     go_roundw
     case rel =>
      refine ⟨_,_,_,_,_,_,_,_,_,_,_,_,_,_,_,_,_,_,_,_,_,_,_,?_,rfl⟩
      have hp':p (f k)=true:=by rw [HY.o];exact HX.o
      have hl':kpt p f (k+1)=kpt p f k:=by rw [zdl,if_pos hp']
      exact ⟨k+1,by rw [hl',HI.o],by go_num,by omega,by rw [hl',HI.o];omega,(HTB.o.below hb1 HTB.o.1).congr (fun t _=>(zx4 hp' t).symm),HBL.o.trans (hb1.mono HBL.o.size)⟩
     case measure=>simp [intOf];omega
   ·obtain rfl:k=n:=by omega
    have hcl : ∀ ty,(Builtin.clear_ #[25] ty #[.slice (some ⟨b,i,none⟩) (k-i) (c-i)]).run Tryz.prog wr = .ok (.tuple #[]) (wr.setCells b i (List.replicate (k-i) (.int .i64 0))) :=
     fun ty=>Lib.run_clear_slice wr _ 3 ty _ rfl (fun _=>rfl) rfl rfl b i _ _ (by omega) (fun t ht=>by rw [(HTB.o.2 (i+t) (by omega)).1];rfl) (fun t ht=>(HTB.o.2 (i+t) (by omega)).2)
    clear htab hbel
    go_wp2_with fail
    go_ret
    refine ⟨by rw [HI.o];rfl,?_,?_⟩
    ·rw [HI.o]
     exact Tab.clearT _ _ _ ⟨HTB.o.1,fun t ht=>HTB.o.2 t (by omega)⟩ (Nat.le_refl _)
    ·exact znt hb0 _ _ _ HBL.o
theorem OwnI.tabW {w:World}{base g cap:Nat}{xs:List Int}(h:OwnI w base (.slice (some ⟨g,0,none⟩) xs.length cap) xs):base<=g/\xs.length<=cap/\Tab w g xs.length (fun t=>xs.getD t 0):=by
 obtain ⟨hb,hl,hm,cur,hh,hs,ht⟩:=h.rowC
 refine ⟨hb,hl,(Array.getElem?_eq_some_iff.1 hh).1,fun t htt=>⟨?_,frozen_of_row _ _ _ _ _ hh⟩⟩
 rw [cell_of_row _ _ _ _ _ _ hh,<- Array.getElem?_toList]
 have:(cur.toList.take xs.length)[t]? = (xs.map (Value.int .i64))[t]?:=by rw [ht]
 rw [List.getElem?_take_of_lt htt] at this
 rw [this,List.getElem?_map,List.getElem?_eq_getElem htt]
 simp [List.getD_eq_getElem?_getD,htt]
def vanL (N:Nat)(bs:List Int):List Int:=(dvsL N (N+1)).filter (fun x=>!drpB N bs x)
theorem zya (N:Nat)(A:Option Addr)(cap:Nat)(bs:List Int)(w:World)(hA:Ints w w.heap.size A bs)(hok:RhOk N bs)(hd : ∀ x∈dvsL N (N+1),1<=x/\x<=24)(hp:0<(dvsL N (N+1)).length)(hl:(dvsL N (N+1)).length<=24) :
  Calls Tryz.prog 120 #[.agg #[.int .i64 N,.slice A bs.length cap]] w fun e w'=>(∃ g c h,e = .returned (.slice (some ⟨g,0,none⟩) (vanL N bs).length c)/\w.heap.size<=g/\Tab w' g (vanL N bs).length h/\lstF h (vanL N bs).length=vanL N bs)/\Below w.heap.size w w':=by
 have hn2:N<=24:=by have:=hok.2.1;omega
 have hn1:1<=N:=by have:=hok.1;omega
 have hfN:Fits (N:Int):=by unfold Fits;omega
 have hr:rhB N bs=true:=zao.2 hok
 have HRO:=Zh (fun V h=>hr ▸ zav N A cap bs V hfN h)
 have HDV:=Zh (fun V=>zxm N V hn1 hn2)
 have HBW:=Zh ((Below.refl w.heap.size w).alloc (Nat.le_refl _) (.cells #[.int .i64 N,.slice A (bs).length cap] 27))
 have HVA:=Zh (Hav.boxed hA N cap)
 have HDL:=Zh (ziz N (N+1))
 have HDF:=Zh (fun (g b c:Nat) (w0 w:World) h1 h2 h3 h4 h5 h6 h7=>zx9 N g b (dvsL N (N+1)).length c A cap bs (fun t=>(dvsL N (N+1)).getD t 0) w0 w h1 hok h2 h3 h4 h5 h6 h7)
 clear hA hr
 obtain ⟨⟨p0,p1,_,_,_⟩,_⟩:=HVA.o
 go_enter Tryz.func120,Tryz.ntmps120
 go_wp2_with fail
 generalize w.alloc (.cells #[.int .i64 N,.slice A (bs).length cap] 27)=W at *
 refine (HRO.o _ HVA.o.2).mono ?_
 rintro e w1 ⟨rfl,hb⟩
 have HBW:=Zh (HBW.o.trans (hb.mono HBW.o.size))
 try have HVA:=Zh (HVA.o.lift hb)
 clear hb
 clear p0 p1
 obtain ⟨⟨p0,p1,_,_,_⟩,_⟩:=HVA.o
 go_wp2_with fail
 refine (HDV.o w1).mono ?_
 rintro e w2 ⟨v,rfl,hv,hb⟩
 obtain ⟨g,c,rfl⟩:=hv.posC hp
 obtain ⟨hg,hlc,htb⟩:=hv.tabW
 have hlen:(kpt (drpB N bs) (fun t=>(dvsL N (N+1)).getD t 0) (dvsL N (N+1)).length)=vanL N bs:=by
  unfold kpt vanL
  rw [znl]
 have HZ:=Zh (HDF.o w.heap.size g c w1 w2 HVA.o hb htb hg hl hlc (fun j hj=>hd _ (by rw [List.getD_eq_getElem?_getD,List.getElem?_eq_getElem hj];exact List.getElem_mem hj)))
 rw [hlen] at HZ
 have hlf:lstF (kptF (drpB N bs) (fun t=>(dvsL N (N+1)).getD t 0) (dvsL N (N+1)).length) (vanL N bs).length=vanL N bs:=by
  rw [<- hlen];exact zx8 _ _ _
 generalize kptF (drpB N bs) (fun t=>(dvsL N (N+1)).getD t 0) (dvsL N (N+1)).length=h at HZ hlf
 have hgw:w.heap.size<=g:=Nat.le_trans HBW.o.size hg
 have HFL:=Zh hlf
 clear hlen hlf htb hv hlc hg hb
 go_wp2_with fail
 refine HZ.o.mono ?_
 rintro e w3 ⟨rfl,htab,hb⟩
 have HBW:=Zh (HBW.o.trans (hb.mono HBW.o.size))
 try have HVA:=Zh (HVA.o.lift hb)
 clear hb
 go_wp2_with fail
 go_ret
 exact ⟨⟨g,c,h,rfl,hgw,htab,HFL.o⟩,HBW.o⟩
theorem znu : ∀ N,N<=24->1<=N->(∀ x∈dvsL N (N+1),1<=x/\x<=24)/\0<(dvsL N (N+1)).length/\(dvsL N (N+1)).length<=24:=by
 have h : ∀ N:Fin 25,1<=N.val->(∀ x∈dvsL N.val (N.val+1),1<=x/\x<=24)/\0<(dvsL N.val (N.val+1)).length/\(dvsL N.val (N.val+1)).length<=24:=by decide +kernel
 exact fun N hN h1=>h ⟨N,by omega⟩ h1
theorem OwnI.monoD {w:World}{base base':Nat}{v:Value}{xs:List Int}(h:OwnI w base v xs)(hb:base'<=base):OwnI w base' v xs :=
 ⟨h.1,h.2.imp id fun ⟨g,cap,cur,e,hg,r⟩=>⟨g,cap,cur,e,Nat.le_trans hb hg,r⟩⟩
def Cell1 (w:World)(g:Nat)(u:Value):Prop:=g<w.heap.size/\w.cell? ⟨g,0,none⟩=some u
theorem Cell1.new (w:World)(u:Value)(t:TypeId):Cell1 (w.alloc (.cells #[u] t)) w.heap.size u:=⟨by simp,zag w u t⟩
theorem Cell1.ints {w:World}{g:Nat}{x:Int}(h:Cell1 w g (.int .i64 x))(hf:Fits x):Ints w w.heap.size (some ⟨g,0,none⟩) [x]:=by
 refine ⟨by unfold maxLen;simp,fun y hy=>?_,fun _=>⟨g,0,rfl,h.1,fun i hi=>?_⟩⟩
 ·rw [List.mem_singleton] at hy;subst hy;exact hf
 ·have:i=0:=by simp at hi;omega
  subst this
  exact h.2
theorem Ints.setFarP {w:World}{B:Nat}{A:Option Addr}{xs:List Int}(h:Ints w B A xs){p:Addr}(hne : ∀ k o,A=some ⟨k,o,none⟩->k≠p.block)(u:Value):Ints (w.setCell p u) B A xs:=by
 refine ⟨h.1,h.2.1,fun hn=>?_⟩
 obtain ⟨b,off,e,hb,hc⟩:=h.2.2 hn
 refine ⟨b,off,e,hb,fun i hi=>?_⟩
 rw [World.cell?_of_block (w:=w) (a:=⟨b,off+i,none⟩) (Below.heap_setCell w p u b (hne b off e))]
 exact hc i hi
theorem zyb {N:Nat}{xs:List Int}(h:RhOk N xs)(p:Nat)(hp:p<N)(hl : ∀ x∈xs,x<(p:Int)):RhOk N (xs++[(p:Int)]):=by
 refine ⟨h.1,h.2.1,fun i hi=>?_,fun i hi=>?_⟩
 ·rw [List.length_append,List.length_singleton] at hi
  by_cases e:i<xs.length
  ·rw [List.getD_eq_getElem?_getD,List.getElem?_append_left e,<- List.getD_eq_getElem?_getD]
   exact h.2.2.1 i e
  ·have:i=xs.length:=by omega
   subst this
   rw [List.getD_eq_getElem?_getD,List.getElem?_append_right (Nat.le_refl _)]
   simp
   omega
 ·rw [List.length_append,List.length_singleton] at hi
  rw [List.getD_eq_getElem?_getD,List.getElem?_append_left (by omega),<- List.getD_eq_getElem?_getD]
  by_cases e:i+1<xs.length
  ·rw [List.getD_eq_getElem?_getD (l:=xs++[(p:Int)]),List.getElem?_append_left e,<- List.getD_eq_getElem?_getD]
   exact h.2.2.2 i e
  ·have:i+1=xs.length:=by omega
   rw [List.getD_eq_getElem?_getD (l:=xs++[(p:Int)]),this,List.getElem?_append_right (Nat.le_refl _)]
   simp
   refine hl _ ?_
   rw [List.getElem?_eq_getElem (by omega)]
   simp
theorem zi1 {N:Nat}{bs:List Int}{y:List Nat} : ∀ {m:Nat} {b:List Nat} {p:Nat},RhOk N (b.map Int.ofNat)->(∀ q∈b,q<p)->p+m=N->gS N bs m b p=some y->RhOk N (y.map Int.ofNat)
 | 0,b,p,hr,hb,hp,e=>by
  unfold gS at e
  split at e
  ·injection e with e;subst e;exact hr
  ·cases e
 | m+1,b,p,hr,hb,hp,e=>by
  have hno:gS N bs m b (p+1)=some y->RhOk N (y.map Int.ofNat):=zi1 hr (fun q hq=>by have:=hb q hq;omega) (by omega)
  unfold gS at e
  split at e
  ·injection e with e;subst e;exact hr
  ·split at e
   ·cases e2:gS N bs m (b++[p]) (p+1) with
    | some z =>
     rw [e2] at e
     injection e with e;subst e
     refine zi1 ?_ ?_ (by omega) e2
     ·rw [List.map_append]
      refine zyb hr p (by omega) (fun x hx=>?_)
      rw [List.mem_map] at hx
      obtain ⟨q,hq,rfl⟩:=hx
      have:=hb q hq
      show (q:Int)<(p:Int)
      omega
     ·intro q hq
      rw [List.mem_append,List.mem_singleton] at hq
      rcases hq with hq | rfl
      ·have:=hb q hq;omega
      ·omega
    | none=>rw [e2] at e;exact hno e
   ·exact hno e
def parV (N:Nat)(bs:List Int):Option (List Int):=if bs.length=0\/N % bs.length≠0 then none else (gS N bs (N-1) [0] 1).map (·.map Int.ofNat)
theorem zyc {N:Nat}(h1:1<=N)(h2:N<=24):RhOk N [(0:Int)]:=by
 refine ⟨by omega,by omega,fun i hi=>?_,fun i hi=>?_⟩
 ·have:i=0:=by simp at hi;omega
  subst this
  simp;omega
 ·simp at hi
theorem znv {N:Nat}{bs:List Int}(hok:RhOk N bs){y:List Int}(h:parV N bs=some y):RhOk N y:=by
 have h1:1<=N:=by have:=hok.1;omega
 have h2:N<=24:=by have:=hok.2.1;omega
 unfold parV at h
 split at h
 ·cases h
 ·cases e:gS N bs (N-1) [0] 1 with
  | none=>rw [e] at h;cases h
  | some z =>
   rw [e] at h
   injection h with h;subst h
   exact zi1 (b:=[0]) (show RhOk N (([0]:List Nat).map Int.ofNat) from zyc h1 h2) (by simp) (by omega) e
def znw (w:World)(N:Nat)(o:Option (List Int))(e:Ending)(w':World):Prop :=
 (match o with
  | none=>e = .returned (.tuple #[.agg #[.int .i64 0,.slice none 0 0],.bool false])
  | some y=>∃ A c,e = .returned (.tuple #[.agg #[.int .i64 N,.slice A y.length c],.bool true])/\Ints w' w'.heap.size A y)/\Below w.heap.size w w'
theorem OwnI.newAtI {w:World}{base c:Nat}{A:Option Addr}{L:List Int}(h:OwnI w base (.slice A L.length c) L)(hp:0<L.length) : ∃ k,A=some ⟨k,0,none⟩/\base<=k:=by
 rcases h.2 with ⟨hv,h0⟩ | ⟨g,cap',cur,hv,hge,_⟩
 ·omega
 ·injection hv with h1
  exact ⟨g,h1,hge⟩
def RetB (w:World)(AB:Option Addr)(o:Option (List Nat))(e:Ending)(w':World):Prop :=
 (match o with
  | none=>e = .returned (.slice none 0 0)
  | some x=>∃ g off c,e = .returned (.slice (some ⟨g,off,none⟩) x.length c)/\Ints w' w'.heap.size (some ⟨g,off,none⟩) (x.map Int.ofNat)/\(some ⟨g,off,none⟩=AB\/w.heap.size<=g))/\Below w.heap.size w w'
def codL (N:Nat)(bs:List Int):List Int:=(List.range N).map fun k=>(cdN N bs k:Int)
theorem zf9 (N:Nat)(bs:List Int):(codL N bs).length=N:=by simp [codL]
theorem znx (N:Nat)(bs:List Int){k:Nat}(h:k<N):(codL N bs).getD k 0=(cdN N bs k:Int):=by
 unfold codL
 rw [List.getD_eq_getElem?_getD,List.getElem?_eq_getElem (by simpa using h)]
 simp
theorem zyd (v:Nat)(hv:v<=24):wrap64 (2 ^ v)=((2 ^ v:Nat):Int):=by
 have h2:(2:Nat) ^ v<=2 ^ 24:=Nat.pow_le_pow_right (by omega) hv
 rw [show ((2:Int) ^ v)=((2 ^ v:Nat):Int) by simp]
 generalize 2 ^ v=x at h2
 unfold wrap64
 omega
theorem zye (P:Nat)(h1:1<=P)(h2:P<=16777216):IntKind.i64.wrap ((P:Int)-1)=((P-1:Nat):Int):=by rw [i64w (by omega)];omega
theorem zny (v:Nat)(hv:v<=24):1<=2 ^ v/\2 ^ v<=16777216:=⟨Nat.two_pow_pos v,Nat.le_trans (Nat.pow_le_pow_right (by omega) hv) (by decide)⟩
theorem zyf (N:Nat)(bs:List Int)(hok:RhOk N bs)(AC:Option Addr)(cC:Nat) : ∀ (f last:Nat) (pre:List Nat) (AB:Option Addr) (cB:Nat) (w:World),last+1+f=N->pre.length<=last->(∀ q∈pre,q<24)->Ints w w.heap.size AC (codL N bs)->Ints w w.heap.size AB ((pre++[last]).map Int.ofNat) ->
  Calls Tryz.prog 106 #[.slice AC N cC,.slice AB (pre++[last]).length cB,.int .i64 (mskF N bs (pre++[last]))] w (RetB w AB (gS N bs f (pre++[last]) (last+1))):=by
 have hn1:1<=N:=by have:=hok.1;omega
 have hn2:N<=24:=by have:=hok.2.1;omega
 intro f
 induction f using Nat.strongRecOn with
 | ind f ih =>
 intro last pre AB cB w hf hpl hpq hC hB
 obtain ⟨hp1,hp2⟩:=zny N hn2
 have hsh:=zyd N hn2
 have HIH:=Zh (fun f' (hf':f'<f) last' AB' cB' V h1 (h2:(pre++[last]).length<=last') h3 h4=>ih f' hf' last' (pre++[last]) AB' cB' V h1 h2 (fun q hq=>by
  rcases List.mem_append.1 hq with h | h
  ·exact hpq q h
  ·rw [List.mem_singleton] at h;omega) h3 h4)
 have HMS:=Zh (fun k=>zf5 (N:=N) (bs:=bs) (pre++[last]) k)
 have HBL:=Zh (show (pre++[last]).length=pre.length+1 by simp)
 have HBT:=Zh (show ((pre++[last]).map Int.ofNat).getD pre.length 0=(last:Int) by
  rw [List.map_append,List.getD_eq_getElem?_getD,List.getElem?_append_right (by simp)]
  simp)
 have hml:=zit hok (pre++[last])
 have HMC:=Zh (show cplB N bs (pre++[last])=decide (mskF N bs (pre++[last])=2 ^ N-1) from rfl)
 have HCL:=Zh (fun k=>zes hok k)
 have HDJ:=Zh (fun k=>show djB N bs (pre++[last]) k=decide (cdN N bs k &&& mskF N bs (pre++[last])=0) from rfl)
 have HP0:=Zh (show posN N bs (pre++[last]) (last+1) 0=mskF N bs (pre++[last]) from rfl)
 have HPS:=Zh (fun m=>show posN N bs (pre++[last]) (last+1) (m+1)=if djB N bs (pre++[last]) (last+1+m) then posN N bs (pre++[last]) (last+1) m ||| cdN N bs (last+1+m) else posN N bs (pre++[last]) (last+1) m from rfl)
 have HPL:=Zh (fun m=>zf7 hok (pre++[last]) (last+1) m)
 have HPR:=Zh (fun m (h:posN N bs (pre++[last]) (last+1) m≠2 ^ N-1)=>zw9 hok h)
 have HGD:=Zh (fun m p (h:cplB N bs (pre++[last])=true)=>zw5 (m:=m) (p:=p) h)
 have HGE:=Zh (fun p (h:cplB N bs (pre++[last])=false)=>zw6 (p:=p) h)
 have HGN:=Zh (fun m p (h:cplB N bs (pre++[last])=false) (h2:djB N bs (pre++[last]) p=false)=>zw7 (m:=m) h h2)
 have HGY:=Zh (fun m p (h:cplB N bs (pre++[last])=false) (h2:djB N bs (pre++[last]) p=true)=>zw8 (m:=m) h h2)
 have HQ0:=Zh (fun q (hq:q∈pre++[last])=>show q<24 by
  rcases List.mem_append.1 hq with h | h
  ·exact hpq q h
  ·rw [List.mem_singleton] at h;omega)
 clear ih hpq
 generalize pre++[last]=b at *
 obtain ⟨bC,oC,hAC,hbC,hcC⟩:=hC.2.2 (by rw [zf9];omega)
 obtain ⟨bB,oB,hAB,hbB,hcB⟩:=hB.2.2 (by rw [List.length_map,HBL.o];omega)
 subst hAC hAB
 have HCC:=Zh (fun k (hk:k<N)=>show w.cell? ⟨bC,oC+k,none⟩=some (.int .i64 (cdN N bs k:Nat)) by rw [hcC k (by rw [zf9];exact hk),znx N bs hk])
 have HBC:=Zh (show w.cell? ⟨bB,oB+pre.length,none⟩=some (.int .i64 (last:Nat)) by rw [hcB _ (by rw [List.length_map,HBL.o];omega),HBT.o])
 have HC:=Zh hC
 have HB:=Zh hB
 have HCN:=Zh (fun V h=>show Calls Tryz.prog 12 #[.slice (some ⟨bB,oB,none⟩) b.length cB] V fun e w'=>∃ v,e = .returned v/\OwnI w' V.heap.size v (b.map Int.ofNat)/\Below V.heap.size V w' by
  have:=zei (some ⟨bB,oB,none⟩) cB (b.map Int.ofNat) V h (by rw [List.length_map,HBL.o];omega)
  rwa [List.length_map] at this)
 clear hC hB hcC hcB
 obtain ⟨T,hT⟩ : ∃ T,mskF N bs b=T:=⟨_,rfl⟩
 rw [hT] at hml HMC HMS HDJ HP0 ⊢
 obtain ⟨P,hP⟩ : ∃ P,2 ^ N=P:=⟨_,rfl⟩
 rw [hP] at hp1 hp2 hsh hml HMC HPR
 have HPP:=Zh hP
 have HLT:=Zh (fun (x:Nat) (h:x<2 ^ N)=>show x<16777216 from Nat.lt_of_lt_of_le (hP ▸ h) hp2)
 have HWF:=Zh (zye P hp1 hp2)
 have hTP:T<16777216:=Nat.lt_of_lt_of_le hml hp2
 have HSH:=Zh hsh
 clear hT hP hsh hp2
 have hNn:(0:Int)<=(N:Int):=Int.natCast_nonneg _
 cases hcp:cplB N bs b
 rotate_left
 ·have hq:((T:Int)==((P-1:Nat):Int))=true:=by
   have h1:=HMC.o
   rw [hcp] at h1
   have h2:=of_decide_eq_true h1.symm
   rw [beq_iff_eq];omega
  have HGV:=Zh (HGD.o f (last+1) hcp)
  have hsh:=HSH.o
  have hwF:=HWF.o
  go_enter Tryz.func106,Tryz.ntmps106
  go_wp2_with fail
  go_ret
  rw [HGV.o]
  exact ⟨⟨bB,oB,cB,rfl,HB.o,.inl rfl⟩,Below.refl _ _⟩
 have hq:((T:Int)==((P-1:Nat):Int))=false:=by
  have h1:=HMC.o
  rw [hcp] at h1
  have h2:=of_decide_eq_false h1.symm
  rw [beq_eq_false_iff_ne];omega
 have HCP:=Zh hcp
 have hbc:=HBC.o
 have hbl:=HBL.o
 have hw1:IntKind.i64.wrap ((b.length:Int)-1)=(pre.length:Int):=by rw [i64w (by omega)];omega
 have hi0:(0:Int)<=(pre.length:Int):=Int.natCast_nonneg _
 have hi1:(pre.length:Int)<(b.length:Int):=by omega
 have hw2:IntKind.i64.wrap ((last:Int)+1)=((last+1:Nat):Int):=by rw [i64w (by omega)];omega
 have HBL2:=Zh hbl
 clear hcp hbl
 have hsh:=HSH.o
 have hwF:=HWF.o
 go_enter Tryz.func106,Tryz.ntmps106
 go_wp2_with fail
 clear hsh hwF hw1 hw2 hi0 hi1 hbc
 have HQ:=Zh hq
 clear hq
 go_loop [9,10] (fun q i=>∃ m:Nat,m<=f/\i = .int .i64 ((last+1+m:Nat):Int)/\q = .int .i64 (posN N bs b (last+1) m)) (fun _ i=>N-(intOf i).toNat)
 case atStart=>exact ⟨0,Nat.zero_le _,by simp,by rw [HP0.o]⟩
 case round =>
  obtain ⟨m,hm,rfl,rfl⟩:=hrel
  have hps:=HPS.o m
  have hpl:=HLT.o _ (HPL.o m)
  by_cases hlt:m<f
  ·obtain ⟨k,hk⟩ : ∃ k,last+1+m=k:=⟨_,rfl⟩
   have hcc:=HCC.o k (by omega)
   have hcl:=HLT.o _ (HCL.o k)
   have hdj:=HDJ.o k
   rw [hk] at hps ⊢
   have hki:(k:Int)<(N:Int):=by omega
   have hk0:(0:Int)<=(k:Int):=Int.natCast_nonneg _
   have hw3:IntKind.i64.wrap ((k:Int)+1)=((k+1:Nat):Int):=by rw [i64w (by omega)];omega
   have HK:=Zh hk
   clear hk
   obtain ⟨c,hc⟩ : ∃ c,cdN N bs k=c:=⟨_,rfl⟩
   rw [hc] at hcc hcl hdj hps
   clear hc
   have hand:=zcp c T (by omega) (by omega)
   obtain ⟨u,hu⟩ : ∃ u,c &&& T=u:=⟨_,rfl⟩
   rw [hu] at hand hdj
   clear hu
   cases hd:djB N bs b k
   ·rw [hd] at hdj hps
    have hu0:((u:Int)==0)=false:=by
     have:=of_decide_eq_false hdj.symm
     rw [beq_eq_false_iff_ne];omega
    have HS:=Zh hps
    clear hdj hps hd
    go_wp2_with fail
    go_round
    case rel=>exact ⟨m+1,by omega,by rw [<- HK.o];go_num,by rw [HS.o];rfl⟩
    case measure=>simp [intOf];omega
   ·rw [hd] at hdj hps
    have hu0:u=0:=of_decide_eq_true hdj.symm
    subst hu0
    have hor:=zc1 (posN N bs b (last+1) m) c (by omega) (by omega)
    have HS:=Zh hps
    clear hdj hps hd
    generalize posN N bs b (last+1) m=Q at *
    obtain ⟨R,hR⟩ : ∃ R,Q ||| c=R:=⟨_,rfl⟩
    rw [hR] at hor
    have HR:=Zh hR
    clear hR
    go_wp2_with fail
    go_round
    case rel=>exact ⟨m+1,by omega,by rw [<- HK.o];go_num,by rw [HS.o,if_pos rfl,HR.o]⟩
    case measure=>simp [intOf];omega
  ·have hme:m=f:=by omega
   subst hme
   have hki : ¬ ((last+1+m:Nat):Int)<(N:Int):=by omega
   by_cases hpe:posN N bs b (last+1) m=P-1
   rotate_left
   ·have hpi:((posN N bs b (last+1) m:Nat):Int)≠((P-1:Nat):Int):=by omega
    have HGV:=Zh (HPR.o m hpe)
    have hpb:(((posN N bs b (last+1) m:Nat):Int) != ((P-1:Nat):Int))=true:=bne_iff_ne.2 hpi
    have hpb2:(((posN N bs b (last+1) m:Nat):Int)==((P-1:Nat):Int))=false:=beq_eq_false_iff_ne.2 hpi
    clear hps hpi hpe
    generalize posN N bs b (last+1) m=Q at *
    go_wp2_with fail
    go_ret
    rw [HGV.o]
    exact ⟨rfl,Below.refl _ _⟩
   rw [hpe]
   have hbc:=HBC.o
   have hw1:IntKind.i64.wrap ((b.length:Int)-1)=(pre.length:Int):=by rw [HBL2.o,i64w (by omega)];omega
   have hi0:(0:Int)<=(pre.length:Int):=Int.natCast_nonneg _
   have hi1:(pre.length:Int)<(b.length:Int):=by rw [HBL2.o];omega
   have hw2:IntKind.i64.wrap ((last:Int)+1)=((last+1:Nat):Int):=by rw [i64w (by omega)];omega
   clear hps hpl hpe
   go_wp2_with fail
   clear hw1 hi0 hi1 hw2 hbc
   go_loopw [11] (fun i wr=>∃ k:Nat,last+1<=k/\k<=N/\i = .int .i64 (k:Nat)/\gS N bs m b (last+1)=gS N bs (N-k) b k/\Below w.heap.size w wr) (fun i _=>N-(intOf i).toNat)
   case atStart=>exact ⟨last+1,Nat.le_refl _,by omega,by simp,by rw [show N-(last+1)=m by omega],Below.refl _ _⟩
   case round =>
    obtain ⟨k,hk1,hk2,rfl,hgs,hbel⟩:=hrel
    obtain ⟨wo,rfl⟩ : ∃ wo:World,wo=wr:=⟨_,rfl⟩
    have HGS:=Zh hgs
    have HBO:=Zh hbel
    have hws:=hbel.size
    clear hgs
    by_cases hlt2:k<N
    ·have hcc:=(hbel.cell (p:=⟨bC,oC+k,none⟩) hbC).trans (HCC.o k hlt2)
     have hcl:=HLT.o _ (HCL.o k)
     have hdj:=HDJ.o k
     have hki:(k:Int)<(N:Int):=by omega
     have hk0:(0:Int)<=(k:Int):=Int.natCast_nonneg _
     have hw3:IntKind.i64.wrap ((k:Int)+1)=((k+1:Nat):Int):=by rw [i64w (by omega)];omega
     have HMK:=Zh (HMS.o k)
     obtain ⟨c,hc⟩ : ∃ c,cdN N bs k=c:=⟨_,rfl⟩
     rw [hc] at hcc hcl hdj HMK
     clear hc
     have hand:=zcp c T (by omega) (by omega)
     have hor:=zc1 T c (by omega) (by omega)
     obtain ⟨u,hu⟩ : ∃ u,c &&& T=u:=⟨_,rfl⟩
     rw [hu] at hand hdj
     clear hu
     obtain ⟨R,hR⟩ : ∃ R,T ||| c=R:=⟨_,rfl⟩
     rw [hR] at hor HMK
     clear hR hbel
     cases hd:djB N bs b k
     ·rw [hd] at hdj
      have hu0:((u:Int)==0)=false:=by
       have:=of_decide_eq_false hdj.symm
       rw [beq_eq_false_iff_ne];omega
      have HG2:=Zh (HGN.o (N-(k+1)) k HCP.o hd)
      clear hdj hd
      go_wp2_with fail
      go_roundw
      case rel=>exact ⟨k+1,by omega,by omega,by go_num,by rw [HGS.o,show N-k=N-(k+1)+1 by omega,HG2.o],HBO.o⟩
      case measure=>simp [intOf];omega
     ·rw [hd] at hdj
      have hu0:u=0:=of_decide_eq_true hdj.symm
      subst hu0
      have HG2:=Zh (HGY.o (N-(k+1)) k HCP.o hd)
      have HQB:=Zh (fun q (hq:q∈b++[k])=>show q<24 by
       rcases List.mem_append.1 hq with h | h
       ·exact HQ0.o q h
       ·rw [List.mem_singleton] at h;omega)
      have HIJ:=Zh (fun AB' cB' V h3 h4=>HIH.o (N-(k+1)) (by omega) k AB' cB' V (by omega) (by rw [HBL2.o];omega) h3 h4)
      rw [HMK.o,show (b++[k]).length=b.length+1 by simp] at HIJ
      clear hdj hd
      go_wp2_with fail
      have HBW:=Zh (Below.refl wo.heap.size wo.drew)
      have HCK:=Zh hcc
      (refine wp_region_held_drew (S:=(fun w'=>w'.cell? ⟨bC,oC+k,none⟩=some (.int .i64 c))) (by kernel_rfl) ?_ (fun hHeld=>?_);(focus ((try dsimp only);exact hcc)))
      ((refine Zk 0 ?_;(try simp only [Act.put,Zz]));(refine Zk 1 ?_;(try simp only [Act.put,Zz]));(refine Zk 3 ?_;(try simp only [Act.put,Zz]));(refine Zk 6 ?_;(try simp only [Act.put,Zz]));(refine Zk 7 ?_;(try simp only [Act.put,Zz]));(refine Zk 8 ?_;(try simp only [Act.put,Zz]));(refine Zk 9 ?_;(try simp only [Act.put,Zz]));(refine Zk 10 ?_;(try simp only [Act.put,Zz]));(refine Zk 11 ?_;(try simp only [Act.put,Zz])))
      refine wpAnyH_ready (rs:=[2,4]) (by kernel_rfl) (by simp) ?_
      refine AllReadyH.cons rfl (fun K hK=>?_) (AllReadyH.cons rfl (fun K hK=>?_) AllReadyH.nil)
      ·as_aux_lemma =>
       go_simp
       go_at_call 12
       refine (HCN.o wo.drew (show Ints wo.drew wo.drew.heap.size _ _ from (HB.o.below HBO.o).mono hws)).mono ?_
       rintro e w2 ⟨v2,rfl,hown2,hb2⟩
       obtain ⟨A2,c2,rfl⟩:=hown2.form
       have HO2:=Zh hown2
       have HBW:=Zh (HBW.o.trans hb2)
       rw [List.length_map]
       clear hown2 hb2
       go_wp2_with fail
       (refine hK.out _ _ ?_ fun hHeld2=>?_;(focus ((try dsimp only);exact (HBW.o.cell (p:=⟨bC,oC+k,none⟩) (Nat.lt_of_lt_of_le hbC hws)).trans HCK.o));(clear hK K);(try simp only [Act.put,Zz]))
       (refine wpAnyH_ready (rs:=[4]) (by kernel_rfl) (by simp) ?_;refine AllReadyH.cons rfl (fun K hK=>?_) AllReadyH.nil;go_simp)
       have HOI:=Zh (show OwnI (w2.alloc (.cells #[.int .i64 k] 3)) wo.heap.size (.slice A2 (b.map Int.ofNat).length c2) (b.map Int.ofNat) from HO2.o.alloc _)
       have HKC:=Zh (zag w2 (.int .i64 k) 3)
       have HBW:=Zh (HBW.o.alloc HBW.o.size (.cells #[.int .i64 k] 3))
       (refine hK.out _ _ ?_ fun hHeld2=>?_;(focus ((try dsimp only);exact (HBW.o.cell (p:=⟨bC,oC+k,none⟩) (Nat.lt_of_lt_of_le hbC hws)).trans HCK.o));(clear hK K);(try simp only [Act.put,Zz]))
       generalize w2.alloc (.cells #[.int .i64 k] 3)=w3 at *
       refine wpAnyH_ready (rs:=[5]) (by kernel_rfl) (by simp) ?_
       refine AllReadyH.cons rfl (fun K hK=>?_) AllReadyH.nil
       refine zc0 (by rfl) _ _ (by rfl) wo.heap.size _ (b.map Int.ofNat) (by rw [List.length_map];rfl) HOI.o _ (k:Int) (by rfl) HKC.o (by rw [List.length_map,HBL2.o];omega) HBW.o.size ?_
       intro v4 w4 hown4 hb4
       have hown5:OwnI w4 wo.heap.size v4 ((b++[k]).map Int.ofNat):=by rw [List.map_append];exact hown4
       obtain ⟨A4,c4,rfl⟩:=hown5.form
       obtain ⟨k4,hk4,hk4l⟩:=hown5.newAtI (by simp)
       have HK4:=Zh (show A4=some ⟨k4,0,none⟩/\w.heap.size<=k4 from ⟨hk4,Nat.le_trans hws hk4l⟩)
       clear hk4 hk4l
       have HB4:=Zh (HBW.o.trans hb4)
       have HI4:=Zh (hown5.ints (fun x hx=>by
        rw [List.mem_map] at hx
        obtain ⟨q,hq,rfl⟩:=hx
        have h24:=HQB.o q hq
        show Fits (q:Int)
        unfold Fits;omega))
       have HC4:=Zh ((HC.o.below ((Below.drewH_ HBO.o).trans (HB4.o.mono hws))).mono (show w.heap.size<=w4.heap.size from Nat.le_trans hws HB4.o.size))
       rw [List.length_map]
       clear hown4 hown5 hb4
       (try simp only [Act.put,Zz])
       (refine hK.out _ _ ?_ fun hHeld2=>?_;(focus ((try dsimp only);exact (HB4.o.cell (p:=⟨bC,oC+k,none⟩) (Nat.lt_of_lt_of_le hbC hws)).trans HCK.o));(clear hK K);(try simp only [Act.put,Zz]))
       (refine wpAnyH_ready (rs:=[12]) (by kernel_rfl) (by simp) ?_;refine AllReadyH.cons rfl (fun K hK=>?_) AllReadyH.nil;go_simp)
       go_at_call 106
       refine (HIJ.o A4 c4 _ HC4.o HI4.o).mono ?_
       intro e w5 hR
       obtain ⟨h1,hb5⟩:=hR
       have HB5:=Zh (HB4.o.trans (hb5.mono HB4.o.size))
       cases he:gS N bs (N-(k+1)) (b++[k]) (k+1) with
       | none =>
        rw [he] at h1
        obtain rfl:e = .returned (.slice none 0 0):=h1
        have hg2:=HG2.o
        rw [he] at hg2
        have HG3:=Zh (show gS N bs (N-(k+1)+1) b k=gS N bs (N-(k+1)) b (k+1) from hg2)
        clear hg2 he hb5
        go_wp2_with fail
        (refine hK.out _ _ ?_ fun hHeld2=>?_;(focus ((try dsimp only);exact (HB5.o.cell (p:=⟨bC,oC+k,none⟩) (Nat.lt_of_lt_of_le hbC hws)).trans HCK.o));(clear hK K);(try simp only [Act.put,Zz]))
        (refine Zk 13 ?_;(try simp only [Act.put,Zz]))
        refine wpAnyH_done (by kernel_rfl) ?_ _
        have hnn : ∀ V:World,(binOp .neq 25 (.slice none 0 0) (.slice none 0 0)).run Tryz.prog V = .ok (.bool false) V:=fun V=>run_neq_slice_nil_any V _ _ none 0 0 0 0 Tryz.underlying25
        go_wp2_with fail
        go_roundw
        case rel=>exact ⟨k+1,by omega,by omega,by go_num,by rw [HGS.o,show N-k=N-(k+1)+1 by omega,HG3.o],(Below.drewH_ HBO.o).trans (HB5.o.mono hws)⟩
        case measure=>simp [intOf];omega
       | some x =>
        rw [he] at h1
        have h1' : ∃ g off c,e = .returned (.slice (some ⟨g,off,none⟩) x.length c)/\Ints w5 w5.heap.size (some ⟨g,off,none⟩) (x.map Int.ofNat)/\(some ⟨g,off,none⟩=A4\/w4.heap.size<=g):=h1
        obtain ⟨g5,o5,c5,rfl,hi5,hat⟩:=h1'
        have HAT:=Zh (show w.heap.size<=g5 from hat.elim (fun h=>by rw [HK4.o.1] at h;injection h with h;injection h with h h2;have:=HK4.o.2;omega) (fun h=>Nat.le_trans hws (Nat.le_trans (show wo.heap.size<=w4.heap.size from HB4.o.size) h)))
        clear hat
        have hg2:=HG2.o
        rw [he] at hg2
        have HG3:=Zh (show gS N bs (N-(k+1)+1) b k=some x from hg2)
        have HI5:=Zh hi5
        clear hg2 he h1 hb5 hi5
        go_wp2_with fail
        (refine hK.out _ _ ?_ fun hHeld2=>?_;(focus ((try dsimp only);exact (HB5.o.cell (p:=⟨bC,oC+k,none⟩) (Nat.lt_of_lt_of_le hbC hws)).trans HCK.o));(clear hK K);(try simp only [Act.put,Zz]))
        (refine Zk 13 ?_;(try simp only [Act.put,Zz]))
        refine wpAnyH_done (by kernel_rfl) ?_ _
        have hnn : ∀ (V:World) a l c,(binOp .neq 25 (.slice (some a) l c) (.slice none 0 0)).run Tryz.prog V = .ok (.bool true) V:=fun V a l c=>run_neq_slice_nil_any V _ _ (some a) l c 0 0 Tryz.underlying25
        go_wp2_with fail
        go_ret
        rw [HGS.o,show N-k=N-(k+1)+1 by omega,HG3.o]
        exact ⟨⟨g5,o5,c5,rfl,HI5.o,.inr HAT.o⟩,(Below.drewH_ HBO.o).trans (HB5.o.mono hws)⟩
      ·as_aux_lemma =>
       go_simp
       have HKC0:=Zh (show (wo.alloc (.cells #[.int .i64 k] 3)).drew.cell? ⟨wo.heap.size,0,none⟩=some (.int .i64 k) from zag wo (.int .i64 k) 3)
       have HBW:=Zh (show Below wo.heap.size wo.drew (wo.alloc (.cells #[.int .i64 k] 3)).drew from HBW.o.alloc HBW.o.size (.cells #[.int .i64 k] 3))
       have hgl:wo.heap.size<(wo.alloc (.cells #[.int .i64 k] 3)).drew.heap.size:=by show wo.heap.size<(wo.alloc _).heap.size;simp
       (refine hK.out _ _ ?_ fun hHeld2=>?_;(focus ((try dsimp only);exact (HBW.o.cell (p:=⟨bC,oC+k,none⟩) (Nat.lt_of_lt_of_le hbC hws)).trans HCK.o));(clear hK K);(try simp only [Act.put,Zz]))
       generalize (wo.alloc (.cells #[.int .i64 k] 3)).drew=w2 at *
       (refine wpAnyH_ready (rs:=[2]) (by kernel_rfl) (by simp) ?_;refine AllReadyH.cons rfl (fun K hK=>?_) AllReadyH.nil;go_simp)
       go_at_call 12
       refine (HCN.o _ ((HB.o.below ((Below.drewH_ HBO.o).trans (HBW.o.mono hws))).mono (by have:=HBW.o.size;have h9:wo.drew.heap.size=wo.heap.size:=rfl;omega))).mono ?_
       rintro e w3 ⟨v2,rfl,hown2,hb2⟩
       obtain ⟨A2,c2,rfl⟩:=hown2.form
       have HOI:=Zh (show OwnI w3 wo.heap.size (.slice A2 (b.map Int.ofNat).length c2) (b.map Int.ofNat) from hown2.monoD (by have:=HBW.o.size;have h9:wo.drew.heap.size=wo.heap.size:=rfl;omega))
       have HKC:=Zh ((hb2.cell (p:=⟨wo.heap.size,0,none⟩) hgl).trans HKC0.o)
       have HBW:=Zh (HBW.o.trans (hb2.mono HBW.o.size))
       rw [List.length_map]
       clear hown2 hb2
       go_wp2_with fail
       (refine hK.out _ _ ?_ fun hHeld2=>?_;(focus ((try dsimp only);exact (HBW.o.cell (p:=⟨bC,oC+k,none⟩) (Nat.lt_of_lt_of_le hbC hws)).trans HCK.o));(clear hK K);(try simp only [Act.put,Zz]))
       refine wpAnyH_ready (rs:=[5]) (by kernel_rfl) (by simp) ?_
       refine AllReadyH.cons rfl (fun K hK=>?_) AllReadyH.nil
       refine zc0 (by rfl) _ _ (by rfl) wo.heap.size _ (b.map Int.ofNat) (by rw [List.length_map];rfl) HOI.o _ (k:Int) (by rfl) HKC.o (by rw [List.length_map,HBL2.o];omega) HBW.o.size ?_
       intro v4 w4 hown4 hb4
       have hown5:OwnI w4 wo.heap.size v4 ((b++[k]).map Int.ofNat):=by rw [List.map_append];exact hown4
       obtain ⟨A4,c4,rfl⟩:=hown5.form
       obtain ⟨k4,hk4,hk4l⟩:=hown5.newAtI (by simp)
       have HK4:=Zh (show A4=some ⟨k4,0,none⟩/\w.heap.size<=k4 from ⟨hk4,Nat.le_trans hws hk4l⟩)
       clear hk4 hk4l
       have HB4:=Zh (HBW.o.trans hb4)
       have HI4:=Zh (hown5.ints (fun x hx=>by
        rw [List.mem_map] at hx
        obtain ⟨q,hq,rfl⟩:=hx
        have h24:=HQB.o q hq
        show Fits (q:Int)
        unfold Fits;omega))
       have HC4:=Zh ((HC.o.below ((Below.drewH_ HBO.o).trans (HB4.o.mono hws))).mono (show w.heap.size<=w4.heap.size from Nat.le_trans hws HB4.o.size))
       rw [List.length_map]
       clear hown4 hown5 hb4
       (try simp only [Act.put,Zz])
       (refine hK.out _ _ ?_ fun hHeld2=>?_;(focus ((try dsimp only);exact (HB4.o.cell (p:=⟨bC,oC+k,none⟩) (Nat.lt_of_lt_of_le hbC hws)).trans HCK.o));(clear hK K);(try simp only [Act.put,Zz]))
       (refine wpAnyH_ready (rs:=[12]) (by kernel_rfl) (by simp) ?_;refine AllReadyH.cons rfl (fun K hK=>?_) AllReadyH.nil;go_simp)
       go_at_call 106
       refine (HIJ.o A4 c4 _ HC4.o HI4.o).mono ?_
       intro e w5 hR
       obtain ⟨h1,hb5⟩:=hR
       have HB5:=Zh (HB4.o.trans (hb5.mono HB4.o.size))
       cases he:gS N bs (N-(k+1)) (b++[k]) (k+1) with
       | none =>
        rw [he] at h1
        obtain rfl:e = .returned (.slice none 0 0):=h1
        have hg2:=HG2.o
        rw [he] at hg2
        have HG3:=Zh (show gS N bs (N-(k+1)+1) b k=gS N bs (N-(k+1)) b (k+1) from hg2)
        clear hg2 he hb5
        go_wp2_with fail
        (refine hK.out _ _ ?_ fun hHeld2=>?_;(focus ((try dsimp only);exact (HB5.o.cell (p:=⟨bC,oC+k,none⟩) (Nat.lt_of_lt_of_le hbC hws)).trans HCK.o));(clear hK K);(try simp only [Act.put,Zz]))
        (refine Zk 13 ?_;(try simp only [Act.put,Zz]))
        refine wpAnyH_done (by kernel_rfl) ?_ _
        have hnn : ∀ V:World,(binOp .neq 25 (.slice none 0 0) (.slice none 0 0)).run Tryz.prog V = .ok (.bool false) V:=fun V=>run_neq_slice_nil_any V _ _ none 0 0 0 0 Tryz.underlying25
        go_wp2_with fail
        go_roundw
        case rel=>exact ⟨k+1,by omega,by omega,by go_num,by rw [HGS.o,show N-k=N-(k+1)+1 by omega,HG3.o],(Below.drewH_ HBO.o).trans (HB5.o.mono hws)⟩
        case measure=>simp [intOf];omega
       | some x =>
        rw [he] at h1
        have h1' : ∃ g off c,e = .returned (.slice (some ⟨g,off,none⟩) x.length c)/\Ints w5 w5.heap.size (some ⟨g,off,none⟩) (x.map Int.ofNat)/\(some ⟨g,off,none⟩=A4\/w4.heap.size<=g):=h1
        obtain ⟨g5,o5,c5,rfl,hi5,hat⟩:=h1'
        have HAT:=Zh (show w.heap.size<=g5 from hat.elim (fun h=>by rw [HK4.o.1] at h;injection h with h;injection h with h h2;have:=HK4.o.2;omega) (fun h=>Nat.le_trans hws (Nat.le_trans (show wo.heap.size<=w4.heap.size from HB4.o.size) h)))
        clear hat
        have hg2:=HG2.o
        rw [he] at hg2
        have HG3:=Zh (show gS N bs (N-(k+1)+1) b k=some x from hg2)
        have HI5:=Zh hi5
        clear hg2 he h1 hb5 hi5
        go_wp2_with fail
        (refine hK.out _ _ ?_ fun hHeld2=>?_;(focus ((try dsimp only);exact (HB5.o.cell (p:=⟨bC,oC+k,none⟩) (Nat.lt_of_lt_of_le hbC hws)).trans HCK.o));(clear hK K);(try simp only [Act.put,Zz]))
        (refine Zk 13 ?_;(try simp only [Act.put,Zz]))
        refine wpAnyH_done (by kernel_rfl) ?_ _
        have hnn : ∀ (V:World) a l c,(binOp .neq 25 (.slice (some a) l c) (.slice none 0 0)).run Tryz.prog V = .ok (.bool true) V:=fun V a l c=>run_neq_slice_nil_any V _ _ (some a) l c 0 0 Tryz.underlying25
        go_wp2_with fail
        go_ret
        rw [HGS.o,show N-k=N-(k+1)+1 by omega,HG3.o]
        exact ⟨⟨g5,o5,c5,rfl,HI5.o,.inr HAT.o⟩,(Below.drewH_ HBO.o).trans (HB5.o.mono hws)⟩
    ·have hke:k=N:=by omega
     subst hke
     have hki : ¬ (k:Int)<(k:Int):=by omega
     have HGV:=Zh (show gS k bs m b (last+1)=none by rw [HGS.o,Nat.sub_self];exact HGE.o k HCP.o)
     clear hbel
     go_wp2_with fail
     go_ret
     rw [HGV.o]
     exact ⟨rfl,HBO.o⟩
end Go.Proofs.YtjpnjchpdkogbaaGreatDoor
