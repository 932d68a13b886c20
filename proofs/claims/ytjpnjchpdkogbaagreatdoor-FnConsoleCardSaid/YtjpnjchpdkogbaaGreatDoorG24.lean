/- Parts of the proof of the card of the law FnConsole. -/
import Derived.Test.YtjpnjchpdkogbaaGreatDoorG23
import Derived.Laws.EntriesVeiled
import Derived.Test.YtjpnjchpdkogbaaGreatDoorG21
set_option linter.unusedVariables false
set_option linter.unusedSimpArgs false
set_option maxRecDepth 100000
set_option maxHeartbeats 4000000
namespace Go.Proofs.YtjpnjchpdkogbaaGreatDoor
open Go.RowKit Go.Shelf
theorem zpo (A:Option Addr)(cap:Nat)(xs:List Int)(n kinds base qn qo qk qp qx:Nat)(hp:patB xs=true)(hn:n<=24)(hkd:kinds=if mirL xs=xs then 1 else 2) :
  ∀ (f t s T:Nat) (l:List Nat) (v vo:Value) (rs:List SV) (w:World),n+1<=f+(t+stN (n-t) s)->t<=n->s<2 ^ (n-t)->TS T t s->l.length+f<=1000->(∀ x∈l,x<100)->rs.length+2 ^ f<=100000000 ->
   OwnI w base v (zad l)->CovE w base qn qo qk qp qx A cap xs n kinds->OutC w base qo vo rs v.ownBlock ->
   Calls Tryz.prog 202 #[v,.int .i64 T,.pointer (some ⟨qn,0,none⟩),.pointer (some ⟨qo,0,none⟩),.pointer (some ⟨qk,0,none⟩),.pointer (some ⟨qp,0,none⟩),.pointer (some ⟨qx,0,none⟩)] w fun e w'=>e = .returned (.tuple #[])/\CovR w base qo v vo rs l (covL n (patM xs) (patM (mirL xs)) f t s) w':=by
 have HKD:=Zh hkd
 clear hkd
 intro f
 induction f with
 | zero=>intro t s T l v vo rs w h1;have:=zgj (n-t) s;intro h2;omega
 | succ f ih =>
  intro t s T l v vo rs w hf ht hs hT hll hl100 hrl hown hE hO
  have HIH:=Zh (fun t s T l v vo rs w h1 h2 h3 h4 h5 h6 h7 h8 h9 h10=>ih t s T l v vo rs w h1 h2 h3 h4 h5 h6 h7 h8 h9 h10)
  clear ih
  have hT24:T<2 ^ 24:=Nat.lt_of_lt_of_le (hT.lt ht hs) (Nat.pow_le_pow_right (by decide) hn)
  have hkl:=zgj (n-t) s
  have hT':=hT.strip (d:=n-t)
  have hs':=zo5 (k:=stN (n-t) s) (show t+stN (n-t) s<=n by omega) hs
  have hzz:=zjc (n-t) s
  have hTL:=hT.lt ht hs
  obtain ⟨m,hm⟩ : ∃ m,t+stN (n-t) s=m:=⟨_,rfl⟩
  obtain ⟨s1,hs1⟩ : ∃ s1,s / 2 ^ stN (n-t) s=s1:=⟨_,rfl⟩
  rw [hm,hs1] at hT' hs'
  have hmn:m<=n:=by omega
  have hbj : ∀ j,j<m->T.testBit j=true:=fun j hj=>by rw [hT' j];simp [hj]
  have hbm:T.testBit m=false:=by
   by_cases e:m=n
   ·exact Nat.testBit_lt_two_pow (by rw [e];exact hTL)
   ·rw [hT m,<- hm]
    simp only [show ¬ t+stN (n-t) s<t by omega,decide_false,Bool.false_or,Nat.add_sub_cancel_left]
    exact hzz (by omega)
  have hctz:=z0m hT24 hbj hbm (by omega)
  have HTZ:=Zh (fun V h=>z0y (2 ^ 64-1-T) (by omega) V h)
  have hxo:=z00 T hT24
  rw [hctz] at HTZ
  obtain ⟨U,hU⟩ : ∃ U,2 ^ 64-1-T=U:=⟨_,rfl⟩
  rw [hU] at HTZ hxo
  have hsg:IntKind.i64.signed=true:=rfl
  clear hU
  have hlf0 : ∀ x∈zad l,Fits x:=fun x hx=>by
   obtain ⟨y,hy,rfl⟩:=List.mem_map.1 hx
   have:=hl100 y hy
   unfold Fits
   show _<=((y:Nat):Int)/\((y:Nat):Int)<=_
   omega
  have HLH:=Zh hl100
  have HX:=Zh hown
  have HE:=Zh hE
  have HO:=Zh hO
  have HLB:=Zh (hown.lt)
  obtain ⟨A1,c1,rfl⟩:=hown.form
  have hcn:=hE.cn
  have hck:=hE.ck
  have hcp:=hE.cp
  have hcx:=hE.cx
  have hco:=hO.cell
  have hfo:=hO.froz
  clear hown hE hO hctz hl100
  go_enter Tryz.func202,Tryz.ntmps202
  go_wp2_with fail
  refine (HTZ.o _ HE.o.deb).mono ?_
  rintro e w' ⟨rfl,hw'⟩
  obtain rfl:=hw'.symm
  have HLF:=Zh hlf0
  clear hlf0
  by_cases hme:m=n
  ·have HLE:=Zh (zo6 (a:=patM xs) (b:=patM (mirL xs)) (f:=f) (hm.trans hme))
   have hmd:((m:Int)==(n:Int))=true:=by rw [hme];simp
   clear hme hbj hbm hs' hT' hzz hs hT hTL
   go_wp2_with fail
   have HE0:=Zh HE.o.size
   have HBW:=Zh (Below.drew5_ (Below.refl w.heap.size w))
   have HE:=Zh (HE.o.below HBW.o)
   have HO:=Zh (HO.o.below HBW.o)
   have HX:=Zh HX.o.drew
   (refine wp_region_held_drew (S:=(fun _=>True)) (by kernel_rfl) ?_ (fun hHeld=>?_);(focus ((try dsimp only);all_goals trivial)))
   have HWS:=Zh (show w.drew.heap.size=w.heap.size from rfl)
   generalize w.drew=wg at *
   have hco:=HO.o.cell
   have hfo:=HO.o.froz
   have HVL:=Zh (HO.o.own.lt)
   (refine Zk 1 ?_;(try simp only [Act.put,Zz]))
   refine wpAnyH_ready (rs:=[0,2]) (by kernel_rfl) (by simp) ?_
   refine AllReadyH.cons rfl (fun K hK=>?_) (AllReadyH.cons rfl (fun K hK=>?_) AllReadyH.nil)
   ·go_simp
    (refine hK.out _ _ ?_ fun hHeld2=>?_;(focus ((try dsimp only);all_goals trivial));(clear hK K);(try simp only [Act.put,Zz]))
    (refine wpAnyH_ready (rs:=[2]) (by kernel_rfl) (by simp) ?_;refine AllReadyH.cons rfl (fun K hK=>?_) AllReadyH.nil;go_simp)
    go_at_call 12
    refine (zpf A1 c1 (zad l) _ (HX.o.ints HLF.o) (by rw [zc9];omega)).mono ?_
    rintro e w2 ⟨v2,rfl,hown2,hb2⟩
    obtain ⟨A2,c2,rfl⟩:=hown2.form
    have HE:=Zh (HE.o.below hb2)
    have HO:=Zh (HO.o.below hb2)
    have HX:=Zh (HX.o.grown hb2)
    have HBW:=Zh (HBW.o.trans (hb2.mono (by have:=HWS.o;omega)))
    have HNL:=Zh (show ∀ b off t,A2=some ⟨b,off,t⟩->w.heap.size<=b/\b<w2.heap.size from fun b off t e=>by
     have:=hown2.lt b (by rw [e];rfl)
     have:=HWS.o
     omega)
    have HRD:=Zh (show (⟨zad l,A2,c2⟩:SV).Rd w2 vo.ownBlock from ⟨hown2.capC,hown2.ints HLF.o,fun _ b off t e hh=>by
     have h1:=hown2.lt b (by rw [show A2=some ⟨b,off,t⟩ from e];rfl)
     have h2:=HVL.o b hh
     omega⟩)
    clear hown2 hb2 hco hfo
    have hco:=HO.o.cell
    have hfo:=HO.o.froz
    go_wp2_with fail
    (refine hK.out _ _ ?_ fun hHeld2=>?_;(focus ((try dsimp only);all_goals trivial));(clear hK K);(try simp only [Act.put,Zz]))
    (refine wpAnyH_ready (rs:=[3]) (by kernel_rfl) (by simp) ?_;refine AllReadyH.cons rfl (fun K hK=>?_) AllReadyH.nil;go_simp)
    have hb3:=(Below.refl w2.heap.size w2).alloc (Nat.le_refl _) (.cells #[.slice A2 (zad l).length c2] 25)
    have hgc:=zag w2 (.slice A2 (zad l).length c2) 25
    have HE:=Zh (HE.o.below hb3)
    have HO:=Zh (HO.o.below hb3)
    have HX:=Zh (HX.o.grown hb3)
    have HBW:=Zh (HBW.o.trans (hb3.mono HBW.o.size))
    have HRD:=Zh (HRD.o.lift hb3)
    have hz3:w2.heap.size<=(w2.alloc (.cells #[.slice A2 (zad l).length c2] 25)).heap.size:=hb3.size
    clear hb3 hco hfo
    have hco:=HO.o.cell
    have hfo:=HO.o.froz
    have HGC:=Zh hgc
    clear hgc
    (refine hK.out _ _ ?_ fun hHeld2=>?_;(focus ((try dsimp only);all_goals trivial));(clear hK K);(try simp only [Act.put,Zz]))
    generalize w2.alloc (.cells #[.slice A2 (zad l).length c2] 25)=w3 at *
    refine wpAnyH_ready (rs:=[4]) (by kernel_rfl) (by simp) ?_
    refine AllReadyH.cons rfl (fun K hK=>?_) AllReadyH.nil
    refine zjl (by rfl) _ _ (by rfl) base _ rs (by rfl) HO.o.own w2.heap.size 0 1 [⟨zad l,A2,c2⟩] (by rfl) (fun i hi=>by
     have h0:i=0:=by simp at hi;omega
     subst h0
     exact HGC.o) (fun r hr=>by rw [List.mem_singleton] at hr;subst hr;exact HRD.o) (by simp) (by have:=Nat.two_pow_pos (f+1);simp;omega) HO.o.size ?_
    intro v4 w4 hown4 hgr4 hat4
    obtain ⟨A4,c4,rfl⟩:=hown4.form
    have hl4:(rs++[(⟨zad l,A2,c2⟩:SV)]).length=rs.length+1:=by simp
    rw [hl4] at hown4 hat4 ⊢
    clear hl4
    have hf4:Frm (fun c=>vo.ownBlock=some c) w3 w4:=⟨hgr4.os,hgr4.tape,hgr4.output,hgr4.size,fun c hc hS=>hgr4.block c hc (fun e=>hS e.symm)⟩
    have hqv : ¬ vo.ownBlock=some qo:=fun e=>by have:=(HO.o.own.lt _ e).1;have:=HO.o.lt;omega
    have hql:=Nat.lt_of_lt_of_le HO.o.lt HO.o.size
    clear hco hfo
    have hco:=(hf4.cell (o:=0) hql hqv).trans HO.o.cell
    have hfo:=(hf4.frozen (o:=0) hql hqv).trans HO.o.froz
    have HFIN:=Zh (zjm HO.o HX.o HBW.o (fun k e=>(HLB.o k e).2) (fun _ b off t e=>by have:=HNL.o b off t e;omega) hown4 hgr4 hat4 HE0.o)
    clear hf4 hqv hql hown4 hgr4 hat4
    (try simp only [Act.put,Zz])
    (refine hK.out _ _ ?_ fun hHeld2=>?_;(focus ((try dsimp only);all_goals trivial));(clear hK K);(try simp only [Act.put,Zz]))
    (refine wpAnyH_ready (rs:=[5]) (by kernel_rfl) (by simp) ?_;refine AllReadyH.cons rfl (fun K hK=>?_) AllReadyH.nil;go_simp)
    (refine hK.out _ _ ?_ fun hHeld2=>?_;(focus ((try dsimp only);all_goals trivial));(clear hK K);(try simp only [Act.put,Zz]))
    refine wpAnyH_done (by kernel_rfl) ?_ _
    go_wp2_with fail
    (try simp only [Exit.inBlock,Exit.then]);refine bodyPost_ret (results_none rfl _ _ _) rfl ?_
    rw [HLE.o]
    exact ⟨rfl,HFIN.o⟩
   ·go_simp
    go_at_call 12
    refine (zpf A1 c1 (zad l) _ (HX.o.ints HLF.o) (by rw [zc9];omega)).mono ?_
    rintro e w2 ⟨v2,rfl,hown2,hb2⟩
    obtain ⟨A2,c2,rfl⟩:=hown2.form
    have HE:=Zh (HE.o.below hb2)
    have HO:=Zh (HO.o.below hb2)
    have HX:=Zh (HX.o.grown hb2)
    have HBW:=Zh (HBW.o.trans (hb2.mono (by have:=HWS.o;omega)))
    have HNL:=Zh (show ∀ b off t,A2=some ⟨b,off,t⟩->w.heap.size<=b/\b<w2.heap.size from fun b off t e=>by
     have:=hown2.lt b (by rw [e];rfl)
     have:=HWS.o
     omega)
    have HRD:=Zh (show (⟨zad l,A2,c2⟩:SV).Rd w2 vo.ownBlock from ⟨hown2.capC,hown2.ints HLF.o,fun _ b off t e hh=>by
     have h1:=hown2.lt b (by rw [show A2=some ⟨b,off,t⟩ from e];rfl)
     have h2:=HVL.o b hh
     omega⟩)
    clear hown2 hb2 hco hfo
    have hco:=HO.o.cell
    have hfo:=HO.o.froz
    go_wp2_with fail
    (refine hK.out _ _ ?_ fun hHeld2=>?_;(focus ((try dsimp only);all_goals trivial));(clear hK K);(try simp only [Act.put,Zz]))
    refine wpAnyH_ready (rs:=[0,3]) (by kernel_rfl) (by simp) ?_
    refine AllReadyH.cons rfl (fun K hK=>?_) (AllReadyH.cons rfl (fun K hK=>?_) AllReadyH.nil)
    ·go_simp
     (refine hK.out _ _ ?_ fun hHeld2=>?_;(focus ((try dsimp only);all_goals trivial));(clear hK K);(try simp only [Act.put,Zz]))
     (refine wpAnyH_ready (rs:=[3]) (by kernel_rfl) (by simp) ?_;refine AllReadyH.cons rfl (fun K hK=>?_) AllReadyH.nil;go_simp)
     have hb3:=(Below.refl w2.heap.size w2).alloc (Nat.le_refl _) (.cells #[.slice A2 (zad l).length c2] 25)
     have hgc:=zag w2 (.slice A2 (zad l).length c2) 25
     have HE:=Zh (HE.o.below hb3)
     have HO:=Zh (HO.o.below hb3)
     have HX:=Zh (HX.o.grown hb3)
     have HBW:=Zh (HBW.o.trans (hb3.mono HBW.o.size))
     have HRD:=Zh (HRD.o.lift hb3)
     have hz3:w2.heap.size<=(w2.alloc (.cells #[.slice A2 (zad l).length c2] 25)).heap.size:=hb3.size
     clear hb3 hco hfo
     have hco:=HO.o.cell
     have hfo:=HO.o.froz
     have HGC:=Zh hgc
     clear hgc
     (refine hK.out _ _ ?_ fun hHeld2=>?_;(focus ((try dsimp only);all_goals trivial));(clear hK K);(try simp only [Act.put,Zz]))
     generalize w2.alloc (.cells #[.slice A2 (zad l).length c2] 25)=w3 at *
     refine wpAnyH_ready (rs:=[4]) (by kernel_rfl) (by simp) ?_
     refine AllReadyH.cons rfl (fun K hK=>?_) AllReadyH.nil
     refine zjl (by rfl) _ _ (by rfl) base _ rs (by rfl) HO.o.own w2.heap.size 0 1 [⟨zad l,A2,c2⟩] (by rfl) (fun i hi=>by
      have h0:i=0:=by simp at hi;omega
      subst h0
      exact HGC.o) (fun r hr=>by rw [List.mem_singleton] at hr;subst hr;exact HRD.o) (by simp) (by have:=Nat.two_pow_pos (f+1);simp;omega) HO.o.size ?_
     intro v4 w4 hown4 hgr4 hat4
     obtain ⟨A4,c4,rfl⟩:=hown4.form
     have hl4:(rs++[(⟨zad l,A2,c2⟩:SV)]).length=rs.length+1:=by simp
     rw [hl4] at hown4 hat4 ⊢
     clear hl4
     have hf4:Frm (fun c=>vo.ownBlock=some c) w3 w4:=⟨hgr4.os,hgr4.tape,hgr4.output,hgr4.size,fun c hc hS=>hgr4.block c hc (fun e=>hS e.symm)⟩
     have hqv : ¬ vo.ownBlock=some qo:=fun e=>by have:=(HO.o.own.lt _ e).1;have:=HO.o.lt;omega
     have hql:=Nat.lt_of_lt_of_le HO.o.lt HO.o.size
     clear hco hfo
     have hco:=(hf4.cell (o:=0) hql hqv).trans HO.o.cell
     have hfo:=(hf4.frozen (o:=0) hql hqv).trans HO.o.froz
     have HFIN:=Zh (zjm HO.o HX.o HBW.o (fun k e=>(HLB.o k e).2) (fun _ b off t e=>by have:=HNL.o b off t e;omega) hown4 hgr4 hat4 HE0.o)
     clear hf4 hqv hql hown4 hgr4 hat4
     (try simp only [Act.put,Zz])
     (refine hK.out _ _ ?_ fun hHeld2=>?_;(focus ((try dsimp only);all_goals trivial));(clear hK K);(try simp only [Act.put,Zz]))
     (refine wpAnyH_ready (rs:=[5]) (by kernel_rfl) (by simp) ?_;refine AllReadyH.cons rfl (fun K hK=>?_) AllReadyH.nil;go_simp)
     (refine hK.out _ _ ?_ fun hHeld2=>?_;(focus ((try dsimp only);all_goals trivial));(clear hK K);(try simp only [Act.put,Zz]))
     refine wpAnyH_done (by kernel_rfl) ?_ _
     go_wp2_with fail
     (try simp only [Exit.inBlock,Exit.then]);refine bodyPost_ret (results_none rfl _ _ _) rfl ?_
     rw [HLE.o]
     exact ⟨rfl,HFIN.o⟩
    ·go_simp
     have hb3:=(Below.refl w2.heap.size w2).alloc (Nat.le_refl _) (.cells #[.slice A2 (zad l).length c2] 25)
     have hgc:=zag w2 (.slice A2 (zad l).length c2) 25
     have HE:=Zh (HE.o.below hb3)
     have HO:=Zh (HO.o.below hb3)
     have HX:=Zh (HX.o.grown hb3)
     have HBW:=Zh (HBW.o.trans (hb3.mono HBW.o.size))
     have HRD:=Zh (HRD.o.lift hb3)
     have hz3:w2.heap.size<=(w2.alloc (.cells #[.slice A2 (zad l).length c2] 25)).heap.size:=hb3.size
     clear hb3 hco hfo
     have hco:=HO.o.cell
     have hfo:=HO.o.froz
     have HGC:=Zh hgc
     clear hgc
     (refine hK.out _ _ ?_ fun hHeld2=>?_;(focus ((try dsimp only);all_goals trivial));(clear hK K);(try simp only [Act.put,Zz]))
     generalize w2.alloc (.cells #[.slice A2 (zad l).length c2] 25)=w3 at *
     (refine wpAnyH_ready (rs:=[0]) (by kernel_rfl) (by simp) ?_;refine AllReadyH.cons rfl (fun K hK=>?_) AllReadyH.nil;go_simp)
     (refine hK.out _ _ ?_ fun hHeld2=>?_;(focus ((try dsimp only);all_goals trivial));(clear hK K);(try simp only [Act.put,Zz]))
     refine wpAnyH_ready (rs:=[4]) (by kernel_rfl) (by simp) ?_
     refine AllReadyH.cons rfl (fun K hK=>?_) AllReadyH.nil
     refine zjl (by rfl) _ _ (by rfl) base _ rs (by rfl) HO.o.own w2.heap.size 0 1 [⟨zad l,A2,c2⟩] (by rfl) (fun i hi=>by
      have h0:i=0:=by simp at hi;omega
      subst h0
      exact HGC.o) (fun r hr=>by rw [List.mem_singleton] at hr;subst hr;exact HRD.o) (by simp) (by have:=Nat.two_pow_pos (f+1);simp;omega) HO.o.size ?_
     intro v4 w4 hown4 hgr4 hat4
     obtain ⟨A4,c4,rfl⟩:=hown4.form
     have hl4:(rs++[(⟨zad l,A2,c2⟩:SV)]).length=rs.length+1:=by simp
     rw [hl4] at hown4 hat4 ⊢
     clear hl4
     have hf4:Frm (fun c=>vo.ownBlock=some c) w3 w4:=⟨hgr4.os,hgr4.tape,hgr4.output,hgr4.size,fun c hc hS=>hgr4.block c hc (fun e=>hS e.symm)⟩
     have hqv : ¬ vo.ownBlock=some qo:=fun e=>by have:=(HO.o.own.lt _ e).1;have:=HO.o.lt;omega
     have hql:=Nat.lt_of_lt_of_le HO.o.lt HO.o.size
     clear hco hfo
     have hco:=(hf4.cell (o:=0) hql hqv).trans HO.o.cell
     have hfo:=(hf4.frozen (o:=0) hql hqv).trans HO.o.froz
     have HFIN:=Zh (zjm HO.o HX.o HBW.o (fun k e=>(HLB.o k e).2) (fun _ b off t e=>by have:=HNL.o b off t e;omega) hown4 hgr4 hat4 HE0.o)
     clear hf4 hqv hql hown4 hgr4 hat4
     (try simp only [Act.put,Zz])
     (refine hK.out _ _ ?_ fun hHeld2=>?_;(focus ((try dsimp only);all_goals trivial));(clear hK K);(try simp only [Act.put,Zz]))
     (refine wpAnyH_ready (rs:=[5]) (by kernel_rfl) (by simp) ?_;refine AllReadyH.cons rfl (fun K hK=>?_) AllReadyH.nil;go_simp)
     (refine hK.out _ _ ?_ fun hHeld2=>?_;(focus ((try dsimp only);all_goals trivial));(clear hK K);(try simp only [Act.put,Zz]))
     refine wpAnyH_done (by kernel_rfl) ?_ _
     go_wp2_with fail
     (try simp only [Exit.inBlock,Exit.then]);refine bodyPost_ret (results_none rfl _ _ _) rfl ?_
     rw [HLE.o]
     exact ⟨rfl,HFIN.o⟩
  ·have hmd:((m:Int)==(n:Int))=false:=beq_eq_false_iff_ne.2 (by omega)
   have hkk:(kinds=1/\patM (mirL xs)=patM xs)\/(kinds=2/\patM (mirL xs)≠patM xs):=by
    rw [HKD.o]
    by_cases e:mirL xs=xs
    ·exact .inl ⟨if_pos e,by rw [e]⟩
    ·exact .inr ⟨if_neg e,fun h=>e ((z0k (zgi hp) hp).1 h)⟩
   have HTOT:=Zh (show covL n (patM xs) (patM (mirL xs)) (f+1) t s=covK n (patM xs) (patM (mirL xs)) f m s1 kinds from by
    rcases hkk with ⟨e1,e2⟩ | ⟨e1,e2⟩
    ·rw [e1];exact z04 hm hs1 hme e2
    ·rw [e1];exact z03 hm hs1 hme e2)
   have hk2:kinds<=2:=by rcases hkk with ⟨e1,_⟩ | ⟨e1,_⟩ <;> omega
   have HZ0:=Zh (z07 HO.o HX.o)
   have HE0:=Zh HE.o.size
   clear hkk
   go_wp2_with fail
   go_loopw [28] (fun i wr=>∃ k:Nat,k<=kinds/\i = .int .i64 k/\CovR w base qo (.slice A1 (zad l).length c1) vo rs l (covK n (patM xs) (patM (mirL xs)) f m s1 k) wr) (fun i _=>kinds-(intOf i).toNat)
   case atStart=>exact ⟨0,Nat.zero_le _,rfl,HZ0.o⟩
   case round =>
    obtain ⟨k,hk,rfl,hR⟩:=hrel
    obtain ⟨wo,rfl⟩ : ∃ wo:World,wo=wr:=⟨_,rfl⟩
    by_cases hlt:k<kinds
    ·obtain ⟨vo1,new1,hO1,hkey,hvo1,hnw1,hX1,hF1⟩:=hR
     have hE1:=HE.o.frm hF1 (fun c hc=>by
      rcases hc with h1 | h1 | h1
      ·exact .inl h1
      ·exact .inr (HLB.o c h1).1
      ·exact .inr (HO.o.own.lt c h1).1)
     have HE1:=Zh hE1
     have HO1:=Zh hO1
     have HX1:=Zh hX1
     have HF1:=Zh hF1
     have HKY:=Zh (And.intro hkey (And.intro hvo1 hnw1))
     have hnl:new1.length<=k*2 ^ f:=by
      have:=congrArg List.length hkey
      rw [List.length_map,List.length_map] at this
      have:=zpn n (patM xs) (patM (mirL xs)) f m s1 k
      omega
     obtain ⟨c,hc⟩ : ∃ c,2*m+k=c:=⟨_,rfl⟩
     have hc2:c / 2=m:=by omega
     have hcm:c % 2=k % 2:=by omega
     have hM:(if k % 2=1 then patM (mirL xs) else patM xs)=patM (shp xs c):=by rw [<- hcm];exact zo9 xs c
     have HLY:=Zh (fun h1 h2=>z05 (n:=n) (a:=patM xs) (b:=patM (mirL xs)) (f:=f) (m:=m) (s1:=s1) (k:=k) hM h1 h2)
     have HLN:=Zh (fun h=>z06 (n:=n) (a:=patM xs) (b:=patM (mirL xs)) (f:=f) (m:=m) (s1:=s1) (k:=k) hM h)
     have HLD:=Zh (zpl A cap xs c wo hE1.intsW hp (by omega))
     have HLL:=Zh (zgk xs c)
     have HOR:=Zh (fun j hj=>z0o hp c (j:=j) hj)
     have HBD:=Zh (fun j hj=>z0p hp (show c<50 by omega) (j:=j) hj)
     have HIN:=Zh (fun j hj=>zeb hp c (j:=j) hj)
     have HFT:=Zh (zpa hp (show c<100 by omega))
     have hpd:=zo0 (zdp hp c)
     have HPM:=Zh (show mkN (shp xs c) xs.length=patM (shp xs c) from by unfold patM;rw [zcz])
     have hfree:=hT'.free (m:=patM (shp xs c))
     have hfit:=zjd (m:=patM (shp xs c)) hmn
     have HFE:=Zh hfree
     have HFI:=Zh hfit
     have HC:=Zh hc
     rw [hc2] at HOR HBD HIN
     obtain ⟨G,hG⟩ : ∃ G:Nat->Nat,(fun j=>mkN (shp xs c) j*2 ^ m)=G:=⟨_,rfl⟩
     have hGj : ∀ j,mkN (shp xs c) j*2 ^ m=G j:=fun j=>congrFun hG j
     simp only [hGj] at HOR HBD
     have HG0:=Zh (show G 0=0 from by rw [<- hGj];simp [mkN])
     have HGE:=Zh (show G xs.length=patM (shp xs c)*2 ^ m from by rw [<- hGj,HPM.o])
     clear hG hGj HPM
     have hwm:IntKind.i64.wrap (2*(m:Int))=2*(m:Int):=i64w (by omega)
     have hwc:IntKind.i64.wrap (2*(m:Int)+(k:Int))=(c:Int):=by rw [show 2*(m:Int)+(k:Int)=(c:Int) by omega];exact i64w (by omega)
     have hkc:(k:Int)<(kinds:Int):=by omega
     have hcp1:=hE1.cp
     clear hE1 hO1 hX1 hF1 hkey hvo1 hnw1 hM hfree hfit hc hcm
     go_wp2_with fail
     refine HLD.o.mono ?_
     rintro e w2 ⟨v2,rfl,hown2,hb2⟩
     obtain ⟨A2,c2,rfl⟩:=hown2.form
     have HI2:=Zh (hown2.ints HFT.o)
     rw [HLL.o]
     have HB2:=Zh hb2
     clear hown2 hb2
     generalize zaz xs c=L at *
     generalize patM (shp xs c)=M at *
     have hg0:=HG0.o
     go_wp2_with fail
     go_loop [12,39] (fun v i=>∃ j:Nat,j<=xs.length/\i = .int .i64 j/\v = .int .i64 (G j)) (fun _ i=>xs.length-(intOf i).toNat)
     case atStart=>exact ⟨0,Nat.zero_le _,rfl,by rw [HG0.o];rfl⟩
     case round =>
      obtain ⟨j,hj,rfl,rfl⟩:=hrel
      by_cases hjl:j<xs.length
      ·obtain ⟨b,off,rfl,hB,hce⟩:=HI2.o.2.2 (by rw [HLL.o];omega)
       have hcx2:=hce j (by rw [HLL.o];exact hjl)
       have hin:=HIN.o j hjl
       have hor:=HOR.o j hjl
       have hbd:=HBD.o j hj
       obtain ⟨x,hx⟩ : ∃ x,L.getD j 0=x:=⟨_,rfl⟩
       rw [hx] at hcx2 hin hor
       obtain ⟨x,rfl⟩:=Int.eq_ofNat_of_zero_le (show 0<=x by omega)
       have h3:=z01 (G j) x (by omega) (by omega)
       rw [show (x:Int).toNat=x from rfl] at hor
       rw [hor] at h3
       have hji:(j:Int)<(xs.length:Int):=by omega
       have hj0:(0:Int)<=(j:Int):=Int.natCast_nonneg _
       have hx0:(0:Int)<=(x:Int):=Int.natCast_nonneg _
       have hwj:IntKind.i64.wrap ((j:Int)+1)=(j:Int)+1:=i64w (by have:=zgh hp;omega)
       have hx64:x<64:=by omega
       clear hce hx hin hor hbd
       go_wp2_with fail
       go_round
       case rel=>exact ⟨j+1,hjl,by go_num,rfl⟩
       case measure=>simp [intOf];omega
      ·have hje:j=xs.length:=by omega
       have hji : ¬ (j:Int)<(xs.length:Int):=by omega
       have HGJ:=Zh (show G j=M*2 ^ m from by rw [hje];exact HGE.o)
       have hgb:=HBD.o j hj
       clear hje
       obtain ⟨Q,hQ⟩ : ∃ Q,G j=Q:=⟨_,rfl⟩
       rw [hQ] at HGJ hgb ⊢
       have hand:=zcp Q T (by omega) (by omega)
       have hshl:=z02 n (by omega)
       have hn64:(n:Int)<64:=by omega
       have hn0:(0:Int)<=(n:Int):=Int.natCast_nonneg _
       have hcn2:=(HE1.o.below HB2.o).cn
       clear hQ
       obtain ⟨P2,hP2⟩ : ∃ P2,2 ^ n=P2:=⟨_,rfl⟩
       have hshl2:wrap64 (2 ^ n)=(P2:Int):=by rw [hshl,hP2]
       have HP2:=Zh hP2
       clear hshl hP2
       by_cases hq:Q &&& T=0
       ·have hq0:(((Q &&& T:Nat):Int)==0)=true:=by rw [hq];rfl
        have HQ0:=Zh (HFE.o.1 (by rw [<- HGJ.o];exact hq))
        clear hq
        by_cases hqn:Q<P2
        ·have HQN:=Zh (HFI.o.1 (by rw [<- HGJ.o,HP2.o];exact hqn))
         have hqd:(Q:Int)<(P2:Int):=by omega
         have hor:=zc1 T Q (by omega) (by omega)
         have HE2:=Zh (HE1.o.below HB2.o)
         have HO2:=Zh (HO1.o.below HB2.o)
         have HX2:=Zh (HX1.o.grown HB2.o)
         have HF2:=Zh (HF1.o.trans (Frm.pure HB2.o _))
         have HTQ:=Zh (show TS (T ||| Q) m (s1 ||| M) from by rw [HGJ.o];exact hT'.put)
         have HSM:=Zh (zje hs' HQN.o)
         have hmlt:m<n:=by omega
         have HST:=Zh (z0l (d:=n-m) (s:=s1 ||| M) (by
          have:=Nat.testBit_or s1 M 0
          rw [Nat.testBit_zero,Nat.testBit_zero,Nat.testBit_zero,decide_eq_true hpd,Bool.or_true] at this
          exact of_decide_eq_true this) (by omega))
         have HCY:=Zh (show ∀ x∈l++[c],x<100 from fun x hx=>by
          rcases List.mem_append.1 hx with h | h
          ·exact HLH.o x h
          ·rw [List.mem_singleton] at h;omega)
         have hnl2:(rs++new1).length+2 ^ f<=100000000:=by
          rw [List.length_append]
          have:2 ^ (f+1)=2 ^ f*2:=Nat.pow_succ ..
          have:k*2 ^ f<=1*2 ^ f:=Nat.mul_le_mul_right _ (by omega)
          omega
         have HNL2:=Zh hnl2
         clear hqn hnl2
         go_wp2_with fail
         have hbd:=Below.drew5_ (Below.refl w2.heap.size w2)
         have HWS:=Zh (show w2.drew.heap.size=w2.heap.size from rfl)
         have HE2:=Zh (HE2.o.below hbd)
         have HO2:=Zh (HO2.o.below hbd)
         have HX2:=Zh HX2.o.drew
         have HF2:=Zh HF2.o.drew
         have hcx2:=HE2.o.cx
         clear hbd
         (refine wp_region_held_drew (S:=(fun w'=>w'.cell? ⟨qx,0,none⟩=some (.func (.func 202) #[] #[.pointer (some ⟨qn,0,none⟩),.pointer (some ⟨qo,0,none⟩),.pointer (some ⟨qk,0,none⟩),.pointer (some ⟨qp,0,none⟩),.pointer (some ⟨qx,0,none⟩)]))) (by kernel_rfl) ?_ (fun hHeld=>?_);(focus ((try dsimp only);exact hcx2)))
         generalize w2.drew=wg at *
         ((refine Zk 0 ?_;(try simp only [Act.put,Zz]));(refine Zk 1 ?_;(try simp only [Act.put,Zz]));(refine Zk 2 ?_;(try simp only [Act.put,Zz]));(refine Zk 5 ?_;(try simp only [Act.put,Zz]));(refine Zk 6 ?_;(try simp only [Act.put,Zz]));(refine Zk 7 ?_;(try simp only [Act.put,Zz])))
         (refine wpAnyH_ready (rs:=[3]) (by kernel_rfl) (by simp) ?_;refine AllReadyH.cons rfl (fun K hK=>?_) AllReadyH.nil;go_simp)
         have hb3:=(Below.refl wg.heap.size wg).alloc (Nat.le_refl _) (.cells #[.int .i64 c] 3)
         have HNC:=Zh (zag wg (.int .i64 c) 3)
         have HE3:=Zh (HE2.o.below hb3)
         have HO3:=Zh (HO2.o.below hb3)
         have HX3:=Zh (HX2.o.grown hb3)
         have HF3:=Zh (HF2.o.trans (Frm.pure hb3 _))
         have HZ3:=Zh hb3.size
         have hcx3:=HE3.o.cx
         clear hb3
         (refine hK.out _ _ ?_ fun hHeld2=>?_;(focus ((try dsimp only);exact hcx3));(clear hK K);(try simp only [Act.put,Zz]))
         generalize wg.alloc (.cells #[.int .i64 c] 3)=w3 at *
         refine wpAnyH_ready (rs:=[4]) (by kernel_rfl) (by simp) ?_
         refine AllReadyH.cons rfl (fun K hK=>?_) AllReadyH.nil
         refine z0w (by rfl) _ _ (by rfl) base _ (zad l) (by rfl) HX3.o wg.heap.size 0 1 (c:Int) (by rfl) HNC.o (by rw [zc9];omega) HE3.o.size ?_
         intro v4 w4 hown4 hgr4 hsr4
         have hf4:Frm (fun c=>(Value.slice A1 (zad l).length c1).ownBlock=some c) w3 w4:=⟨hgr4.os,hgr4.tape,hgr4.output,hgr4.size,fun c hc hS=>hgr4.block c hc (fun e=>hS e.symm)⟩
         have HE4:=Zh (HE3.o.frm hf4 (fun c h=>.inr (HLB.o c h).1))
         have HO4:=Zh (HO3.o.grown (fun k e=>(HLB.o k e).1) hgr4 hsr4)
         have HX4:=Zh (show OwnI w4 base v4 (zad (l++[c])) from by rw [zpm];exact hown4)
         have HF4:=Zh (HF3.o.trans (hf4.mono (fun c h=>.inr (.inl h))))
         have HSR:=Zh hsr4
         have HF0:=Zh hf4
         have HSZ:=Zh (show wo.heap.size<=w3.heap.size from by
          have h1:=HB2.o.size
          have h2:=HWS.o
          have h3:=HZ3.o
          omega)
         have hcx4:=HE4.o.cx
         clear hown4 hgr4 hsr4 hf4
         (try simp only [Act.put,Zz])
         (refine hK.out _ _ ?_ fun hHeld2=>?_;(focus ((try dsimp only);exact hcx4));(clear hK K);(try simp only [Act.put,Zz]))
         (refine wpAnyH_ready (rs:=[8]) (by kernel_rfl) (by simp) ?_;refine AllReadyH.cons rfl (fun K hK=>?_) AllReadyH.nil;go_simp)
         go_at_call 202
         refine (HIH.o m (s1 ||| M) (T ||| Q) (l++[c]) v4 vo1 (rs++new1) w4 (by have:=HST.o;omega) hmn HSM.o HTQ.o (by simp;omega) HCY.o HNL2.o HX4.o HE4.o HO4.o).mono ?_
         rintro e w5 ⟨rfl,hR5⟩
         have HRN:=Zh (z08 (fun g e=>(HLB.o g e).2) HF1.o.size HO1.o HKY.o.1 HKY.o.2.1 HKY.o.2.2 HX3.o HF4.o HF0.o HSR.o HSZ.o hR5)
         clear hR5
         have hcx5:=(HE.o.frm HRN.o.frame (fun c hc=>by
          rcases hc with h1 | h1 | h1
          ·exact .inl h1
          ·exact .inr (HLB.o c h1).1
          ·exact .inr (HO.o.own.lt c h1).1)).cx
         go_wp2_with fail
         (refine hK.out _ _ ?_ fun hHeld2=>?_;(focus ((try dsimp only);exact hcx5));(clear hK K);(try simp only [Act.put,Zz]))
         refine wpAnyH_done (by kernel_rfl) ?_ _
         go_wp2_with fail
         go_roundw
         case rel=>exact ⟨k+1,hlt,by go_num,by rw [HLY.o HQ0.o HQN.o,HC.o];exact HRN.o⟩
         case measure=>simp [intOf];omega
        ·have HQN:=Zh (HLN.o (fun h=>hqn (by rw [HGJ.o,<- HP2.o];exact HFI.o.2 h.2)))
         have hqd : ¬ (Q:Int)<(P2:Int):=by omega
         have hqd2:decide ((Q:Int)<(P2:Int))=false:=decide_eq_false hqd
         go_wp2_with fail
         go_roundw
         case rel=>exact ⟨k+1,hlt,by go_num,by rw [HQN.o];exact (CovR.mk HO1.o HKY.o HX1.o HF1.o).below HB2.o⟩
         case measure=>simp [intOf];omega
       ·have hq0:(((Q &&& T:Nat):Int)==0)=false:=beq_eq_false_iff_ne.2 (by omega)
        have HQ0:=Zh (HLN.o (fun h=>hq (by rw [HGJ.o];exact HFE.o.2 h.1)))
        clear hq
        go_wp2_with fail
        go_roundw
        case rel=>exact ⟨k+1,hlt,by go_num,by rw [HQ0.o];exact (CovR.mk HO1.o HKY.o HX1.o HF1.o).below HB2.o⟩
        case measure=>simp [intOf];omega
    ·have hke:k=kinds:=by omega
     have HRR:=Zh hR
     have hkc : ¬ (k:Int)<(kinds:Int):=by omega
     have HKE:=Zh hke
     clear hR hke
     go_wp2_with fail
     refine bodyPost_end (results_none rfl _ _ _) rfl ?_
     rw [HTOT.o,<- HKE.o]
     exact ⟨rfl,HRR.o⟩
def RetC (w:World)(L:List (List Nat))(e:Ending)(w':World):Prop:=∃ v rs,e = .returned v/\OwnW w' w.heap.size v rs/\rs.map SV.xs=L.map zad/\Below w.heap.size w w'
def Bx (w:World)(g:Nat)(u:Value):Prop:=g<w.heap.size/\w.cell? ⟨g,0,none⟩=some u/\w.frozen? ⟨g,0,none⟩=false
theorem Bx.new (w:World)(u:Value)(t:TypeId):Bx (w.alloc (.cells #[u] t)) w.heap.size u:=⟨by simp,zag w u t,by simp [go_sem]⟩
theorem Bx.lift {w w':World}{g:Nat}{u:Value}(h:Bx w g u)(hb:Below w.heap.size w w'):Bx w' g u :=
 ⟨Nat.lt_of_lt_of_le h.1 hb.size,(hb.cell (p:=⟨g,0,none⟩) h.1).trans h.2.1,(hb.frozen (p:=⟨g,0,none⟩) h.1).trans h.2.2⟩
theorem Bx.set {w:World}{g:Nat}{u:Value}(h:Bx w g u)(x:Value):Bx (w.setCell ⟨g,0,none⟩ x) g x :=
 ⟨by simpa [World.setCell] using h.1,World.cell?_setCell_same w _ _ h.2.1,by rw [World.frozen?_setCell];exact h.2.2⟩
theorem Bx.far {w:World}{g:Nat}{u:Value}(h:Bx w g u){p:Addr}(hp:g≠p.block)(x:Value):Bx (w.setCell p x) g u:=by
 have hh:(w.setCell p x).heap[g]? = w.heap[g]?:=Below.heap_setCell w p x g hp
 exact ⟨by simpa [World.setCell] using h.1,(World.cell?_of_block (a:=⟨g,0,none⟩) hh).trans h.2.1,(World.frozen?_of_block (a:=⟨g,0,none⟩) hh).trans h.2.2⟩
structure CovF (w w':World) (q:Nat) (A:Option Addr) (cap:Nat) (xs:List Int) (n kinds:Nat):Prop where
 q0:w.heap.size=q
 b0:Bx w' q (.slice A xs.length cap)
 b1:Bx w' (q+1) (.int .i64 n)
 b2:Bx w' (q+2) (.int .i64 kinds)
 below:Below q w w'
theorem CovF.lift {w w' w2:World}{q:Nat}{A:Option Addr}{cap:Nat}{xs:List Int}{n kinds:Nat}(h:CovF w w' q A cap xs n kinds)(hb:Below w'.heap.size w' w2):CovF w w2 q A cap xs n kinds :=
 ⟨h.q0,h.b0.lift hb,h.b1.lift hb,h.b2.lift hb,h.below.trans (hb.mono (by have:=h.b0.1;omega))⟩
theorem zjn (A:Option Addr)(cap:Nat)(xs:List Int)(n:Nat)(w:World)(hA:Ints w w.heap.size A xs)(hp:patB xs=true)(hn:n<=24)(hD:DeB w) :
  Calls Tryz.prog 139 #[.slice A xs.length cap,.int .i64 n] w (RetC w (covN xs n)):=by
 have HA:=Zh hA
 have HD:=Zh hD
 have HMI:=Zh (fun V h=>zpk A cap xs V h hp)
 clear hA hD
 have hF:CovF w (((w.alloc (.cells #[.slice A xs.length cap] 25)).alloc (.cells #[.int .i64 n] 3)).alloc (.cells #[.int .i64 2] 3)) w.heap.size A cap xs n 2:=by
  have h1:=Bx.new w (.slice A xs.length cap) 25
  have h2:=Bx.new (w.alloc (.cells #[.slice A xs.length cap] 25)) (.int .i64 n) 3
  have h3:=Bx.new ((w.alloc (.cells #[.slice A xs.length cap] 25)).alloc (.cells #[.int .i64 n] 3)) (.int .i64 2) 3
  have e1:=fun (V:World) (o:Obj)=>(Below.refl V.heap.size V).alloc (Nat.le_refl _) o
  rw [World.size_alloc] at h2 h3
  rw [World.size_alloc] at h3
  exact ⟨rfl,(h1.lift (e1 _ _)).lift (e1 _ _),h2.lift (e1 _ _),h3,(((Below.refl w.heap.size w).alloc (Nat.le_refl _) _).alloc (by simp) _).alloc (by simp;omega) _⟩
 have HF:=Zh hF
 clear hF
 go_enter Tryz.func139,Tryz.ntmps139
 go_upto_region 2 with fail
 rw [show w.heap.size+1+1=w.heap.size+2 from rfl]
 generalize ((w.alloc (.cells #[.slice A xs.length cap] 25)).alloc (.cells #[.int .i64 n] 3)).alloc (.cells #[.int .i64 2] 3)=V at *
 obtain ⟨q,hq⟩ : ∃ q,w.heap.size=q:=⟨_,rfl⟩
 rw [hq] at HF ⊢
 have hbd:=Below.drew5_ (Below.refl V.heap.size V)
 have HF:=Zh (HF.o.lift hbd)
 obtain ⟨_,p0,_⟩:=HF.o.b0
 clear hbd
 have HAV:=Zh (fun W (h:CovF w W q A cap xs n 2)=>show Ints W W.heap.size A xs from (HA.o.below (h.q0 ▸ h.below)).mono (by have:=h.below.size;omega))
 have HEQ:=Zh (fun A1 c1 W B h1 h2=>zpg A1 A c1 cap (mirL xs) xs W B W.heap.size h1 h2)
 have HML:=Zh (zez xs)
 have HMF:=Zh (show ∀ x∈mirL xs,Fits x from fun x hx=>by
   obtain ⟨j,hj,e⟩:=List.mem_iff_getElem.1 hx
   have:=zbi ((za6 (zgi hp)).2 j hj)
   rw [List.getD_eq_getElem?_getD,List.getElem?_eq_getElem hj,Option.getD_some,e] at this
   unfold Fits;omega)
 (refine wp_region_held_drew (S:=(fun w'=>w'.cell? ⟨q,0,none⟩=some (.slice A xs.length cap))) (by kernel_rfl) ?_ (fun hHeld=>?_);(focus ((try dsimp only);exact p0)))
 generalize V.drew=W at *
 ((refine Zk 0 ?_;(try simp only [Act.put,Zz]));(refine Zk 2 ?_;(try simp only [Act.put,Zz])))
 (refine wpAnyH_ready (rs:=[1]) (by kernel_rfl) (by simp) ?_;refine AllReadyH.cons rfl (fun K hK=>?_) AllReadyH.nil;go_simp)
 go_at_call 201
 refine (HMI.o W (HAV.o W HF.o)).mono ?_
 rintro e w1 ⟨v1,rfl,hown,hb⟩
 obtain ⟨A1,c1,rfl⟩:=hown.form
 have HF:=Zh (HF.o.lift hb)
 have HI1:=Zh (hown.ints HMF.o)
 clear hown hb p0
 obtain ⟨_,p0,_⟩:=HF.o.b0
 go_wp2_with fail
 (refine hK.out _ _ ?_ fun hHeld2=>?_;(focus ((try dsimp only);exact p0));(clear hK K);(try simp only [Act.put,Zz]))
 (refine wpAnyH_ready (rs:=[3]) (by kernel_rfl) (by simp) ?_;refine AllReadyH.cons rfl (fun K hK=>?_) AllReadyH.nil;go_simp)
 go_at_call 200
 refine (HEQ.o A1 c1 w1 w1.heap.size HI1.o (HAV.o w1 HF.o)).mono ?_
 rintro e w2 ⟨rfl,z,rfl⟩
 have HF:=Zh (HF.o.lift (Below.drewN_ (Below.refl w1.heap.size w1) z))
 clear p0
 obtain ⟨_,p0,_⟩:=HF.o.b0
 generalize w1.drewN z=w2 at *
 go_wp2_with fail
 (refine hK.out _ _ ?_ fun hHeld2=>?_;(focus ((try dsimp only);exact p0));(clear hK K);(try simp only [Act.put,Zz]))
 refine wpAnyH_done (by kernel_rfl) ?_ _
 obtain ⟨k0,k1,k2⟩:=HF.o.b2
 by_cases hsame:mirL xs=xs
 ·have hdd:decide (mirL xs=xs)=true:=decide_eq_true hsame
  have HKD:=Zh (show 1=(if mirL xs=xs then 1 else 2) from (if_pos hsame).symm)
  rw [hdd]
  clear hsame hdd
  go_upto_region 4 with fail
  have HF:=Zh (show CovF w (w2.setCell ⟨q+2,0,none⟩ (.int .i64 1)) q A cap xs n 1 from ⟨HF.o.q0,HF.o.b0.far (by simp) _,HF.o.b1.far (by simp) _,HF.o.b2.set _,HF.o.below.setCell (by simp) _⟩)
  clear p0 k0 k1 k2
  generalize w2.setCell ⟨q+2,0,none⟩ (.int .i64 1)=w3 at *
  go_upto_region 6 with fail
  have hb1:=(Below.refl w3.heap.size w3).alloc (Nat.le_refl _) (.cells #[.slice none 0 0] 117)
  have hb2:=(Below.refl (w3.alloc (.cells #[.slice none 0 0] 117)).heap.size (w3.alloc (.cells #[.slice none 0 0] 117))).alloc (Nat.le_refl _) (.cells #[.nilFunc] 157)
  have ho:=(Bx.new w3 (.slice none 0 0) 117).lift hb2
  have hx:=Bx.new (w3.alloc (.cells #[.slice none 0 0] 117)) .nilFunc 157
  rw [World.size_alloc] at hx
  have HFQ:=HF
  have HF:=Zh ((HF.o.lift hb1).lift hb2)
  have HQ3:=Zh (show q+2<w3.heap.size from HFQ.out.b2.1)
  have hz4:((w3.alloc (.cells #[.slice none 0 0] 117)).alloc (.cells #[.nilFunc] 157)).heap.size=w3.heap.size+2:=by simp
  generalize (w3.alloc (.cells #[.slice none 0 0] 117)).alloc (.cells #[.nilFunc] 157)=w4 at *
  obtain ⟨qo,hqo⟩ : ∃ g,w3.heap.size=g:=⟨_,rfl⟩
  rw [hqo] at ho hx HQ3 hz4 ⊢
  have HZ4:=Zh hz4
  clear hb1 hb2 hz4 hqo
  obtain ⟨x0,x1,x2⟩:=hx
  go_upto_region 7 with fail
  have HX:=Zh ((show Bx w4 (qo+1) .nilFunc from ⟨x0,x1,x2⟩).set (.func (.func 202) #[] #[.pointer (some ⟨q+1,0,none⟩),.pointer (some ⟨qo,0,none⟩),.pointer (some ⟨q+2,0,none⟩),.pointer (some ⟨q,0,none⟩),.pointer (some ⟨qo+1,0,none⟩)]))
  have HO:=Zh (ho.far (p:=⟨qo+1,0,none⟩) (by simp) (.func (.func 202) #[] #[.pointer (some ⟨q+1,0,none⟩),.pointer (some ⟨qo,0,none⟩),.pointer (some ⟨q+2,0,none⟩),.pointer (some ⟨q,0,none⟩),.pointer (some ⟨qo+1,0,none⟩)]))
  have HF:=Zh (show CovF w (w4.setCell ⟨qo+1,0,none⟩ (.func (.func 202) #[] #[.pointer (some ⟨q+1,0,none⟩),.pointer (some ⟨qo,0,none⟩),.pointer (some ⟨q+2,0,none⟩),.pointer (some ⟨q,0,none⟩),.pointer (some ⟨qo+1,0,none⟩)])) q A cap xs n 1 from by
   have hq3:=HQ3.o
   exact ⟨HF.o.q0,HF.o.b0.far (by simp;omega) _,HF.o.b1.far (by simp;omega) _,HF.o.b2.far (by simp;omega) _,HF.o.below.setCell (by simp;omega) _⟩)
  have HZ5:=Zh (show (w4.setCell ⟨qo+1,0,none⟩ (.func (.func 202) #[] #[.pointer (some ⟨q+1,0,none⟩),.pointer (some ⟨qo,0,none⟩),.pointer (some ⟨q+2,0,none⟩),.pointer (some ⟨q,0,none⟩),.pointer (some ⟨qo+1,0,none⟩)])).heap.size=qo+2 from by rw [<- HZ4.o];simp [World.setCell])
  generalize w4.setCell ⟨qo+1,0,none⟩ (.func (.func 202) #[] #[.pointer (some ⟨q+1,0,none⟩),.pointer (some ⟨qo,0,none⟩),.pointer (some ⟨q+2,0,none⟩),.pointer (some ⟨q,0,none⟩),.pointer (some ⟨qo+1,0,none⟩)])=w5 at *
  clear x0 x1 x2 ho
  have HE:=Zh (show CovE w5 (qo+2) (q+1) qo (q+2) q (qo+1) A cap xs n 1 from by
   have hq3:=HQ3.o
   have hqw:=HF.o.q0
   have hA:=HA.o
   have hD:=HD.o
   have hb:Below w.heap.size w w5:=hqw ▸ HF.o.below
   exact ⟨by omega,by omega,by omega,by omega,by omega,by omega,by omega,by omega,by omega,HF.o.b1.2.1,HF.o.b2.2.1,HF.o.b0.2.1,HX.o.2.1,(hA.below hb).mono (by omega),hD.below hb,by have:=hD.1;omega,by have:=HZ5.o;omega⟩)
  have HOC:=Zh (show OutC w5 (qo+2) qo (.slice none 0 0) [] (Value.slice none 0 0).ownBlock from ⟨HO.o.2.1,HO.o.2.2,OwnW.nil _ _,(fun g e=>by cases e),(fun r hr=>by cases hr),by omega,by have:=HZ5.o;omega⟩)
  obtain ⟨_,x1,_⟩:=HX.o
  go_wp2_with fail
  refine (zpo A cap xs n 1 (qo+2) (q+1) qo (q+2) q (qo+1) hp hn HKD.o (n+1) 0 0 0 [] (.slice none 0 0) (.slice none 0 0) [] w5 (by omega) (by omega) (Nat.two_pow_pos _) (TS.zero 0) (by simp;omega) (fun x hx=>by cases hx) (by have:2 ^ (n+1)<=2 ^ 25:=Nat.pow_le_pow_right (by decide) (by omega);simp;omega) (OwnI.nil _ _) HE.o HOC.o).mono ?_
  rintro e w6 ⟨rfl,hR⟩
  obtain ⟨vo,new,hO6,hk6,hv6,hn6,_,hF6⟩:=hR
  obtain ⟨Ao,co,rfl⟩:=hO6.own.form
  rw [List.nil_append] at hO6
  have HO6:=Zh hO6
  have HK6:=Zh (show new.map SV.xs=(covN xs n).map zad from by rw [hk6];exact List.map_congr_left fun s _=>by rw [List.nil_append])
  have HB6:=Zh (show Below w.heap.size w w6 from by
   have hq3:=HQ3.o
   have hqw:=HF.o.q0
   have hz5:=HZ5.o
   have hb:Below w.heap.size w w5:=hqw ▸ HF.o.below
   refine hb.trans (hF6.below (fun c h=>?_) (by omega))
   rcases h with h | h | h
   ·omega
   ·cases h
   ·cases h)
  have hco:=hO6.cell
  clear hO6 hk6 hv6 hn6 hF6 x1
  go_wp2_with fail
  go_ret
  exact ⟨_,new,rfl,HO6.o.own.mono (by have:=HQ3.o;have:=HF.o.q0;omega),HK6.o,HB6.o⟩
 ·have hdd:decide (mirL xs=xs)=false:=decide_eq_false hsame
  have HKD:=Zh (show 2=(if mirL xs=xs then 1 else 2) from (if_neg hsame).symm)
  rw [hdd]
  clear hsame hdd
  go_upto_region 4 with fail
  clear p0 k0 k1 k2
  generalize w2=w3 at *
  go_upto_region 6 with fail
  have hb1:=(Below.refl w3.heap.size w3).alloc (Nat.le_refl _) (.cells #[.slice none 0 0] 117)
  have hb2:=(Below.refl (w3.alloc (.cells #[.slice none 0 0] 117)).heap.size (w3.alloc (.cells #[.slice none 0 0] 117))).alloc (Nat.le_refl _) (.cells #[.nilFunc] 157)
  have ho:=(Bx.new w3 (.slice none 0 0) 117).lift hb2
  have hx:=Bx.new (w3.alloc (.cells #[.slice none 0 0] 117)) .nilFunc 157
  rw [World.size_alloc] at hx
  have HFQ:=HF
  have HF:=Zh ((HF.o.lift hb1).lift hb2)
  have HQ3:=Zh (show q+2<w3.heap.size from HFQ.out.b2.1)
  have hz4:((w3.alloc (.cells #[.slice none 0 0] 117)).alloc (.cells #[.nilFunc] 157)).heap.size=w3.heap.size+2:=by simp
  generalize (w3.alloc (.cells #[.slice none 0 0] 117)).alloc (.cells #[.nilFunc] 157)=w4 at *
  obtain ⟨qo,hqo⟩ : ∃ g,w3.heap.size=g:=⟨_,rfl⟩
  rw [hqo] at ho hx HQ3 hz4 ⊢
  have HZ4:=Zh hz4
  clear hb1 hb2 hz4 hqo
  obtain ⟨x0,x1,x2⟩:=hx
  go_upto_region 7 with fail
  have HX:=Zh ((show Bx w4 (qo+1) .nilFunc from ⟨x0,x1,x2⟩).set (.func (.func 202) #[] #[.pointer (some ⟨q+1,0,none⟩),.pointer (some ⟨qo,0,none⟩),.pointer (some ⟨q+2,0,none⟩),.pointer (some ⟨q,0,none⟩),.pointer (some ⟨qo+1,0,none⟩)]))
  have HO:=Zh (ho.far (p:=⟨qo+1,0,none⟩) (by simp) (.func (.func 202) #[] #[.pointer (some ⟨q+1,0,none⟩),.pointer (some ⟨qo,0,none⟩),.pointer (some ⟨q+2,0,none⟩),.pointer (some ⟨q,0,none⟩),.pointer (some ⟨qo+1,0,none⟩)]))
  have HF:=Zh (show CovF w (w4.setCell ⟨qo+1,0,none⟩ (.func (.func 202) #[] #[.pointer (some ⟨q+1,0,none⟩),.pointer (some ⟨qo,0,none⟩),.pointer (some ⟨q+2,0,none⟩),.pointer (some ⟨q,0,none⟩),.pointer (some ⟨qo+1,0,none⟩)])) q A cap xs n 2 from by
   have hq3:=HQ3.o
   exact ⟨HF.o.q0,HF.o.b0.far (by simp;omega) _,HF.o.b1.far (by simp;omega) _,HF.o.b2.far (by simp;omega) _,HF.o.below.setCell (by simp;omega) _⟩)
  have HZ5:=Zh (show (w4.setCell ⟨qo+1,0,none⟩ (.func (.func 202) #[] #[.pointer (some ⟨q+1,0,none⟩),.pointer (some ⟨qo,0,none⟩),.pointer (some ⟨q+2,0,none⟩),.pointer (some ⟨q,0,none⟩),.pointer (some ⟨qo+1,0,none⟩)])).heap.size=qo+2 from by rw [<- HZ4.o];simp [World.setCell])
  generalize w4.setCell ⟨qo+1,0,none⟩ (.func (.func 202) #[] #[.pointer (some ⟨q+1,0,none⟩),.pointer (some ⟨qo,0,none⟩),.pointer (some ⟨q+2,0,none⟩),.pointer (some ⟨q,0,none⟩),.pointer (some ⟨qo+1,0,none⟩)])=w5 at *
  clear x0 x1 x2 ho
  have HE:=Zh (show CovE w5 (qo+2) (q+1) qo (q+2) q (qo+1) A cap xs n 2 from by
   have hq3:=HQ3.o
   have hqw:=HF.o.q0
   have hA:=HA.o
   have hD:=HD.o
   have hb:Below w.heap.size w w5:=hqw ▸ HF.o.below
   exact ⟨by omega,by omega,by omega,by omega,by omega,by omega,by omega,by omega,by omega,HF.o.b1.2.1,HF.o.b2.2.1,HF.o.b0.2.1,HX.o.2.1,(hA.below hb).mono (by omega),hD.below hb,by have:=hD.1;omega,by have:=HZ5.o;omega⟩)
  have HOC:=Zh (show OutC w5 (qo+2) qo (.slice none 0 0) [] (Value.slice none 0 0).ownBlock from ⟨HO.o.2.1,HO.o.2.2,OwnW.nil _ _,(fun g e=>by cases e),(fun r hr=>by cases hr),by omega,by have:=HZ5.o;omega⟩)
  obtain ⟨_,x1,_⟩:=HX.o
  go_wp2_with fail
  refine (zpo A cap xs n 2 (qo+2) (q+1) qo (q+2) q (qo+1) hp hn HKD.o (n+1) 0 0 0 [] (.slice none 0 0) (.slice none 0 0) [] w5 (by omega) (by omega) (Nat.two_pow_pos _) (TS.zero 0) (by simp;omega) (fun x hx=>by cases hx) (by have:2 ^ (n+1)<=2 ^ 25:=Nat.pow_le_pow_right (by decide) (by omega);simp;omega) (OwnI.nil _ _) HE.o HOC.o).mono ?_
  rintro e w6 ⟨rfl,hR⟩
  obtain ⟨vo,new,hO6,hk6,hv6,hn6,_,hF6⟩:=hR
  obtain ⟨Ao,co,rfl⟩:=hO6.own.form
  rw [List.nil_append] at hO6
  have HO6:=Zh hO6
  have HK6:=Zh (show new.map SV.xs=(covN xs n).map zad from by rw [hk6];exact List.map_congr_left fun s _=>by rw [List.nil_append])
  have HB6:=Zh (show Below w.heap.size w w6 from by
   have hq3:=HQ3.o
   have hqw:=HF.o.q0
   have hz5:=HZ5.o
   have hb:Below w.heap.size w w5:=hqw ▸ HF.o.below
   refine hb.trans (hF6.below (fun c h=>?_) (by omega))
   rcases h with h | h | h
   ·omega
   ·cases h
   ·cases h)
  have hco:=hO6.cell
  clear hO6 hk6 hv6 hn6 hF6 x1
  go_wp2_with fail
  go_ret
  exact ⟨_,new,rfl,HO6.o.own.mono (by have:=HQ3.o;have:=HF.o.q0;omega),HK6.o,HB6.o⟩
def lcL (xs:List Int):Nat->List Int
 | 0=>[]
 | q+1=>lcL xs q++(if covN xs (q+1)=[] then [] else [((q+1:Nat):Int)])
theorem zpp {xs:List Int}{q:Nat}(h:covN xs (q+1)≠[]):lcL xs (q+1)=lcL xs q++[((q+1:Nat):Int)]:=by rw [lcL,if_neg h]
theorem zpq {xs:List Int}{q:Nat}(h:covN xs (q+1)=[]):lcL xs (q+1)=lcL xs q:=by rw [lcL,if_pos h,List.append_nil]
theorem zpr (xs:List Int) : ∀ q,(lcL xs q).length<=q
 | 0=>Nat.le_refl _
 | q+1=>by
  have:=zpr xs q
  rw [lcL,List.length_append]
  split <;> simp <;> omega
theorem zps (xs:List Int) : ∀ q,q<=24 -> ∀ x∈lcL xs q,Fits x
 | 0,_,x,h=>by cases h
 | q+1,hq,x,h=>by
  rw [lcL] at h
  rcases List.mem_append.1 h with h | h
  ·exact zps xs q (by omega) x h
  ·split at h
   ·cases h
   ·rw [List.mem_singleton] at h;subst h;unfold Fits;omega
theorem zjo (xs:List Int) : ∀ q,(lcL xs q=[] /\ ∀ m,1<=m->m<=q->covN xs m=[]) \/ ∃ m,1<=m/\m<=q/\0<(lcL xs q).length/\(lcL xs q).getD 0 0=((m:Nat):Int)/\covN xs m≠[] /\ ∀ j,1<=j->j<m->covN xs j=[]
 | 0=>.inl ⟨rfl,fun m h1 h2=>by omega⟩
 | q+1=>by
  rcases zjo xs q with ⟨h1,h2⟩ | ⟨m,h1,h2,h3,h4,h5,h6⟩
  ·by_cases c:covN xs (q+1)=[]
   ·rw [zpq c]
    refine .inl ⟨h1,fun m k1 k2=>?_⟩
    by_cases e:m=q+1
    ·subst e;exact c
    ·exact h2 m k1 (by omega)
   ·rw [zpp c,h1]
    exact .inr ⟨q+1,by omega,Nat.le_refl _,by simp,by simp,c,fun j k1 k2=>h2 j k1 (by omega)⟩
  ·refine .inr ⟨m,h1,by omega,?_,?_,h5,h6⟩
   ·rw [lcL,List.length_append];omega
   ·rw [lcL]
    cases h:lcL xs q with
    | nil=>rw [h] at h3;simp at h3
    | cons x r=>rw [h] at h4;simpa using h4
theorem zpt (xs:List Int) : ∀ d n,1<=n -> ∀ m,n<=m->m<n+d->(m<lstC xs d n\/lstC xs d n=0)->covN xs m=[]
 | 0,n,_,m,h1,h2,_=>by omega
 | d+1,n,h0,m,h1,h2,h3=>by
  unfold lstC at h3
  by_cases c:covN xs n=[]
  ·rw [if_pos c] at h3
   by_cases e:m=n
   ·subst e;exact c
   ·exact zpt xs d (n+1) (by omega) m (by omega) (by omega) h3
  ·rw [if_neg c] at h3
   omega
theorem zjp (xs:List Int):(lcL xs 24=[]/\zap xs=0)\/(0<(lcL xs 24).length/\(lcL xs 24).getD 0 0=(zap xs:Int)/\1<=zap xs/\zap xs<=24/\covN xs (zap xs)≠[]):=by
 have hm:=zpt xs 24 1 (Nat.le_refl _)
 rcases zpe xs 24 1 with ⟨h1,h2⟩ | ⟨h1,h2,h3⟩
 ·rcases zjo xs 24 with ⟨k1,_⟩ | ⟨m,k1,k2,_,_,k5,_⟩
  ·exact .inl ⟨k1,h1⟩
  ·exact absurd (h2 m k1 (by omega)) k5
 ·rcases zjo xs 24 with ⟨_,k2⟩ | ⟨m,k1,k2,k3,k4,k5,k6⟩
  ·exact absurd (k2 _ h1 (by omega)) h3
  ·have e:m=lstC xs 24 1:=by
    rcases Nat.lt_trichotomy m (lstC xs 24 1) with h | h | h
    ·exact absurd (hm m k1 (by omega) (.inl h)) k5
    ·exact h
    ·exact absurd (k6 _ h1 h) h3
   exact .inr ⟨k3,by rw [k4,e];rfl,h1,by unfold zap;omega,h3⟩
theorem z09 (A:Option Addr)(cap:Nat)(xs:List Int)(w:World)(hA:Ints w w.heap.size A xs)(hp:patB xs=true)(hD:DeB w) :
  Calls Tryz.prog 197 #[.slice A xs.length cap] w (RetO w (lcL xs 24)):=by
 have HA:=Zh hA
 have HD:=Zh hD
 have HPO:=zdo A cap xs w hA
 rw [hp] at HPO
 have HPO:=Zh HPO
 clear hA hD
 go_enter Tryz.func197,Tryz.ntmps197
 go_wp2_with fail
 refine HPO.o.mono ?_
 rintro e w' ⟨rfl,hw'⟩
 obtain rfl:=hw'
 go_wp2_with fail
 go_loopw [3,4] (fun v i wr=>∃ q:Nat,q<=24/\i = .int .i64 ((q+1:Nat):Int)/\OwnI wr w.heap.size v (lcL xs q)/\Below w.heap.size w wr) (fun _ i _=>25-(intOf i).toNat)
 case atStart=>exact ⟨0,by omega,rfl,OwnI.nil _ _,Below.refl _ _⟩
 case round =>
  obtain ⟨q,hq,rfl,hown,hbel⟩:=hrel
  obtain ⟨wo,rfl⟩ : ∃ wo:World,wo=wr:=⟨_,rfl⟩
  obtain ⟨A1,c1,rfl⟩:=hown.form
  have HO:=Zh hown
  have HB:=Zh hbel
  clear hown hbel
  by_cases hlt:q<24
  ·obtain ⟨n,hn⟩ : ∃ n,q+1=n:=⟨_,rfl⟩
   have HY:=Zh (fun h=>zpp (xs:=xs) (q:=q) h)
   have HN:=Zh (fun h=>zpq (xs:=xs) (q:=q) h)
   have hll:=zpr xs q
   rw [hn] at HY HN ⊢
   have hn24:(n:Int)<=24:=by omega
   have hwn:IntKind.i64.wrap ((n:Int)+1)=(n:Int)+1:=i64w (by omega)
   have HCV:=Zh (zjn A cap xs n wo ((HA.o.below HB.o).mono HB.o.size) hp (by omega) (HD.o.below HB.o))
   have HNE:=Zh hn
   clear hn
   go_wp2_with fail
   refine HCV.o.mono ?_
   rintro e w2 ⟨v2,rs,rfl,hown2,hkey,hb2⟩
   obtain ⟨A2,c2,rfl⟩:=hown2.form
   have HB:=Zh (HB.o.trans (hb2.mono HB.o.size))
   have HO:=Zh (HO.o.grown hb2)
   have hlen:rs.length=(covN xs n).length:=by
    have:=congrArg List.length hkey
    rwa [List.length_map,List.length_map] at this
   clear hown2 hb2 hkey
   by_cases hc:covN xs n=[]
   ·have hl0:rs.length=0:=by rw [hlen,hc];rfl
    have HNN:=Zh (HN.o hc)
    clear hlen hc
    rw [hl0]
    have hl00 : ¬ ((0:Int)<((0:Nat):Int)):=by omega
    go_wp2_with fail
    go_roundw
    case rel=>exact ⟨q+1,hlt,by have:=HNE.o;rw [this];go_num,by have:=HNE.o;rw [this,HNN.o];exact HO.o,HB.o⟩
    case measure=>simp [intOf];omega
   ·have hl0:0<rs.length:=by rw [hlen];exact List.length_pos_iff.2 hc
    have HYY:=Zh (HY.o hc)
    clear hlen hc
    have hl00:(0:Int)<(rs.length:Int):=by omega
    have hll2:(lcL xs q).length<=1048576:=by omega
    clear hll
    go_wp2_with (at_builtin;refine za4 rfl _ _ rfl w.heap.size _ (lcL xs q) rfl (HO.o.alloc _) _ _ rfl (zag _ _ _) hll2 (by have:=HB.o.size;simp;omega) ?_;intro v' w3 hown3 hg3;obtain ⟨A3,c3,rfl⟩:=hown3.form)
    go_roundw
    case rel=>exact ⟨q+1,hlt,by have:=HNE.o;rw [this];go_num,by have:=HNE.o;rw [this,HYY.o];rw [List.length_append] at hown3;exact hown3,(HB.o.alloc HB.o.size _).trans hg3⟩
    case measure=>simp [intOf];omega
  ·have hqe:q=24:=by omega
   subst hqe
   have hn24 : ¬ (((24+1:Nat):Int)<=24):=by omega
   go_wp2_with fail
   go_ret
   exact ⟨_,rfl,HO.o,HB.o⟩
theorem z1a (A:Option Addr)(cap:Nat)(xs:List Int)(w:World)(hA:Ints w w.heap.size A xs)(hp:patB xs=true)(hD:DeB w) :
  Calls Tryz.prog 137 #[.slice A xs.length cap] w fun e w'=>e = .returned (.int .i64 (zap xs))/\Below w.heap.size w w':=by
 have HCL:=Zh (z09 A cap xs w hA hp hD)
 have HLF:=Zh (zps xs 24 (Nat.le_refl _))
 have hls:=zjp xs
 obtain ⟨lc,hlc⟩ : ∃ lc,zap xs=lc:=⟨_,rfl⟩
 rw [hlc] at hls ⊢
 clear hA hD hlc
 generalize lcL xs 24=L at *
 go_enter Tryz.func137,Tryz.ntmps137
 go_wp2_with fail
 refine HCL.o.mono ?_
 rintro e w1 ⟨v1,rfl,hown,hb⟩
 obtain ⟨A1,c1,rfl⟩:=hown.form
 have HI:=Zh (hown.ints HLF.o)
 have HB:=Zh hb
 clear hown hb
 rcases hls with ⟨h1,h2⟩ | ⟨h1,h2,_⟩
 ·subst h1 h2
  have hl0:(((([]:List Int).length:Nat):Int)==0)=true:=rfl
  go_wp2_with fail
  go_ret
  exact ⟨rfl,HB.o⟩
 ·obtain ⟨b,off,rfl,hB,hc⟩:=HI.o.2.2 h1
  have hc0:=hc 0 h1
  rw [h2] at hc0
  have hl0:(((L.length:Nat):Int)==0)=false:=beq_eq_false_iff_ne.2 (by omega)
  have hl1:(0:Int)<(L.length:Int):=by omega
  have hl2:0<L.length:=h1
  rw [Nat.add_zero] at hc0
  clear hc h2
  go_wp2_with fail
  go_ret
  exact ⟨rfl,HB.o⟩
end Go.Proofs.YtjpnjchpdkogbaaGreatDoor
