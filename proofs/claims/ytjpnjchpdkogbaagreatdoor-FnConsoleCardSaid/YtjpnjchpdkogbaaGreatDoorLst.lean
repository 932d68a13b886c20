/- Parts of the proof of the card of the law FnConsole. -/
import Derived.Test.YtjpnjchpdkogbaaGreatDoorG06
import Derived.Test.YtjpnjchpdkogbaaGreatDoorG07
import Derived.Test.YtjpnjchpdkogbaaGreatDoorG18
import Derived.Test.YtjpnjchpdkogbaaGreatDoorG14
import Derived.Test.YtjpnjchpdkogbaaGreatDoorG13
set_option linter.unusedVariables false
set_option linter.unusedSimpArgs false
set_option maxRecDepth 100000
set_option maxHeartbeats 4000000
namespace Go.Proofs.YtjpnjchpdkogbaaGreatDoor
open Go.RowKit
theorem Cells2.lift {w w':World}{g:Nat}{u v:Value}(h:Cells2 w g u v)(hb:Below w.heap.size w w'):Cells2 w' g u v:=h.below hb h.2.2.2.2
theorem Cells2.drewR_ {w:World}{g:Nat}{u v:Value}(h:Cells2 w g u v):Cells2 w.drew g u v:=h
theorem RW.lift {w w':World}{base:Nat}{A:Option Addr}{xs:List Int}(h:RW w base A xs)(hb:Below w.heap.size w w'):RW w' base A xs:=h.below hb
theorem zew {N:Nat}{bs:List Int}(hok:RhOk N bs) : ∀ x∈bs,Fits x:=fun x hx=>by
 have:=zba hok x hx
 have:=hok.2.1
 unfold Fits;omega
theorem RW.rvL {w:World}{base:Nat}{A:Option Addr}{xs:List Int}(h:RW w base A xs)(q:Nat)(hq:q<w.heap.size)(hb:q<=base)(n:Int)(c:Nat) : ∃ b,(RV.mk n xs A c b).Lies w q/\(b=q\/base<=b):=by
 by_cases hn:0<xs.length
 ·obtain ⟨b,e,hge,ht⟩:=h.2 hn
  exact ⟨b,⟨h.1,by show q<=b;omega,ht.1,fun _=>⟨e,ht.tabV⟩⟩,.inr hge⟩
 ·exact ⟨q,⟨h.1,Nat.le_refl _,hq,fun h'=>absurd h' hn⟩,.inl rfl⟩
theorem RV.Lies.rwL {r:RV}{w:World}{base:Nat}(h:r.Lies w base):RW w base r.A r.xs :=
 ⟨h.1,fun hn=>⟨r.b,(h.2.2.2 hn).1,h.2.1,(h.2.2.2 hn).2⟩⟩
theorem RV.Lies.lift {r:RV}{w w':World}{base:Nat}(h:r.Lies w base)(hb:Below w.heap.size w w'):r.Lies w' base:=h.frm (Frm.pure hb (fun _=>False)) (fun h=>h)
theorem RV.Lies.drew {r:RV}{w:World}{base:Nat}(h:r.Lies w base):r.Lies w.drew base:=h
theorem RV.Lies.far {r:RV}{w:World}{base:Nat}(h:r.Lies w base){p:Addr}(hp:r.b≠p.block)(u:Value):r.Lies (w.setCell p u) base :=
 h.frm (Frm.setCell (S:=fun c=>c=p.block) (Frm.refl _ w) rfl u) hp
theorem RV.Lies.intsL {N:Nat}{X:List Int}{A:Option Addr}{c b:Nat}{w:World}{base:Nat}(h:(RV.mk N X A c b).Lies w base)(hok:RhOk N X):Ints w w.heap.size A X:=h.ints (zew hok)
theorem zd9 (N:Nat)(A1 A2:Option Addr)(c1 c2:Nat)(a b:List Int)(w:World)(h1:Ints w w.heap.size A1 a)(h2:Ints w w.heap.size A2 b)(ha:RhOk N a)(hb:RhOk N b) :
  Calls Tryz.prog 183 #[.agg #[.int .i64 N,.slice A1 a.length c1],.agg #[.int .i64 N,.slice A2 b.length c2]] w fun e w' =>
   e = .returned (if codI N a<codI N b then .agg #[.int .i64 N,.slice A2 b.length c2] else .agg #[.int .i64 N,.slice A1 a.length c1])/\Below w.heap.size w w':=by
 have HCA:=Zh (fun V h=>show Calls Tryz.prog 105 #[.agg #[.int .i64 N,.slice A1 a.length c1]] V fun e w'=>e = .returned (.int .i64 (codI N a:Nat))/\Below V.heap.size V w' from zd8 N A1 c1 a V h ha)
 have HCB:=Zh (fun V h=>show Calls Tryz.prog 105 #[.agg #[.int .i64 N,.slice A2 b.length c2]] V fun e w'=>e = .returned (.int .i64 (codI N b:Nat))/\Below V.heap.size V w' from zd8 N A2 c2 b V h hb)
 have hal1:=(Below.refl w.heap.size w).alloc (Nat.le_refl _) (.cells #[.int .i64 N,.slice A1 (a).length c1] 27)
 have hal2:=hal1.alloc hal1.size (.cells #[.int .i64 N,.slice A2 (b).length c2] 27)
 have HBW:=Zh (hal2.alloc hal2.size (.cells #[.int .i64 0,.slice none 0 0] 27))
 have HVA:=Zh (show Hav (((w.alloc (.cells #[.int .i64 N,.slice A1 (a).length c1] 27)).alloc (.cells #[.int .i64 N,.slice A2 (b).length c2] 27)).alloc (.cells #[.int .i64 0,.slice none 0 0] 27)) N w.heap.size A1 c1 a from ((Hav.boxed h1 N c1).alloc _).alloc _)
 have HVB:=Zh (show Hav (((w.alloc (.cells #[.int .i64 N,.slice A1 (a).length c1] 27)).alloc (.cells #[.int .i64 N,.slice A2 (b).length c2] 27)).alloc (.cells #[.int .i64 0,.slice none 0 0] 27)) N (w.heap.size+1) A2 c2 b from ⟨(Cells2.new_at (w.alloc (.cells #[.int .i64 N,.slice A1 (a).length c1] 27)) _ _ 27 _ (by simp)).alloc _,h2.lift HBW.o⟩)
 have HLA:=Zh (Cells2.new_at ((w.alloc (.cells #[.int .i64 N,.slice A1 (a).length c1] 27)).alloc (.cells #[.int .i64 N,.slice A2 (b).length c2] 27)) (.int .i64 0) (.slice none 0 0) 27 (w.heap.size+2) (by simp))
 clear h1 h2 ha hb hal1 hal2
 obtain ⟨⟨p0,p1,_,_,_⟩,_⟩:=HVA.o
 obtain ⟨⟨s0,s1,_,_,_⟩,_⟩:=HVB.o
 generalize codI N a=ka at *
 generalize codI N b=kb at *
 go_enter Tryz.func183,Tryz.ntmps183
 go_wp2_with fail
 generalize ((w.alloc (.cells #[.int .i64 N,.slice A1 (a).length c1] 27)).alloc (.cells #[.int .i64 N,.slice A2 (b).length c2] 27)).alloc (.cells #[.int .i64 0,.slice none 0 0] 27)=W at *
 have HBW:=Zh (Below.drewH_ HBW.o)
 try have HRB:=Zh (Below.drewH_ HRB.o)
 try have HWW:=Zh (Below.drewH_ HWW.o)
 try have HVA:=Zh HVA.o.drew
 try have HVB:=Zh HVB.o.drew
 try have HVC:=Zh HVC.o.drew
 try have HVT:=Zh HVT.o.drew
 try have HVX:=Zh HVX.o.drew
 try have HVM:=Zh HVM.o.drew
 try have HVF:=Zh HVF.o.drew
 try have HVP:=Zh HVP.o.drew
 try have HVQ:=Zh HVQ.o.drew
 try have HLA:=Zh HLA.o.drewR_
 try have HLW:=Zh HLW.o.drewR_
 (refine wp_region_held_drew (S:=(fun w'=>w'.cell? ⟨w.heap.size,0,none⟩=some (.int .i64 N)/\w'.cell? ⟨w.heap.size,1,none⟩=some (.slice A1 a.length c1)/\w'.cell? ⟨w.heap.size+1,0,none⟩=some (.int .i64 N)/\w'.cell? ⟨w.heap.size+1,1,none⟩=some (.slice A2 b.length c2))) (by kernel_rfl) ?_ (fun hHeld=>?_);(focus ((try dsimp only);exact ⟨p0,p1,s0,s1⟩)))
 ((refine Zk 0 ?_;(try simp only [Act.put,Zz]));(refine Zk 2 ?_;(try simp only [Act.put,Zz])))
 (refine wpAnyH_ready (rs:=[1]) (by kernel_rfl) (by simp) ?_;refine AllReadyH.cons rfl (fun K hK=>?_) AllReadyH.nil;go_simp)
 go_at_call 105
 refine (HCB.o _ HVB.o.2).mono ?_
 rintro e w1 ⟨rfl,hb⟩
 have HBW:=Zh (HBW.o.trans (hb.mono HBW.o.size))
 try have HVA:=Zh (HVA.o.lift hb)
 try have HVB:=Zh (HVB.o.lift hb)
 try have HLA:=Zh (HLA.o.lift hb)
 clear hb
 clear p0 p1 s0 s1
 obtain ⟨⟨p0,p1,_,_,_⟩,_⟩:=HVA.o
 obtain ⟨⟨s0,s1,_,_,_⟩,_⟩:=HVB.o
 go_wp2_with fail
 (refine hK.out _ _ ?_ fun hHeld2=>?_;(focus ((try dsimp only);exact ⟨p0,p1,s0,s1⟩));(clear hK K);(try simp only [Act.put,Zz]))
 (refine wpAnyH_ready (rs:=[3]) (by kernel_rfl) (by simp) ?_;refine AllReadyH.cons rfl (fun K hK=>?_) AllReadyH.nil;go_simp)
 go_at_call 105
 refine (HCA.o _ HVA.o.2).mono ?_
 rintro e w2 ⟨rfl,hb⟩
 have HBW:=Zh (HBW.o.trans (hb.mono HBW.o.size))
 try have HVA:=Zh (HVA.o.lift hb)
 try have HVB:=Zh (HVB.o.lift hb)
 try have HLA:=Zh (HLA.o.lift hb)
 clear hb
 clear p0 p1 s0 s1
 obtain ⟨⟨p0,p1,_,_,_⟩,_⟩:=HVA.o
 obtain ⟨⟨s0,s1,_,_,_⟩,_⟩:=HVB.o
 go_wp2_with fail
 (refine hK.out _ _ ?_ fun hHeld2=>?_;(focus ((try dsimp only);exact ⟨p0,p1,s0,s1⟩));(clear hK K);(try simp only [Act.put,Zz]))
 (refine Zk 4 ?_;(try simp only [Act.put,Zz]))
 refine wpAnyH_done (by kernel_rfl) ?_ _
 obtain ⟨r0,r1,rf0,rf1,_⟩:=HLA.o
 by_cases hlt:ka<kb
 ·have hlti:(ka:Int)<(kb:Int):=by omega
  go_wp2_with fail
  refine bodyPost_ret (v:=.agg #[.int .i64 N,.slice A2 b.length c2]) (by simp [results,Tryz.results183,go_sem,r0,r1]) rfl ?_
  exact ⟨rfl,(HBW.o.setCell (p:=⟨w.heap.size+2,0,none⟩) (Nat.le_add_right _ _) _).setCell (p:=⟨w.heap.size+2,1,none⟩) (Nat.le_add_right _ _) _⟩
 ·have hlti : ¬ (ka:Int)<(kb:Int):=by omega
  go_wp2_with fail
  refine bodyPost_ret (v:=.agg #[.int .i64 N,.slice A1 a.length c1]) (by simp [results,Tryz.results183,go_sem,r0,r1]) rfl ?_
  exact ⟨rfl,(HBW.o.setCell (p:=⟨w.heap.size+2,0,none⟩) (Nat.le_add_right _ _) _).setCell (p:=⟨w.heap.size+2,1,none⟩) (Nat.le_add_right _ _) _⟩
theorem zod (N:Nat)(A:Option Addr)(cap:Nat)(bs:List Int)(w:World)(hA:Ints w w.heap.size A bs)(hok:RhOk N bs) :
  Calls Tryz.prog 184 #[.agg #[.int .i64 N,.slice A bs.length cap]] w (zbr w N (lstW N bs)):=by
 have hn1:1<=N:=by have:=hok.1;omega
 have hn2:N<=24:=by have:=hok.2.1;omega
 have HLK:=Zh (fun m=>zhu hok m)
 have HRK:=Zh (fun (k:Nat)=>(zah hok (k:Int)).1)
 have HRT:=Zh (fun (k:Nat) (hk:k<=1000) V h=>zdf N A cap bs k V h hok hk)
 have hal1:=(Below.refl w.heap.size w).alloc (Nat.le_refl _) (.cells #[.int .i64 N,.slice A (bs).length cap] 27)
 have HBW:=Zh (hal1.alloc hal1.size (.cells #[.int .i64 0,.slice none 0 0] 27))
 have HVA:=Zh ((Hav.boxed hA N cap).alloc (.cells #[.int .i64 0,.slice none 0 0] 27))
 have HLA:=Zh (Cells2.new_at (w.alloc (.cells #[.int .i64 N,.slice A (bs).length cap] 27)) (.int .i64 0) (.slice none 0 0) 27 (w.heap.size+1) (by simp))
 have HA:=Zh hA
 have HR0:=Zh (HRT.o 0 (by omega))
 rw [show rotL N bs ((0:Nat):Int)=lstR N bs 0 from rfl,show ((0:Nat):Int)=0 from rfl] at HR0
 clear hal1 hA
 obtain ⟨⟨p0,p1,_,_,_⟩,_⟩:=HVA.o
 go_enter Tryz.func184,Tryz.ntmps184
 go_wp2_with fail
 generalize (w.alloc (.cells #[.int .i64 N,.slice A (bs).length cap] 27)).alloc (.cells #[.int .i64 0,.slice none 0 0] 27)=W at *
 refine (HR0.o _ HVA.o.2).mono ?_
 rintro e w1 ⟨A0,c0,rfl,hrw,hb⟩
 have hqw:=HLA.o.2.2.2.2
 have hz1:=hb.size
 obtain ⟨b0,hl0,hb0⟩:=hrw.rvL w.heap.size (by omega) (by omega) N c0
 have HVX:=Zh hl0
 clear hrw hl0
 have HVX0:=HVX
 clear HVX
 have HBW:=Zh (HBW.o.trans (hb.mono HBW.o.size))
 try have HVA:=Zh (HVA.o.lift hb)
 try have HVT:=Zh (HVT.o.lift hb)
 try have HVX:=Zh (HVX.o.lift hb)
 try have HLA:=Zh (HLA.o.lift hb)
 try have HLW:=Zh (HLW.o.lift hb)
 clear hb
 have HVX:=HVX0
 clear HVX0
 clear p0 p1
 obtain ⟨⟨p0,p1,_,_,_⟩,_⟩:=HVA.o
 have hbg:b0<w1.heap.size:=HVX.o.2.2.1
 go_wp2_with fail
 have hal2:=(Below.refl w1.heap.size w1).alloc (Nat.le_refl _) (.cells #[.int .i64 N,.slice A0 (lstR N bs 0).length c0] 27)
 have hb:=hal2
 have HBW:=Zh (HBW.o.trans (hb.mono HBW.o.size))
 try have HVA:=Zh (HVA.o.lift hb)
 try have HVT:=Zh (HVT.o.lift hb)
 try have HVX:=Zh (HVX.o.lift hb)
 try have HLA:=Zh (HLA.o.lift hb)
 try have HLW:=Zh (HLW.o.lift hb)
 clear hb
 have HLW:=Zh (Cells2.new w1 (.int .i64 N) (.slice A0 (lstR N bs 0).length c0) 27)
 clear hal2
 clear p0 p1
 generalize w1.alloc (.cells #[.int .i64 N,.slice A0 (lstR N bs 0).length c0] 27)=W2 at *
 have hgq0:w.heap.size+1<w1.heap.size:=by omega
 generalize w1.heap.size=g at *
 go_loopw [9] (fun i wr=>∃ (j:Nat) (AX:Option Addr) (cX bX:Nat),j<=N/\i = .int .i64 j/\(RV.mk N (lstR N bs j) AX cX bX).Lies wr w.heap.size/\bX≠g/\bX≠w.heap.size+1/\Cells2 wr g (.int .i64 N) (.slice AX (lstR N bs j).length cX)/\Cells2 wr w.heap.size (.int .i64 N) (.slice A bs.length cap)/\Cells2 wr (w.heap.size+1) (.int .i64 0) (.slice none 0 0)/\Below w.heap.size w wr) (fun i _=>N-(intOf i).toNat)
 case atStart=>exact ⟨0,A0,c0,b0,Nat.zero_le _,rfl,HVX.o,by omega,by omega,HLW.o,HVA.o.1,HLA.o,HBW.o⟩
 case round =>
  obtain ⟨j,AX,cX,bX,hj,rfl,hx,hg1,hg2,hbest,hrc,hzc,hbel⟩:=hrel
  obtain ⟨wo,rfl⟩ : ∃ wo:World,wo=wr:=⟨_,rfl⟩
  clear HVX HLW HVA HLA HBW
  have HBW:=Zh hbel
  have HVX:=Zh hx
  have HLW:=Zh hbest
  have HLA:=Zh hzc
  have HVA:=Zh (show Hav wo N w.heap.size A cap bs from ⟨hrc,(HA.o.below hbel).mono hbel.size⟩)
  have hwo:g<wo.heap.size:=hbest.2.2.2.2
  have HXO:=Zh (HLK.o j)
  clear hx hbest hzc hrc hbel
  obtain ⟨⟨p0,p1,_,_,_⟩,_⟩:=HVA.o
  by_cases hlt:j<N
  ·have HYO:=Zh (HRK.o j)
   have HRJ:=Zh (HRT.o j (by omega))
   have HSU:=Zh (show lstR N bs (j+1)=zam N (lstR N bs j) (rotL N bs (j:Nat)) from rfl)
   obtain ⟨Z1,hZ1⟩ : ∃ Z1,lstR N bs (j+1)=Z1:=⟨_,rfl⟩
   have HZ1:=Zh hZ1
   rw [hZ1] at HSU
   clear hZ1
   generalize lstR N bs j=X at *
   generalize rotL N bs ((j:Nat):Int)=Y at *
   obtain ⟨s0,s1,_,_,_⟩:=HLW.o
   have hji:(j:Int)<(N:Int):=by omega
   go_wp2_with fail
   have HBW:=Zh (Below.drewH_ HBW.o)
   try have HRB:=Zh (Below.drewH_ HRB.o)
   try have HWW:=Zh (Below.drewH_ HWW.o)
   try have HVA:=Zh HVA.o.drew
   try have HVB:=Zh HVB.o.drew
   try have HVC:=Zh HVC.o.drew
   try have HVT:=Zh HVT.o.drew
   try have HVX:=Zh HVX.o.drew
   try have HVM:=Zh HVM.o.drew
   try have HVF:=Zh HVF.o.drew
   try have HVP:=Zh HVP.o.drew
   try have HVQ:=Zh HVQ.o.drew
   try have HLA:=Zh HLA.o.drewR_
   try have HLW:=Zh HLW.o.drewR_
   (refine wp_region_held_drew (S:=(fun w'=>w'.cell? ⟨w.heap.size,0,none⟩=some (.int .i64 N)/\w'.cell? ⟨w.heap.size,1,none⟩=some (.slice A bs.length cap))) (by kernel_rfl) ?_ (fun hHeld=>?_);(focus ((try dsimp only);exact ⟨p0,p1⟩)))
   ((refine Zk 1 ?_;(try simp only [Act.put,Zz]));(refine Zk 2 ?_;(try simp only [Act.put,Zz])))
   refine wpAnyH_ready (rs:=[0,3]) (by kernel_rfl) (by simp) ?_
   refine AllReadyH.cons rfl (fun K hK=>?_) (AllReadyH.cons rfl (fun K hK=>?_) AllReadyH.nil)
   ·clear s0 s1
    obtain ⟨s0,s1,_,_,_⟩:=HLW.o
    go_simp
    (refine hK.out _ _ ?_ fun hHeld2=>?_;(focus ((try dsimp only);exact ⟨p0,p1⟩));(clear hK K);(try simp only [Act.put,Zz]))
    (refine wpAnyH_ready (rs:=[3]) (by kernel_rfl) (by simp) ?_;refine AllReadyH.cons rfl (fun K hK=>?_) AllReadyH.nil;go_simp)
    go_at_call 99
    refine (HRJ.o _ HVA.o.2).mono ?_
    rintro e w5 ⟨A5,c5,rfl,hrw,hb⟩
    have hz5:=hb.size
    obtain ⟨b5,hl5,hb5⟩:=hrw.rvL w.heap.size (by have:=HLA.o.2.2.2.2;omega) (by have:=HLA.o.2.2.2.2;omega) N c5
    have hq5:w.heap.size+1<wo.heap.size:=HLA.o.2.2.2.2
    have HBW:=Zh (HBW.o.trans (hb.mono HBW.o.size))
    try have HVA:=Zh (HVA.o.lift hb)
    try have HVT:=Zh (HVT.o.lift hb)
    try have HVX:=Zh (HVX.o.lift hb)
    try have HLA:=Zh (HLA.o.lift hb)
    try have HLW:=Zh (HLW.o.lift hb)
    clear hb
    have HVT:=Zh hl5
    clear hrw hl5
    have hb5':b5=w.heap.size\/wo.heap.size<=b5:=hb5
    clear hb5
    have hgq:w.heap.size+1<g:=hgq0
    have hzz : ∃ (AZ:Option Addr) (cZ bZ:Nat),(RV.mk N (zam N X Y) AZ cZ bZ).Lies w5 w.heap.size/\bZ≠g/\bZ≠w.heap.size+1/\Calls Tryz.prog 183 #[.agg #[.int .i64 N,.slice AX X.length cX],.agg #[.int .i64 N,.slice A5 Y.length c5]] w5 fun e w'=>e = .returned (.agg #[.int .i64 N,.slice AZ (zam N X Y).length cZ])/\Below w5.heap.size w5 w':=by
     have hcall:=zd9 N AX A5 cX c5 X Y w5 (HVX.o.intsL HXO.o) (HVT.o.intsL HYO.o) HXO.o HYO.o
     by_cases hl:codI N X<codI N Y
     ·unfold zam
      rw [if_pos hl] at hcall ⊢
      exact ⟨A5,c5,b5,HVT.o,by omega,by omega,hcall⟩
     ·unfold zam
      rw [if_neg hl] at hcall ⊢
      exact ⟨AX,cX,bX,HVX.o,hg1,hg2,hcall⟩
    obtain ⟨AZ,cZ,bZ,hzl,hzg,hzq,hcall⟩:=hzz
    have HCZ:=Zh hcall
    clear HVX HVT hcall
    have HVX:=Zh hzl
    clear hzl
    generalize zam N X Y=Z at *
    clear p0 p1 s0 s1
    obtain ⟨⟨p0,p1,_,_,_⟩,_⟩:=HVA.o
    obtain ⟨s0,s1,sf0,sf1,_⟩:=HLW.o
    go_wp2_with fail
    (refine hK.out _ _ ?_ fun hHeld2=>?_;(focus ((try dsimp only);exact ⟨p0,p1⟩));(clear hK K);(try simp only [Act.put,Zz]))
    (refine wpAnyH_ready (rs:=[4]) (by kernel_rfl) (by simp) ?_;refine AllReadyH.cons rfl (fun K hK=>?_) AllReadyH.nil;go_simp)
    go_at_call 183
    refine HCZ.o.mono ?_
    rintro e w6 ⟨rfl,hb⟩
    have HBW:=Zh (HBW.o.trans (hb.mono HBW.o.size))
    try have HVA:=Zh (HVA.o.lift hb)
    try have HVT:=Zh (HVT.o.lift hb)
    try have HVX:=Zh (HVX.o.lift hb)
    try have HLA:=Zh (HLA.o.lift hb)
    try have HLW:=Zh (HLW.o.lift hb)
    clear hb
    clear p0 p1 s0 s1 sf0 sf1
    obtain ⟨⟨p0,p1,_,_,_⟩,_⟩:=HVA.o
    obtain ⟨s0,s1,sf0,sf1,_⟩:=HLW.o
    go_wp2_with fail
    (refine hK.out _ _ ?_ fun hHeld2=>?_;(focus ((try dsimp only);exact ⟨p0,p1⟩));(clear hK K);(try simp only [Act.put,Zz]))
    (refine wpAnyH_ready (rs:=[5]) (by kernel_rfl) (by simp) ?_;refine AllReadyH.cons rfl (fun K hK=>?_) AllReadyH.nil;go_simp)
    have HLW2:=Zh ((HLW.o.set0 (.int .i64 N)).set1 (.slice AZ Z.length cZ))
    have HRC2:=Zh ((HVA.o.1.far (p:=⟨g,0,none⟩) (show w.heap.size≠g by omega) (.int .i64 N)).far (p:=⟨g,1,none⟩) (show w.heap.size≠g by omega) (.slice AZ Z.length cZ))
    have HLA2:=Zh ((HLA.o.far (p:=⟨g,0,none⟩) (show w.heap.size+1≠g by omega) (.int .i64 N)).far (p:=⟨g,1,none⟩) (show w.heap.size+1≠g by omega) (.slice AZ Z.length cZ))
    have HVX2:=Zh ((HVX.o.far (p:=⟨g,0,none⟩) hzg (.int .i64 N)).far (p:=⟨g,1,none⟩) hzg (.slice AZ Z.length cZ))
    have HBW2:=Zh ((HBW.o.setCell (p:=⟨g,0,none⟩) (show w.heap.size<=g by omega) (.int .i64 N)).setCell (p:=⟨g,1,none⟩) (show w.heap.size<=g by omega) (.slice AZ Z.length cZ))
    clear p0 p1 s0 s1 sf0 sf1
    obtain ⟨p0,p1,_,_,_⟩:=HRC2.o
    obtain ⟨s0,s1,_,_,_⟩:=HLW2.o
    (refine hK.out _ _ ?_ fun hHeld2=>?_;(focus ((try dsimp only);exact ⟨p0,p1⟩));(clear hK K);(try simp only [Act.put,Zz]))
    refine wpAnyH_done (by kernel_rfl) ?_ _
    go_wp2_with fail
    go_roundw
    case rel=>exact ⟨j+1,AZ,cZ,bZ,by omega,by go_num,by rw [show lstR N bs (j+1)=Z1 from HZ1.o,HSU.o];exact HVX2.o,hzg,hzq,by rw [show lstR N bs (j+1)=Z1 from HZ1.o,HSU.o];exact HLW2.o,HRC2.o,HLA2.o,HBW2.o⟩
    case measure=>simp [intOf];omega
   ·go_simp
    go_at_call 99
    refine (HRJ.o _ HVA.o.2).mono ?_
    rintro e w5 ⟨A5,c5,rfl,hrw,hb⟩
    have hz5:=hb.size
    obtain ⟨b5,hl5,hb5⟩:=hrw.rvL w.heap.size (by have:=HLA.o.2.2.2.2;omega) (by have:=HLA.o.2.2.2.2;omega) N c5
    have hq5:w.heap.size+1<wo.heap.size:=HLA.o.2.2.2.2
    have HBW:=Zh (HBW.o.trans (hb.mono HBW.o.size))
    try have HVA:=Zh (HVA.o.lift hb)
    try have HVT:=Zh (HVT.o.lift hb)
    try have HVX:=Zh (HVX.o.lift hb)
    try have HLA:=Zh (HLA.o.lift hb)
    try have HLW:=Zh (HLW.o.lift hb)
    clear hb
    have HVT:=Zh hl5
    clear hrw hl5
    have hb5':b5=w.heap.size\/wo.heap.size<=b5:=hb5
    clear hb5
    have hgq:w.heap.size+1<g:=hgq0
    have hzz : ∃ (AZ:Option Addr) (cZ bZ:Nat),(RV.mk N (zam N X Y) AZ cZ bZ).Lies w5 w.heap.size/\bZ≠g/\bZ≠w.heap.size+1/\Calls Tryz.prog 183 #[.agg #[.int .i64 N,.slice AX X.length cX],.agg #[.int .i64 N,.slice A5 Y.length c5]] w5 fun e w'=>e = .returned (.agg #[.int .i64 N,.slice AZ (zam N X Y).length cZ])/\Below w5.heap.size w5 w':=by
     have hcall:=zd9 N AX A5 cX c5 X Y w5 (HVX.o.intsL HXO.o) (HVT.o.intsL HYO.o) HXO.o HYO.o
     by_cases hl:codI N X<codI N Y
     ·unfold zam
      rw [if_pos hl] at hcall ⊢
      exact ⟨A5,c5,b5,HVT.o,by omega,by omega,hcall⟩
     ·unfold zam
      rw [if_neg hl] at hcall ⊢
      exact ⟨AX,cX,bX,HVX.o,hg1,hg2,hcall⟩
    obtain ⟨AZ,cZ,bZ,hzl,hzg,hzq,hcall⟩:=hzz
    have HCZ:=Zh hcall
    clear HVX HVT hcall
    have HVX:=Zh hzl
    clear hzl
    generalize zam N X Y=Z at *
    clear p0 p1 s0 s1
    obtain ⟨⟨p0,p1,_,_,_⟩,_⟩:=HVA.o
    obtain ⟨s0,s1,sf0,sf1,_⟩:=HLW.o
    go_wp2_with fail
    (refine hK.out _ _ ?_ fun hHeld2=>?_;(focus ((try dsimp only);exact ⟨p0,p1⟩));(clear hK K);(try simp only [Act.put,Zz]))
    (refine wpAnyH_ready (rs:=[0]) (by kernel_rfl) (by simp) ?_;refine AllReadyH.cons rfl (fun K hK=>?_) AllReadyH.nil;go_simp)
    (refine hK.out _ _ ?_ fun hHeld2=>?_;(focus ((try dsimp only);exact ⟨p0,p1⟩));(clear hK K);(try simp only [Act.put,Zz]))
    (refine wpAnyH_ready (rs:=[4]) (by kernel_rfl) (by simp) ?_;refine AllReadyH.cons rfl (fun K hK=>?_) AllReadyH.nil;go_simp)
    go_at_call 183
    refine HCZ.o.mono ?_
    rintro e w6 ⟨rfl,hb⟩
    have HBW:=Zh (HBW.o.trans (hb.mono HBW.o.size))
    try have HVA:=Zh (HVA.o.lift hb)
    try have HVT:=Zh (HVT.o.lift hb)
    try have HVX:=Zh (HVX.o.lift hb)
    try have HLA:=Zh (HLA.o.lift hb)
    try have HLW:=Zh (HLW.o.lift hb)
    clear hb
    clear p0 p1 s0 s1 sf0 sf1
    obtain ⟨⟨p0,p1,_,_,_⟩,_⟩:=HVA.o
    obtain ⟨s0,s1,sf0,sf1,_⟩:=HLW.o
    go_wp2_with fail
    (refine hK.out _ _ ?_ fun hHeld2=>?_;(focus ((try dsimp only);exact ⟨p0,p1⟩));(clear hK K);(try simp only [Act.put,Zz]))
    (refine wpAnyH_ready (rs:=[5]) (by kernel_rfl) (by simp) ?_;refine AllReadyH.cons rfl (fun K hK=>?_) AllReadyH.nil;go_simp)
    have HLW2:=Zh ((HLW.o.set0 (.int .i64 N)).set1 (.slice AZ Z.length cZ))
    have HRC2:=Zh ((HVA.o.1.far (p:=⟨g,0,none⟩) (show w.heap.size≠g by omega) (.int .i64 N)).far (p:=⟨g,1,none⟩) (show w.heap.size≠g by omega) (.slice AZ Z.length cZ))
    have HLA2:=Zh ((HLA.o.far (p:=⟨g,0,none⟩) (show w.heap.size+1≠g by omega) (.int .i64 N)).far (p:=⟨g,1,none⟩) (show w.heap.size+1≠g by omega) (.slice AZ Z.length cZ))
    have HVX2:=Zh ((HVX.o.far (p:=⟨g,0,none⟩) hzg (.int .i64 N)).far (p:=⟨g,1,none⟩) hzg (.slice AZ Z.length cZ))
    have HBW2:=Zh ((HBW.o.setCell (p:=⟨g,0,none⟩) (show w.heap.size<=g by omega) (.int .i64 N)).setCell (p:=⟨g,1,none⟩) (show w.heap.size<=g by omega) (.slice AZ Z.length cZ))
    clear p0 p1 s0 s1 sf0 sf1
    obtain ⟨p0,p1,_,_,_⟩:=HRC2.o
    obtain ⟨s0,s1,_,_,_⟩:=HLW2.o
    (refine hK.out _ _ ?_ fun hHeld2=>?_;(focus ((try dsimp only);exact ⟨p0,p1⟩));(clear hK K);(try simp only [Act.put,Zz]))
    refine wpAnyH_done (by kernel_rfl) ?_ _
    go_wp2_with fail
    go_roundw
    case rel=>exact ⟨j+1,AZ,cZ,bZ,by omega,by go_num,by rw [show lstR N bs (j+1)=Z1 from HZ1.o,HSU.o];exact HVX2.o,hzg,hzq,by rw [show lstR N bs (j+1)=Z1 from HZ1.o,HSU.o];exact HLW2.o,HRC2.o,HLA2.o,HBW2.o⟩
    case measure=>simp [intOf];omega
  ·have hjN:j=N:=by omega
   subst hjN
   have HV:=Zh (show lstW j bs=lstR j bs j from rfl)
   generalize lstR j bs j=X at *
   obtain ⟨s0,s1,_,_,_⟩:=HLW.o
   obtain ⟨r0,r1,rf0,rf1,_⟩:=HLA.o
   go_wp2_with fail
   refine bodyPost_ret (v:=.agg #[.int .i64 j,.slice AX X.length cX]) (by simp [results,Tryz.results184,go_sem,r0,r1]) rfl ?_
   rw [HV.o]
   exact ⟨AX,cX,rfl,((HVX.o.far (p:=⟨w.heap.size+1,0,none⟩) hg2 _).far (p:=⟨w.heap.size+1,1,none⟩) hg2 _).rwL,(HBW.o.setCell (p:=⟨w.heap.size+1,0,none⟩) (Nat.le_add_right _ _) _).setCell (p:=⟨w.heap.size+1,1,none⟩) (Nat.le_add_right _ _) _⟩
end Go.Proofs.YtjpnjchpdkogbaaGreatDoor
