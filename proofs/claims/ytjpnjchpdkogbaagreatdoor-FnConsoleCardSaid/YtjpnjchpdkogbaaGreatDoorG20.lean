/- Parts of the proof of the card of the law FnConsole. -/
import Derived.Test.YtjpnjchpdkogbaaGreatDoorLst
import Derived.Test.YtjpnjchpdkogbaaGreatDoorG19
import Derived.Test.YtjpnjchpdkogbaaGreatDoorG13
import Derived.Test.YtjpnjchpdkogbaaGreatDoorG08
import Derived.Test.YtjpnjchpdkogbaaGreatDoorG06
import Derived.Test.YtjpnjchpdkogbaaGreatDoorJoin
import Derived.Test.YtjpnjchpdkogbaaGreatDoorG02
import Derived.Test.YtjpnjchpdkogbaaGreatDoorG04
import Derived.Lib.Repeat
import Derived.Test.YtjpnjchpdkogbaaGreatDoorChecked
import Derived.Shelf.Strings.Repeat
set_option linter.unusedVariables false
set_option linter.unusedSimpArgs false
set_option maxRecDepth 100000
set_option maxHeartbeats 4000000
namespace Go.Proofs.YtjpnjchpdkogbaaGreatDoor
open Go.RowKit
def OwnQ (w:World)(base:Nat)(v:Value)(rs:List RV):Prop :=
 w.ownsRow base 27 2 v rs.length (zcv rs)/\(∀ r∈rs,r.Lies w base) /\ ∀ g,v.ownBlock=some g -> ∀ r∈rs,g≠r.b
section
variable {w w':World} {base:Nat} {v:Value} {rs:List RV}
theorem OwnQ.nil (w:World)(base:Nat):OwnQ w base (.slice none 0 0) []:=⟨World.ownsRow_nil _ _ _ _,by simp,by simp⟩
theorem OwnQ.form (h:OwnQ w base v rs) : ∃ A cap,v = .slice A rs.length cap:=by
 rcases h.1.2 with ⟨rfl,h0⟩ | ⟨g,cap,cur,rfl,_⟩
 ·exact ⟨none,0,by rw [h0]⟩
 ·exact ⟨some ⟨g,0,none⟩,cap,rfl⟩
theorem OwnQ.lift (h:OwnQ w base v rs)(hb:Below w.heap.size w w'):OwnQ w' base v rs:=by
 refine ⟨⟨h.1.1,?_⟩,fun r hr=>(h.2.1 r hr).lift hb,h.2.2⟩
 rcases h.1.2 with h0 | ⟨g,cap,cur,e,hg,hh,rest⟩
 ·exact .inl h0
 ·have hlt:g<w.heap.size:=(Array.getElem?_eq_some_iff.1 hh).1
  exact .inr ⟨g,cap,cur,e,hg,by rw [hb.block g hlt];exact hh,rest⟩
theorem OwnQ.drew (h:OwnQ w base v rs):OwnQ w.drew base v rs:=h
theorem OwnQ.lt (h:OwnQ w base v rs) : ∀ g,v.ownBlock=some g->base<=g/\g<w.heap.size:=h.1.lt
theorem OwnQ.rd {A:Option Addr}{cap:Nat}(h:OwnQ w base (.slice A rs.length cap) rs)(hl:rs.length<=1048576)(hf : ∀ r∈rs,∀ x∈r.xs,Fits x):RdR w w.heap.size A rs:=by
 refine ⟨hl,fun r hr=>(h.2.1 r hr).ints (hf r hr),fun hn=>?_⟩
 rcases h.1.2 with ⟨hv,h0⟩ | ⟨g,cap',cur,hv,hge,hh,hnc,hm,hsz,hxs⟩
 ·omega
 ·have hA:A=some ⟨g,0,none⟩:=by injection hv
  subst hA
  refine ⟨g,rfl,(h.1.lt g rfl).2,fun i hi=>?_⟩
  have h0:=World.ownsRow.cells h.1 (g:=g) rfl (i*2) _ (ziq rs i hi).1
  have h1:=World.ownsRow.cells h.1 (g:=g) rfl (i*2+1) _ (ziq rs i hi).2
  rw [Go.WideShapes.add_plain,Nat.zero_add] at h0 h1
  exact ⟨h0,h1⟩
end
theorem zy5 {w:World}{ops:Array Oper}{o:Oper}{a:Act}{K:Act->World->Prop}{Q:Exit->Act->World->Prop}{E:Prop}(hgd:o.guard=none)(s x:Operand)
  (ho:o.op = .call { callee:=.builtin .append,args:=#[s,x],argTypes:=#[142,142] })
  (base:Nat) (v:Value) (rs:List RV) (hs:a.eval s=v) (hown:OwnQ w base v rs) (g:Nat) (r1 r2:RV) (hx:a.eval x = .slice (some ⟨g,0,none⟩) 2 2)
  (hc:w.cell? ⟨g,0,none⟩=some (.int .i64 r1.n)/\w.cell? ⟨g,1,none⟩=some r1.slc/\w.cell? ⟨g,2,none⟩=some (.int .i64 r2.n)/\w.cell? ⟨g,3,none⟩=some r2.slc)
  (hr1:r1.Lies w base) (hr2:r2.Lies w base) (hne1 : ∀ g,v.ownBlock=some g->g≠r1.b) (hne2 : ∀ g,v.ownBlock=some g->g≠r2.b)
  (hlen:rs.length<=1048576) (hbase:base<=w.heap.size)
  (h : ∀ v' w',OwnQ w' base v' (rs++[r1,r2])->Below base w w'->K (a.put o.dst v') w'):if Region.wanted o (yielded ops a.tmps)=true then Oper.wp Tryz.prog o a w K Q else E:=by
 obtain ⟨i,hi,hz,hsz,hby⟩:=info_parts Tryz.infoRhythm
 refine step_append_lies w hgd s x _ ho base 27 i _ 2 32 Tryz.underlying142 hi hz hsz hby rfl (by omega) v rs.length _ hs hown.1 ⟨g,0,none⟩ 2 2 (r1.cells++r2.cells) hx rfl ?_ ?_ (by omega) (by unfold maxLen;omega) (by omega) hbase _ rfl ?_
 ·intro j u hj
  match j,hj with
  | 0,hj=>simp [RV.cells] at hj;subst hj;exact hc.1
  | 1,hj=>simp [RV.cells] at hj;subst hj;exact hc.2.1
  | 2,hj=>simp [RV.cells] at hj;subst hj;exact hc.2.2.1
  | 3,hj=>simp [RV.cells] at hj;subst hj;exact hc.2.2.2
 ·intro u hu
  simp [RV.cells] at hu
  rcases hu with rfl | rfl | rfl | rfl <;> rfl
 ·intro g' cap w' hown' hgrow hat hlt'
  have hsame : ∀ r'∈rs++[r1,r2],r'.Lies w' base/\g'≠r'.b:=by
   intro r' hr'
   have hl:r'.Lies w base /\ ∀ g,v.ownBlock=some g->g≠r'.b:=by
    rcases List.mem_append.1 hr' with h1 | h1
    ·exact ⟨hown.2.1 r' h1,fun g hg=>hown.2.2 g hg r' h1⟩
    ·rw [List.mem_cons,List.mem_singleton] at h1
     rcases h1 with rfl | rfl
     ·exact ⟨hr1,hne1⟩
     ·exact ⟨hr2,hne2⟩
   have hblk:w'.heap[r'.b]? = w.heap[r'.b]?:=hgrow.block _ hl.1.2.2.1 (fun e=>hl.2 _ e.symm rfl)
   refine ⟨⟨hl.1.1,hl.1.2.1,Nat.lt_of_lt_of_le hl.1.2.2.1 hgrow.size,fun hn=>⟨(hl.1.2.2.2 hn).1,?_⟩⟩,?_⟩
   ·have ht:=(hl.1.2.2.2 hn).2
    exact ⟨Nat.lt_of_lt_of_le ht.1 hgrow.size,fun t h=>⟨(World.cell?_of_block (a:=⟨r'.b,t,none⟩) hblk).trans (ht.2 t h).1,(World.frozen?_of_block (a:=⟨r'.b,t,none⟩) hblk).trans (ht.2 t h).2⟩⟩
   ·rcases hat with h1 | h1
    ·exact hl.2 g' h1
    ·have:=hl.1.2.2.1;omega
  refine h _ w' ⟨?_,fun r' hr'=>(hsame r' hr').1,?_⟩ ((Below.refl base w).grown hgrow hbase (fun k hk=>(hown.1.lt k hk).1))
  ·rw [znc,List.length_append];exact hown'
  ·intro g2 hg2 r' hr'
   have:g'=g2:=by simpa [Value.ownBlock] using hg2
   subst this
   exact (hsame r' hr').2
def frmK (N:Nat)(L:List (List Int)):List (Int × List Int):=L.map fun x=>((N:Int),x)
theorem zy6 (N:Nat)(A:Option Addr)(cap:Nat)(bs:List Int)(w:World)(hA:Ints w w.heap.size A bs)(hok:RhOk N bs) :
  Calls Tryz.prog 185 #[.agg #[.int .i64 N,.slice A bs.length cap]] w fun e w'=>∃ A' c rs,e = .returned (.slice A' rs.length c)/\keyR rs=frmK N (zbt N bs N)/\RdR w' w'.heap.size A' rs/\Below w.heap.size w w':=by
 have hn1:1<=N:=by have:=hok.1;omega
 have hn2:N<=24:=by have:=hok.2.1;omega
 have hfN:Fits (N:Int):=by unfold Fits;omega
 have hmo:RhOk N (mirV N bs):=zbl hn1 hn2
 have hr:rhB N bs=true:=zao.2 hok
 have HRO:=Zh (fun V h=>hr ▸ zav N A cap bs V hfN h)
 have HRT:=Zh (fun (k:Nat) (hk:k<=1000) V h=>zdf N A cap bs k V h hok hk)
 have HMR:=Zh (fun V h=>zfi N A cap bs V h hok)
 have HMT:=Zh (fun (k:Nat) (hk:k<=1000) B c V h=>zdf N B c (mirV N bs) k V h hmo hk)
 have HFS:=Zh (fun m=>show zbt N bs (m+1)=zbt N bs m++[rotL N bs (m:Nat),rotL N (mirV N bs) (m:Nat)] from rfl)
 have HFL:=Zh (fun m=>zhz N bs m)
 have HFO:=Zh (fun m=>zlk hok m)
 have HRK:=Zh (fun (k:Nat)=>(zah hok (k:Int)).1)
 have HMK:=Zh (fun (k:Nat)=>(zah hmo (k:Int)).1)
 have HMO:=Zh hmo
 have HA:=Zh hA
 have HBW:=Zh ((Below.refl (w.heap.size+1) (w.alloc (.cells #[.int .i64 N,.slice A (bs).length cap] 27))))
 have HB0:=Zh ((Below.refl w.heap.size w).alloc (Nat.le_refl _) (.cells #[.int .i64 N,.slice A (bs).length cap] 27))
 have HVA:=Zh (Hav.boxed hA N cap)
 clear hA hok hmo hr
 obtain ⟨⟨p0,p1,_,_,_⟩,_⟩:=HVA.o
 go_enter Tryz.func185,Tryz.ntmps185
 go_wp2_with fail
 generalize w.alloc (.cells #[.int .i64 N,.slice A (bs).length cap] 27)=W at *
 have HV0:=HVA
 refine (HRO.o _ HVA.o.2).mono ?_
 rintro e w1 ⟨rfl,hb⟩
 have hqw:w.heap.size+1<=W.heap.size:=HVA.o.1.2.2.2.2
 have HBW:=Zh (HBW.o.trans (hb.mono hqw))
 have HVA:=Zh (HVA.o.lift hb)
 clear hb p0 p1
 obtain ⟨⟨p0,p1,_,_,_⟩,_⟩:=HVA.o
 go_wp2_with fail
 clear p0 p1
 go_loopw [3,10] (fun so i wr=>∃ (j:Nat) (rs:List RV),j<=N/\i = .int .i64 j/\OwnQ wr (w.heap.size+1) so rs/\keyR rs=frmK N (zbt N bs j)/\Below (w.heap.size+1) W wr) (fun _ i _=>N-(intOf i).toNat)
 case atStart=>exact ⟨0,[],Nat.zero_le _,rfl,OwnQ.nil _ _,rfl,HBW.o⟩
 case round =>
  obtain ⟨j,rs,hj,rfl,hown,hkey,hbel⟩:=hrel
  obtain ⟨wo,rfl⟩ : ∃ wo:World,wo=wr:=⟨_,rfl⟩
  obtain ⟨So,cso,rfl⟩:=hown.form
  have HKY:=Zh hkey
  have hrl:rs.length=2*j:=by
   have:=congrArg List.length hkey
   rw [zog,frmK,List.length_map,HFL.o] at this
   exact this
  have hrl2:rs.length<=48:=by omega
  clear hrl
  clear HBW HVA
  have HVA:=Zh (show Hav wo N w.heap.size A cap bs from ⟨HV0.out.1.below hbel (Nat.lt_succ_self _),((HA.o.below HB0.o).below (hbel.mono (Nat.le_succ _))).mono (by have:=hbel.size;omega)⟩)
  have HBW:=Zh hbel
  have HLA:=Zh hown
  have hlto:=Zh (fun g hg=>(hown.lt g hg).2)
  have hwz:W.heap.size<=wo.heap.size:=hbel.size
  clear hown hkey hbel
  obtain ⟨⟨p0,p1,_,_,_⟩,_⟩:=HVA.o
  by_cases hlt:j<N
  ·have hji:(j:Int)<(N:Int):=by omega
   have HSU:=Zh (HFS.o j)
   have HRJ:=Zh (HRT.o j (by omega))
   have HMJ:=Zh (HMT.o j (by omega))
   have HYO:=Zh (HRK.o j)
   have HZO:=Zh (HMK.o j)
   generalize rotL N bs ((j:Nat):Int)=Y at *
   generalize rotL N (mirV N bs) ((j:Nat):Int)=Z at *
   generalize mirV N bs=M at *
   go_wp2_with fail
   have HBO:=HBW
   clear HBW
   have HBW:=Zh (Below.refl wo.heap.size wo)
   have HBW:=Zh (Below.drewH_ HBW.o)
   try have HRB:=Zh (Below.drewH_ HRB.o)
   try have HWW:=Zh (Below.drewH_ HWW.o)
   try have HVA:=Zh HVA.o.drew
   try have HVB:=Zh HVB.o.drew
   try have HVC:=Zh HVC.o.drew
   try have HVT:=Zh HVT.o.drew
   try have HVX:=Zh HVX.o.drew
   try have HVM:=Zh HVM.o.drew
   try have HVF:=Zh HVF.o.drew
   try have HVP:=Zh HVP.o.drew
   try have HVQ:=Zh HVQ.o.drew
   try have HLA:=Zh HLA.o.drewR_
   try have HLW:=Zh HLW.o.drewR_
   have HLA:=Zh (HLA.o.drew)
   (refine wp_region_held_drew (S:=(fun w'=>w'.cell? ⟨w.heap.size,0,none⟩=some (.int .i64 N)/\w'.cell? ⟨w.heap.size,1,none⟩=some (.slice A bs.length cap))) (by kernel_rfl) ?_ (fun hHeld=>?_);(focus ((try dsimp only);exact ⟨p0,p1⟩)))
   ((refine Zk 0 ?_;(try simp only [Act.put,Zz]));(refine Zk 1 ?_;(try simp only [Act.put,Zz]));(refine Zk 2 ?_;(try simp only [Act.put,Zz]));(refine Zk 4 ?_;(try simp only [Act.put,Zz]));(refine Zk 6 ?_;(try simp only [Act.put,Zz])))
   (refine wpAnyH_ready (rs:=[3]) (by kernel_rfl) (by simp) ?_;refine AllReadyH.cons rfl (fun K hK=>?_) AllReadyH.nil;go_simp)
   go_at_call 99
   refine (HRJ.o _ HVA.o.2).mono ?_
   rintro e w2 ⟨A1,c1,rfl,hrw,hb⟩
   have hzz:wo.heap.size<=wo.drew.heap.size:=Nat.le_refl _
   have hz2:=hb.size
   have HBW:=Zh (HBW.o.trans (hb.mono HBW.o.size))
   try have HVA:=Zh (HVA.o.lift hb)
   try have HVT:=Zh (HVT.o.lift hb)
   try have HVX:=Zh (HVX.o.lift hb)
   try have HVM:=Zh (HVM.o.lift hb)
   try have HLA:=Zh (HLA.o.lift hb)
   clear hb
   have HVX:=Zh (hrw.mono hzz)
   clear hrw p0 p1
   obtain ⟨⟨p0,p1,_,_,_⟩,_⟩:=HVA.o
   go_wp2_with fail
   (refine hK.out _ _ ?_ fun hHeld2=>?_;(focus ((try dsimp only);exact ⟨p0,p1⟩));(clear hK K);(try simp only [Act.put,Zz]))
   (refine wpAnyH_ready (rs:=[5]) (by kernel_rfl) (by simp) ?_;refine AllReadyH.cons rfl (fun K hK=>?_) AllReadyH.nil;go_simp)
   go_at_call 100
   refine (HMR.o _ HVA.o.2).mono ?_
   rintro e w3 ⟨A2,c2,rfl,hrw,hb⟩
   have hz3:=hb.size
   have HBW:=Zh (HBW.o.trans (hb.mono HBW.o.size))
   try have HVA:=Zh (HVA.o.lift hb)
   try have HVT:=Zh (HVT.o.lift hb)
   try have HVX:=Zh (HVX.o.lift hb)
   try have HVM:=Zh (HVM.o.lift hb)
   try have HLA:=Zh (HLA.o.lift hb)
   clear hb
   have HVM:=Zh hrw
   clear hrw p0 p1
   obtain ⟨⟨p0,p1,_,_,_⟩,_⟩:=HVA.o
   go_wp2_with fail
   (refine hK.out _ _ ?_ fun hHeld2=>?_;(focus ((try dsimp only);exact ⟨p0,p1⟩));(clear hK K);(try simp only [Act.put,Zz]))
   (refine wpAnyH_ready (rs:=[7]) (by kernel_rfl) (by simp) ?_;refine AllReadyH.cons rfl (fun K hK=>?_) AllReadyH.nil;go_simp)
   go_at_call 99
   refine (HMJ.o _ _ _ (HVM.o.ints (zew HMO.o))).mono ?_
   rintro e w4 ⟨A3,c3,rfl,hrw,hb⟩
   have hz4:=hb.size
   clear HVM
   have HBW:=Zh (HBW.o.trans (hb.mono HBW.o.size))
   try have HVA:=Zh (HVA.o.lift hb)
   try have HVT:=Zh (HVT.o.lift hb)
   try have HVX:=Zh (HVX.o.lift hb)
   try have HVM:=Zh (HVM.o.lift hb)
   try have HLA:=Zh (HLA.o.lift hb)
   clear hb
   have HVT:=Zh hrw
   clear hrw p0 p1
   obtain ⟨⟨p0,p1,_,_,_⟩,_⟩:=HVA.o
   go_wp2_with fail
   (refine hK.out _ _ ?_ fun hHeld2=>?_;(focus ((try dsimp only);exact ⟨p0,p1⟩));(clear hK K);(try simp only [Act.put,Zz]))
   (refine wpAnyH_ready (rs:=[8]) (by kernel_rfl) (by simp) ?_;refine AllReadyH.cons rfl (fun K hK=>?_) AllReadyH.nil;go_simp)
   have hb:=(Below.refl w4.heap.size w4).alloc (Nat.le_refl _) (.cells #[.int .i64 N,.slice A1 Y.length c1,.int .i64 N,.slice A3 Z.length c3] 27)
   have HBW:=Zh (HBW.o.trans (hb.mono HBW.o.size))
   try have HVA:=Zh (HVA.o.lift hb)
   try have HVT:=Zh (HVT.o.lift hb)
   try have HVX:=Zh (HVX.o.lift hb)
   try have HVM:=Zh (HVM.o.lift hb)
   try have HLA:=Zh (HLA.o.lift hb)
   clear hb
   clear p0 p1
   obtain ⟨⟨p0,p1,_,_,_⟩,_⟩:=HVA.o
   (refine hK.out _ _ ?_ fun hHeld2=>?_;(focus ((try dsimp only);exact ⟨p0,p1⟩));(clear hK K);(try simp only [Act.put,Zz]))
   have hcells : ∀ w5:World,w5=w4.alloc (.cells #[.int .i64 N,.slice A1 Y.length c1,.int .i64 N,.slice A3 Z.length c3] 27)->w5.cell? ⟨w4.heap.size,0,none⟩=some (.int .i64 N)/\w5.cell? ⟨w4.heap.size,1,none⟩=some (.slice A1 Y.length c1)/\w5.cell? ⟨w4.heap.size,2,none⟩=some (.int .i64 N)/\w5.cell? ⟨w4.heap.size,3,none⟩=some (.slice A3 Z.length c3):=by
    rintro _ rfl
    simp
   have hc5:=hcells _ rfl
   have hs5:w4.heap.size<(w4.alloc (.cells #[.int .i64 N,.slice A1 Y.length c1,.int .i64 N,.slice A3 Z.length c3] 27)).heap.size:=by simp
   clear hcells
   generalize w4.alloc (.cells #[.int .i64 N,.slice A1 Y.length c1,.int .i64 N,.slice A3 Z.length c3] 27)=w5 at *
   generalize w4.heap.size=g4 at *
   have hzd:wo.drew.heap.size=wo.heap.size:=rfl
   rw [hzd] at hz2
   clear hzd
   obtain ⟨b1,hl1⟩:=HVX.o.rv (by omega) (N:Int) c1
   obtain ⟨b3,hl3⟩:=HVT.o.rv (by omega) (N:Int) c3
   have hb1:wo.heap.size<=b1:=hl1.2.1
   have hb3:w3.heap.size<=b3:=hl3.2.1
   have hol : ∀ g,(Value.slice So rs.length cso).ownBlock=some g->g<wo.heap.size:=hlto.o
   refine wpAnyH_ready (rs:=[9]) (by kernel_rfl) (by simp) ?_
   refine AllReadyH.cons rfl (fun K hK=>?_) AllReadyH.nil
   refine zy5 (by rfl) _ _ (by rfl) (w.heap.size+1) _ rs (by rfl) HLA.o g4 ⟨N,Y,A1,c1,b1⟩ ⟨N,Z,A3,c3,b3⟩ (by rfl) hc5 (hl1.mono (by omega)) (hl3.mono (by omega)) (fun g hg=>by have:=hol g hg;show g≠b1;omega) (fun g hg=>by have:=hol g hg;show g≠b3;omega) (by omega) (by omega) ?_
   intro v6 w6 hown6 hb6
   obtain ⟨S6,c6,rfl⟩:=hown6.form
   have hk6:keyR (rs++[⟨N,Y,A1,c1,b1⟩,⟨N,Z,A3,c3,b3⟩])=frmK N (zbt N bs (j+1)):=by
    rw [HSU.o,keyR,List.map_append,frmK,List.map_append,<- keyR,<- frmK,HKY.o]
    rfl
   generalize rs++[⟨N,Y,A1,c1,b1⟩,⟨N,Z,A3,c3,b3⟩]=rs6 at *
   have HLA:=Zh hown6
   have HK6:=Zh hk6
   have HB6:=Zh ((HBO.out.trans (HBW.o.mono (by omega))).trans hb6)
   have HRC6:=Zh (HVA.o.1.below hb6 (Nat.lt_succ_self _))
   clear hown6 hb6 hk6 p0 p1
   obtain ⟨p0,p1,_,_,_⟩:=HRC6.o
   (try simp only [Act.put,Zz])
   (refine hK.out _ _ ?_ fun hHeld2=>?_;(focus ((try dsimp only);exact ⟨p0,p1⟩));(clear hK K);(try simp only [Act.put,Zz]))
   (refine Zk 10 ?_;(try simp only [Act.put,Zz]))
   refine wpAnyH_done (by kernel_rfl) ?_ _
   go_wp2_with fail
   go_roundw
   case rel=>exact ⟨j+1,rs6,by omega,by go_num,HLA.o,HK6.o,HB6.o⟩
   case measure=>simp [intOf];omega
  ·have hjN:j=N:=by omega
   subst hjN
   have hfo:=HFO.o j
   have HRD:=Zh (HLA.o.rd (by omega) (zy4 HKY.o (fun p hp x hx=>by
    unfold frmK at hp
    rw [List.mem_map] at hp
    obtain ⟨y,hy,rfl⟩:=hp
    exact zew (hfo y hy) x hx)))
   clear hfo
   go_wp2_with fail
   go_ret
   exact ⟨So,cso,rs,rfl,HKY.o,HRD.o,HB0.o.trans (HBW.o.mono (Nat.le_succ _))⟩
def codS (N:Nat)(rs:List RV)(j:Nat):List Int:=(rs.take j).map fun r=>(codI N r.xs:Int)
theorem zy7 (N:Nat){rs:List RV}{j:Nat}(hj:j<rs.length):codS N rs (j+1)=codS N rs j++[(codI N rs[j].xs:Int)]:=by
 unfold codS
 rw [List.take_succ_eq_append_getElem hj,List.map_append,List.map_singleton]
theorem zy8 (N:Nat)(rs:List RV)(j:Nat):(codS N rs j).length<=j:=by
 unfold codS;rw [List.length_map,List.length_take];omega
theorem zoh {N:Nat}{rs:List RV}{L:List (List Int)}(h:keyR rs=frmK N L):codS N rs rs.length=L.map fun x=>(codI N x:Int):=by
 unfold codS
 rw [List.take_length]
 have:=congrArg (List.map fun p:Int × List Int=>(codI N p.2:Int)) h
 unfold keyR frmK at this
 rw [List.map_map,List.map_map] at this
 exact this
theorem zy9 (N:Nat)(A:Option Addr)(cap:Nat)(bs:List Int)(w:World)(hA:Ints w w.heap.size A bs)(hok:RhOk N bs) :
  Calls Tryz.prog 125 #[.agg #[.int .i64 N,.slice A bs.length cap]] w fun e w'=>e = .returned (.int .i64 (orbV N bs:Nat))/\Below w.heap.size w w':=by
 have hn1:1<=N:=by have:=hok.1;omega
 have hn2:N<=24:=by have:=hok.2.1;omega
 have HFM:=Zh (fun V h=>zy6 N A cap bs V h hok)
 have HOE:=Zh (zsu hok)
 have HOL:=Zh (show orbL N bs=zak ((zbt N bs N).map fun x=>(codI N x:Int)) from rfl)
 have HFO:=Zh (zlk hok N)
 have HFL:=Zh (zhz N bs N)
 have HB0:=Zh ((Below.refl w.heap.size w).alloc (Nat.le_refl _) (.cells #[.int .i64 N,.slice A (bs).length cap] 27))
 have HVA:=Zh (Hav.boxed hA N cap)
 clear hA hok
 obtain ⟨⟨p0,p1,_,_,_⟩,_⟩:=HVA.o
 go_enter Tryz.func125,Tryz.ntmps125
 go_wp2_with fail
 generalize w.alloc (.cells #[.int .i64 N,.slice A (bs).length cap] 27)=W at *
 refine (HFM.o _ HVA.o.2).mono ?_
 rintro e w1 ⟨Af,cf,rs,rfl,hkey,hrd,hb⟩
 have hrl:rs.length<=48:=by
  have:=congrArg List.length hkey
  rw [zog,frmK,List.length_map,HFL.o] at this
  omega
 have HRD:=Zh hrd
 have HKY:=Zh hkey
 have hqw:w.heap.size<W.heap.size:=HVA.o.1.2.2.2.2
 have HB1:=Zh (HB0.o.trans (hb.mono HB0.o.size))
 have hok1 : ∀ (i:Nat) (hi:i<rs.length),rs[i].n=N/\RhOk N rs[i].xs:=by
  intro i hi
  have h1:(rs[i].n,rs[i].xs)∈frmK N (zbt N bs N):=by
   rw [<- hkey]
   exact List.mem_map.2 ⟨rs[i],List.getElem_mem hi,rfl⟩
  unfold frmK at h1
  rw [List.mem_map] at h1
  obtain ⟨y,hy,e⟩:=h1
  injection e with e1 e2
  exact ⟨e1.symm,e2 ▸ HFO.o y hy⟩
 have HO1:=Zh hok1
 clear p0 p1 hb hkey hrd hok1
 have hz1:w.heap.size<=w1.heap.size:=HB1.o.size
 go_wp2_with fail
 go_loopw [3,9] (fun so i wr=>∃ j:Nat,j<=rs.length/\i = .int .i64 j/\OwnI wr w1.heap.size so (codS N rs j)/\Below w1.heap.size w1 wr) (fun _ i _=>rs.length-(intOf i).toNat)
 case atStart=>exact ⟨0,Nat.zero_le _,rfl,OwnI.nil _ _,Below.refl _ _⟩
 case round =>
  obtain ⟨j,hj,rfl,hown,hbel⟩:=hrel
  obtain ⟨wo,rfl⟩ : ∃ wo:World,wo=wr:=⟨_,rfl⟩
  obtain ⟨So,cso,rfl⟩:=hown.form
  have hws:=hbel.size
  have hcl:=zy8 N rs j
  have HO:=Zh hown
  have HBE:=Zh hbel
  clear hown hbel
  by_cases hlt:j<rs.length
  ·have hji:(j:Int)<(rs.length:Int):=by omega
   have HSU:=Zh (zy7 N hlt)
   obtain ⟨hn,hxo⟩:=HO1.o j hlt
   obtain ⟨gf,hAf,hgf,hcf⟩:=HRD.o.2.2 (by omega)
   obtain ⟨k0,k1⟩:=hcf j hlt
   have k0:=(HBE.o.cell (p:=⟨gf,j*2,none⟩) hgf).trans k0
   have k1:=(HBE.o.cell (p:=⟨gf,j*2+1,none⟩) hgf).trans k1
   have hxi:=(HRD.o.2.1 _ (List.getElem_mem hlt)).below HBE.o
   generalize rs[j]=r at *
   obtain ⟨rn,X,AX,cX,bX⟩:=r
   change rn=(N:Int) at hn
   subst hn
   change RhOk N X at hxo
   change wo.cell? ⟨gf,j*2,none⟩=some (.int .i64 N) at k0
   change wo.cell? ⟨gf,j*2+1,none⟩=some (.slice AX X.length cX) at k1
   change Ints wo w1.heap.size AX X at hxi
   change Zq (codS N rs (j+1)=codS N rs j++[(codI N X:Int)]) at HSU
   have HXI:=Zh (hxi.mono hws)
   have HXO:=Zh hxo
   have HCD:=Zh (fun V h=>show Calls Tryz.prog 105 #[.agg #[.int .i64 N,.slice AX X.length cX]] V fun e w'=>e = .returned (.int .i64 (codI N X:Nat))/\Below V.heap.size V w' from zd8 N AX cX X V h hxo)
   subst hAf
   obtain ⟨L2,hL2⟩ : ∃ L2,codS N rs (j+1)=L2:=⟨_,rfl⟩
   have HL2:=Zh hL2
   rw [hL2] at HSU
   clear hL2
   generalize codS N rs j=L at *
   generalize codI N X=kx at *
   clear hxi hxo hcf
   go_wp2_with fail
   refine (HCD.o _ (HXI.o.lift ((Below.refl _ _).alloc (Nat.le_refl _) _))).mono ?_
   rintro e w4 ⟨rfl,hb⟩
   have hz4:wo.heap.size+1<=w4.heap.size:=by have:=hb.size;simpa using this
   have HO2:=Zh ((HO.o.alloc _).grown hb)
   have HB2:=Zh ((HBE.o.alloc hws _).trans (hb.mono (by simp;omega)))
   clear hb k0 k1
   go_wp2_with (at_builtin;refine za4 rfl (.tmp 13) (.tmp 16) rfl w1.heap.size _ L rfl (HO2.o.alloc _) _ _ rfl (zag _ _ _) (by omega) (by simp;omega) ?_;intro v5 w5 hown5 hb5)
   have HO3:=Zh hown5
   have HB3:=Zh ((HB2.o.alloc (by omega) _).trans hb5)
   clear hown5 hb5
   go_wp2_with fail
   go_roundw
   case rel=>exact ⟨j+1,by omega,by go_num,by rw [show codS N rs (j+1)=L2 from HL2.o,HSU.o];exact HO3.o,HB3.o⟩
   case measure=>simp [intOf];omega
  ·have hjN:j=rs.length:=by omega
   subst hjN
   have hfit : ∀ x∈codS N rs rs.length,Fits x:=fun x hx=>by
    rw [zoh HKY.o,List.mem_map] at hx
    obtain ⟨y,hy,rfl⟩:=hx
    have:=zhl (HFO.o y hy)
    unfold Fits;omega
   have HI:=Zh (HO.o.ints hfit)
   have HCO:=Zh (fun V h=>zhi So cso (codS N rs rs.length) V h (by omega))
   have hcv:zak (codS N rs rs.length)=orbL N bs:=by rw [HOL.o,zoh HKY.o]
   rw [hcv] at HCO
   have hol:=HOE.o
   have HOV:=Zh hol
   have hbnd:(orbL N bs).length<=48:=by
    have:=zeh (codS N rs rs.length)
    rw [hcv] at this
    omega
   generalize codS N rs rs.length=L at *
   generalize orbL N bs=OL at *
   clear hcv hfit hol
   go_wp2_with fail
   refine (HCO.o _ HI.o).mono ?_
   rintro e w4 ⟨v4,rfl,hown4,hb4⟩
   obtain ⟨A4,c4,rfl⟩:=hown4.form
   have HB4:=Zh (HB1.o.trans ((HBE.o.trans (hb4.mono hws)).mono hz1))
   clear hown4 hb4
   go_wp2_with fail
   go_ret
   exact ⟨zbv (by rw [HOV.o]),HB4.o⟩
end Go.Proofs.YtjpnjchpdkogbaaGreatDoor
namespace Go.Proofs.YtjpnjchpdkogbaaGreatDoor
open Go.RowKit
end Go.Proofs.YtjpnjchpdkogbaaGreatDoor
namespace Go.Proofs.YtjpnjchpdkogbaaGreatDoor
open Go.RowKit
end Go.Proofs.YtjpnjchpdkogbaaGreatDoor
namespace Go.Proofs.YtjpnjchpdkogbaaGreatDoor
open Go.RowKit
noncomputable def cllL (N:Nat)(bs:List Int):Txt:=zaf [zaj N (frmV N bs) (fun _=>120),[111,114,98,105,116],itoL (orbV N bs:Nat),[99,108,97,115,115],zaj N (clsV N bs) (fun _=>120)] [32]
theorem zza (N:Nat)(A:Option Addr)(cap:Nat)(bs:List Int)(w:World)(hA:Ints w w.heap.size A bs)(hok:RhOk N bs)(hP:Pow w) :
  Calls Tryz.prog 62 #[.agg #[.int .i64 N,.slice A bs.length cap]] w fun e w'=>e = .returned (.string (mkS (cllL N bs)))/\Below w.heap.size w w':=by
 have hn1:1<=N:=by have:=hok.1;omega
 have hn2:N<=24:=by have:=hok.2.1;omega
 have hfN:Fits (N:Int):=by unfold Fits;omega
 have HRO:=Zh (fun V h=>zav N A cap bs V hfN h)
 rw [zao.2 hok] at HRO
 have hfo:=zfg hok
 have hco:RhOk N (clsV N bs):=zhw hok _
 have HFF:=Zh (zew hfo)
 have HCF:=Zh (zew hco)
 have HFR:=Zh (fun V h=>zoe N A cap bs V h hok)
 have HCL:=Zh (fun V h=>zy3 N A cap bs V h hok)
 have HOS:=Zh (fun V h=>zy9 N A cap bs V h hok)
 have HTF:=Zh (fun A c V h=>zdg N A c (frmV N bs) V h hfo)
 have HTC:=Zh (fun A c V h=>zdg N A c (clsV N bs) V h hco)
 have hpf:Fits ((orbV N bs:Nat):Int):=by
  have:=(zcr hok).2.1
  unfold orbV Fits;split <;> omega
 have HFI:=Zh (fun V (hb:Below w.heap.size w V)=>zbq (orbV N bs:Nat) hpf V (hP.below hb))
 have hpl:=zbe _ hpf
 have HLN:=Zh (show cllL N bs=zaf [zaj N (frmV N bs) (fun _=>120),[111,114,98,105,116],itoL (orbV N bs:Nat),[99,108,97,115,115],zaj N (clsV N bs) (fun _=>120)] [32] from rfl)
 have hfl:(zaj N (frmV N bs) (fun _=>120)).length<=504:=by rw [zb5];omega
 have hcl:(zaj N (clsV N bs) (fun _=>120)).length<=504:=by rw [zb5];omega
 have HA:=Zh hA
 generalize zaj N (frmV N bs) (fun _=>120)=TX at *
 generalize zaj N (clsV N bs) (fun _=>120)=TY at *
 generalize frmV N bs=F at *
 generalize clsV N bs=C at *
 generalize orbV N bs=ob at *
 generalize cllL N bs=LL at *
 obtain ⟨IP,hIP⟩ : ∃ t,itoL ((ob:Nat):Int)=t:=⟨_,rfl⟩
 rw [hIP] at HFI HLN hpl
 have HJ:=Zh (fun V g (hg:V.heap.size=g)=>zdr (some ⟨g,0,none⟩) 5 [TX,[111,114,98,105,116],IP,[99,108,97,115,115],TY] [32] 504 _ (ze4 V g _ (by simp) hg) (by simp) (by
  intro x hx
  simp at hx
  rcases hx with rfl | rfl | rfl | rfl | rfl <;> first | assumption | (simp;done) | omega) (by simp))
 rw [<- HLN.o] at HJ
 obtain ⟨c0,c1⟩:=box2 (Below.refl (w.heap.size+1) (w.alloc (.cells #[.int .i64 N,.slice A (bs).length cap] 27)))
 have HB0:=Zh ((Below.refl w.heap.size w).alloc (Nat.le_refl _) (.cells #[.int .i64 N,.slice A (bs).length cap] 27))
 have HC0:=Zh (Cells2.new w (.int .i64 N) (.slice A bs.length cap) 27)
 have HI0:=Zh (HA.o.lift HB0.o)
 clear hA hok hP hIP hfo hco
 go_enter Tryz.func62,Tryz.ntmps62
 go_wp2_with fail
 refine (HRO.o _ HI0.o).mono ?_
 rintro e w2 ⟨rfl,hb⟩
 have HB2:=Zh (HB0.o.trans (hb.mono HB0.o.size))
 have HC2:=Zh (HC0.o.below hb HC0.o.2.2.2.2)
 have HI2:=Zh (HI0.o.lift hb)
 clear hb c0 c1
 obtain ⟨c0,c1,_,_,_⟩:=HC2.o
 go_wp2_with fail
 have HBd:=Zh (show Below w.heap.size w w2.drew from ⟨HB2.o.os,HB2.o.tape,HB2.o.output,HB2.o.size,HB2.o.block⟩)
 have HCd:=Zh (show Cells2 w2.drew w.heap.size (.int .i64 N) (.slice A bs.length cap) from HC2.o)
 have HId:=Zh (show Ints w2.drew w2.drew.heap.size A bs from HI2.o)
 (refine wp_region_held_drew (S:=(fun w'=>w'.cell? ⟨w.heap.size,0,none⟩=some (.int .i64 N)/\w'.cell? ⟨w.heap.size,1,none⟩=some (.slice A bs.length cap))) (by kernel_rfl) ?_ (fun hHeld=>?_);(focus ((try dsimp only);exact ⟨c0,c1⟩)))
 ((refine Zk 0 ?_;(try simp only [Act.put,Zz]));(refine Zk 3 ?_;(try simp only [Act.put,Zz]));(refine Zk 6 ?_;(try simp only [Act.put,Zz])))
 (refine wpAnyH_ready (rs:=[1]) (by kernel_rfl) (by simp) ?_;refine AllReadyH.cons rfl (fun K hK=>?_) AllReadyH.nil;go_simp)
 go_at_call 124
 refine (HFR.o _ HId.o).mono ?_
 rintro e w3 ⟨A3,k3,rfl,hr,hb⟩
 have HR3:=Zh (hr.ints HFF.o)
 clear hr
 have HB3:=Zh (HBd.o.trans (hb.mono HBd.o.size))
 have HC3:=Zh (HCd.o.below hb HCd.o.2.2.2.2)
 have HI3:=Zh (HId.o.lift hb)
 clear hb c0 c1
 obtain ⟨c0,c1,_,_,_⟩:=HC3.o
 go_wp2_with fail
 (refine hK.out _ _ ?_ fun hHeld2=>?_;(focus ((try dsimp only);exact ⟨c0,c1⟩));(clear hK K);(try simp only [Act.put,Zz]))
 (refine wpAnyH_ready (rs:=[2]) (by kernel_rfl) (by simp) ?_;refine AllReadyH.cons rfl (fun K hK=>?_) AllReadyH.nil;go_simp)
 go_at_call 112
 refine (HTF.o _ _ _ HR3.o).mono ?_
 rintro e w4 ⟨rfl,hb⟩
 have HB4:=Zh (HB3.o.trans (hb.mono HB3.o.size))
 have HC4:=Zh (HC3.o.below hb HC3.o.2.2.2.2)
 have HI4:=Zh (HI3.o.lift hb)
 clear hb c0 c1
 obtain ⟨c0,c1,_,_,_⟩:=HC4.o
 go_wp2_with fail
 (refine hK.out _ _ ?_ fun hHeld2=>?_;(focus ((try dsimp only);exact ⟨c0,c1⟩));(clear hK K);(try simp only [Act.put,Zz]))
 (refine wpAnyH_ready (rs:=[4]) (by kernel_rfl) (by simp) ?_;refine AllReadyH.cons rfl (fun K hK=>?_) AllReadyH.nil;go_simp)
 go_at_call 125
 refine (HOS.o _ HI4.o).mono ?_
 rintro e w5 ⟨rfl,hb⟩
 have HB5:=Zh (HB4.o.trans (hb.mono HB4.o.size))
 have HC5:=Zh (HC4.o.below hb HC4.o.2.2.2.2)
 have HI5:=Zh (HI4.o.lift hb)
 clear hb c0 c1
 obtain ⟨c0,c1,_,_,_⟩:=HC5.o
 go_wp2_with fail
 (refine hK.out _ _ ?_ fun hHeld2=>?_;(focus ((try dsimp only);exact ⟨c0,c1⟩));(clear hK K);(try simp only [Act.put,Zz]))
 (refine wpAnyH_ready (rs:=[5]) (by kernel_rfl) (by simp) ?_;refine AllReadyH.cons rfl (fun K hK=>?_) AllReadyH.nil;go_simp)
 go_at_call 64
 refine (HFI.o _ HB5.o).mono ?_
 rintro e w6 ⟨rfl,hb⟩
 have HB6:=Zh (HB5.o.trans (hb.mono HB5.o.size))
 have HC6:=Zh (HC5.o.below hb HC5.o.2.2.2.2)
 have HI6:=Zh (HI5.o.lift hb)
 clear hb c0 c1
 obtain ⟨c0,c1,_,_,_⟩:=HC6.o
 go_wp2_with fail
 (refine hK.out _ _ ?_ fun hHeld2=>?_;(focus ((try dsimp only);exact ⟨c0,c1⟩));(clear hK K);(try simp only [Act.put,Zz]))
 (refine wpAnyH_ready (rs:=[7]) (by kernel_rfl) (by simp) ?_;refine AllReadyH.cons rfl (fun K hK=>?_) AllReadyH.nil;go_simp)
 go_at_call 126
 refine (HCL.o _ HI6.o).mono ?_
 rintro e w7 ⟨A7,k7,rfl,hr,hb⟩
 have HR7:=Zh (hr.ints HCF.o)
 clear hr
 have HB7:=Zh (HB6.o.trans (hb.mono HB6.o.size))
 have HC7:=Zh (HC6.o.below hb HC6.o.2.2.2.2)
 have HI7:=Zh (HI6.o.lift hb)
 clear hb c0 c1
 obtain ⟨c0,c1,_,_,_⟩:=HC7.o
 go_wp2_with fail
 (refine hK.out _ _ ?_ fun hHeld2=>?_;(focus ((try dsimp only);exact ⟨c0,c1⟩));(clear hK K);(try simp only [Act.put,Zz]))
 (refine wpAnyH_ready (rs:=[8]) (by kernel_rfl) (by simp) ?_;refine AllReadyH.cons rfl (fun K hK=>?_) AllReadyH.nil;go_simp)
 go_at_call 112
 refine (HTC.o _ _ _ HR7.o).mono ?_
 rintro e w8 ⟨rfl,hb⟩
 have HB8:=Zh (HB7.o.trans (hb.mono HB7.o.size))
 have HC8:=Zh (HC7.o.below hb HC7.o.2.2.2.2)
 have HI8:=Zh (HI7.o.lift hb)
 clear hb c0 c1
 obtain ⟨c0,c1,_,_,_⟩:=HC8.o
 go_wp2_with fail
 (refine hK.out _ _ ?_ fun hHeld2=>?_;(focus ((try dsimp only);exact ⟨c0,c1⟩));(clear hK K);(try simp only [Act.put,Zz]))
 (refine wpAnyH_ready (rs:=[9]) (by kernel_rfl) (by simp) ?_;refine AllReadyH.cons rfl (fun K hK=>?_) AllReadyH.nil;go_simp)
 have HB9:=Zh (HB8.o.alloc HB8.o.size (.cells ([TX,[111,114,98,105,116],IP,[99,108,97,115,115],TY].map emS).toArray 9))
 clear c0 c1
 obtain ⟨c0,c1,_,_,_⟩:=HC8.o.alloc (.cells ([TX,[111,114,98,105,116],IP,[99,108,97,115,115],TY].map emS).toArray 9)
 (refine hK.out _ _ ?_ fun hHeld2=>?_;(focus ((try dsimp only);exact ⟨c0,c1⟩));(clear hK K);(try simp only [Act.put,Zz]))
 (refine wpAnyH_ready (rs:=[10]) (by kernel_rfl) (by simp) ?_;refine AllReadyH.cons rfl (fun K hK=>?_) AllReadyH.nil;go_simp)
 go_at_call 8
 refine (HJ.o w8 w8.heap.size rfl).mono ?_
 rintro e w9 ⟨rfl,hb⟩
 have HB10:=Zh (HB9.o.trans (hb.mono HB9.o.size))
 have HC9:=Zh (HC8.o.alloc (.cells ([TX,[111,114,98,105,116],IP,[99,108,97,115,115],TY].map emS).toArray 9))
 clear c0 c1
 obtain ⟨c0,c1,_,_,_⟩:=HC9.o.below hb HC9.o.2.2.2.2
 clear hb
 go_wp2_with fail
 (refine hK.out _ _ ?_ fun hHeld2=>?_;(focus ((try dsimp only);exact ⟨c0,c1⟩));(clear hK K);(try simp only [Act.put,Zz]))
 (refine Zk 11 ?_;(try simp only [Act.put,Zz]))
 refine wpAnyH_done (by kernel_rfl) ?_ _
 clear c0 c1
 go_wp2_with fail
 go_ret
 exact ⟨rfl,HB10.o⟩
end Go.Proofs.YtjpnjchpdkogbaaGreatDoor
namespace Go.Proofs.YtjpnjchpdkogbaaGreatDoor
open Go.RowKit
def zbb (xs:List Int) (i:Nat):Nat->Int
 | 0=>0
 | k+1=>zbb xs i k+xs.getD ((i+k) % xs.length) 0
theorem zgc (xs:List Int)(i:Nat)(h0:0<xs.length)(h : ∀ x∈xs,1<=x/\x<=24) : ∀ k:Nat,(k:Int)<=zbb xs i k/\zbb xs i k<=24*k
 | 0=>by simp [zbb]
 | k+1=>by
  have ih:=zgc xs i h0 h k
  have hlt:(i+k) % xs.length<xs.length:=Nat.mod_lt _ h0
  have hx:=h (xs.getD ((i+k) % xs.length) 0) (by rw [List.getD_eq_getElem?_getD,List.getElem?_eq_getElem hlt];exact List.getElem_mem hlt)
  unfold zbb
  omega
theorem zi3 (A:Option Addr)(cap:Nat)(xs:List Int)(i:Nat)(k:Int)(w:World)(hA:Ints w w.heap.size A xs)(hf : ∀ x∈xs,1<=x/\x<=24)(hl:xs.length<=24)(hi:i<xs.length)(hk0:0<=k)(hk:k<=24) :
  Calls Tryz.prog 229 #[.slice A xs.length cap,.int .i64 i,.int .i64 k] w fun e w'=>e = .returned (.int .i64 (zbb xs i k.toNat))/\w=w':=by
 obtain ⟨m,rfl⟩:=Int.eq_ofNat_of_zero_le hk0
 rw [Int.toNat_natCast]
 have hsb:=zgc xs i (by omega) hf
 have HSB:=Zh hsb
 obtain ⟨b,off,rfl,hB,hc⟩:=hA.2.2 (by omega)
 have HC:=Zh hc
 clear hA hf hc hsb
 go_enter Tryz.func229,Tryz.ntmps229
 go_wp2
 go_loop [7,10] (fun t j=>∃ q:Nat,q<=m/\j = .int .i64 q/\t = .int .i64 (zbb xs i q)) (fun _ j=>m-(intOf j).toNat)
 case atStart=>exact ⟨0,Nat.zero_le _,rfl,rfl⟩
 case round =>
  obtain ⟨q,hq,rfl,rfl⟩:=hrel
  have hb:=HSB.o q
  by_cases hlt:q<m
  ·have hmod:(i+q) % xs.length<xs.length:=Nat.mod_lt _ (by omega)
   have hcell:=HC.o _ hmod
   obtain ⟨x,hx⟩ : ∃ x,xs.getD ((i+q) % xs.length) 0=x:=⟨_,rfl⟩
   rw [hx] at hcell
   have hsucc:zbb xs i (q+1)=zbb xs i q+x:=by rw [<- hx];rfl
   have hb1:=HSB.o (q+1)
   rw [hsucc] at hb1
   have HS:=Zh hsucc
   clear hsucc hx
   obtain ⟨y,hy⟩ : ∃ y,zbb xs i q=y:=⟨_,rfl⟩
   rw [hy] at hb hb1
   have HY:=Zh hy
   have hm0:(0:Int)<=((i:Int)+q) % (xs.length:Int):=Int.emod_nonneg _ (by omega)
   have hm1:((i:Int)+q) % (xs.length:Int)<(xs.length:Int):=Int.emod_lt_of_pos _ (by omega)
   rw [hy]
   clear hy
   go_wp2
   go_round
   case rel=>exact ⟨q+1,by omega,by go_num,by rw [HS.o,HY.o]⟩
   case measure=>simp [intOf];omega
  ·have hqe:q=m:=by omega
   subst hqe
   go_wp2
   go_ret
   exact ⟨rfl,rfl⟩
def lm (xs:List Int) (h:Nat):Nat->Int
 | 0=>-1
 | k+1=>if lm xs h k<0\/zbb xs k h<lm xs h k then zbb xs k h else lm xs h k
theorem zoi (xs:List Int)(h:Nat)(h1:1<=h)(h24:h<=24)(h0:0<xs.length)(hf : ∀ x∈xs,1<=x/\x<=24) : ∀ k:Nat,-1<=lm xs h k/\lm xs h k<=576/\(0<k->1<=lm xs h k)
 | 0=>by unfold lm;exact ⟨by omega,by omega,fun h=>by omega⟩
 | k+1=>by
  have ih:=zoi xs h h1 h24 h0 hf k
  have hs:=zgc xs k h0 hf h
  unfold lm
  split
  ·exact ⟨by omega,by omega,fun _=>by omega⟩
  ·rename_i hc
   have hk:k≠0:=by
    rintro rfl
    exact hc (.inl (by show (-1:Int)<0;omega))
   have:=ih.2.2 (by omega)
   exact ⟨by omega,by omega,fun _=>by omega⟩
theorem zoj {xs:List Int}{h k:Nat}(hc:lm xs h k<0\/zbb xs k h<lm xs h k):lm xs h (k+1)=zbb xs k h:=by
 show (if _ then _ else _)=_;rw [if_pos hc]
theorem zzb {xs:List Int}{h k:Nat}(hc : ¬ (lm xs h k<0\/zbb xs k h<lm xs h k)):lm xs h (k+1)=lm xs h k:=by
 show (if _ then _ else _)=_;rw [if_neg hc]
noncomputable def zcw (n:Int)(bs:List Int)(h:Int):Int :=
 if (zai n bs).length=0 \/ ¬ (1<=h/\h<=24) then 0 else lm (zai n bs) h.toNat (zai n bs).length
theorem zzc (xs:List Int)(h:Nat):lm xs h 1=zbb xs 0 h:=zoj (.inl (by show (-1:Int)<0;omega))
theorem zi4 (n:Int)(A:Option Addr)(cap:Nat)(bs:List Int)(h:Int)(w:World)(hn:Fits n)(hA:Ints w w.heap.size A bs) :
  Calls Tryz.prog 188 #[.agg #[.int .i64 n,.slice A bs.length cap],.int .i64 h] w fun e w'=>e = .returned (.int .i64 (zcw n bs h))/\Below w.heap.size w w':=by
 obtain ⟨hl,hf⟩:=zfm n bs
 have HF:=Zh hf
 have HA:=Zh hA
 have HN:=Zh hn
 clear hA hf hn
 by_cases h0:(zai n bs).length=0
 ·have hz:(((zai n bs).length:Int)==0)=true:=beq_iff_eq.2 (by omega)
  have HE:=Zh (show zcw n bs h=0 by unfold zcw;rw [if_pos (.inl h0)])
  clear h0
  go_enter Tryz.func188,Tryz.ntmps188
  go_wp2_with (first
   | (go_at_call 170;refine (zd1 n A cap bs _ HN.o (HA.o.lift (by repeat (first | exact Below.refl _ _ | assumption | (refine Below.alloc ?_ (by first | exact Nat.le_refl _ | (simp;done) | (simp;omega) | omega) _) | (refine Below.drew ?_) | (refine Below.setCell ?_ (by first | exact Nat.le_refl _ | (simp;done) | (simp;omega) | omega) _))))).mono ?_;rintro e w1 ⟨A1,c1,rfl,hi1,hb⟩;have hb':=((Below.refl w.heap.size w).alloc (by first | exact Nat.le_refl _ | (simp;done) | (simp;omega) | omega) _).trans (hb.mono (by first | exact Nat.le_refl _ | (simp;done) | (simp;omega) | omega)))
   | (go_at_call 22;refine (zac _ _ _ _).mono ?_;rintro e w' ⟨rfl,rfl⟩))
  go_ret
  exact ⟨zbv HE.o.symm,hb'⟩
 ·have hz:(((zai n bs).length:Int)==0)=false:=beq_eq_false_iff_ne.2 (by omega)
  have h0':0<(zai n bs).length:=by omega
  by_cases hh:1<=h/\h<=24
  ·have hin:=za1 hh
   obtain ⟨h1,h24⟩:=hh
   have hlm:=zoi (zai n bs) h.toNat (by omega) (by omega) h0' HF.o
   have HLM:=Zh hlm
   have hsp:=fun k:Nat=>zgc (zai n bs) k h0' HF.o h.toNat
   have HSP:=Zh hsp
   have HE:=Zh (show zcw n bs h=lm (zai n bs) h.toNat (zai n bs).length by unfold zcw;rw [if_neg (by omega)])
   have HO:=Zh (zzc (zai n bs) h.toNat)
   clear h0 hlm hsp
   go_enter Tryz.func188,Tryz.ntmps188
   go_wp2_with (first
    | (go_at_call 170;refine (zd1 n A cap bs _ HN.o (HA.o.lift (by repeat (first | exact Below.refl _ _ | assumption | (refine Below.alloc ?_ (by first | exact Nat.le_refl _ | (simp;done) | (simp;omega) | omega) _) | (refine Below.drew ?_) | (refine Below.setCell ?_ (by first | exact Nat.le_refl _ | (simp;done) | (simp;omega) | omega) _))))).mono ?_;rintro e w1 ⟨A1,c1,rfl,hi1,hb⟩;have hb':=((Below.refl w.heap.size w).alloc (by first | exact Nat.le_refl _ | (simp;done) | (simp;omega) | omega) _).trans (hb.mono (by first | exact Nat.le_refl _ | (simp;done) | (simp;omega) | omega)))
    | (go_at_call 22;refine (zac _ _ _ _).mono ?_;rintro e w' ⟨rfl,rfl⟩)
    | (go_at_call 229;refine (zi3 A1 c1 (zai n bs) 0 h _ hi1 HF.o hl h0' (by omega) h24).mono ?_;rintro e w' ⟨rfl,rfl⟩))
   have HI:=Zh hi1
   clear hi1
   go_loop [6,23] (fun t j=>∃ q:Nat,q<=(zai n bs).length/\j = .int .i64 q/\t = .int .i64 (lm (zai n bs) h.toNat (max q 1))) (fun _ j=>(zai n bs).length-(intOf j).toNat)
   case atStart=>exact ⟨0,Nat.zero_le _,rfl,by rw [show max 0 1=1 by rfl,HO.o]⟩
   case round =>
    obtain ⟨q,hq,rfl,rfl⟩:=hrel
    by_cases hlt:q<(zai n bs).length
    ·have hb1:=HLM.o (max q 1)
     have hb2:=HSP.o q
     have hstep:lm (zai n bs) h.toNat (max (q+1) 1)=if zbb (zai n bs) q h.toNat<lm (zai n bs) h.toNat (max q 1) then zbb (zai n bs) q h.toNat else lm (zai n bs) h.toNat (max q 1):=by
      by_cases e:q=0
      ·subst e
       rw [show max 0 1=1 by rfl,show max (0+1) 1=1 by rfl,HO.o]
       split <;> rfl
      ·rw [show max q 1=q by omega,show max (q+1) 1=q+1 by omega]
       have:=HLM.o q
       by_cases hs:zbb (zai n bs) q h.toNat<lm (zai n bs) h.toNat q
       ·rw [if_pos hs,zoj (.inr hs)]
       ·rw [if_neg hs,zzb (by omega)]
     obtain ⟨x,hx⟩ : ∃ x,lm (zai n bs) h.toNat (max q 1)=x:=⟨_,rfl⟩
     obtain ⟨y,hy⟩ : ∃ y,lm (zai n bs) h.toNat (max (q+1) 1)=y:=⟨_,rfl⟩
     rw [hx] at hb1 hstep
     rw [hy] at hstep
     have HY:=Zh hy
     rw [hx]
     clear hx hy
     by_cases hs:zbb (zai n bs) q h.toNat<x
     ·rw [if_pos hs] at hstep
      have HST:=Zh hstep
      clear hstep
      go_wp2_with (go_at_call 229;refine (zi3 A1 c1 (zai n bs) q h _ HI.o HF.o hl hlt (by omega) h24).mono ?_;rintro e w' ⟨rfl,rfl⟩)
      go_round
      case rel=>exact ⟨q+1,by omega,by go_num,by rw [HY.o,HST.o];first | done | (congr 1;omega)⟩
      case measure=>simp [intOf];omega
     ·rw [if_neg hs] at hstep
      have HST:=Zh hstep
      clear hstep
      go_wp2_with (go_at_call 229;refine (zi3 A1 c1 (zai n bs) q h _ HI.o HF.o hl hlt (by omega) h24).mono ?_;rintro e w' ⟨rfl,rfl⟩)
      go_round
      case rel=>exact ⟨q+1,by omega,by go_num,by rw [HY.o,HST.o];first | done | (congr 1;omega)⟩
      case measure=>simp [intOf];omega
    ·have hqe:max q 1=(zai n bs).length:=by omega
     rw [hqe]
     go_wp2
     go_ret
     exact ⟨zbv HE.o.symm,hb'⟩
  ·have hin:=zed hh
   have HE:=Zh (show zcw n bs h=0 by unfold zcw;rw [if_pos (.inr hh)])
   clear h0 hh
   go_enter Tryz.func188,Tryz.ntmps188
   go_wp2_with (first
    | (go_at_call 170;refine (zd1 n A cap bs _ HN.o (HA.o.lift (by repeat (first | exact Below.refl _ _ | assumption | (refine Below.alloc ?_ (by first | exact Nat.le_refl _ | (simp;done) | (simp;omega) | omega) _) | (refine Below.drew ?_) | (refine Below.setCell ?_ (by first | exact Nat.le_refl _ | (simp;done) | (simp;omega) | omega) _))))).mono ?_;rintro e w1 ⟨A1,c1,rfl,hi1,hb⟩;have hb':=((Below.refl w.heap.size w).alloc (by first | exact Nat.le_refl _ | (simp;done) | (simp;omega) | omega) _).trans (hb.mono (by first | exact Nat.le_refl _ | (simp;done) | (simp;omega) | omega)))
    | (go_at_call 22;refine (zac _ _ _ _).mono ?_;rintro e w' ⟨rfl,rfl⟩))
   go_ret
   exact ⟨zbv HE.o.symm,hb'⟩
end Go.Proofs.YtjpnjchpdkogbaaGreatDoor
namespace Go.Proofs.YtjpnjchpdkogbaaGreatDoor
open Go.RowKit
noncomputable def zb0 (n:Int)(bs:List Int)(h gap:Int):Bool:=decide (1<=gap) && decide (gap<=zcw n bs h)
theorem zok (n:Int)(A:Option Addr)(cap:Nat)(bs:List Int)(h gap:Int)(w:World)(hn:Fits n)(hA:Ints w w.heap.size A bs) :
  Calls Tryz.prog 128 #[.agg #[.int .i64 n,.slice A bs.length cap],.int .i64 h,.int .i64 gap] w fun e w'=>e = .returned (.bool (zb0 n bs h gap))/\Below w.heap.size w w':=by
 have HA:=Zh hA
 have HN:=Zh hn
 clear hA hn
 by_cases h1:1<=gap
 ·by_cases h2:gap<=zcw n bs h
  ·have HE:=Zh (show zb0 n bs h gap=true by simp [zb0,h1,h2])
   go_enter Tryz.func128,Tryz.ntmps128
   go_wp2_with (go_at_call 188;refine (zi4 n A cap bs h _ HN.o (HA.o.lift (by repeat (first | exact Below.refl _ _ | assumption | (refine Below.alloc ?_ (by first | exact Nat.le_refl _ | (simp;done) | (simp;omega) | omega) _) | (refine Below.drew ?_) | (refine Below.setCell ?_ (by first | exact Nat.le_refl _ | (simp;done) | (simp;omega) | omega) _))))).mono ?_;rintro e w1 ⟨rfl,hb⟩)
   go_ret
   exact ⟨zaq HE.o.symm,((Below.refl w.heap.size w).alloc (by first | exact Nat.le_refl _ | (simp;done) | (simp;omega) | omega) _).trans (hb.mono (by first | exact Nat.le_refl _ | (simp;done) | (simp;omega) | omega))⟩
  ·have HE:=Zh (show zb0 n bs h gap=false by simp [zb0,h1,h2])
   go_enter Tryz.func128,Tryz.ntmps128
   go_wp2_with (go_at_call 188;refine (zi4 n A cap bs h _ HN.o (HA.o.lift (by repeat (first | exact Below.refl _ _ | assumption | (refine Below.alloc ?_ (by first | exact Nat.le_refl _ | (simp;done) | (simp;omega) | omega) _) | (refine Below.drew ?_) | (refine Below.setCell ?_ (by first | exact Nat.le_refl _ | (simp;done) | (simp;omega) | omega) _))))).mono ?_;rintro e w1 ⟨rfl,hb⟩)
   go_ret
   exact ⟨zaq ((decide_eq_false (by omega)).trans HE.o.symm),((Below.refl w.heap.size w).alloc (by first | exact Nat.le_refl _ | (simp;done) | (simp;omega) | omega) _).trans (hb.mono (by first | exact Nat.le_refl _ | (simp;done) | (simp;omega) | omega))⟩
 ·have HE:=Zh (show zb0 n bs h gap=false by simp [zb0,h1])
  go_enter Tryz.func128,Tryz.ntmps128
  go_wp2_with (go_at_call 188;refine (zi4 n A cap bs h _ HN.o (HA.o.lift (by repeat (first | exact Below.refl _ _ | assumption | (refine Below.alloc ?_ (by first | exact Nat.le_refl _ | (simp;done) | (simp;omega) | omega) _) | (refine Below.drew ?_) | (refine Below.setCell ?_ (by first | exact Nat.le_refl _ | (simp;done) | (simp;omega) | omega) _))))).mono ?_;rintro e w1 ⟨rfl,hb⟩)
  go_ret
  exact ⟨by rw [HE.o];rfl,(by repeat (first | exact Below.refl _ _ | assumption | (refine Below.alloc ?_ (by first | exact Nat.le_refl _ | (simp;done) | (simp;omega) | omega) _) | (refine Below.drew ?_) | (refine Below.setCell ?_ (by first | exact Nat.le_refl _ | (simp;done) | (simp;omega) | omega) _)))⟩
def zcx (p:Int->Bool):Nat->Int->Int
 | 0,_=>0
 | f+1,h=>if p h then h else zcx p f (h+1)
theorem zzd {p:Int->Bool}{f:Nat}{h:Int}(hp:p h=false):zcx p (f+1) h=zcx p f (h+1):=by
 show (if _ then _ else _)=_;rw [if_neg (by rw [hp];decide)]
theorem zze {p:Int->Bool}{f:Nat}{h:Int}(hp:p h=true):zcx p (f+1) h=h:=by
 show (if _ then _ else _)=_;rw [if_pos hp]
noncomputable def zdm (n:Int)(bs:List Int)(gap:Int):Int:=zcx (fun h=>zb0 n bs h gap) 24 1
theorem zzf (n:Int)(A:Option Addr)(cap:Nat)(bs:List Int)(gap:Int)(w:World)(hn:Fits n)(hA:Ints w w.heap.size A bs) :
  Calls Tryz.prog 65 #[.agg #[.int .i64 n,.slice A bs.length cap],.int .i64 gap] w fun e w'=>e = .returned (.int .i64 (zdm n bs gap))/\Below w.heap.size w w':=by
 have HA:=Zh hA
 have HN:=Zh hn
 clear hA hn
 go_enter Tryz.func65,Tryz.ntmps65
 go_wp2_with fail
 go_loopw [5] (fun h wr=>∃ k:Nat,k<=24/\h = .int .i64 (1+k)/\zcx (fun h=>zb0 n bs h gap) (24-k) (1+k)=zdm n bs gap/\Below (w.heap.size+1) (w.alloc (.cells #[.int .i64 n,.slice A bs.length cap] 27)) wr) (fun h _=>25-(intOf h).toNat)
 case atStart=>exact ⟨0,Nat.zero_le _,rfl,rfl,Below.refl _ _⟩
 case round =>
  obtain ⟨k,hk,rfl,hfew,hbel⟩:=hrel
  have hW:=((Below.refl w.heap.size w).alloc (Nat.le_refl _) _).trans (hbel.mono (by omega))
  obtain ⟨hc0,hc1⟩:=box2 hbel
  have hz:=hbel.size
  simp only [World.size_alloc] at hz
  have HFW:=Zh hfew
  clear hfew
  by_cases hlt:k<24
  ·cases hp:zb0 n bs (1+k) gap
   ·have HF2:=Zh (zzd (p:=fun h=>zb0 n bs h gap) (f:=24-(k+1)) (h:=1+k) hp)
    go_wp2_with fail
    refine (zok n A cap bs _ gap _ HN.o (HA.o.lift hW)).mono ?_
    rintro e w1 ⟨rfl,hb1⟩
    go_wp2_with fail
    go_roundw
    case rel=>exact ⟨k+1,by omega,by go_num,by rw [<- HFW.o,show 24-k=24-(k+1)+1 by omega,HF2.o];congr 1 <;> omega,hbel.trans (hb1.mono hz)⟩
    case measure=>simp [intOf];omega
   ·have HF2:=Zh (zze (p:=fun h=>zb0 n bs h gap) (f:=24-(k+1)) (h:=1+k) hp)
    go_wp2_with fail
    refine (zok n A cap bs _ gap _ HN.o (HA.o.lift hW)).mono ?_
    rintro e w1 ⟨rfl,hb1⟩
    go_wp2_with fail
    go_ret
    exact ⟨zbv (by rw [<- HFW.o,show 24-k=24-(k+1)+1 by omega,HF2.o]),hW.trans (hb1.mono hW.size)⟩
  ·have hke:k=24:=by omega
   subst hke
   go_wp2_with fail
   go_ret
   exact ⟨zbv (by rw [<- HFW.o];rfl),hW⟩
end Go.Proofs.YtjpnjchpdkogbaaGreatDoor
namespace Go.Proofs.YtjpnjchpdkogbaaGreatDoor
theorem zol (l:List UInt8) : ∀ (c j:Nat),j<c*l.length->(Lib.repeatL l c)[j]? = l[j % l.length]?
 | 0,j,h=>by omega
 | c+1,j,h=>by
  rw [Nat.add_mul,Nat.one_mul] at h
  unfold Lib.repeatL
  by_cases hj:j<l.length
  ·rw [List.getElem?_append_left hj,Nat.mod_eq_of_lt hj]
  ·rw [List.getElem?_append_right (by omega),zol l c _ (by omega),<- Nat.mod_eq_sub_mod (by omega)]
theorem zzg (n:Nat)(bs:List Int)(p k c:Nat)(hn:0<n)(hc:p+k<=c*n):((Lib.repeatL (winL n bs 0 n) c).drop p).take k=winL n bs p k:=by
 refine List.ext_getElem? fun j=>?_
 by_cases hj:j<k
 ·have h1:p+j<c*(winL n bs 0 n).length:=by rw [ze8];omega
  rw [List.getElem?_take_of_lt hj,List.getElem?_drop,zol _ _ _ h1,ze8]
  have hm:(p+j) % n<n:=Nat.mod_lt _ hn
  unfold winL
  simp only [List.getElem?_map,List.getElem?_range hm,List.getElem?_range hj,Option.map_some]
  rw [Nat.zero_add,<- Int.natCast_emod,<- Int.natCast_emod,Nat.mod_mod]
 ·rw [List.getElem?_eq_none (by rw [List.length_take];omega),List.getElem?_eq_none (by rw [ze8];omega)]
end Go.Proofs.YtjpnjchpdkogbaaGreatDoor
namespace Go.Proofs.YtjpnjchpdkogbaaGreatDoor
open Go.Shelf
def Tryz.lays105_ren:Go.Shelf.Ren:=⟨fun | 105=>236 | 212=>193 | 99=>273 | 165=>83 | 166=>16 | 170=>274 | 169=>17 | 263=>239 | 264=>240 | 206=>307 | 240=>82 | 241=>145 | 276=>144 | 277=>194 | n=>n,fun | 9=>9 | 3=>3 | 4=>4 | 20=>20 | 0=>0 | 46=>122 | 109=>146 | 5=>5 | 72=>49 | 76=>52 | 51=>177 | 146=>178 | 53=>180 | 148=>181 | 70=>47 | 37=>22 | 75=>51 | 127=>80 | 164=>120 | 80=>54 | n=>n,fun | n=>n⟩
theorem Tryz.lays105:Go.Proofs.Lays.n105 Tryz.prog Tryz.lays105_ren:={
 mixed:=by kernel_rfl
 f99:=Tryz.func273.trans (congrArg some (by kernel_rfl))
 f105:=Tryz.func236.trans (congrArg some (by kernel_rfl))
 f165:=Tryz.func83.trans (congrArg some (by kernel_rfl))
 f166:=Tryz.func16.trans (congrArg some (by kernel_rfl))
 f169:=Tryz.func17.trans (congrArg some (by kernel_rfl))
 f170:=Tryz.func274.trans (congrArg some (by kernel_rfl))
 f206:=Tryz.func307.trans (congrArg some (by kernel_rfl))
 f212:=Tryz.func193.trans (congrArg some (by kernel_rfl))
 f240:=Tryz.func82.trans (congrArg some (by kernel_rfl))
 f241:=Tryz.func145.trans (congrArg some (by kernel_rfl))
 f263:=Tryz.func239.trans (congrArg some (by kernel_rfl))
 f264:=Tryz.func240.trans (congrArg some (by kernel_rfl))
 f276:=Tryz.func144.trans (congrArg some (by kernel_rfl))
 f277:=Tryz.func194.trans (congrArg some (by kernel_rfl))
 t0:=Tryz.underlying0
 a0:=Tryz.isAgg0
 z0:=Tryz.sizeOf0
 v0:=Tryz.zeroValue0
 t3:=Tryz.underlying3
 a3:=Tryz.isAgg3
 z3:=Tryz.sizeOf3
 v3:=Tryz.zeroValue3
 t4:=Tryz.underlying4
 a4:=Tryz.isAgg4
 z4:=Tryz.sizeOf4
 v4:=Tryz.zeroValue4
 t5:=Tryz.underlying5
 a5:=Tryz.isAgg5
 z5:=Tryz.sizeOf5
 v5:=Tryz.zeroValue5
 t9:=Tryz.underlying9
 a9:=Tryz.isAgg9
 z9:=Tryz.sizeOf9
 v9:=Tryz.zeroValue9
 t20:=Tryz.underlying20
 a20:=Tryz.isAgg20
 z20:=Tryz.sizeOf20
 v20:=Tryz.zeroValue20
 t37:=Tryz.underlying22
 a37:=Tryz.isAgg22
 z37:=Tryz.sizeOf22
 v37:=Tryz.zeroValue22
 t46:=Tryz.underlying122
 a46:=Tryz.isAgg122
 z46:=Tryz.sizeOf122
 v46:=Tryz.zeroValue122
 t51:=Tryz.underlying177
 a51:=Tryz.isAgg177
 z51:=Tryz.sizeOf177
 v51:=Tryz.zeroValue177
 t53:=Tryz.underlying180
 a53:=Tryz.isAgg180
 z53:=Tryz.sizeOf180
 v53:=Tryz.zeroValue180
 t70:=Tryz.underlying47
 a70:=Tryz.isAgg47
 z70:=Tryz.sizeOf47
 v70:=Tryz.zeroValue47
 t72:=Tryz.underlying49
 a72:=Tryz.isAgg49
 z72:=Tryz.sizeOf49
 v72:=Tryz.zeroValue49
 t75:=Tryz.underlying51
 a75:=Tryz.isAgg51
 z75:=Tryz.sizeOf51
 v75:=Tryz.zeroValue51
 t76:=Tryz.underlying52
 a76:=Tryz.isAgg52
 z76:=Tryz.sizeOf52
 v76:=Tryz.zeroValue52
 t109:=Tryz.underlying146
 a109:=Tryz.isAgg146
 z109:=Tryz.sizeOf146
 v109:=Tryz.zeroValue146
 t127:=Tryz.underlying80
 a127:=Tryz.isAgg80
 z127:=Tryz.sizeOf80
 v127:=Tryz.zeroValue80
 t146:=Tryz.underlying178
 a146:=Tryz.isAgg178
 z146:=Tryz.sizeOf178
 v146:=Tryz.zeroValue178
 t148:=Tryz.underlying181
 a148:=Tryz.isAgg181
 z148:=Tryz.sizeOf181
 v148:=Tryz.zeroValue181
 t164:=Tryz.underlying120
 a164:=Tryz.isAgg120
 z164:=Tryz.sizeOf120
 v164:=Tryz.zeroValue120 }
theorem Tryz.bx105:Go.Proofs.Builder.Extra Tryz.prog Tryz.lays105_ren:={
 sizeBuilder:=by kernel_rfl
 liesBuilder:=by kernel_rfl
 t5:=Tryz.underlying5
 a5:=Tryz.isAgg5
 z5:=Tryz.sizeOf5
 v5:=Tryz.zeroValue5
 infoByte:=by kernel_rfl
 cellsByte:=by kernel_rfl
 sizeByte:=by kernel_rfl
 neB5:=by decide }
end Go.Proofs.YtjpnjchpdkogbaaGreatDoor
