/- Parts of the proof of the card of the law FnConsole. -/
import Derived.Test.YtjpnjchpdkogbaaGreatDoorG09
import Derived.Test.YtjpnjchpdkogbaaGreatDoorG07
import Derived.Test.YtjpnjchpdkogbaaGreatDoorG04
import Derived.Test.YtjpnjchpdkogbaaGreatDoorG03
import Derived.Deep.Draws
set_option linter.unusedVariables false
set_option linter.unusedSimpArgs false
set_option maxRecDepth 100000
set_option maxHeartbeats 2000000
namespace Go.Proofs.YtjpnjchpdkogbaaGreatDoor
open Go.RowKit
theorem Ints.takeM {w:World}{B:Nat}{A:Option Addr}{xs:List Int}(h:Ints w B A xs)(j:Nat):Ints w B A (xs.take j):=by
 refine ⟨by have:=h.1;rw [List.length_take];omega,fun x hx=>h.2.1 x (List.mem_of_mem_take hx),fun hn=>?_⟩
 rw [List.length_take] at hn
 obtain ⟨b,off,e,hb,hc⟩:=h.2.2 (by omega)
 refine ⟨b,off,e,hb,fun i hi=>?_⟩
 rw [List.length_take] at hi
 rw [hc i (by omega),List.getD_eq_getElem?_getD,List.getD_eq_getElem?_getD,List.getElem?_take,if_pos (by omega)]
theorem Ints.none_ {w:World}{B:Nat}(A:Option Addr):Ints w B A []:=⟨Nat.zero_le _,(by intro x hx;cases hx),fun h=>absurd h (Nat.lt_irrefl 0)⟩
theorem zfz (A:Option Addr)(cap:Nat)(xs:List Int)(w:World)(B:Nat)(hA:Ints w B A xs)(h27:In27 xs)(hp:prd xs<=100000) :
  Calls Tryz.prog 234 #[.slice A xs.length cap] w fun e w'=>e = .returned (.int .i64 (prd xs))/\w=w':=by
 have hlen:=hA.1
 unfold maxLen at hlen
 have HC:=Zh hA.2.2
 have HP:=Zh (fun j=>And.intro (zc4 (h27.take j)) (zmg h27 j))
 have HX:=Zh (fun j (hj:j<xs.length)=>h27 (xs.getD j 0) (by rw [List.getD_eq_getElem?_getD,List.getElem?_eq_getElem hj];exact List.getElem_mem hj))
 have HT:=Zh (fun j x (hj:j<xs.length) (hx:xs.getD j 0=x)=>zul hj hx)
 have HE:=Zh (show prd (xs.take xs.length)=prd xs by rw [List.take_length])
 have HZ:=Zh (show prd (xs.take 0)=1 by rw [List.take_zero];rfl)
 generalize prd xs=P at *
 clear hA h27
 go_enter Tryz.func234,Tryz.ntmps234
 go_wp2
 go_loop [3,8] (fun s i=>∃ j:Nat,j<=xs.length/\i = .int .i64 j/\s = .int .i64 (prd (xs.take j))) (fun _ i=>xs.length-(intOf i).toNat)
 case atStart=>exact ⟨0,Nat.zero_le _,rfl,by rw [HZ.o]⟩
 case round =>
  obtain ⟨j,hj,rfl,rfl⟩:=hrel
  by_cases hlt:j<xs.length
  ·obtain ⟨b,off,rfl,hB,hc⟩:=HC.o (by omega)
   have hcell:=hc j hlt
   have hx:=HX.o j hlt
   have hp1:=HP.o (j+1)
   have hp0:=HP.o j
   obtain ⟨x,hxe⟩ : ∃ x,xs.getD j 0=x:=⟨_,rfl⟩
   rw [hxe] at hcell hx
   have hs:=HT.o j x hlt hxe
   rw [hs] at hp1
   have HS:=Zh hs
   generalize prd (xs.take j)=Q at *
   have hw:IntKind.i64.wrap (Q*x)=Q*x:=i64w (by omega)
   clear hc hxe hs
   go_wp2
   go_round
   case rel=>exact ⟨j+1,by omega,by go_num,by rw [HS.o]⟩
   case measure=>simp [intOf];omega
  ·have hjn:j=xs.length:=by omega
   subst hjn
   rw [HE.o]
   go_wp2
   go_ret
   exact ⟨rfl,rfl⟩
theorem zmo (A:Option Addr)(cap:Nat)(xs:List Int)(w:World)(hA:Ints w w.heap.size A xs)(hm:zbn xs) :
  Calls Tryz.prog 180 #[.slice A xs.length cap] w fun e w'=>e = .returned (.bool true)/\Below w.heap.size w w':=by
 have hab:allB xs 2 7=true:=by
  unfold allB
  rw [List.all_eq_true]
  intro x hx
  have:=hm.2.2.1 x hx
  exact za1 ⟨by omega,by omega⟩
 have HAW:=Zh (hab ▸ zfp A cap xs 2 7 w hA)
 have HPR:=Zh (fun V h=>zfz A cap xs V w.heap.size h hm.2.2.1 (by have:=hm.2.2.2;omega))
 have hin:inB (xs.length:Int) 1 5=true:=za1 ⟨by have:=hm.1;omega,by have:=hm.2.1;omega⟩
 have hle:prd xs<=24:=hm.2.2.2
 generalize prd xs=p at *
 have HA:=Zh hA
 clear hA hm hab
 go_enter Tryz.func180,Tryz.ntmps180
 go_wp2_with (go_at_call 22;refine (zac _ _ _ _).mono ?_;rintro e w' ⟨rfl,rfl⟩)
 refine HAW.o.mono ?_
 rintro e w1 ⟨rfl,hb⟩
 have HB:=Zh hb
 clear hb
 go_wp2_with fail
 refine (HPR.o _ (HA.o.below HB.o)).mono ?_
 rintro e w2 ⟨rfl,rfl⟩
 go_wp2_with fail
 go_ret
 exact ⟨by simp [hle],HB.o⟩
theorem zuy (N:Nat)(A A2:Option Addr)(cap c2:Nat)(bs xs:List Int)(w:World)(hA:Ints w w.heap.size A bs)(hX:Ints w w.heap.size A2 xs)(hok:RhOk N bs)(hm:zbn xs)(hp:prd xs=N) :
  Calls Tryz.prog 181 #[.agg #[.int .i64 N,.slice A bs.length cap],.slice A2 xs.length c2] w fun e w'=>e = .returned (.bool true)/\Below w.heap.size w w':=by
 have hn2:N<=24:=by have:=hok.2.1;omega
 have hfN:Fits (N:Int):=by unfold Fits;omega
 have hr:rhB N bs=true:=zao.2 hok
 have HRO:=Zh (fun V h=>hr ▸ zav N A cap bs V hfN h)
 have HMO:=Zh (fun V h=>zmo A2 c2 xs V h hm)
 have HPR:=Zh (fun V h=>hp ▸ zfz A2 c2 xs V V.heap.size h hm.2.2.1 (by have:=hm.2.2.2;omega))
 have HBW:=Zh ((Below.refl w.heap.size w).alloc (Nat.le_refl _) (.cells #[.int .i64 N,.slice A (bs).length cap] 27))
 have HVA:=Zh (Hav.boxed hA N cap)
 have HVX:=Zh (hX.lift HBW.o)
 clear hA hX hok hm hr
 obtain ⟨⟨p0,p1,_,_,_⟩,_⟩:=HVA.o
 go_enter Tryz.func181,Tryz.ntmps181
 go_wp2_with fail
 generalize w.alloc (.cells #[.int .i64 N,.slice A (bs).length cap] 27)=W at *
 have HBW:=Zh (Below.drewH_ HBW.o)
 have HVA:=Zh HVA.o.drew
 have HVX:=Zh (show Ints W.drew W.drew.heap.size A2 xs from HVX.o)
 (refine wp_region_held_drew (S:=(fun w'=>w'.cell? ⟨w.heap.size,0,none⟩=some (.int .i64 N)/\w'.cell? ⟨w.heap.size,1,none⟩=some (.slice A bs.length cap))) (by kernel_rfl) ?_ (fun hHeld=>?_);(focus ((try dsimp only);exact ⟨p0,p1⟩)))
 (refine Zk 0 ?_;(try simp only [Act.put,Zz]))
 (refine wpAnyH_ready (rs:=[1]) (by kernel_rfl) (by simp) ?_;refine AllReadyH.cons rfl (fun K hK=>?_) AllReadyH.nil;go_simp)
 go_at_call 98
 refine (HRO.o _ HVA.o.2).mono ?_
 rintro e w1 ⟨rfl,hb⟩
 have HBW:=Zh (HBW.o.trans (hb.mono HBW.o.size))
 try have HVA:=Zh (HVA.o.lift hb)
 try have HVX:=Zh (HVX.o.lift hb)
 clear hb
 clear p0 p1
 obtain ⟨⟨p0,p1,_,_,_⟩,_⟩:=HVA.o
 go_wp2_with fail
 (refine hK.out _ _ ?_ fun hHeld2=>?_;(focus ((try dsimp only);exact ⟨p0,p1⟩));(clear hK K);(try simp only [Act.put,Zz]))
 ((refine Zk 2 ?_;(try simp only [Act.put,Zz]));(refine Zk 3 ?_;(try simp only [Act.put,Zz])))
 (refine wpAnyH_ready (rs:=[4]) (by kernel_rfl) (by simp) ?_;refine AllReadyH.cons rfl (fun K hK=>?_) AllReadyH.nil;go_simp)
 go_at_call 180
 refine (HMO.o _ HVX.o).mono ?_
 rintro e w2 ⟨rfl,hb⟩
 have HBW:=Zh (HBW.o.trans (hb.mono HBW.o.size))
 try have HVA:=Zh (HVA.o.lift hb)
 try have HVX:=Zh (HVX.o.lift hb)
 clear hb
 clear p0 p1
 obtain ⟨⟨p0,p1,_,_,_⟩,_⟩:=HVA.o
 go_wp2_with fail
 (refine hK.out _ _ ?_ fun hHeld2=>?_;(focus ((try dsimp only);exact ⟨p0,p1⟩));(clear hK K);(try simp only [Act.put,Zz]))
 ((refine Zk 5 ?_;(try simp only [Act.put,Zz]));(refine Zk 6 ?_;(try simp only [Act.put,Zz]));(refine Zk 7 ?_;(try simp only [Act.put,Zz]));(refine Zk 8 ?_;(try simp only [Act.put,Zz]));(refine Zk 9 ?_;(try simp only [Act.put,Zz])))
 (refine wpAnyH_ready (rs:=[10]) (by kernel_rfl) (by simp) ?_;refine AllReadyH.cons rfl (fun K hK=>?_) AllReadyH.nil;go_simp)
 go_at_call 234
 refine (HPR.o _ HVX.o).mono ?_
 rintro e w3 ⟨rfl,rfl⟩
 go_wp2_with fail
 (refine hK.out _ _ ?_ fun hHeld2=>?_;(focus ((try dsimp only);exact ⟨p0,p1⟩));(clear hK K);(try simp only [Act.put,Zz]))
 ((refine Zk 11 ?_;(try simp only [Act.put,Zz]));(refine Zk 12 ?_;(try simp only [Act.put,Zz]));(refine Zk 13 ?_;(try simp only [Act.put,Zz])))
 refine wpAnyH_done (by kernel_rfl) ?_ _
 go_wp2_with fail
 go_ret
 exact ⟨by simp,HBW.o⟩
def layL (U m:Nat):List Int:=(List.range m).map fun i=>((i*U:Nat):Int)
theorem zmp (U m:Nat):layL U (m+1)=layL U m++[((m*U:Nat):Int)]:=by simp [layL,List.range_succ]
theorem zbg (U m:Nat):(layL U m).length=m:=by simp [layL]
theorem zf2 (U:Nat){m i:Nat}(hi:i<m):(layL U m).getD i 0=((i*U:Nat):Int):=by
 unfold layL
 rw [List.getD_eq_getElem?_getD,List.getElem?_eq_getElem (by simpa using hi)]
 simp
theorem zih (k U n:Nat)(w:World)(hk:1<=k)(hU:1<=U)(hn:k*U=n)(hn2:n<=24) :
  Calls Tryz.prog 109 #[.int .i64 k,.int .i64 n] w (zbr w n (layL U k)):=by
 have hk24:k<=24:=by
  have:=Nat.mul_le_mul_left k hU
  omega
 have hk0:((k:Int)=0)=False:=eq_false (by omega)
 have hk00:(k=0)=False:=eq_false (by omega)
 have hkz:((k:Int)==0)=false:=beq_eq_false_iff_ne.2 (by omega)
 have HKU:=Zh hn
 clear hn
 go_enter Tryz.func109,Tryz.ntmps109
 go_wp2_with fail
 go_loopw [10] (fun i wr=>∃ (q:Nat) (v:Value),q<=k/\i = .int .i64 q/\Cells2 wr (w.heap.size+1) (.int .i64 n) v/\OwnI wr (w.heap.size+2) v (layL U q)/\(∃ u1 u2,Cells2 wr w.heap.size u1 u2)/\Below w.heap.size w wr/\w.heap.size+2<=wr.heap.size) (fun i _=>k-(intOf i).toNat)
 case atStart =>
  refine ⟨0,.slice none 0 0,Nat.zero_le _,rfl,Cells2.new_at _ _ _ _ _ (by simp),OwnI.nil _ _,⟨_,_,(Cells2.new w _ _ _).alloc _⟩,?_,by simp⟩
  exact ((Below.refl _ _).alloc (Nat.le_refl _) _).alloc (by first | exact Nat.le_refl _ | (simp;done) | (simp;omega) | omega) _
 case round =>
  obtain ⟨q,v,hq,rfl,hc2,hown,⟨u1,u2,hc1⟩,hbel,hsz⟩:=hrel
  obtain ⟨wo,rfl⟩ : ∃ wo:World,wo=wr:=⟨_,rfl⟩
  have HC2:=Zh hc2
  have HC1:=Zh hc1
  have HOW:=Zh hown
  have HBE:=Zh hbel
  obtain ⟨g0,g1,g2,g3,g4⟩:=HC2.o
  obtain ⟨A1,c1,rfl⟩:=hown.form
  rw [zbg] at HC2 g1
  clear hc2 hown hbel hc1
  by_cases hlt:q<k
  ·have hqn:q*n<=576:=Nat.le_trans (Nat.mul_le_mul (show q<=24 by omega) hn2) (by decide)
   have HSU:=Zh (zmp U q)
   have hp0:(q:Int)*(n:Int)=((q*n:Nat):Int):=by push_cast;rfl
   obtain ⟨D,hD⟩ : ∃ D,q*U=D:=⟨_,rfl⟩
   have hpd:q*n / k=D:=by
    rw [<- HKU.o,<- hD,show q*(k*U)=q*U*k by rw [Nat.mul_comm k U,Nat.mul_assoc],Nat.mul_div_cancel _ hk]
   obtain ⟨P,hP⟩ : ∃ P,q*n=P:=⟨_,rfl⟩
   rw [hP] at hp0 hqn hpd
   rw [hD] at HSU
   have hDl:D<=2000:=by rw [<- hpd];exact Nat.le_trans (Nat.div_le_self _ _) (by omega)
   have hw1:IntKind.i64.wrap ((q:Int)*(n:Int))=P:=by rw [hp0];exact i64w (by omega)
   have hw2b:IntKind.i64.wrap (P:Int)=(P:Int):=i64w (by omega)
   have hdv:Int.tdiv (P:Int) k=(D:Int):=by rw [Int.tdiv_eq_ediv_of_nonneg (by omega),<- hpd,Int.natCast_ediv]
   have hw3:IntKind.i64.wrap (D:Int)=D:=i64w (by omega)
   have hll:(layL U q).length<=1048576:=by rw [zbg];omega
   clear hP hD hpd
   go_wp2_with fail
   have hal:=(Below.refl wo.drew.heap.size wo.drew).alloc (Nat.le_refl _) (.cells #[.int .i64 D] 3)
   have HC3:=Zh ((show Cells2 wo.drew (w.heap.size+1) (.int .i64 n) (.slice A1 q c1) from HC2.o).below hal g4)
   have HC4:=Zh ((show Cells2 wo.drew w.heap.size u1 u2 from HC1.o).below hal (by show w.heap.size<wo.heap.size;omega))
   have HOW3:=Zh ((OwnI.alloc (show OwnI wo.drew (w.heap.size+2) (.slice A1 (layL U q).length c1) (layL U q) from HOW.o)) (.cells #[.int .i64 D] 3))
   have HBE3:=Zh ((Below.drew5_ HBE.o).trans (hal.mono (show w.heap.size<=wo.heap.size by omega)))
   have HNW:=Zh (zag wo.drew (.int .i64 D) 3)
   have hsd:w.heap.size+2<=wo.drew.heap.size:=hsz
   have hzz:w.heap.size+2<=(wo.drew.alloc (.cells #[.int .i64 D] 3)).heap.size:=by rw [World.size_alloc];omega
   rw [zbg] at HOW3
   clear hal
   obtain ⟨r0,r1,r2,r3,_⟩:=HC3.o
   go_region_law (refine zc0 (by rfl) _ _ (by rfl) (w.heap.size+2) _ (layL U q) (by rfl) HOW3.o _ D (by rfl) HNW.o hll hzz ?_;intro v' w4 hown4 hb4;obtain ⟨A2,c2,rfl⟩:=hown4.form;obtain ⟨s0,s1,s2,s3,_⟩:=HC3.o.below hb4 (by omega))
   all_goals
    have hl4:(layL U q++[(D:Int)]).length=(layL U q).length+1:=by simp
    rw [hl4] at hown4
    have hz4:=hb4.size
    have HX:=Zh ((HC3.o.below hb4 (by omega)).set1 (.slice A2 ((layL U q).length+1) c2))
    have HY:=Zh ((HC4.o.below hb4 (by omega)).far (p:=⟨w.heap.size+1,1,none⟩) (by simp) (.slice A2 ((layL U q).length+1) c2))
    have HOW6:=Zh (hown4.far (p:=⟨w.heap.size+1,1,none⟩) (by simp) (.slice A2 ((layL U q).length+1) c2))
    have HBE6:=Zh ((HBE3.o.trans (hb4.mono (by omega))).setCell (p:=⟨w.heap.size+1,1,none⟩) (by simp) (.slice A2 ((layL U q).length+1) c2))
    have hz6:w.heap.size+2<=(w4.setCell ⟨w.heap.size+1,1,none⟩ (.slice A2 ((layL U q).length+1) c2)).heap.size:=by simp [World.setCell];omega
    clear hown4 hb4 hl4 r0 r1 r2 r3 s0 s1 s2 s3 g0 g1 g2 g3
    go_wp2_with fail
    go_roundw
    case rel=>exact ⟨q+1,_,by omega,by go_num,HX.o,by rw [HSU.o];exact HOW6.o,⟨u1,u2,HY.o⟩,HBE6.o,hz6⟩
    case measure=>simp [intOf];omega
  ·have hqe:q=k:=by omega
   subst hqe
   obtain ⟨f0,f1,f2,f3,f4⟩:=HC1.o
   rw [zbg] at HOW
   go_wp2_with fail
   refine bodyPost_ret (v:=.agg #[.int .i64 n,.slice A1 q c1]) (by simp [results,Tryz.results109,go_sem,f0,f1]) rfl ?_
   refine ⟨A1,c1,by rw [zbg],?_,?_⟩
   ·have hr:=((HOW.o.far (p:=⟨w.heap.size,0,none⟩) (by simp) (.int .i64 n)).far (p:=⟨w.heap.size,1,none⟩) (by simp) (.slice A1 q c1))
    have hr2:=OwnI.rw_ (xs:=layL U q) (cap:=c1) (A:=A1) (by rw [zbg];exact hr) (by rw [zbg];omega)
    exact hr2.mono (by omega)
   ·exact (HBE.o.setCell (Nat.le_refl _) _).setCell (Nat.le_refl _) _
theorem zuz (A:Option Addr)(cap:Nat)(xs:List Int)(N:Nat)(w:World)(hA:Ints w w.heap.size A xs)(hm:zbn xs)(hN:prd xs=N)(hcap:xs.length<=cap) :
  Calls Tryz.prog 182 #[.slice A xs.length cap] w fun e w'=>∃ A' c,e = .returned (.slice A' N c)/\Ints w' w'.heap.size A' (wgtL xs)/\Below w.heap.size w w':=by
 have hn24:N<=24:=by have:=hm.2.2.2;omega
 have hx5:=hm.2.1
 obtain ⟨bx,ox,rfl,hbx,hxc⟩:=hA.2.2 (show 0<xs.length by have:=hm.1;omega)
 have HPR:=Zh (fun V h=>hN ▸ zfz (some ⟨bx,ox,none⟩) cap xs V w.heap.size h hm.2.2.1 (by have:=hm.2.2.2;omega))
 have HPT:=Zh (fun (i:Nat) K V (hK:prd (xs.take (i+1))=K) h=>hK ▸ zfz (some ⟨bx,ox,none⟩) cap (xs.take (i+1)) V w.heap.size h (hm.2.2.1.take _) (by have:=zmg hm.2.2.1 (i+1);have:=hm.2.2.2;omega))
 have HMP:=Zh (fun i (hi:i<xs.length)=>zux hm hi)
 have HWL:=Zh (show wgtL xs=wgtF xs N by unfold wgtL;rw [hN,Int.toNat_natCast])
 have HA:=Zh hA
 have HN:=Zh hN
 have hmk:=fun V:World=>zda N (by omega) V
 clear hA hm hN hxc
 go_enter Tryz.func182,Tryz.ntmps182
 go_wp2_with fail
 refine (HPR.o _ HA.o).mono ?_
 rintro e w1 ⟨rfl,rfl⟩
 go_wp2_with fail
 have HT0:=Zh (zee w N 3)
 have HB0:=Zh ((Below.refl w.heap.size w).alloc (Nat.le_refl _) (.cells (madeCells #[.int .i64 0] N) 3))
 generalize w.alloc (.cells (madeCells #[.int .i64 0] N) 3)=W at *
 go_loopw [12] (fun i wr=>∃ j:Nat,j<=xs.length/\i = .int .i64 j/\Tab wr w.heap.size N (fun p=>cwM xs p j)/\Below w.heap.size w wr) (fun i _=>xs.length-(intOf i).toNat)
 case atStart=>exact ⟨0,Nat.zero_le _,rfl,HT0.o,HB0.o⟩
 case round =>
  obtain ⟨j,hj,rfl,htab,hbel⟩:=hrel
  obtain ⟨wo,rfl⟩ : ∃ wo:World,wo=wr:=⟨_,rfl⟩
  have HT:=Zh htab
  have HB:=Zh hbel
  have hws:w.heap.size<wo.heap.size:=htab.1
  clear htab hbel
  by_cases hlt:j<xs.length
  ·obtain ⟨K,U,hK,hU,hK1,hU1,hKU⟩:=HMP.o j hlt
   have hKN:K*U=N:=by have:=HN.o;omega
   have hK24:K<=24:=by have:=Nat.le_mul_of_pos_right K hU1;omega
   have HPJ:=Zh (fun V h=>HPT.o j K V hK h)
   have HLY:=Zh (fun V=>zih K U N V hK1 hU1 hKN hn24)
   have HIT:=Zh ((HA.o.below HB.o).takeM (j+1))
   have hji:(j:Int)<(xs.length:Int):=by omega
   have htl:(xs.take (j+1)).length=j+1:=by rw [List.length_take];omega
   rw [htl] at HPJ
   have hw1:IntKind.i64.wrap ((j:Int)+1)=((j+1:Nat):Int):=by rw [i64w (by omega)];omega
   have HUN:=Zh hU
   have HKN:=Zh hKN
   have hj0:(0:Int)<=((j+1:Nat):Int):=Int.natCast_nonneg _
   have hjc:((j+1:Nat):Int)<=(cap:Int):=by omega
   clear hK hU hKU hKN htl
   go_wp2_with fail
   refine (HPJ.o _ HIT.o).mono ?_
   rintro e w2 ⟨rfl,rfl⟩
   have hfd : ∀ (V:World) A' c',(Instr.field 27 (.agg #[.int .i64 N,.slice A' K c']) 1).run Tryz.prog V = .ok (.slice A' K c') V:=fun _ _ _=>by kernel_rfl
   go_wp2_with fail
   refine (HLY.o _).mono ?_
   rintro e w3 ⟨AL,cL,rfl,hrw,hb⟩
   rw [zbg]
   have hz3:=hb.size
   obtain ⟨bl,hAL,hbl,htl⟩:=hrw.2 (by rw [zbg];omega)
   subst hAL
   rw [zbg] at htl
   have HL3:=Zh htl
   have HT3:=Zh (HT.o.below hb hws)
   have HB3:=Zh (HB.o.trans (hb.mono (by omega)))
   clear hrw hb htl
   go_wp2_with fail
   go_loopw [25] (fun i wr=>∃ t:Nat,t<=K/\i = .int .i64 t/\Tab wr w.heap.size N (fun p=>cntP xs U j t p)/\Tab wr bl K (fun t=>(layL U K).getD t 0)/\Below w.heap.size w wr) (fun i _=>K-(intOf i).toNat)
   case atStart=>exact ⟨0,Nat.zero_le _,rfl,HT3.o.congr (fun p _=>(zus xs U j p).symm),HL3.o,HB3.o⟩
   case round =>
    obtain ⟨t,ht,rfl,htb,hlb,hbb⟩:=hrel
    obtain ⟨wi,rfl⟩ : ∃ wi:World,wi=wr:=⟨_,rfl⟩
    have HTI:=Zh htb
    have HLI:=Zh hlb
    have HBI:=Zh hbb
    clear htb hlb hbb
    by_cases hltt:t<K
    ·have hlc:=HLI.o.get hltt (zf2 U hltt)
     have hpN:t*U<N:=by
      rw [<- HKN.o]
      exact Nat.mul_lt_mul_of_pos_right hltt hU1
     obtain ⟨v,hv⟩ : ∃ v,cntP xs U j t (t*U)=v:=⟨_,rfl⟩
     have hvr:=zuw xs U j t (t*U)
     have hat:=zut xs hU1 j t
     rw [hv] at hvr hat
     have htc:=HTI.o.get hpN hv
     have htf:=HTI.o.frz hpN
     have HNE:=Zh (fun p (hp:p≠t*U)=>zuu xs hU1 j t hp)
     obtain ⟨q,hq⟩ : ∃ q,t*U=q:=⟨_,rfl⟩
     rw [hq] at hlc hpN hat htc htf HNE
     have hqi:((q:Nat):Int)<(N:Int):=by omega
     have hq0:(0:Int)<=(q:Int):=Int.natCast_nonneg _
     have hw2:IntKind.i64.wrap (v+1)=v+1:=i64w (by omega)
     have hti:(t:Int)<(K:Int):=by omega
     have HAT:=Zh hat
     clear hv hq hat
     go_wp2_with fail
     have HT5:=Zh (HTI.o.set_ (g:=fun p=>cntP xs U j (t+1) p) q (v+1) hpN HAT.o (fun p _ hp=>HNE.o p hp))
     have HL5:=Zh (HLI.o.far (p:=⟨w.heap.size,q,none⟩) (show bl≠w.heap.size by omega) (.int .i64 (v+1)))
     have HB5:=Zh (HBI.o.setCell (p:=⟨w.heap.size,q,none⟩) (Nat.le_refl _) (.int .i64 (v+1)))
     go_roundw
     case rel=>exact ⟨t+1,by omega,by go_num,HT5.o,HL5.o,HB5.o⟩
     case measure=>simp [intOf];omega
    ·have htK:t=K:=by omega
     subst htK
     have hti : ¬ (t:Int)<(t:Int):=by omega
     have HT5:=Zh (HTI.o.congr (g:=fun p=>cwM xs p (j+1)) (fun p hp=>zuv xs HUN.o hU1 (by rw [HKN.o];exact hp)))
     go_wp2_with fail
     go_roundw
     case rel=>exact ⟨j+1,by omega,by go_num,HT5.o,HBI.o⟩
     case measure=>simp [intOf];omega
  ·have hje:j=xs.length:=by omega
   subst hje
   have HI:=Zh (show Ints wo wo.heap.size (some ⟨w.heap.size,0,none⟩) (wgtL xs) by
    rw [HWL.o]
    refine ⟨by rw [zib];unfold maxLen;omega,fun x hx=>?_,fun _=>⟨w.heap.size,0,rfl,hws,fun i hi=>?_⟩⟩
    ·unfold wgtF at hx
     rw [List.mem_map] at hx
     obtain ⟨p,_,rfl⟩:=hx
     have:=zfx xs p xs.length
     unfold Fits;omega
    ·rw [zib] at hi
     rw [Nat.zero_add,zmh xs hi]
     exact (HT.o.2 i hi).1)
   go_wp2_with fail
   go_ret
   exact ⟨_,N,rfl,HI.o,HB.o⟩
end Go.Proofs.YtjpnjchpdkogbaaGreatDoor
namespace Go.Proofs.YtjpnjchpdkogbaaGreatDoor
open Go.RowKit
def psL (xs:List Int)(m:Nat):List Int:=(List.range m).map fun i=>sumX xs i
theorem zu0 (xs:List Int)(m:Nat):psL xs (m+1)=psL xs m++[sumX xs m]:=by simp [psL,List.range_succ]
theorem zdh (xs:List Int)(m:Nat):(psL xs m).length=m:=by simp [psL]
theorem zu1 {xs:List Int}{m:Nat}(hm:m<=xs.length)(h : ∀ x∈xs,0<=x/\x<=1000)(hl:xs.length<=1000) : ∀ y∈psL xs m,Fits y:=by
 intro y hy
 unfold psL at hy
 rw [List.mem_map] at hy
 obtain ⟨i,hi,rfl⟩:=hy
 rw [List.mem_range] at hi
 have:=zep h i (by omega)
 unfold Fits
 omega
def RetRhO (w:World)(o:Option (Nat × List Int))(e:Ending)(w':World):Prop:=RetRh2 w ((o.map (·.1)).getD 0:Nat) ((o.map (·.2)).getD []) o.isSome e w'
theorem RetRhO.none_ {w w':World}{A:Option Addr}{c:Nat}(hb:Below w.heap.size w w'):RetRhO w none (.returned (.tuple #[.agg #[.int .i64 0,.slice A 0 c],.bool false])) w' :=
 ⟨A,c,rfl,⟨Nat.zero_le _,fun h=>absurd h (Nat.lt_irrefl 0)⟩,hb⟩
noncomputable def frsV (xs:List Int):Option (Nat × List Int):=if rhB (sumX xs xs.length) (psL xs xs.length) then some ((sumX xs xs.length).toNat,psL xs xs.length) else none
theorem zu2 (A:Option Addr)(cap:Nat)(xs:List Int)(w:World)(hA:Ints w w.heap.size A xs)(h1:1<=xs.length)(h2:xs.length<=24)(hx:allB xs 1 24=true) :
  Calls Tryz.prog 167 #[.slice A xs.length cap,.int .i64 0] w (RetRhO w (frsV xs)):=by
 have hxx : ∀ x∈xs,0<=x/\x<=1000:=fun x h=>by
  have:=zan.1 (List.all_eq_true.1 hx x h)
  omega
 have HSF:=Zh (fun i hi=>zep hxx i hi)
 have HSO:=Zh (fun V (h:Ints V w.heap.size A xs)=>zmc A cap xs V w.heap.size h hxx (by omega))
 have HFT:=Zh (zu1 (Nat.le_refl xs.length) hxx (by omega))
 obtain ⟨S,hS⟩ : ∃ S,sumX xs xs.length=S:=⟨_,rfl⟩
 have hSb:=HSF.o xs.length (Nat.le_refl _)
 have HV:=Zh (show frsV xs=if rhB (sumX xs xs.length) (psL xs xs.length) then some ((sumX xs xs.length).toNat,psL xs xs.length) else none from rfl)
 generalize frsV xs=FV at *
 rw [hS] at HSO hSb HV
 have HRO:=Zh (fun (A2:Option Addr) (c2:Nat) V hV=>zav S A2 c2 (psL xs xs.length) V (by unfold Fits;omega) hV)
 have HC:=Zh hA.2.2
 have hnz:((xs.length:Int)=0)=False:=eq_false (by omega)
 have hnz2:(xs.length=0)=False:=eq_false (by omega)
 have hl24 : ¬ (24:Int)<(xs.length:Int):=by omega
 have hbz:((xs.length:Int)==0)=false:=beq_eq_false_iff_ne.2 (by omega)
 have hd24:decide ((24:Int)<(xs.length:Int))=false:=decide_eq_false hl24
 have HAW:=Zh (fun V (hb:Below w.heap.size w V)=>zfp A cap xs 1 24 V (hA.lift hb))
 rw [hx] at HAW
 have HA:=Zh hA
 have HZ0:=Zh (Cells2.new w (.int .i64 0) (.slice none 0 0) 27)
 have HB0:=Zh ((Below.refl w.heap.size w).alloc (Nat.le_refl _) (.cells #[.int .i64 0,.slice none 0 0] 27))
 clear hA hx hxx hS
 go_enter Tryz.func167,Tryz.ntmps167
 go_wp2_with (go_at_call 225;refine (HAW.o _ HB0.o).mono ?_;rintro e w1 ⟨rfl,hb1⟩)
 have HB1:=Zh (HB0.o.trans (hb1.mono HB0.o.size))
 have HZ1:=Zh (HZ0.o.below hb1 HZ0.o.2.2.2.2)
 have hlt1:w.heap.size<w1.heap.size:=HZ1.o.2.2.2.2
 clear hb1
 go_wp2_with (go_at_call 226;refine (HSO.o _ (HA.o.below HB1.o)).mono ?_;rintro e w2 ⟨rfl,rfl⟩)
 have HZ2:=Zh (HZ1.o.alloc (.cells #[.int .i64 S,.slice none 0 0] 27))
 have HY2:=Zh (Cells2.new w2 (.int .i64 S) (.slice none 0 0) 27)
 have HB2:=Zh (HB1.o.alloc HB1.o.size (.cells #[.int .i64 S,.slice none 0 0] 27))
 go_loopw [1,32] (fun f i wr=>∃ (q:Nat) (v:Value),q<=xs.length/\i = .int .i64 q/\f = .int .i64 (sumX xs q)/\Cells2 wr w2.heap.size (.int .i64 S) v/\OwnI wr (w2.heap.size+1) v (psL xs q)/\Cells2 wr w.heap.size (.int .i64 0) (.slice none 0 0)/\Below w.heap.size w wr/\w2.heap.size+1<=wr.heap.size) (fun _ i _=>xs.length-(intOf i).toNat)
 case atStart=>exact ⟨0,.slice none 0 0,Nat.zero_le _,rfl,rfl,HY2.o,OwnI.nil _ _,HZ2.o,HB2.o,by simp⟩
 case round =>
  obtain ⟨q,v,hq,rfl,rfl,hc2,hown,hc1,hbel,hsz⟩:=hrel
  obtain ⟨wo,rfl⟩ : ∃ wo:World,wo=wr:=⟨_,rfl⟩
  have HC2:=Zh hc2
  have HC1:=Zh hc1
  have HOW:=Zh hown
  have HBE:=Zh hbel
  obtain ⟨g0,g1,g2,g3,g4⟩:=HC2.o
  obtain ⟨A1,c1,rfl⟩:=hown.form
  rw [zdh] at HC2 g1
  clear hc2 hown hbel hc1
  by_cases hlt:q<xs.length
  ·obtain ⟨b0,off,rfl,hB,hc⟩:=HC.o (by omega)
   have hck:=hc q hlt
   rw [<- HBE.o.cell (p:=⟨b0,off+q,none⟩) hB] at hck
   have HSU:=Zh (zu0 xs q)
   have hS2:sumX xs (q+1)=sumX xs q+xs.getD q 0:=rfl
   have hb0:=HSF.o q (by omega)
   have hb1:=HSF.o (q+1) (by omega)
   obtain ⟨x,hx⟩ : ∃ x,xs.getD q 0=x:=⟨_,rfl⟩
   rw [hx] at hck hS2
   obtain ⟨F,hF⟩ : ∃ F,sumX xs q=F:=⟨_,rfl⟩
   rw [hF] at hS2 HSU hb0 ⊢
   have hw1:IntKind.i64.wrap (F+x)=F+x:=i64w (by omega)
   have HS2:=Zh hS2
   have hll:(psL xs q).length<=1048576:=by rw [zdh];omega
   have HOW3:=Zh (show OwnI wo (w2.heap.size+1) (.slice A1 q c1) (psL xs q) by have h:=HOW.o;rw [zdh] at h;exact h)
   clear hx hF hS2 hc hb0 hb1 HOW
   go_wp2_with (at_builtin;refine za4 rfl (.tmp 37) (.tmp 39) rfl (w2.heap.size+1) _ (psL xs q) rfl (HOW3.o.alloc _) _ F rfl (zag _ _ _) (by rw [zdh];omega) (by simp;omega) ?_;intro v' w4 hown4 hb4;obtain ⟨A2,c2,rfl⟩:=hown4.form;obtain ⟨s0,s1,s2,s3,_⟩:=(HC2.o.alloc (.cells #[.int .i64 F] 3)).below hb4 (by omega))
   have hl4:(psL xs q++[F]).length=q+1:=by simp [zdh]
   rw [hl4] at hown4
   have hz4:=hb4.size
   have HX:=Zh (((HC2.o.alloc (.cells #[.int .i64 F] 3)).below hb4 (by omega)).set1 (.slice A2 (q+1) c2))
   have HY:=Zh (((HC1.o.alloc (.cells #[.int .i64 F] 3)).below hb4 (by omega)).far (p:=⟨w2.heap.size,1,none⟩) (by simp;omega) (.slice A2 (q+1) c2))
   have HOW6:=Zh (hown4.far (p:=⟨w2.heap.size,1,none⟩) (by simp) (.slice A2 (q+1) c2))
   have HBE6:=Zh (((HBE.o.alloc HBE.o.size (.cells #[.int .i64 F] 3)).trans (hb4.mono (by omega))).setCell (p:=⟨w2.heap.size,1,none⟩) (by show w.heap.size<=w2.heap.size;omega) (.slice A2 (q+1) c2))
   have hz6:w2.heap.size+1<=(w4.setCell ⟨w2.heap.size,1,none⟩ (.slice A2 (q+1) c2)).heap.size:=by simp [World.setCell];simp at hz4;omega
   clear hown4 hb4 s0 s1 s2 s3 g0 g1 g2 g3
   go_wp2_with fail
   go_roundw
   case rel =>
    rw [zdh]
    exact ⟨q+1,_,by omega,by go_num,by rw [HS2.o],HX.o,by rw [HSU.o];exact HOW6.o,HY.o,HBE6.o,hz6⟩
   case measure=>simp [intOf];omega
  ·have hqe:q=xs.length:=by omega
   subst hqe
   obtain ⟨f0,f1,f2,f3,f4⟩:=HC1.o
   have HIN:=Zh (HOW.o.ints HFT.o)
   have HLN:=Zh (zdh xs xs.length)
   rw [HLN.o] at HOW
   cases hr:rhB S (psL xs xs.length)
   ·rw [hr] at HRO HV
    have HV2:=Zh (show FV=none from HV.o)
    generalize psL xs xs.length=L at *
    go_wp2_with (go_at_call 98;refine (HLN.o ▸ HRO.o _ _ _ HIN.o).mono ?_;rintro e w5 ⟨rfl,hb5⟩;obtain ⟨x0,x1,x2,x3,_⟩:=HC1.o.below hb5 f4)
    have HE:=Zh (((HC1.o.below hb5 f4).set0 (.int .i64 0)).set1 (.slice none 0 0))
    obtain ⟨y0,y1,_,_,_⟩:=HE.o
    refine bodyPost_ret (v:=.tuple #[.agg #[.int .i64 0,.slice none 0 0],.bool false]) (by simp [results,Tryz.results167,go_sem,y0,y1]) rfl ?_
    rw [HV2.o]
    exact RetRhO.none_ (((HBE.o.trans (hb5.mono HBE.o.size)).setCell (p:=⟨w.heap.size,0,none⟩) (Nat.le_refl _) _).setCell (p:=⟨w.heap.size,1,none⟩) (Nat.le_refl _) _)
   ·rw [hr] at HRO HV
    have HV2:=Zh (show FV=some (S.toNat,psL xs xs.length) from HV.o)
    have hSn:((S.toNat:Nat):Int)=S:=Int.toNat_of_nonneg hSb.1
    have hRW:=HOW.o
    generalize psL xs xs.length=L at *
    have HRW:=Zh (OwnI.rw_ (by rw [HLN.o];exact hRW) (by rw [HLN.o];omega))
    clear hRW
    go_wp2_with (go_at_call 98;refine (HLN.o ▸ HRO.o _ _ _ HIN.o).mono ?_;rintro e w5 ⟨rfl,hb5⟩;obtain ⟨x0,x1,x2,x3,_⟩:=HC1.o.below hb5 f4;obtain ⟨z0,z1,z2,z3,_⟩:=HC2.o.below hb5 g4)
    have HE:=Zh (((HC1.o.below hb5 f4).set0 (.int .i64 S)).set1 (.slice A1 xs.length c1))
    obtain ⟨y0,y1,_,_,_⟩:=HE.o
    refine bodyPost_ret (v:=.tuple #[.agg #[.int .i64 S,.slice A1 xs.length c1],.bool true]) (by simp [results,Tryz.results167,go_sem,y0,y1]) rfl ?_
    rw [HV2.o]
    refine ⟨A1,c1,?_,?_,((HBE.o.trans (hb5.mono HBE.o.size)).setCell (p:=⟨w.heap.size,0,none⟩) (Nat.le_refl _) _).setCell (p:=⟨w.heap.size,1,none⟩) (Nat.le_refl _) _⟩
    ·simp [hSn,HLN.o]
    ·have h5:=HRW.o.below hb5
     have hlt9:w.heap.size<w2.heap.size+1:=by omega
     have h6:=(h5.far (p:=⟨w.heap.size,0,none⟩) hlt9 (.int .i64 S)).far (p:=⟨w.heap.size,1,none⟩) hlt9 (.slice A1 xs.length c1)
     exact h6.mono (by omega)
noncomputable def brhV (xs:List Int):Option (Nat × List Int):=if barB xs then frsV xs else none
theorem zu3 (A:Option Addr)(cap:Nat)(xs:List Int)(w:World)(hA:Ints w w.heap.size A xs) :
  Calls Tryz.prog 111 #[.slice A xs.length cap] w (RetRhO w (brhV xs)):=by
 have HB0:=Zh ((Below.refl w.heap.size w).alloc (Nat.le_refl _) (.cells #[.int .i64 0,.slice none 0 0] 27))
 have HZ0:=Zh (Cells2.new w (.int .i64 0) (.slice none 0 0) 27)
 have HOK:=Zh (zmd A cap xs _ (hA.lift HB0.o))
 cases hb:barB xs
 ·have HV:=Zh (show brhV xs=none by unfold brhV;rw [hb];rfl)
  rw [hb] at HOK
  rw [HV.o]
  clear hA hb
  go_enter Tryz.func111,Tryz.ntmps111
  go_wp2_with (go_at_call 166;refine HOK.o.mono ?_;rintro e w5 ⟨rfl,hb5⟩;obtain ⟨x0,x1,x2,x3,_⟩:=HZ0.o.below hb5 HZ0.o.2.2.2.2)
  have HE:=Zh (((HZ0.o.below hb5 HZ0.o.2.2.2.2).set0 (.int .i64 0)).set1 (.slice none 0 0))
  obtain ⟨y0,y1,_,_,_⟩:=HE.o
  refine bodyPost_ret (v:=.tuple #[.agg #[.int .i64 0,.slice none 0 0],.bool false]) (by simp [results,Tryz.results111,go_sem,y0,y1]) rfl ?_
  exact RetRhO.none_ (((HB0.o.trans (hb5.mono HB0.o.size)).setCell (p:=⟨w.heap.size,0,none⟩) (Nat.le_refl _) _).setCell (p:=⟨w.heap.size,1,none⟩) (Nat.le_refl _) _)
 ·have HV:=Zh (show brhV xs=frsV xs by unfold brhV;rw [hb];rfl)
  rw [hb] at HOK
  unfold barB at hb
  simp only [Bool.and_eq_true,decide_eq_true_eq] at hb
  obtain ⟨⟨⟨hl1,hl2⟩,hal⟩,_⟩:=hb
  have hal2:allB xs 1 24=true:=List.all_eq_true.2 fun x hx=>by
   have:=zan.1 (List.all_eq_true.1 hal x hx)
   exact zan.2 (by omega)
  have HF:=Zh (fun V (hb:Below w.heap.size w V)=>zu2 A cap xs V (hA.lift hb) hl1 (by omega) hal2)
  rw [HV.o]
  generalize frsV xs=o at *
  clear hA hal
  go_enter Tryz.func111,Tryz.ntmps111
  go_wp2_with (go_at_call 166;refine HOK.o.mono ?_;rintro e w5 ⟨rfl,hb5⟩)
  have HB5:=Zh (HB0.o.trans (hb5.mono HB0.o.size))
  have HZ5:=Zh (HZ0.o.below hb5 HZ0.o.2.2.2.2)
  go_wp2_with (go_at_call 167;refine (HF.o _ HB5.o).mono ?_;rintro e w6 ⟨A6,c6,rfl,hr6,hb6⟩;obtain ⟨x0,x1,x2,x3,_⟩:=HZ5.o.below hb6 HZ5.o.2.2.2.2)
  have HE:=Zh (((HZ5.o.below hb6 HZ5.o.2.2.2.2).set0 (.int .i64 ((o.map (·.1)).getD 0:Nat))).set1 (.slice A6 ((o.map (·.2)).getD []).length c6))
  obtain ⟨y0,y1,_,_,_⟩:=HE.o
  refine bodyPost_ret (v:=.tuple #[.agg #[.int .i64 ((o.map (·.1)).getD 0:Nat),.slice A6 ((o.map (·.2)).getD []).length c6],.bool o.isSome]) (by simp [results,Tryz.results111,go_sem,y0,y1]) rfl ?_
  have hlt9:w.heap.size<w5.heap.size:=HZ5.o.2.2.2.2
  have h6:=(hr6.far (p:=⟨w.heap.size,0,none⟩) hlt9 (.int .i64 ((o.map (·.1)).getD 0:Nat))).far (p:=⟨w.heap.size,1,none⟩) hlt9 (.slice A6 ((o.map (·.2)).getD []).length c6)
  exact ⟨A6,c6,rfl,h6.mono HB5.o.size,((HB5.o.trans (hb6.mono HB5.o.size)).setCell (p:=⟨w.heap.size,0,none⟩) (Nat.le_refl _) _).setCell (p:=⟨w.heap.size,1,none⟩) (Nat.le_refl _) _⟩
end Go.Proofs.YtjpnjchpdkogbaaGreatDoor
namespace Go.Proofs.YtjpnjchpdkogbaaGreatDoor
open Go.RowKit
noncomputable def becT (o:Option (Nat × List Int)):ByteArray:=match o with | none=>noneS | some (N,bs)=>mkS (zaj N bs (fun _=>120))
def Bec (w':World) (g:Nat) (n:Int) (R W:Value) (bad:Bool):Option (Nat × List Int)->Prop
 | none=>Con w' g n R W bad
 | some (N,bs)=>∃ A c,Con w' g N (.slice A bs.length c) W bad/\Ints w' w'.heap.size A bs /\ ∀ k o,A=some ⟨k,o,none⟩->0<bs.length->g<k
theorem RW.fits {w:World}{base:Nat}{A:Option Addr}{N:Nat}{bs:List Int}(h:RW w base A bs)(hok:RhOk N bs):Ints w w.heap.size A bs :=
 h.ints fun x hx=>by
  have h1:=zba hok x hx
  have h2:=hok.2.1
  unfold Fits
  omega
theorem zbc (g:Nat)(n:Int)(R W:Value)(bad:Bool)(o:Option (Nat × List Int))(A:Option Addr)(c base:Nat)(w:World)(hC:Con w g n R W bad)(hR:RW w base A ((o.map (·.2)).getD []))(hg:g<base)(hok : ∀ N bs,o=some (N,bs)->RhOk N bs) :
  Calls Tryz.prog 26 #[.pointer (some ⟨g,0,none⟩),.agg #[.int .i64 ((o.map (·.1)).getD 0:Nat),.slice A ((o.map (·.2)).getD []).length c],.bool o.isSome] w fun e w' =>
   e = .returned (.string (becT o))/\Bec w' g n R W bad o/\Frm (zaa g) w w':=by
 cases o with
 | none=>exact zma g n 0 R (.slice A 0 c) W bad w hC
 | some p =>
  obtain ⟨N,bs⟩:=p
  have hk:=hok N bs rfl
  have hI:=RW.fits hR hk
  have hne:0<bs.length -> ∀ k o,A=some ⟨k,o,none⟩->k≠g:=fun h0 k o e=>by
   obtain ⟨b,e2,hge,_⟩:=hR.2 h0
   rw [e] at e2
   injection e2 with e3
   injection e3 with e4
   omega
  refine (zmb g N n A c bs R W bad w hC hI hk hne).mono ?_
  rintro e w' ⟨rfl,h2,h3,h4⟩
  exact ⟨rfl,⟨A,c,h2,h3,fun k o e h0=>by
   obtain ⟨b,e2,hge,_⟩:=hR.2 h0
   rw [e] at e2
   injection e2 with e3
   injection e3 with e4
   omega⟩,h4⟩
def zmq (w:World)(o:Option (Nat × List Int))(e:Ending)(w':World):Prop :=
 ∃ A c,e = .returned (.tuple #[.agg #[.int .i64 ((o.map (·.1)).getD 0:Nat),.slice A ((o.map (·.2)).getD []).length c],.bool o.isSome])/\(Ints w' w'.heap.size A ((o.map (·.2)).getD []) /\ ∀ k q,A=some ⟨k,q,none⟩->w.heap.size<=k)/\Below w.heap.size w w'
theorem zu4 (g:Nat)(n:Int)(R W:Value)(bad:Bool)(o:Option (Nat × List Int))(A:Option Addr)(c base:Nat)(w:World)(hC:Con w g n R W bad)(hR:Ints w w.heap.size A ((o.map (·.2)).getD []) /\ ∀ k q,A=some ⟨k,q,none⟩->base<=k)(hg:g<base)(hok : ∀ N bs,o=some (N,bs)->RhOk N bs) :
  Calls Tryz.prog 26 #[.pointer (some ⟨g,0,none⟩),.agg #[.int .i64 ((o.map (·.1)).getD 0:Nat),.slice A ((o.map (·.2)).getD []).length c],.bool o.isSome] w fun e w' =>
   e = .returned (.string (becT o))/\Bec w' g n R W bad o/\Frm (zaa g) w w':=by
 cases o with
 | none=>exact zma g n 0 R (.slice A 0 c) W bad w hC
 | some p =>
  obtain ⟨N,bs⟩:=p
  have hk:=hok N bs rfl
  have hne:0<bs.length -> ∀ k o,A=some ⟨k,o,none⟩->k≠g:=fun _ k o e=>by
   have:=hR.2 k o e
   omega
  refine (zmb g N n A c bs R W bad w hC hR.1 hk hne).mono ?_
  rintro e w' ⟨rfl,h2,h3,h4⟩
  exact ⟨rfl,⟨A,c,h2,h3,fun k o e _=>by
   have:=hR.2 k o e
   omega⟩,h4⟩
theorem zu5 (b g:Nat)(n:Int)(A:Option Addr)(k cap:Nat)(W:Value)(bad:Bool)(o:Option (Nat × List Int))(w:World)(hC:Con w g n (.slice A k cap) W bad)(hbl:b<w.heap.size)(hbg:b≠g)(hbx:w.cell? ⟨b,0,none⟩=some (.pointer (some ⟨g,0,none⟩)))
  (hok : ∀ N bs,o=some (N,bs)->RhOk N bs)
  (hF:Calls Tryz.prog 35 #[.agg #[.int .i64 n,.slice A k cap]] w.drew (RetRhO w.drew o)) :
  Calls Tryz.prog 34 #[.pointer (some ⟨b,0,none⟩)] w fun e w'=>e = .returned (.string (becT o))/\Bec w' g n (.slice A k cap) W bad o/\Frm (zaa g) w w':=by
 have HF:=Zh hF
 have HC:=Zh hC
 have HOK:=Zh hok
 obtain ⟨c0,c1,c2,c3,c4,c5,c6,c7,c8⟩:=hC
 clear hF hok
 go_enter Tryz.func34,Tryz.ntmps34
 go_wp2_with fail
 (refine wp_region_held_drew (S:=(fun w'=>w'.cell? ⟨b,0,none⟩=some (.pointer (some ⟨g,0,none⟩)))) (by kernel_rfl) ?_ (fun hHeld=>?_);(focus ((try dsimp only);exact hbx)))
 ((refine Zk 0 ?_;(try simp only [Act.put,Zz]));(refine Zk 1 ?_;(try simp only [Act.put,Zz]));(refine Zk 2 ?_;(try simp only [Act.put,Zz]));(refine Zk 3 ?_;(try simp only [Act.put,Zz])))
 (refine wpAnyH_ready (rs:=[4]) (by kernel_rfl) (by simp) ?_;refine AllReadyH.cons rfl (fun K hK=>?_) AllReadyH.nil;go_simp)
 (refine hK.out _ _ ?_ fun hHeld2=>?_;(focus ((try dsimp only);exact hbx));(clear hK K);(try simp only [Act.put,Zz]))
 (refine wpAnyH_ready (rs:=[5]) (by kernel_rfl) (by simp) ?_;refine AllReadyH.cons rfl (fun K hK=>?_) AllReadyH.nil;go_simp)
 go_at_call 35
 refine HF.o.mono ?_
 rintro e w1 ⟨A1,k1,rfl,hr1,hb0⟩
 have hb1:Below w.heap.size w w1:=⟨hb0.os,hb0.tape,hb0.output,hb0.size,hb0.block⟩
 clear hb0
 have HC1:=Zh (HC.o.below hb1)
 have HR1:=Zh hr1
 have HB1:=Zh hb1
 have hgl:g<w.heap.size:=HC.o.1
 have HBC:=Zh (zbc g n (.slice A k cap) W bad o A1 k1 w.heap.size w1 (HC.o.below hb1) hr1 hgl HOK.o)
 have hbx1:w1.cell? ⟨b,0,none⟩=some (.pointer (some ⟨g,0,none⟩)):=(hb1.cell (p:=⟨b,0,none⟩) hbl).trans hbx
 have hbl1:b<w1.heap.size:=Nat.lt_of_lt_of_le hbl hb1.size
 clear hb1 hr1 c0 c1 c2 c3 c4 c5 c6 c7 c8
 go_wp2_with fail
 (refine hK.out _ _ ?_ fun hHeld2=>?_;(focus ((try dsimp only);exact hbx1));(clear hK K);(try simp only [Act.put,Zz]))
 ((refine Zk 6 ?_;(try simp only [Act.put,Zz]));(refine Zk 7 ?_;(try simp only [Act.put,Zz])))
 (refine wpAnyH_ready (rs:=[8]) (by kernel_rfl) (by simp) ?_;refine AllReadyH.cons rfl (fun K hK=>?_) AllReadyH.nil;go_simp)
 go_at_call 26
 refine HBC.o.mono ?_
 rintro e w2 ⟨rfl,hbec,hf2⟩
 have HBE:=Zh hbec
 have HF2:=Zh ((Frm.pure HB1.o (zaa g)).trans hf2)
 have hbx2:w2.cell? ⟨b,0,none⟩=some (.pointer (some ⟨g,0,none⟩)):=(hf2.cell hbl1 (fun e=>hbg e)).trans hbx1
 clear hbec hf2
 go_wp2_with fail
 (refine hK.out _ _ ?_ fun hHeld2=>?_;(focus ((try dsimp only);exact hbx2));(clear hK K);(try simp only [Act.put,Zz]))
 (refine Zk 9 ?_;(try simp only [Act.put,Zz]))
 refine wpAnyH_done (by kernel_rfl) ?_ _
 go_wp2_with fail
 go_ret
 exact ⟨rfl,HBE.o,⟨HF2.o.os,HF2.o.tape,HF2.o.output,HF2.o.size,HF2.o.block⟩⟩
theorem zu6 (b g:Nat)(n:Int)(A:Option Addr)(k cap:Nat)(W:Value)(bad:Bool)(o:Option (Nat × List Int))(w:World)(hC:Con w g n (.slice A k cap) W bad)(hbl:b<w.heap.size)(hbg:b≠g)(hbx:w.cell? ⟨b,0,none⟩=some (.pointer (some ⟨g,0,none⟩)))
  (hok : ∀ N bs,o=some (N,bs)->RhOk N bs)
  (hF:Calls Tryz.prog 37 #[.agg #[.int .i64 n,.slice A k cap]] w.drew (RetRhO w.drew o)) :
  Calls Tryz.prog 36 #[.pointer (some ⟨b,0,none⟩)] w fun e w'=>e = .returned (.string (becT o))/\Bec w' g n (.slice A k cap) W bad o/\Frm (zaa g) w w':=by
 have HF:=Zh hF
 have HC:=Zh hC
 have HOK:=Zh hok
 obtain ⟨c0,c1,c2,c3,c4,c5,c6,c7,c8⟩:=hC
 clear hF hok
 go_enter Tryz.func36,Tryz.ntmps36
 go_wp2_with fail
 (refine wp_region_held_drew (S:=(fun w'=>w'.cell? ⟨b,0,none⟩=some (.pointer (some ⟨g,0,none⟩)))) (by kernel_rfl) ?_ (fun hHeld=>?_);(focus ((try dsimp only);exact hbx)))
 ((refine Zk 0 ?_;(try simp only [Act.put,Zz]));(refine Zk 1 ?_;(try simp only [Act.put,Zz]));(refine Zk 2 ?_;(try simp only [Act.put,Zz]));(refine Zk 3 ?_;(try simp only [Act.put,Zz])))
 (refine wpAnyH_ready (rs:=[4]) (by kernel_rfl) (by simp) ?_;refine AllReadyH.cons rfl (fun K hK=>?_) AllReadyH.nil;go_simp)
 (refine hK.out _ _ ?_ fun hHeld2=>?_;(focus ((try dsimp only);exact hbx));(clear hK K);(try simp only [Act.put,Zz]))
 (refine wpAnyH_ready (rs:=[5]) (by kernel_rfl) (by simp) ?_;refine AllReadyH.cons rfl (fun K hK=>?_) AllReadyH.nil;go_simp)
 go_at_call 37
 refine HF.o.mono ?_
 rintro e w1 ⟨A1,k1,rfl,hr1,hb0⟩
 have hb1:Below w.heap.size w w1:=⟨hb0.os,hb0.tape,hb0.output,hb0.size,hb0.block⟩
 clear hb0
 have HC1:=Zh (HC.o.below hb1)
 have HR1:=Zh hr1
 have HB1:=Zh hb1
 have hgl:g<w.heap.size:=HC.o.1
 have HBC:=Zh (zbc g n (.slice A k cap) W bad o A1 k1 w.heap.size w1 (HC.o.below hb1) hr1 hgl HOK.o)
 have hbx1:w1.cell? ⟨b,0,none⟩=some (.pointer (some ⟨g,0,none⟩)):=(hb1.cell (p:=⟨b,0,none⟩) hbl).trans hbx
 have hbl1:b<w1.heap.size:=Nat.lt_of_lt_of_le hbl hb1.size
 clear hb1 hr1 c0 c1 c2 c3 c4 c5 c6 c7 c8
 go_wp2_with fail
 (refine hK.out _ _ ?_ fun hHeld2=>?_;(focus ((try dsimp only);exact hbx1));(clear hK K);(try simp only [Act.put,Zz]))
 ((refine Zk 6 ?_;(try simp only [Act.put,Zz]));(refine Zk 7 ?_;(try simp only [Act.put,Zz])))
 (refine wpAnyH_ready (rs:=[8]) (by kernel_rfl) (by simp) ?_;refine AllReadyH.cons rfl (fun K hK=>?_) AllReadyH.nil;go_simp)
 go_at_call 26
 refine HBC.o.mono ?_
 rintro e w2 ⟨rfl,hbec,hf2⟩
 have HBE:=Zh hbec
 have HF2:=Zh ((Frm.pure HB1.o (zaa g)).trans hf2)
 have hbx2:w2.cell? ⟨b,0,none⟩=some (.pointer (some ⟨g,0,none⟩)):=(hf2.cell hbl1 (fun e=>hbg e)).trans hbx1
 clear hbec hf2
 go_wp2_with fail
 (refine hK.out _ _ ?_ fun hHeld2=>?_;(focus ((try dsimp only);exact hbx2));(clear hK K);(try simp only [Act.put,Zz]))
 (refine Zk 9 ?_;(try simp only [Act.put,Zz]))
 refine wpAnyH_done (by kernel_rfl) ?_ _
 go_wp2_with fail
 go_ret
 exact ⟨rfl,HBE.o,⟨HF2.o.os,HF2.o.tape,HF2.o.output,HF2.o.size,HF2.o.block⟩⟩
theorem zu7 (b g:Nat)(n:Int)(A:Option Addr)(k cap:Nat)(W:Value)(bad:Bool)(o:Option (Nat × List Int))(w:World)(hC:Con w g n (.slice A k cap) W bad)(hbl:b<w.heap.size)(hbg:b≠g)(hbx:w.cell? ⟨b,0,none⟩=some (.pointer (some ⟨g,0,none⟩)))
  (hok : ∀ N bs,o=some (N,bs)->RhOk N bs)
  (hF:Calls Tryz.prog 45 #[.agg #[.int .i64 n,.slice A k cap]] w.drew (zmq w.drew o)) :
  Calls Tryz.prog 44 #[.pointer (some ⟨b,0,none⟩)] w fun e w'=>e = .returned (.string (becT o))/\Bec w' g n (.slice A k cap) W bad o/\Frm (zaa g) w w':=by
 have HF:=Zh hF
 have HC:=Zh hC
 have HOK:=Zh hok
 obtain ⟨c0,c1,c2,c3,c4,c5,c6,c7,c8⟩:=hC
 clear hF hok
 go_enter Tryz.func44,Tryz.ntmps44
 go_wp2_with fail
 (refine wp_region_held_drew (S:=(fun w'=>w'.cell? ⟨b,0,none⟩=some (.pointer (some ⟨g,0,none⟩)))) (by kernel_rfl) ?_ (fun hHeld=>?_);(focus ((try dsimp only);exact hbx)))
 ((refine Zk 0 ?_;(try simp only [Act.put,Zz]));(refine Zk 1 ?_;(try simp only [Act.put,Zz]));(refine Zk 2 ?_;(try simp only [Act.put,Zz]));(refine Zk 3 ?_;(try simp only [Act.put,Zz])))
 (refine wpAnyH_ready (rs:=[4]) (by kernel_rfl) (by simp) ?_;refine AllReadyH.cons rfl (fun K hK=>?_) AllReadyH.nil;go_simp)
 (refine hK.out _ _ ?_ fun hHeld2=>?_;(focus ((try dsimp only);exact hbx));(clear hK K);(try simp only [Act.put,Zz]))
 (refine wpAnyH_ready (rs:=[5]) (by kernel_rfl) (by simp) ?_;refine AllReadyH.cons rfl (fun K hK=>?_) AllReadyH.nil;go_simp)
 go_at_call 45
 refine HF.o.mono ?_
 rintro e w1 ⟨A1,k1,rfl,hr1,hb0⟩
 have hb1:Below w.heap.size w w1:=⟨hb0.os,hb0.tape,hb0.output,hb0.size,hb0.block⟩
 clear hb0
 have HC1:=Zh (HC.o.below hb1)
 have HR1:=Zh hr1
 have HB1:=Zh hb1
 have hgl:g<w.heap.size:=HC.o.1
 have HBC:=Zh (zu4 g n (.slice A k cap) W bad o A1 k1 w.heap.size w1 (HC.o.below hb1) hr1 hgl HOK.o)
 have hbx1:w1.cell? ⟨b,0,none⟩=some (.pointer (some ⟨g,0,none⟩)):=(hb1.cell (p:=⟨b,0,none⟩) hbl).trans hbx
 have hbl1:b<w1.heap.size:=Nat.lt_of_lt_of_le hbl hb1.size
 clear hb1 hr1 c0 c1 c2 c3 c4 c5 c6 c7 c8
 go_wp2_with fail
 (refine hK.out _ _ ?_ fun hHeld2=>?_;(focus ((try dsimp only);exact hbx1));(clear hK K);(try simp only [Act.put,Zz]))
 ((refine Zk 6 ?_;(try simp only [Act.put,Zz]));(refine Zk 7 ?_;(try simp only [Act.put,Zz])))
 (refine wpAnyH_ready (rs:=[8]) (by kernel_rfl) (by simp) ?_;refine AllReadyH.cons rfl (fun K hK=>?_) AllReadyH.nil;go_simp)
 go_at_call 26
 refine HBC.o.mono ?_
 rintro e w2 ⟨rfl,hbec,hf2⟩
 have HBE:=Zh hbec
 have HF2:=Zh ((Frm.pure HB1.o (zaa g)).trans hf2)
 have hbx2:w2.cell? ⟨b,0,none⟩=some (.pointer (some ⟨g,0,none⟩)):=(hf2.cell hbl1 (fun e=>hbg e)).trans hbx1
 clear hbec hf2
 go_wp2_with fail
 (refine hK.out _ _ ?_ fun hHeld2=>?_;(focus ((try dsimp only);exact hbx2));(clear hK K);(try simp only [Act.put,Zz]))
 (refine Zk 9 ?_;(try simp only [Act.put,Zz]))
 refine wpAnyH_done (by kernel_rfl) ?_ _
 go_wp2_with fail
 go_ret
 exact ⟨rfl,HBE.o,⟨HF2.o.os,HF2.o.tape,HF2.o.output,HF2.o.size,HF2.o.block⟩⟩
end Go.Proofs.YtjpnjchpdkogbaaGreatDoor
namespace Go.Proofs.YtjpnjchpdkogbaaGreatDoor
open Go.RowKit Go.Shelf
def zcj (s:ByteArray):Option (List Int):=if s.data.toList≠[]/\barB (pbyV 43 12 s)=true/\fmtB (pbyV 43 12 s)=s.data.toList then some (pbyV 43 12 s) else none
theorem zmr (s:ByteArray):s.toList.isEmpty=decide (s.data.toList=[]):=by
 rw [Lib.toList_data]
 cases s.data.toList <;> rfl
theorem zu8 (T:List UInt8)(s:ByteArray):((mkS T).toList==s.toList)=decide (T=s.data.toList):=by
 rw [Lib.toList_data,Lib.toList_data,show (mkS T).data.toList=T from za9 _]
 by_cases h:T=s.data.toList
 ·rw [h];simp
 ·rw [decide_eq_false h,beq_eq_false_iff_ne];exact h
theorem zu9 (s:ByteArray)(w:World)(hs:s.size<=1048576)(hE:Errs w)(hP:Pow w)(hM:MaxL w) :
  Calls Tryz.prog 110 #[.string s] w (zg9 w (zcj s)):=by
 have HPB:=Zh (zui 43 12 s w hs (Nat.le_refl _) hE hP hM)
 have HFX:=Zh (zrj 43 12 s)
 have HV:=Zh (show zcj s=if s.data.toList≠[]/\barB (pbyV 43 12 s)=true/\fmtB (pbyV 43 12 s)=s.data.toList then some (pbyV 43 12 s) else none from rfl)
 generalize zcj s=pv at HV ⊢
 generalize pbyV 43 12 s=xs at *
 have HFB:=Zh (fun A c V h (hb:Below w.heap.size w V)=>zuk A c xs V h (hP.below hb) (hM.below hb))
 have HSE:=Zh (zu8 (zbz xs) s)
 clear hE hP hM
 by_cases h0:s.data.toList=[]
 ·have hse:s.toList.isEmpty=true:=by rw [zmr,decide_eq_true h0]
  have HN:=Zh (show pv=none by rw [HV.o,if_neg (fun h=>h.1 h0)])
  clear h0 HV
  go_enter Tryz.func110,Tryz.ntmps110
  go_wp2_with (go_at_call 164;refine HPB.o.mono ?_;rintro e w1 ⟨A1,c1,rfl,ho1,hb1⟩)
  go_ret2
  rw [HN.o]
  exact ⟨none,0,rfl,OwnI.nil _ _,by simp,hb1⟩
 ·have hse:s.toList.isEmpty=false:=by rw [zmr,decide_eq_false h0]
  by_cases hok:barB xs=true/\fmtB xs=s.data.toList
  ·have HN:=Zh (show pv=some xs by rw [HV.o,if_pos ⟨h0,hok.1,hok.2⟩])
   have heq:((mkS (zbz xs)).toList==s.toList)=true:=by rw [HSE.o];unfold zbz;rw [if_pos hok.1];exact decide_eq_true hok.2
   clear h0 HV hok HSE
   generalize mkS (zbz xs)=X at *
   go_enter Tryz.func110,Tryz.ntmps110
   go_wp2_with (first
    | (go_at_call 164;refine HPB.o.mono ?_;rintro e w1 ⟨A1,c1,rfl,ho1,hb1⟩)
    | (go_at_call 165;refine (HFB.o _ _ _ (ho1.ints HFX.o) hb1).mono ?_;rintro e w2 ⟨rfl,hb2⟩))
   go_ret2
   rw [HN.o]
   exact ⟨A1,c1,rfl,ho1.grown hb2,HFX.o,hb1.trans (hb2.mono hb1.size)⟩
  ·have HN:=Zh (show pv=none by rw [HV.o,if_neg (fun h=>hok h.2)])
   have heq:((mkS (zbz xs)).toList==s.toList)=false:=by
    rw [HSE.o,decide_eq_false_iff_not]
    unfold zbz
    split
    ·rename_i hb;exact fun e=>hok ⟨hb,e⟩
    ·exact fun e=>h0 e.symm
   clear h0 HV hok HSE
   generalize mkS (zbz xs)=X at *
   go_enter Tryz.func110,Tryz.ntmps110
   go_wp2_with (first
    | (go_at_call 164;refine HPB.o.mono ?_;rintro e w1 ⟨A1,c1,rfl,ho1,hb1⟩)
    | (go_at_call 165;refine (HFB.o _ _ _ (ho1.ints HFX.o) hb1).mono ?_;rintro e w2 ⟨rfl,hb2⟩))
   go_ret2
   rw [HN.o]
   exact ⟨none,0,rfl,OwnI.nil _ _,by simp,hb1.trans (hb2.mono hb1.size)⟩
end Go.Proofs.YtjpnjchpdkogbaaGreatDoor
