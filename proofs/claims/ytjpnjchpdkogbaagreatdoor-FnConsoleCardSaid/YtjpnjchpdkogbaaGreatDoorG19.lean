/- Parts of the proof of the card of the law FnConsole. -/
import Derived.Test.YtjpnjchpdkogbaaGreatDoorLst
import Derived.Test.YtjpnjchpdkogbaaGreatDoorG13
import Derived.Test.YtjpnjchpdkogbaaGreatDoorG03
import Derived.Test.YtjpnjchpdkogbaaGreatDoorG04
import Derived.Deep.AppendLies
set_option linter.unusedVariables false
set_option linter.unusedSimpArgs false
set_option maxRecDepth 100000
set_option maxHeartbeats 4000000
namespace Go.Proofs.YtjpnjchpdkogbaaGreatDoor
open Go.RowKit
theorem zoe (N:Nat)(A:Option Addr)(cap:Nat)(bs:List Int)(w:World)(hA:Ints w w.heap.size A bs)(hok:RhOk N bs) :
  Calls Tryz.prog 124 #[.agg #[.int .i64 N,.slice A bs.length cap]] w (zbr w N (frmV N bs)):=by
 have hn1:1<=N:=by have:=hok.1;omega
 have hn2:N<=24:=by have:=hok.2.1;omega
 have hmo:RhOk N (mirV N bs):=zbl hn1 hn2
 have HLX:=Zh (zff hok)
 have HMO:=Zh hmo
 have HLM:=Zh (zff hmo)
 have HLR:=Zh (fun V h=>zod N A cap bs V h hok)
 have HMR:=Zh (fun V h=>zfi N A cap bs V h hok)
 have HML:=Zh (fun A c V h=>zod N A c (mirV N bs) V h hmo)
 have HV:=Zh (show frmV N bs=zam N (lstW N bs) (lstW N (mirV N bs)) from rfl)
 have hal1:=(Below.refl w.heap.size w).alloc (Nat.le_refl _) (.cells #[.int .i64 N,.slice A (bs).length cap] 27)
 have HBW:=Zh (hal1.alloc hal1.size (.cells #[.int .i64 0,.slice none 0 0] 27))
 have HVA:=Zh ((Hav.boxed hA N cap).alloc (.cells #[.int .i64 0,.slice none 0 0] 27))
 have HLA:=Zh (Cells2.new_at (w.alloc (.cells #[.int .i64 N,.slice A (bs).length cap] 27)) (.int .i64 0) (.slice none 0 0) 27 (w.heap.size+1) (by simp))
 generalize lstW N (mirV N bs)=Y at *
 generalize mirV N bs=M at *
 generalize lstW N bs=X at *
 clear hal1 hA hmo
 obtain ⟨⟨p0,p1,_,_,_⟩,_⟩:=HVA.o
 go_enter Tryz.func124,Tryz.ntmps124
 go_wp2_with fail
 generalize (w.alloc (.cells #[.int .i64 N,.slice A (bs).length cap] 27)).alloc (.cells #[.int .i64 0,.slice none 0 0] 27)=W at *
 have HBW:=Zh (Below.drewH_ HBW.o)
 try have HRB:=Zh (Below.drewH_ HRB.o)
 try have HWW:=Zh (Below.drewH_ HWW.o)
 try have HVA:=Zh HVA.o.drew
 try have HVB:=Zh HVB.o.drew
 try have HVC:=Zh HVC.o.drew
 try have HVT:=Zh HVT.o.drew
 try have HVX:=Zh HVX.o.drew
 try have HVM:=Zh HVM.o.drew
 try have HVF:=Zh HVF.o.drew
 try have HVP:=Zh HVP.o.drew
 try have HVQ:=Zh HVQ.o.drew
 try have HLA:=Zh HLA.o.drewR_
 try have HLW:=Zh HLW.o.drewR_
 (refine wp_region_held_drew (S:=(fun w'=>w'.cell? ⟨w.heap.size,0,none⟩=some (.int .i64 N)/\w'.cell? ⟨w.heap.size,1,none⟩=some (.slice A bs.length cap))) (by kernel_rfl) ?_ (fun hHeld=>?_);(focus ((try dsimp only);exact ⟨p0,p1⟩)))
 ((refine Zk 0 ?_;(try simp only [Act.put,Zz]));(refine Zk 2 ?_;(try simp only [Act.put,Zz])))
 (refine wpAnyH_ready (rs:=[1]) (by kernel_rfl) (by simp) ?_;refine AllReadyH.cons rfl (fun K hK=>?_) AllReadyH.nil;go_simp)
 go_at_call 184
 refine (HLR.o _ HVA.o.2).mono ?_
 rintro e w1 ⟨A1,c1,rfl,hrw,hb⟩
 have hz5:=hb.size
 obtain ⟨b1,hl5,hb5⟩:=hrw.rvL w.heap.size (by have:=HLA.o.2.2.2.2;omega) (by have:=HLA.o.2.2.2.2;omega) N c1
 have hq5:w.heap.size+1<W.drew.heap.size:=HLA.o.2.2.2.2
 have HBW:=Zh (HBW.o.trans (hb.mono HBW.o.size))
 try have HVA:=Zh (HVA.o.lift hb)
 try have HVT:=Zh (HVT.o.lift hb)
 try have HVX:=Zh (HVX.o.lift hb)
 try have HVM:=Zh (HVM.o.lift hb)
 try have HLA:=Zh (HLA.o.lift hb)
 clear hb
 have HVX:=Zh hl5
 clear hrw hl5
 clear p0 p1
 obtain ⟨⟨p0,p1,_,_,_⟩,_⟩:=HVA.o
 have hg2:b1≠w.heap.size+1:=by omega
 clear hb5 hz5 hq5
 go_wp2_with fail
 (refine hK.out _ _ ?_ fun hHeld2=>?_;(focus ((try dsimp only);exact ⟨p0,p1⟩));(clear hK K);(try simp only [Act.put,Zz]))
 (refine wpAnyH_ready (rs:=[3]) (by kernel_rfl) (by simp) ?_;refine AllReadyH.cons rfl (fun K hK=>?_) AllReadyH.nil;go_simp)
 go_at_call 100
 refine (HMR.o _ HVA.o.2).mono ?_
 rintro e w2 ⟨A2,c2,rfl,hrw,hb⟩
 have hz5:=hb.size
 obtain ⟨b2,hl5,hb5⟩:=hrw.rvL w.heap.size (by have:=HLA.o.2.2.2.2;omega) (by have:=HLA.o.2.2.2.2;omega) N c2
 have hq5:w.heap.size+1<w1.heap.size:=HLA.o.2.2.2.2
 have HBW:=Zh (HBW.o.trans (hb.mono HBW.o.size))
 try have HVA:=Zh (HVA.o.lift hb)
 try have HVT:=Zh (HVT.o.lift hb)
 try have HVX:=Zh (HVX.o.lift hb)
 try have HVM:=Zh (HVM.o.lift hb)
 try have HLA:=Zh (HLA.o.lift hb)
 clear hb
 have HVM:=Zh hl5
 clear hrw hl5
 clear p0 p1
 obtain ⟨⟨p0,p1,_,_,_⟩,_⟩:=HVA.o
 clear hb5 hz5 hq5
 go_wp2_with fail
 (refine hK.out _ _ ?_ fun hHeld2=>?_;(focus ((try dsimp only);exact ⟨p0,p1⟩));(clear hK K);(try simp only [Act.put,Zz]))
 (refine wpAnyH_ready (rs:=[4]) (by kernel_rfl) (by simp) ?_;refine AllReadyH.cons rfl (fun K hK=>?_) AllReadyH.nil;go_simp)
 go_at_call 184
 refine (HML.o A2 c2 _ (HVM.o.intsL HMO.o)).mono ?_
 rintro e w3 ⟨A3,c3,rfl,hrw,hb⟩
 clear HVM
 have hz5:=hb.size
 obtain ⟨b3,hl5,hb5⟩:=hrw.rvL w.heap.size (by have:=HLA.o.2.2.2.2;omega) (by have:=HLA.o.2.2.2.2;omega) N c3
 have hq5:w.heap.size+1<w2.heap.size:=HLA.o.2.2.2.2
 have HBW:=Zh (HBW.o.trans (hb.mono HBW.o.size))
 try have HVA:=Zh (HVA.o.lift hb)
 try have HVT:=Zh (HVT.o.lift hb)
 try have HVX:=Zh (HVX.o.lift hb)
 try have HVM:=Zh (HVM.o.lift hb)
 try have HLA:=Zh (HLA.o.lift hb)
 clear hb
 have HVT:=Zh hl5
 clear hrw hl5
 clear p0 p1
 obtain ⟨⟨p0,p1,_,_,_⟩,_⟩:=HVA.o
 have hg3:b3≠w.heap.size+1:=by omega
 clear hb5 hz5 hq5
 go_wp2_with fail
 (refine hK.out _ _ ?_ fun hHeld2=>?_;(focus ((try dsimp only);exact ⟨p0,p1⟩));(clear hK K);(try simp only [Act.put,Zz]))
 have hzz : ∃ (AZ:Option Addr) (cZ bZ:Nat),(RV.mk N (zam N X Y) AZ cZ bZ).Lies w3 w.heap.size/\bZ≠w.heap.size+1/\Calls Tryz.prog 183 #[.agg #[.int .i64 N,.slice A1 X.length c1],.agg #[.int .i64 N,.slice A3 Y.length c3]] w3 fun e w'=>e = .returned (.agg #[.int .i64 N,.slice AZ (zam N X Y).length cZ])/\Below w3.heap.size w3 w':=by
  have hcall:=zd9 N A1 A3 c1 c3 X Y w3 (HVX.o.intsL HLX.o) (HVT.o.intsL HLM.o) HLX.o HLM.o
  by_cases hl:codI N X<codI N Y
  ·unfold zam
   rw [if_pos hl] at hcall ⊢
   exact ⟨A3,c3,b3,HVT.o,hg3,hcall⟩
  ·unfold zam
   rw [if_neg hl] at hcall ⊢
   exact ⟨A1,c1,b1,HVX.o,hg2,hcall⟩
 obtain ⟨AZ,cZ,bZ,hzl,hzq,hcall⟩:=hzz
 have HCZ:=Zh hcall
 clear HVX HVT hcall
 have HVX:=Zh hzl
 clear hzl
 generalize zam N X Y=Z at *
 (refine wpAnyH_ready (rs:=[5]) (by kernel_rfl) (by simp) ?_;refine AllReadyH.cons rfl (fun K hK=>?_) AllReadyH.nil;go_simp)
 go_at_call 183
 refine HCZ.o.mono ?_
 rintro e w6 ⟨rfl,hb⟩
 have HBW:=Zh (HBW.o.trans (hb.mono HBW.o.size))
 try have HVA:=Zh (HVA.o.lift hb)
 try have HVT:=Zh (HVT.o.lift hb)
 try have HVX:=Zh (HVX.o.lift hb)
 try have HVM:=Zh (HVM.o.lift hb)
 try have HLA:=Zh (HLA.o.lift hb)
 clear hb
 clear p0 p1
 obtain ⟨⟨p0,p1,_,_,_⟩,_⟩:=HVA.o
 obtain ⟨r0,r1,rf0,rf1,_⟩:=HLA.o
 go_wp2_with fail
 (refine hK.out _ _ ?_ fun hHeld2=>?_;(focus ((try dsimp only);exact ⟨p0,p1⟩));(clear hK K);(try simp only [Act.put,Zz]))
 (refine wpAnyH_ready (rs:=[6]) (by kernel_rfl) (by simp) ?_;refine AllReadyH.cons rfl (fun K hK=>?_) AllReadyH.nil;go_simp)
 have HLA2:=Zh ((HLA.o.set0 (.int .i64 N)).set1 (.slice AZ Z.length cZ))
 have HRC2:=Zh ((HVA.o.1.far (p:=⟨w.heap.size+1,0,none⟩) (show w.heap.size≠w.heap.size+1 by omega) (.int .i64 N)).far (p:=⟨w.heap.size+1,1,none⟩) (show w.heap.size≠w.heap.size+1 by omega) (.slice AZ Z.length cZ))
 have HVX2:=Zh ((HVX.o.far (p:=⟨w.heap.size+1,0,none⟩) hzq (.int .i64 N)).far (p:=⟨w.heap.size+1,1,none⟩) hzq (.slice AZ Z.length cZ))
 have HBW2:=Zh ((HBW.o.setCell (p:=⟨w.heap.size+1,0,none⟩) (Nat.le_add_right _ _) (.int .i64 N)).setCell (p:=⟨w.heap.size+1,1,none⟩) (Nat.le_add_right _ _) (.slice AZ Z.length cZ))
 clear p0 p1 r0 r1 rf0 rf1
 obtain ⟨p0,p1,_,_,_⟩:=HRC2.o
 obtain ⟨r0,r1,_,_,_⟩:=HLA2.o
 (refine hK.out _ _ ?_ fun hHeld2=>?_;(focus ((try dsimp only);exact ⟨p0,p1⟩));(clear hK K);(try simp only [Act.put,Zz]))
 refine wpAnyH_done (by kernel_rfl) ?_ _
 go_wp2_with fail
 refine bodyPost_ret (v:=.agg #[.int .i64 N,.slice AZ Z.length cZ]) (by simp [results,Tryz.results124,go_sem,r0,r1]) rfl ?_
 rw [HV.o]
 exact ⟨AZ,cZ,rfl,HVX2.o.rwL,HBW2.o⟩
theorem zof (u n:Nat)(w:World)(hu:u<=1000)(hn:n<=1000) :
  Calls Tryz.prog 102 #[.int .i64 u,.int .i64 n] w fun e w'=>e = .returned (.bool (uniP n u))/\Below w.heap.size w w':=by
 have HG:=Zh (fun V=>zin u n V (by omega) (by omega))
 have hw1:IntKind.i64.wrap ((n:Int)-1)=(n:Int)-1:=i64w (by omega)
 have HV:=Zh (show uniP n u=(inB u 1 (max ((n:Int)-1) 1) && ((Nat.gcd u n:Nat):Int)==1) by
  unfold uniP inB
  have e1:decide (1<=u/\u<=max 1 (n-1))=(decide ((1:Int)<=u) && decide ((u:Int)<=max ((n:Int)-1) 1)):=by
   rw [<- Bool.decide_and];exact decide_eq_decide.2 (by omega)
  rw [e1]
  congr 1
  exact (decide_eq_decide.2 (by omega)).trans rfl)
 cases hI:inB (u:Int) 1 (max ((n:Int)-1) 1)
 ·rw [hI] at HV
  go_enter Tryz.func102,Tryz.ntmps102
  go_wp2_with (go_at_call 22;refine (zac _ _ _ _).mono ?_;rintro e w' ⟨rfl,rfl⟩)
  go_ret
  exact ⟨zaq HV.o.symm,Below.refl _ _⟩
 ·rw [hI] at HV
  obtain ⟨g,hg⟩ : ∃ g,Nat.gcd u n=g:=⟨_,rfl⟩
  rw [hg] at HV HG
  go_enter Tryz.func102,Tryz.ntmps102
  go_wp2_with (first | (go_at_call 22;refine (zac _ _ _ _).mono ?_;rintro e w' ⟨rfl,rfl⟩) | (go_at_call 160;refine (HG.o _).mono ?_;rintro e w1 ⟨rfl,hb⟩))
  go_ret
  exact ⟨zaq HV.o.symm,hb⟩
theorem zy2 (n:Nat)(w:World)(hn1:1<=n)(hn2:n<=24) :
  Calls Tryz.prog 186 #[.int .i64 n] w fun e w'=>∃ A c,e = .returned (.slice A (uniV n).length c)/\OwnI w' w.heap.size (.slice A (uniV n).length c) (uniV n)/\Below w.heap.size w w':=by
 have HI:=Zh (fun (u:Nat) V (hu:u<=1000)=>zof u n V hu (by omega))
 have hin:inB (n:Int) 1 24=true:=za1 ⟨by omega,by omega⟩
 have hw1:IntKind.i64.wrap ((n:Int)+1)=(n:Int)+1:=i64w (by omega)
 go_enter Tryz.func186,Tryz.ntmps186
 go_wp2_with (go_at_call 22;refine (zac _ _ _ _).mono ?_;rintro e w' ⟨rfl,rfl⟩)
 go_loopw [3,10] (fun so i wr=>∃ j:Nat,j<=n+1/\i = .int .i64 j/\OwnI wr w.heap.size so (uniF n j)/\Below w.heap.size w wr) (fun _ i _=>n+1-(intOf i).toNat)
 case atStart=>exact ⟨0,Nat.zero_le _,rfl,OwnI.nil _ _,Below.refl _ _⟩
 case round =>
  obtain ⟨j,hj,rfl,hown,hbel⟩:=hrel
  obtain ⟨wo,rfl⟩ : ∃ wo:World,wo=wr:=⟨_,rfl⟩
  have hws:=hbel.size
  have HBE:=Zh hbel
  have HO:=Zh hown
  obtain ⟨A1,c1,rfl⟩:=hown.form
  have hmk:=zhv n j
  clear hbel hown
  by_cases hlt:j<n+1
  ·have hji:(j:Int)<(n:Int)+1:=by omega
   have HIJ:=Zh (HI.o j wo (by omega))
   cases hp:uniP n j
   ·have HSU:=Zh (show uniF n (j+1)=uniF n j by
     show (if uniP n j then _ else _)=_
     rw [if_neg (by rw [hp];decide)])
    rw [hp] at HIJ
    clear hp
    generalize uniF n j=L at *
    go_wp2_with (go_at_call 102;refine HIJ.o.mono ?_;rintro e w1 ⟨rfl,hb⟩)
    have HO2:=Zh (HO.o.grown hb)
    have HB2:=Zh (HBE.o.trans (hb.mono hws))
    clear hb
    go_wp2_with fail
    go_roundw
    case rel=>exact ⟨j+1,by omega,by go_num,by rw [HSU.o];exact HO2.o,HB2.o⟩
    case measure=>simp [intOf];omega
   ·have HSU:=Zh (show uniF n (j+1)=uniF n j++[(j:Int)] by
     show (if uniP n j then _ else _)=_
     rw [if_pos hp])
    rw [hp] at HIJ
    clear hp
    generalize uniF n j=L at *
    go_wp2_with fail
    refine HIJ.o.mono ?_
    rintro e w1 ⟨rfl,hb⟩
    have hz1:=hb.size
    have HO2:=Zh (HO.o.grown hb)
    have HB2:=Zh (HBE.o.trans (hb.mono hws))
    clear hb
    go_wp2_with (at_builtin;refine za4 rfl (.tmp 16) (.tmp 18) rfl w.heap.size _ L rfl (HO2.o.alloc _) _ _ rfl (zag _ _ _) (by omega) (by simp;omega) ?_;intro v2 w2 hown2 hb2)
    have HO3:=Zh hown2
    have HB3:=Zh ((HB2.o.alloc (by omega) _).trans hb2)
    clear hown2 hb2
    go_wp2_with fail
    go_roundw
    case rel=>exact ⟨j+1,by omega,by go_num,by rw [HSU.o];exact HO3.o,HB3.o⟩
    case measure=>simp [intOf];omega
  ·have hje:j=n+1:=by omega
   subst hje
   have HV:=Zh (show uniV n=uniF n (n+1) from rfl)
   generalize uniF n (n+1)=L at *
   have hji : ¬ ((n+1:Nat):Int)<(n:Int)+1:=by omega
   go_wp2_with fail
   go_ret
   rw [HV.o]
   exact ⟨A1,c1,rfl,HO.o,HBE.o⟩
theorem zy3 (N:Nat)(A:Option Addr)(cap:Nat)(bs:List Int)(w:World)(hA:Ints w w.heap.size A bs)(hok:RhOk N bs) :
  Calls Tryz.prog 126 #[.agg #[.int .i64 N,.slice A bs.length cap]] w (zbr w N (clsV N bs)):=by
 have hn1:1<=N:=by have:=hok.1;omega
 have hn2:N<=24:=by have:=hok.2.1;omega
 have HLK:=Zh (fun m=>zhw hok m)
 have HAK:=Zh (fun (u:Nat)=>(show RhOk N (affL N u 0 bs) from zbl hn1 hn2))
 have HST:=Zh (fun (k:Nat) (hk:k<=1000) V h=>zlo N A cap bs k V h hok hk)
 have HLF:=Zh (fun M A c V h (hM:RhOk N M)=>zoe N A c M V h hM)
 have HUN:=Zh (fun V=>zy2 N V hn1 hn2)
 have HUA:=Zh (fun j (hj:j<(uniV N).length)=>zsq hj)
 have HCS:=Zh (fun m=>show clsR N bs (m+1)=zam N (clsR N bs m) (frmV N (affL N ((uniV N).getD m 0) 0 bs)) from rfl)
 have HFO:=Zh (fun u=>zfg (show RhOk N (affL N u 0 bs) from zbl hn1 hn2))
 have HV0:=Zh (show clsV N bs=clsR N bs (uniV N).length from rfl)
 have hul:=zsp N
 have hal1:=(Below.refl w.heap.size w).alloc (Nat.le_refl _) (.cells #[.int .i64 N,.slice A (bs).length cap] 27)
 have HBW:=Zh (hal1.alloc hal1.size (.cells #[.int .i64 0,.slice none 0 0] 27))
 have HVA:=Zh ((Hav.boxed hA N cap).alloc (.cells #[.int .i64 0,.slice none 0 0] 27))
 have HLA:=Zh (Cells2.new_at (w.alloc (.cells #[.int .i64 N,.slice A (bs).length cap] 27)) (.int .i64 0) (.slice none 0 0) 27 (w.heap.size+1) (by simp))
 have HA:=Zh hA
 have HR0:=Zh (HLF.o bs A cap)
 rw [show frmV N bs=clsR N bs 0 from rfl] at HR0
 have HOK:=Zh hok
 clear hal1 hA hok
 obtain ⟨⟨p0,p1,_,_,_⟩,_⟩:=HVA.o
 go_enter Tryz.func126,Tryz.ntmps126
 go_wp2_with fail
 generalize (w.alloc (.cells #[.int .i64 N,.slice A (bs).length cap] 27)).alloc (.cells #[.int .i64 0,.slice none 0 0] 27)=W at *
 refine (HR0.o _ HVA.o.2 HOK.o).mono ?_
 rintro e w1 ⟨A0,c0,rfl,hrw,hb⟩
 have hqw:=HLA.o.2.2.2.2
 have hz1:=hb.size
 obtain ⟨b0,hl0,hb0⟩:=hrw.rvL w.heap.size (by omega) (by omega) N c0
 have HBW:=Zh (HBW.o.trans (hb.mono HBW.o.size))
 try have HVA:=Zh (HVA.o.lift hb)
 try have HVT:=Zh (HVT.o.lift hb)
 try have HVX:=Zh (HVX.o.lift hb)
 try have HVM:=Zh (HVM.o.lift hb)
 try have HLA:=Zh (HLA.o.lift hb)
 try have HLW:=Zh (HLW.o.lift hb)
 try have HWW:=Zh (HWW.o.trans (hb.mono HWW.o.size))
 clear hb
 have HVX:=Zh hl0
 clear hrw hl0
 clear p0 p1
 obtain ⟨⟨p0,p1,_,_,_⟩,_⟩:=HVA.o
 have hbg:b0<w1.heap.size:=HVX.o.2.2.1
 go_wp2_with fail
 have hal2:=(Below.refl w1.heap.size w1).alloc (Nat.le_refl _) (.cells #[.int .i64 N,.slice A0 (clsR N bs 0).length c0] 27)
 have hb:=hal2
 have HBW:=Zh (HBW.o.trans (hb.mono HBW.o.size))
 try have HVA:=Zh (HVA.o.lift hb)
 try have HVT:=Zh (HVT.o.lift hb)
 try have HVX:=Zh (HVX.o.lift hb)
 try have HVM:=Zh (HVM.o.lift hb)
 try have HLA:=Zh (HLA.o.lift hb)
 try have HLW:=Zh (HLW.o.lift hb)
 try have HWW:=Zh (HWW.o.trans (hb.mono HWW.o.size))
 clear hb
 have HLW:=Zh (Cells2.new w1 (.int .i64 N) (.slice A0 (clsR N bs 0).length c0) 27)
 clear hal2
 clear p0 p1
 obtain ⟨⟨p0,p1,_,_,_⟩,_⟩:=HVA.o
 generalize w1.alloc (.cells #[.int .i64 N,.slice A0 (clsR N bs 0).length c0] 27)=W2 at *
 have hgq0:w.heap.size+1<w1.heap.size:=by omega
 have hgW:w1.heap.size<W2.heap.size:=HLW.o.2.2.2.2
 generalize w1.heap.size=g at *
 go_wp2_with fail
 refine (HUN.o _).mono ?_
 rintro e w3 ⟨Au,cu,rfl,hown,hb⟩
 have hz3:=hb.size
 have HUI:=Zh (show Ints w3 w3.heap.size Au (uniV N) from hown.ints (fun x hx=>by
  obtain ⟨u,a,b,c⟩:=zfh N (N+1) x hx
  unfold Fits;omega))
 have hub:0<(uniV N).length -> ∃ bu,Au=some ⟨bu,0,none⟩/\bu≠g/\g<bu/\bu<w3.heap.size /\ ∀ i,i<(uniV N).length->w3.cell? ⟨bu,i,none⟩=some (.int .i64 ((uniV N).getD i 0)):=fun h0=>by
  obtain ⟨bu,cu',e⟩:=hown.posC h0
  obtain ⟨hl1,hl2⟩:=hown.lt bu (by rw [e];rfl)
  have hAu:Au=some ⟨bu,0,none⟩:=by injection e
  obtain ⟨b',off,e2,hlt',hc⟩:=HUI.o.2.2 h0
  rw [hAu] at e2
  injection e2 with e2
  injection e2 with e3 e4
  subst e3 e4
  exact ⟨bu,hAu,by omega,by omega,hl2,fun i hi=>by have:=hc i hi;rwa [Nat.zero_add] at this⟩
 have HUB:=Zh hub
 clear hown hub HUI
 have HBW:=Zh (HBW.o.trans (hb.mono HBW.o.size))
 try have HVA:=Zh (HVA.o.lift hb)
 try have HVT:=Zh (HVT.o.lift hb)
 try have HVX:=Zh (HVX.o.lift hb)
 try have HVM:=Zh (HVM.o.lift hb)
 try have HLA:=Zh (HLA.o.lift hb)
 try have HLW:=Zh (HLW.o.lift hb)
 try have HWW:=Zh (HWW.o.trans (hb.mono HWW.o.size))
 clear hb
 clear p0 p1
 go_wp2_with fail
 go_loopw [12] (fun i wr=>∃ (j:Nat) (AX:Option Addr) (cX bX:Nat),j<=(uniV N).length/\i = .int .i64 j/\(RV.mk N (clsR N bs j) AX cX bX).Lies wr w.heap.size/\bX≠g/\bX≠w.heap.size+1/\Cells2 wr g (.int .i64 N) (.slice AX (clsR N bs j).length cX)/\Cells2 wr w.heap.size (.int .i64 N) (.slice A bs.length cap)/\Cells2 wr (w.heap.size+1) (.int .i64 0) (.slice none 0 0)/\Below w.heap.size w wr/\Frm (fun c=>c=g) w3 wr) (fun i _=>(uniV N).length-(intOf i).toNat)
 case atStart=>exact ⟨0,A0,c0,b0,Nat.zero_le _,rfl,HVX.o,by omega,by omega,HLW.o,HVA.o.1,HLA.o,HBW.o,Frm.refl _ _⟩
 case round =>
  obtain ⟨j,AX,cX,bX,hj,rfl,hx,hg1,hg2,hbest,hrc,hzc,hbel,hfr⟩:=hrel
  obtain ⟨wo,rfl⟩ : ∃ wo:World,wo=wr:=⟨_,rfl⟩
  clear HVX HLW HVA HLA HBW
  have HFR0:=Zh hfr
  have HBW:=Zh hbel
  have HVX:=Zh hx
  have HLW:=Zh hbest
  have HLA:=Zh hzc
  have HVA:=Zh (show Hav wo N w.heap.size A cap bs from ⟨hrc,(HA.o.below hbel).mono hbel.size⟩)
  have hwo:g<wo.heap.size:=hbest.2.2.2.2
  have HXO:=Zh (HLK.o j)
  have hwz:w3.heap.size<=wo.heap.size:=hfr.size
  clear hx hbest hzc hrc hbel hfr
  obtain ⟨⟨p0,p1,_,_,_⟩,_⟩:=HVA.o
  by_cases hlt:j<(uniV N).length
  ·obtain ⟨u,hu,hu1,hu2⟩:=HUA.o j hlt
   obtain ⟨bu,hAu,hbu1,hbu2,hbu3,hbuc⟩:=HUB.o (by omega)
   have huc:=(HFR0.o.cell (o:=j) hbu3 (show ¬ bu=g from hbu1)).trans (hbuc j hlt)
   rw [hu] at huc
   have hcs:=HCS.o j
   rw [hu] at hcs
   have HSU:=Zh hcs
   have HYO:=Zh (HFO.o u)
   have HMO:=Zh (HAK.o u)
   have HSJ:=Zh (HST.o u (by omega))
   have HFJ:=Zh (fun A c V h=>HLF.o (affL N u 0 bs) A c V h (HMO.o))
   obtain ⟨Z1,hZ1⟩ : ∃ Z1,clsR N bs (j+1)=Z1:=⟨_,rfl⟩
   have HZ1:=Zh hZ1
   rw [hZ1] at HSU
   clear hZ1 hu hcs hbuc
   subst hAu
   generalize clsR N bs j=X at *
   generalize frmV N (affL N ((u:Nat):Int) 0 bs)=Y at *
   generalize affL N ((u:Nat):Int) 0 bs=M at *
   generalize (uniV N).length=ul at *
   obtain ⟨s0,s1,_,_,_⟩:=HLW.o
   have hji:(j:Int)<(ul:Int):=by omega
   go_wp2_with fail
   have HWW:=Zh (Below.refl wo.heap.size wo)
   have HBW:=Zh (Below.drewH_ HBW.o)
   try have HRB:=Zh (Below.drewH_ HRB.o)
   try have HWW:=Zh (Below.drewH_ HWW.o)
   try have HVA:=Zh HVA.o.drew
   try have HVB:=Zh HVB.o.drew
   try have HVC:=Zh HVC.o.drew
   try have HVT:=Zh HVT.o.drew
   try have HVX:=Zh HVX.o.drew
   try have HVM:=Zh HVM.o.drew
   try have HVF:=Zh HVF.o.drew
   try have HVP:=Zh HVP.o.drew
   try have HVQ:=Zh HVQ.o.drew
   try have HLA:=Zh HLA.o.drewR_
   try have HLW:=Zh HLW.o.drewR_
   (refine wp_region_held_drew (S:=(fun w'=>w'.cell? ⟨w.heap.size,0,none⟩=some (.int .i64 N)/\w'.cell? ⟨w.heap.size,1,none⟩=some (.slice A bs.length cap))) (by kernel_rfl) ?_ (fun hHeld=>?_);(focus ((try dsimp only);exact ⟨p0,p1⟩)))
   ((refine Zk 1 ?_;(try simp only [Act.put,Zz]));(refine Zk 2 ?_;(try simp only [Act.put,Zz])))
   refine wpAnyH_ready (rs:=[0,3]) (by kernel_rfl) (by simp) ?_
   refine AllReadyH.cons rfl (fun K hK=>?_) (AllReadyH.cons rfl (fun K hK=>?_) AllReadyH.nil)
   ·as_aux_lemma =>
    clear s0 s1
    obtain ⟨s0,s1,_,_,_⟩:=HLW.o
    go_simp
    (refine hK.out _ _ ?_ fun hHeld2=>?_;(focus ((try dsimp only);exact ⟨p0,p1⟩));(clear hK K);(try simp only [Act.put,Zz]))
    (refine wpAnyH_ready (rs:=[3]) (by kernel_rfl) (by simp) ?_;refine AllReadyH.cons rfl (fun K hK=>?_) AllReadyH.nil;go_simp)
    go_at_call 103
    refine (HSJ.o _ HVA.o.2).mono ?_
    rintro e w4 ⟨A4,c4,rfl,hrw,hb⟩
    have hz4:=hb.size
    obtain ⟨b4,hl4,_⟩:=hrw.rvL w.heap.size (by have:=HLA.o.2.2.2.2;omega) (by have:=HLA.o.2.2.2.2;omega) N c4
    clear hrw
    have HBW:=Zh (HBW.o.trans (hb.mono HBW.o.size))
    try have HVA:=Zh (HVA.o.lift hb)
    try have HVT:=Zh (HVT.o.lift hb)
    try have HVX:=Zh (HVX.o.lift hb)
    try have HVM:=Zh (HVM.o.lift hb)
    try have HLA:=Zh (HLA.o.lift hb)
    try have HLW:=Zh (HLW.o.lift hb)
    try have HWW:=Zh (HWW.o.trans (hb.mono HWW.o.size))
    clear hb
    have HVM:=Zh hl4
    clear hl4 p0 p1 s0 s1
    obtain ⟨⟨p0,p1,_,_,_⟩,_⟩:=HVA.o
    obtain ⟨s0,s1,_,_,_⟩:=HLW.o
    go_wp2_with fail
    (refine hK.out _ _ ?_ fun hHeld2=>?_;(focus ((try dsimp only);exact ⟨p0,p1⟩));(clear hK K);(try simp only [Act.put,Zz]))
    (refine wpAnyH_ready (rs:=[4]) (by kernel_rfl) (by simp) ?_;refine AllReadyH.cons rfl (fun K hK=>?_) AllReadyH.nil;go_simp)
    go_at_call 124
    refine (HFJ.o A4 c4 _ (HVM.o.intsL HMO.o)).mono ?_
    rintro e w5 ⟨A5,c5,rfl,hrw,hb⟩
    clear HVM
    have hz5:=hb.size
    obtain ⟨b5,hl5,hb5⟩:=hrw.rvL w.heap.size (by have:=HLA.o.2.2.2.2;omega) (by have:=HLA.o.2.2.2.2;omega) N c5
    have hq5:w.heap.size+1<w4.heap.size:=HLA.o.2.2.2.2
    have HBW:=Zh (HBW.o.trans (hb.mono HBW.o.size))
    try have HVA:=Zh (HVA.o.lift hb)
    try have HVT:=Zh (HVT.o.lift hb)
    try have HVX:=Zh (HVX.o.lift hb)
    try have HVM:=Zh (HVM.o.lift hb)
    try have HLA:=Zh (HLA.o.lift hb)
    try have HLW:=Zh (HLW.o.lift hb)
    try have HWW:=Zh (HWW.o.trans (hb.mono HWW.o.size))
    clear hb
    have HVT:=Zh hl5
    clear hrw hl5
    have hb5':b5=w.heap.size\/w4.heap.size<=b5:=hb5
    clear hb5
    have hgq:w.heap.size+1<g:=hgq0
    have hzz : ∃ (AZ:Option Addr) (cZ bZ:Nat),(RV.mk N (zam N X Y) AZ cZ bZ).Lies w5 w.heap.size/\bZ≠g/\bZ≠w.heap.size+1/\Calls Tryz.prog 183 #[.agg #[.int .i64 N,.slice AX X.length cX],.agg #[.int .i64 N,.slice A5 Y.length c5]] w5 fun e w'=>e = .returned (.agg #[.int .i64 N,.slice AZ (zam N X Y).length cZ])/\Below w5.heap.size w5 w':=by
     have hcall:=zd9 N AX A5 cX c5 X Y w5 (HVX.o.intsL HXO.o) (HVT.o.intsL HYO.o) HXO.o HYO.o
     by_cases hl:codI N X<codI N Y
     ·unfold zam
      rw [if_pos hl] at hcall ⊢
      exact ⟨A5,c5,b5,HVT.o,by omega,by omega,hcall⟩
     ·unfold zam
      rw [if_neg hl] at hcall ⊢
      exact ⟨AX,cX,bX,HVX.o,hg1,hg2,hcall⟩
    obtain ⟨AZ,cZ,bZ,hzl,hzg,hzq,hcall⟩:=hzz
    have HCZ:=Zh hcall
    clear HVX HVT hcall
    have HVX:=Zh hzl
    clear hzl
    generalize zam N X Y=Z at *
    clear p0 p1 s0 s1
    obtain ⟨⟨p0,p1,_,_,_⟩,_⟩:=HVA.o
    obtain ⟨s0,s1,sf0,sf1,_⟩:=HLW.o
    go_wp2_with fail
    (refine hK.out _ _ ?_ fun hHeld2=>?_;(focus ((try dsimp only);exact ⟨p0,p1⟩));(clear hK K);(try simp only [Act.put,Zz]))
    (refine wpAnyH_ready (rs:=[5]) (by kernel_rfl) (by simp) ?_;refine AllReadyH.cons rfl (fun K hK=>?_) AllReadyH.nil;go_simp)
    go_at_call 183
    refine HCZ.o.mono ?_
    rintro e w6 ⟨rfl,hb⟩
    have HBW:=Zh (HBW.o.trans (hb.mono HBW.o.size))
    try have HVA:=Zh (HVA.o.lift hb)
    try have HVT:=Zh (HVT.o.lift hb)
    try have HVX:=Zh (HVX.o.lift hb)
    try have HVM:=Zh (HVM.o.lift hb)
    try have HLA:=Zh (HLA.o.lift hb)
    try have HLW:=Zh (HLW.o.lift hb)
    try have HWW:=Zh (HWW.o.trans (hb.mono HWW.o.size))
    clear hb
    clear p0 p1 s0 s1 sf0 sf1
    obtain ⟨⟨p0,p1,_,_,_⟩,_⟩:=HVA.o
    obtain ⟨s0,s1,sf0,sf1,_⟩:=HLW.o
    go_wp2_with fail
    (refine hK.out _ _ ?_ fun hHeld2=>?_;(focus ((try dsimp only);exact ⟨p0,p1⟩));(clear hK K);(try simp only [Act.put,Zz]))
    (refine wpAnyH_ready (rs:=[6]) (by kernel_rfl) (by simp) ?_;refine AllReadyH.cons rfl (fun K hK=>?_) AllReadyH.nil;go_simp)
    have HLW2:=Zh ((HLW.o.set0 (.int .i64 N)).set1 (.slice AZ Z.length cZ))
    have HRC2:=Zh ((HVA.o.1.far (p:=⟨g,0,none⟩) (show w.heap.size≠g by omega) (.int .i64 N)).far (p:=⟨g,1,none⟩) (show w.heap.size≠g by omega) (.slice AZ Z.length cZ))
    have HLA2:=Zh ((HLA.o.far (p:=⟨g,0,none⟩) (show w.heap.size+1≠g by omega) (.int .i64 N)).far (p:=⟨g,1,none⟩) (show w.heap.size+1≠g by omega) (.slice AZ Z.length cZ))
    have HVX2:=Zh ((HVX.o.far (p:=⟨g,0,none⟩) hzg (.int .i64 N)).far (p:=⟨g,1,none⟩) hzg (.slice AZ Z.length cZ))
    have HBW2:=Zh ((HBW.o.setCell (p:=⟨g,0,none⟩) (show w.heap.size<=g by omega) (.int .i64 N)).setCell (p:=⟨g,1,none⟩) (show w.heap.size<=g by omega) (.slice AZ Z.length cZ))
    clear p0 p1 s0 s1 sf0 sf1
    obtain ⟨p0,p1,_,_,_⟩:=HRC2.o
    obtain ⟨s0,s1,_,_,_⟩:=HLW2.o
    (refine hK.out _ _ ?_ fun hHeld2=>?_;(focus ((try dsimp only);exact ⟨p0,p1⟩));(clear hK K);(try simp only [Act.put,Zz]))
    refine wpAnyH_done (by kernel_rfl) ?_ _
    go_wp2_with fail
    go_roundw
    case rel=>exact ⟨j+1,AZ,cZ,bZ,by omega,by go_num,by rw [show clsR N bs (j+1)=Z1 from HZ1.o,HSU.o];exact HVX2.o,hzg,hzq,by rw [show clsR N bs (j+1)=Z1 from HZ1.o,HSU.o];exact HLW2.o,HRC2.o,HLA2.o,HBW2.o,((HFR0.o.trans (Frm.pure HWW.o _)).setCell (p:=⟨g,0,none⟩) rfl (.int .i64 N)).setCell (p:=⟨g,1,none⟩) rfl (.slice AZ Z.length cZ)⟩
    case measure=>simp [intOf];omega
   ·go_simp
    go_at_call 103
    refine (HSJ.o _ HVA.o.2).mono ?_
    rintro e w4 ⟨A4,c4,rfl,hrw,hb⟩
    have hz4:=hb.size
    obtain ⟨b4,hl4,_⟩:=hrw.rvL w.heap.size (by have:=HLA.o.2.2.2.2;omega) (by have:=HLA.o.2.2.2.2;omega) N c4
    clear hrw
    have HBW:=Zh (HBW.o.trans (hb.mono HBW.o.size))
    try have HVA:=Zh (HVA.o.lift hb)
    try have HVT:=Zh (HVT.o.lift hb)
    try have HVX:=Zh (HVX.o.lift hb)
    try have HVM:=Zh (HVM.o.lift hb)
    try have HLA:=Zh (HLA.o.lift hb)
    try have HLW:=Zh (HLW.o.lift hb)
    try have HWW:=Zh (HWW.o.trans (hb.mono HWW.o.size))
    clear hb
    have HVM:=Zh hl4
    clear hl4 p0 p1 s0 s1
    obtain ⟨⟨p0,p1,_,_,_⟩,_⟩:=HVA.o
    obtain ⟨s0,s1,_,_,_⟩:=HLW.o
    go_wp2_with fail
    (refine hK.out _ _ ?_ fun hHeld2=>?_;(focus ((try dsimp only);exact ⟨p0,p1⟩));(clear hK K);(try simp only [Act.put,Zz]))
    refine wpAnyH_ready (rs:=[0,4]) (by kernel_rfl) (by simp) ?_
    refine AllReadyH.cons rfl (fun K hK=>?_) (AllReadyH.cons rfl (fun K hK=>?_) AllReadyH.nil)
    ·as_aux_lemma =>
     clear s0 s1
     obtain ⟨s0,s1,_,_,_⟩:=HLW.o
     go_simp
     (refine hK.out _ _ ?_ fun hHeld2=>?_;(focus ((try dsimp only);exact ⟨p0,p1⟩));(clear hK K);(try simp only [Act.put,Zz]))
     (refine wpAnyH_ready (rs:=[4]) (by kernel_rfl) (by simp) ?_;refine AllReadyH.cons rfl (fun K hK=>?_) AllReadyH.nil;go_simp)
     go_at_call 124
     refine (HFJ.o A4 c4 _ (HVM.o.intsL HMO.o)).mono ?_
     rintro e w5 ⟨A5,c5,rfl,hrw,hb⟩
     clear HVM
     have hz5:=hb.size
     obtain ⟨b5,hl5,hb5⟩:=hrw.rvL w.heap.size (by have:=HLA.o.2.2.2.2;omega) (by have:=HLA.o.2.2.2.2;omega) N c5
     have hq5:w.heap.size+1<w4.heap.size:=HLA.o.2.2.2.2
     have HBW:=Zh (HBW.o.trans (hb.mono HBW.o.size))
     try have HVA:=Zh (HVA.o.lift hb)
     try have HVT:=Zh (HVT.o.lift hb)
     try have HVX:=Zh (HVX.o.lift hb)
     try have HVM:=Zh (HVM.o.lift hb)
     try have HLA:=Zh (HLA.o.lift hb)
     try have HLW:=Zh (HLW.o.lift hb)
     try have HWW:=Zh (HWW.o.trans (hb.mono HWW.o.size))
     clear hb
     have HVT:=Zh hl5
     clear hrw hl5
     have hb5':b5=w.heap.size\/w4.heap.size<=b5:=hb5
     clear hb5
     have hgq:w.heap.size+1<g:=hgq0
     have hzz : ∃ (AZ:Option Addr) (cZ bZ:Nat),(RV.mk N (zam N X Y) AZ cZ bZ).Lies w5 w.heap.size/\bZ≠g/\bZ≠w.heap.size+1/\Calls Tryz.prog 183 #[.agg #[.int .i64 N,.slice AX X.length cX],.agg #[.int .i64 N,.slice A5 Y.length c5]] w5 fun e w'=>e = .returned (.agg #[.int .i64 N,.slice AZ (zam N X Y).length cZ])/\Below w5.heap.size w5 w':=by
      have hcall:=zd9 N AX A5 cX c5 X Y w5 (HVX.o.intsL HXO.o) (HVT.o.intsL HYO.o) HXO.o HYO.o
      by_cases hl:codI N X<codI N Y
      ·unfold zam
       rw [if_pos hl] at hcall ⊢
       exact ⟨A5,c5,b5,HVT.o,by omega,by omega,hcall⟩
      ·unfold zam
       rw [if_neg hl] at hcall ⊢
       exact ⟨AX,cX,bX,HVX.o,hg1,hg2,hcall⟩
     obtain ⟨AZ,cZ,bZ,hzl,hzg,hzq,hcall⟩:=hzz
     have HCZ:=Zh hcall
     clear HVX HVT hcall
     have HVX:=Zh hzl
     clear hzl
     generalize zam N X Y=Z at *
     clear p0 p1 s0 s1
     obtain ⟨⟨p0,p1,_,_,_⟩,_⟩:=HVA.o
     obtain ⟨s0,s1,sf0,sf1,_⟩:=HLW.o
     go_wp2_with fail
     (refine hK.out _ _ ?_ fun hHeld2=>?_;(focus ((try dsimp only);exact ⟨p0,p1⟩));(clear hK K);(try simp only [Act.put,Zz]))
     (refine wpAnyH_ready (rs:=[5]) (by kernel_rfl) (by simp) ?_;refine AllReadyH.cons rfl (fun K hK=>?_) AllReadyH.nil;go_simp)
     go_at_call 183
     refine HCZ.o.mono ?_
     rintro e w6 ⟨rfl,hb⟩
     have HBW:=Zh (HBW.o.trans (hb.mono HBW.o.size))
     try have HVA:=Zh (HVA.o.lift hb)
     try have HVT:=Zh (HVT.o.lift hb)
     try have HVX:=Zh (HVX.o.lift hb)
     try have HVM:=Zh (HVM.o.lift hb)
     try have HLA:=Zh (HLA.o.lift hb)
     try have HLW:=Zh (HLW.o.lift hb)
     try have HWW:=Zh (HWW.o.trans (hb.mono HWW.o.size))
     clear hb
     clear p0 p1 s0 s1 sf0 sf1
     obtain ⟨⟨p0,p1,_,_,_⟩,_⟩:=HVA.o
     obtain ⟨s0,s1,sf0,sf1,_⟩:=HLW.o
     go_wp2_with fail
     (refine hK.out _ _ ?_ fun hHeld2=>?_;(focus ((try dsimp only);exact ⟨p0,p1⟩));(clear hK K);(try simp only [Act.put,Zz]))
     (refine wpAnyH_ready (rs:=[6]) (by kernel_rfl) (by simp) ?_;refine AllReadyH.cons rfl (fun K hK=>?_) AllReadyH.nil;go_simp)
     have HLW2:=Zh ((HLW.o.set0 (.int .i64 N)).set1 (.slice AZ Z.length cZ))
     have HRC2:=Zh ((HVA.o.1.far (p:=⟨g,0,none⟩) (show w.heap.size≠g by omega) (.int .i64 N)).far (p:=⟨g,1,none⟩) (show w.heap.size≠g by omega) (.slice AZ Z.length cZ))
     have HLA2:=Zh ((HLA.o.far (p:=⟨g,0,none⟩) (show w.heap.size+1≠g by omega) (.int .i64 N)).far (p:=⟨g,1,none⟩) (show w.heap.size+1≠g by omega) (.slice AZ Z.length cZ))
     have HVX2:=Zh ((HVX.o.far (p:=⟨g,0,none⟩) hzg (.int .i64 N)).far (p:=⟨g,1,none⟩) hzg (.slice AZ Z.length cZ))
     have HBW2:=Zh ((HBW.o.setCell (p:=⟨g,0,none⟩) (show w.heap.size<=g by omega) (.int .i64 N)).setCell (p:=⟨g,1,none⟩) (show w.heap.size<=g by omega) (.slice AZ Z.length cZ))
     clear p0 p1 s0 s1 sf0 sf1
     obtain ⟨p0,p1,_,_,_⟩:=HRC2.o
     obtain ⟨s0,s1,_,_,_⟩:=HLW2.o
     (refine hK.out _ _ ?_ fun hHeld2=>?_;(focus ((try dsimp only);exact ⟨p0,p1⟩));(clear hK K);(try simp only [Act.put,Zz]))
     refine wpAnyH_done (by kernel_rfl) ?_ _
     go_wp2_with fail
     go_roundw
     case rel=>exact ⟨j+1,AZ,cZ,bZ,by omega,by go_num,by rw [show clsR N bs (j+1)=Z1 from HZ1.o,HSU.o];exact HVX2.o,hzg,hzq,by rw [show clsR N bs (j+1)=Z1 from HZ1.o,HSU.o];exact HLW2.o,HRC2.o,HLA2.o,HBW2.o,((HFR0.o.trans (Frm.pure HWW.o _)).setCell (p:=⟨g,0,none⟩) rfl (.int .i64 N)).setCell (p:=⟨g,1,none⟩) rfl (.slice AZ Z.length cZ)⟩
     case measure=>simp [intOf];omega
    ·as_aux_lemma =>
     go_simp
     go_at_call 124
     refine (HFJ.o A4 c4 _ (HVM.o.intsL HMO.o)).mono ?_
     rintro e w5 ⟨A5,c5,rfl,hrw,hb⟩
     clear HVM
     have hz5:=hb.size
     obtain ⟨b5,hl5,hb5⟩:=hrw.rvL w.heap.size (by have:=HLA.o.2.2.2.2;omega) (by have:=HLA.o.2.2.2.2;omega) N c5
     have hq5:w.heap.size+1<w4.heap.size:=HLA.o.2.2.2.2
     have HBW:=Zh (HBW.o.trans (hb.mono HBW.o.size))
     try have HVA:=Zh (HVA.o.lift hb)
     try have HVT:=Zh (HVT.o.lift hb)
     try have HVX:=Zh (HVX.o.lift hb)
     try have HVM:=Zh (HVM.o.lift hb)
     try have HLA:=Zh (HLA.o.lift hb)
     try have HLW:=Zh (HLW.o.lift hb)
     try have HWW:=Zh (HWW.o.trans (hb.mono HWW.o.size))
     clear hb
     have HVT:=Zh hl5
     clear hrw hl5
     have hb5':b5=w.heap.size\/w4.heap.size<=b5:=hb5
     clear hb5
     have hgq:w.heap.size+1<g:=hgq0
     have hzz : ∃ (AZ:Option Addr) (cZ bZ:Nat),(RV.mk N (zam N X Y) AZ cZ bZ).Lies w5 w.heap.size/\bZ≠g/\bZ≠w.heap.size+1/\Calls Tryz.prog 183 #[.agg #[.int .i64 N,.slice AX X.length cX],.agg #[.int .i64 N,.slice A5 Y.length c5]] w5 fun e w'=>e = .returned (.agg #[.int .i64 N,.slice AZ (zam N X Y).length cZ])/\Below w5.heap.size w5 w':=by
      have hcall:=zd9 N AX A5 cX c5 X Y w5 (HVX.o.intsL HXO.o) (HVT.o.intsL HYO.o) HXO.o HYO.o
      by_cases hl:codI N X<codI N Y
      ·unfold zam
       rw [if_pos hl] at hcall ⊢
       exact ⟨A5,c5,b5,HVT.o,by omega,by omega,hcall⟩
      ·unfold zam
       rw [if_neg hl] at hcall ⊢
       exact ⟨AX,cX,bX,HVX.o,hg1,hg2,hcall⟩
     obtain ⟨AZ,cZ,bZ,hzl,hzg,hzq,hcall⟩:=hzz
     have HCZ:=Zh hcall
     clear HVX HVT hcall
     have HVX:=Zh hzl
     clear hzl
     generalize zam N X Y=Z at *
     clear p0 p1 s0 s1
     obtain ⟨⟨p0,p1,_,_,_⟩,_⟩:=HVA.o
     obtain ⟨s0,s1,sf0,sf1,_⟩:=HLW.o
     go_wp2_with fail
     (refine hK.out _ _ ?_ fun hHeld2=>?_;(focus ((try dsimp only);exact ⟨p0,p1⟩));(clear hK K);(try simp only [Act.put,Zz]))
     (refine wpAnyH_ready (rs:=[0]) (by kernel_rfl) (by simp) ?_;refine AllReadyH.cons rfl (fun K hK=>?_) AllReadyH.nil;go_simp)
     (refine hK.out _ _ ?_ fun hHeld2=>?_;(focus ((try dsimp only);exact ⟨p0,p1⟩));(clear hK K);(try simp only [Act.put,Zz]))
     (refine wpAnyH_ready (rs:=[5]) (by kernel_rfl) (by simp) ?_;refine AllReadyH.cons rfl (fun K hK=>?_) AllReadyH.nil;go_simp)
     go_at_call 183
     refine HCZ.o.mono ?_
     rintro e w6 ⟨rfl,hb⟩
     have HBW:=Zh (HBW.o.trans (hb.mono HBW.o.size))
     try have HVA:=Zh (HVA.o.lift hb)
     try have HVT:=Zh (HVT.o.lift hb)
     try have HVX:=Zh (HVX.o.lift hb)
     try have HVM:=Zh (HVM.o.lift hb)
     try have HLA:=Zh (HLA.o.lift hb)
     try have HLW:=Zh (HLW.o.lift hb)
     try have HWW:=Zh (HWW.o.trans (hb.mono HWW.o.size))
     clear hb
     clear p0 p1 s0 s1 sf0 sf1
     obtain ⟨⟨p0,p1,_,_,_⟩,_⟩:=HVA.o
     obtain ⟨s0,s1,sf0,sf1,_⟩:=HLW.o
     go_wp2_with fail
     (refine hK.out _ _ ?_ fun hHeld2=>?_;(focus ((try dsimp only);exact ⟨p0,p1⟩));(clear hK K);(try simp only [Act.put,Zz]))
     (refine wpAnyH_ready (rs:=[6]) (by kernel_rfl) (by simp) ?_;refine AllReadyH.cons rfl (fun K hK=>?_) AllReadyH.nil;go_simp)
     have HLW2:=Zh ((HLW.o.set0 (.int .i64 N)).set1 (.slice AZ Z.length cZ))
     have HRC2:=Zh ((HVA.o.1.far (p:=⟨g,0,none⟩) (show w.heap.size≠g by omega) (.int .i64 N)).far (p:=⟨g,1,none⟩) (show w.heap.size≠g by omega) (.slice AZ Z.length cZ))
     have HLA2:=Zh ((HLA.o.far (p:=⟨g,0,none⟩) (show w.heap.size+1≠g by omega) (.int .i64 N)).far (p:=⟨g,1,none⟩) (show w.heap.size+1≠g by omega) (.slice AZ Z.length cZ))
     have HVX2:=Zh ((HVX.o.far (p:=⟨g,0,none⟩) hzg (.int .i64 N)).far (p:=⟨g,1,none⟩) hzg (.slice AZ Z.length cZ))
     have HBW2:=Zh ((HBW.o.setCell (p:=⟨g,0,none⟩) (show w.heap.size<=g by omega) (.int .i64 N)).setCell (p:=⟨g,1,none⟩) (show w.heap.size<=g by omega) (.slice AZ Z.length cZ))
     clear p0 p1 s0 s1 sf0 sf1
     obtain ⟨p0,p1,_,_,_⟩:=HRC2.o
     obtain ⟨s0,s1,_,_,_⟩:=HLW2.o
     (refine hK.out _ _ ?_ fun hHeld2=>?_;(focus ((try dsimp only);exact ⟨p0,p1⟩));(clear hK K);(try simp only [Act.put,Zz]))
     refine wpAnyH_done (by kernel_rfl) ?_ _
     go_wp2_with fail
     go_roundw
     case rel=>exact ⟨j+1,AZ,cZ,bZ,by omega,by go_num,by rw [show clsR N bs (j+1)=Z1 from HZ1.o,HSU.o];exact HVX2.o,hzg,hzq,by rw [show clsR N bs (j+1)=Z1 from HZ1.o,HSU.o];exact HLW2.o,HRC2.o,HLA2.o,HBW2.o,((HFR0.o.trans (Frm.pure HWW.o _)).setCell (p:=⟨g,0,none⟩) rfl (.int .i64 N)).setCell (p:=⟨g,1,none⟩) rfl (.slice AZ Z.length cZ)⟩
     case measure=>simp [intOf];omega
  ·have hjN:j=(uniV N).length:=by omega
   subst hjN
   have HV:=Zh HV0.o
   generalize clsR N bs (uniV N).length=X at *
   obtain ⟨s0,s1,_,_,_⟩:=HLW.o
   obtain ⟨r0,r1,rf0,rf1,_⟩:=HLA.o
   go_wp2_with fail
   refine bodyPost_ret (v:=.agg #[.int .i64 N,.slice AX X.length cX]) (by simp [results,Tryz.results126,go_sem,r0,r1]) rfl ?_
   rw [HV.o]
   exact ⟨AX,cX,rfl,((HVX.o.far (p:=⟨w.heap.size+1,0,none⟩) hg2 _).far (p:=⟨w.heap.size+1,1,none⟩) hg2 _).rwL,(HBW.o.setCell (p:=⟨w.heap.size+1,0,none⟩) (Nat.le_add_right _ _) _).setCell (p:=⟨w.heap.size+1,1,none⟩) (Nat.le_add_right _ _) _⟩
section
variable {w w':World} {base:Nat} {v:Value} {rs:List RV}
end
theorem Tryz.infoRhythm:(Tryz.prog.info? 27).map (fun i=>(i.zero,i.size,i.bytes))=some (some (.agg #[.int .i64 0,.slice none 0 0]),2,32):=by kernel_rfl
def RdR (w:World)(B:Nat)(A:Option Addr)(rs:List RV):Prop :=
 rs.length<=1048576/\(∀ r∈rs,Ints w B r.A r.xs) /\
 (0<rs.length -> ∃ g,A=some ⟨g,0,none⟩/\g<B /\ ∀ i (h:i<rs.length),w.cell? ⟨g,i*2,none⟩=some (.int .i64 rs[i].n)/\w.cell? ⟨g,i*2+1,none⟩=some rs[i].slc)
def keyR (rs:List RV):List (Int × List Int):=rs.map fun r=>(r.n,r.xs)
theorem zog (rs:List RV):(keyR rs).length=rs.length:=by simp [keyR]
theorem zy4 {rs:List RV}{L:List (Int × List Int)}(h:keyR rs=L)(hf : ∀ p∈L,∀ x∈p.2,Fits x) : ∀ r∈rs,∀ x∈r.xs,Fits x:=by
 intro r hr
 subst h
 exact hf (r.n,r.xs) (List.mem_map.2 ⟨r,hr,rfl⟩)
end Go.Proofs.YtjpnjchpdkogbaaGreatDoor
