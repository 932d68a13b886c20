/- Parts of the proof of the card of the law FnConsole. -/
import Derived.Test.YtjpnjchpdkogbaaGreatDoorG29
import Derived.Test.YtjpnjchpdkogbaaGreatDoorG31
set_option linter.unusedVariables false
set_option linter.unusedSimpArgs false
set_option maxRecDepth 100000
set_option maxHeartbeats 4000000
namespace Go.Proofs.YtjpnjchpdkogbaaGreatDoor
open Go.RowKit
theorem z47 {us:List ByteArray}(h:LnsOk us):us≠[]/\(∀ u∈us,u.size<=40) /\ ∀ u∈us,∀ c∈u.data.toList,c≠10:=by
 refine ⟨fun e=>by have:=h.2.2;rw [e] at this;simp at this,fun u hu=>(zqn u (h.1 u hu)).1,fun u hu c hc e=>?_⟩
 have h1:=List.all_eq_true.1 (zqn u (h.1 u hu)).2 c hc
 rw [e] at h1
 simp at h1
theorem z48 (acc:List UInt8)(T:ByteArray):(mkS acc++T++⟨#[10]⟩:ByteArray)=mkS (acc++(T.data.toList++[10])):=by
 apply ByteArray.ext
 apply Array.toList_inj.1
 simp [mkS]
theorem z49 {w:World}(A:Option Addr)(cap:Nat)(xs:List Int)(hA:Byt w w.heap.size A xs)(hE:Errs w)(hP:Pow w)(hD:DeB w)(hM:MaxL w) :
  Calls Tryz.prog 3 #[.slice A xs.length cap] w fun e w'=>e = .returned (.bool true)/\Below w.heap.size w w':=by
 have HA:=Zh hA
 have HE:=Zh (show Env w.heap.size w from fun V hb=>⟨hE.below hb,hP.below hb,hM.below hb,hD.below hb⟩)
 have hml:=hA.1
 unfold maxLen at hml
 clear hA hE hP hM hD
 by_cases hbig:1048576<xs.length
 ·go_enter Tryz.func3,Tryz.ntmps3
  go_wp2_with fail
  go_ret
  exact ⟨rfl,Below.refl _ _⟩
 go_enter Tryz.func3,Tryz.ntmps3
 go_wp2_with fail
 refine (z43 A cap xs w HA.o).mono ?_
 rintro e w1 ⟨B0,c0,us,rfl,hown,hl,h9,hb⟩
 obtain ⟨hne,h40,h10⟩:=z47 hl
 have hpos:0<us.length:=List.length_pos_iff.2 hne
 have hcap:=hown.cap_
 obtain ⟨g0,rfl,hge,hlt,hcr⟩:=hown.read hpos
 have HT1:=Zh (show TxR w1 w.heap.size g0 us from ⟨hge,hlt,hcr⟩)
 have HB1:=Zh hb
 obtain ⟨R0,hR0⟩ : ∃ R:List Int,[0,3,6]=R:=⟨_,rfl⟩
 have HNC:=Zh (fun V=>hR0 ▸ zqm V)
 have hok0:RhOk (8:Nat) R0:=by rw [<- hR0];exact zqq
 have hses:=z4v (8,R0) hne h10
 have hps:=z4z hne hl.2.1
 have hjl:=z40 h40 (by omega)
 have hsok:=fun k=>zkb (r0:=(8,R0)) (us:=us) hok0 k
 have hlen:=zj5 (r0:=(8,R0)) (ls:=us) us.length (fun k _=>Nat.le_trans (zgw (hsok k) _).1 (by decide))
 have HRS:=Zh (fun V (hV:Env V.heap.size V)=>z4q (zb2 us) V hjl hV (by omega) (fun l hm=>Nat.le_trans (h40 l (hses.2.2.2 l hm)) (by decide)) (fun l _ i hi=>zqk hi) (fun k _=>Nat.le_trans (zgw (zkb (r0:=(8,[0,3,6])) zqq k) _).1 (by decide)))
 rw [hR0] at hps
 obtain ⟨m,hm⟩ : ∃ m,(slnV (zb2 us)).length=m:=⟨_,rfl⟩
 rw [hR0,hm] at HRS
 rw [hm] at hses
 rw [hses.1] at HRS
 have hm1:=hses.2.1
 have hm2:=hses.2.2.1
 have HJN:=Zh (fun c V (hI:Strs V V.heap.size (some ⟨g0,0,none⟩) (us.map (·.data.toList))) (hc:us.length<=c)=>show Calls Tryz.prog 8 #[.slice (some ⟨g0,0,none⟩) us.length c,.string ⟨#[10]⟩] V fun e w'=>e = .returned (.string (zb2 us))/\Below V.heap.size V w' by
  have h:=zdr (some ⟨g0,0,none⟩) c (us.map (·.data.toList)) [10] 40 V hI (by rw [List.length_map];exact hc) (fun x hx=>by
   obtain ⟨u,hu,rfl⟩:=List.mem_map.1 hx
   have h2:u.data.toList.length=u.size:=by simp
   have:=h40 u hu
   omega) (by decide)
  rw [List.length_map] at h
  exact h)
 have HST:=Zh (fun V (h:TxR V w.heap.size g0 us)=>show Strs V V.heap.size (some ⟨g0,0,none⟩) (us.map (·.data.toList)) from ⟨by rw [List.length_map];omega,fun _=>⟨g0,0,rfl,h.2.1,fun i hi=>by
  rw [List.length_map] at hi
  rw [Nat.zero_add,h.2.2 i hi]
  have e:(us.map (·.data.toList)).getD i []=(us.getD i ⟨#[]⟩).data.toList:=by
   rw [List.getD_eq_getElem?_getD,List.getD_eq_getElem?_getD,List.getElem?_map,List.getElem?_eq_getElem hi];rfl
  rw [e]
  rfl⟩⟩)
 have HLS:=Zh (fun k (hk:k<us.length)=>show (us.getD k ⟨#[]⟩).size<=1048576 from Nat.le_trans (h40 _ (by rw [List.getD_eq_getElem?_getD,List.getElem?_eq_getElem hk];exact List.getElem_mem hk)) (by decide))
 have HS0:=Zh (show stK (8,R0) us 0=((8,R0),[]) from rfl)
 have HSS:=Zh (fun k=>show stK (8,R0) us (k+1)=((zau (stK (8,R0) us k).1.1 (stK (8,R0) us k).1.2 (us.getD k ⟨#[]⟩)).1,(stK (8,R0) us k).2++ansB (zau (stK (8,R0) us k).1.1 (stK (8,R0) us k).1.2 (us.getD k ⟨#[]⟩)).2) from rfl)
 have HBD:=Zh (fun k=>(zgw (hsok k) (us.getD k ⟨#[]⟩)).1)
 generalize zb2 us=J at *
 generalize stK (8,R0) us=S at *
 have HLE:=Zh hlen
 have HPS:=Zh hps
 have HOK0:=Zh hok0
 clear hown hb hcr hses hps hjl hsok hlen hok0 hR0 hm hl h40 h10 hne hbig hml
 go_wp2_with fail
 refine (HNC.o _).mono ?_
 rintro e w2 ⟨A2,c2,rfl,hrw,hb⟩
 have HB2:=Zh (HB1.o.trans (hb.mono HB1.o.size))
 have HT2:=Zh (HT1.o.below hb)
 have HI2:=Zh (hrw.fitsP HOK0.o)
 clear hb hrw
 obtain ⟨q5,hq5⟩ : ∃ q,w2.heap.size=q:=⟨_,rfl⟩
 have hal2:=(Below.refl w2.heap.size w2).alloc (Nat.le_refl _) (.cells #[.int .i64 8,.slice A2 R0.length c2] 27)
 have HX3:=Zh (Cells2.new w2 (.int .i64 8) (.slice A2 R0.length c2) 27)
 have HB3:=Zh (HB2.o.trans (hal2.mono HB2.o.size))
 have HT3:=Zh (HT2.o.below hal2)
 have HI3:=Zh (HI2.o.lift hal2)
 rw [hq5] at HX3
 have hg0:g0<q5:=by have:=HT2.o.2.1;omega
 have hq5w:w.heap.size<=q5:=by have:=HB2.o.size;omega
 clear hal2
 go_wp2_with fail
 generalize w2.alloc (.cells #[.int .i64 8,.slice A2 R0.length c2] 27)=w3 at *
 clear hq5
 go_loopw [5,20] (fun sw i wr=>∃ (k:Nat) (A:Option Addr) (c:Nat),k<=us.length/\i = .int .i64 k/\sw = .string (mkS (S k).2)/\Cells2 wr q5 (.int .i64 (S k).1.1) (.slice A (S k).1.2.length c)/\Ints wr wr.heap.size A (S k).1.2/\RhOk (S k).1.1 (S k).1.2/\Below w.heap.size w wr/\TxR wr w.heap.size g0 us) (fun _ i _=>us.length-(intOf i).toNat)
 case atStart =>
  refine ⟨0,A2,c2,Nat.zero_le _,rfl,?_,?_,?_,?_,HB3.o,HT3.o⟩
  ·rw [HS0.o];rfl
  ·rw [HS0.o];exact HX3.o
  ·rw [HS0.o];exact HI3.o
  ·rw [HS0.o];exact HOK0.o
 case round =>
  obtain ⟨k,A,c,hk,rfl,rfl,hx,hi,hok,hb,ht⟩:=hrel
  obtain ⟨wo,rfl⟩ : ∃ wo:World,wo=wr:=⟨_,rfl⟩
  have HX:=Zh hx
  have HI:=Zh hi
  have HK:=Zh hok
  have HBW:=Zh hb
  have HT:=Zh ht
  clear hx hi hok hb ht HB3 HT3 HI3 HX3 HB2 HT2 HI2
  have hk0:(0:Int)<=(k:Int):=Int.natCast_nonneg _
  by_cases hlt:k<us.length
  ·have hlti:(k:Int)<(us.length:Int):=by omega
   have hcl:=HT.o.2.2 k hlt
   have hSk:=HSS.o k
   have hle1:=HLE.o k (by omega)
   have hk9:k*1073741825<=9*1073741825:=Nat.mul_le_mul_right _ (by omega)
   have hbd1:=HBD.o k
   have HRL:=Zh (zql (S k).1.1 A c (S k).1.2 (us.getD k ⟨#[]⟩) wo HI.o HK.o (HLS.o k hlt) (fun V hV=>HE.o V (HBW.o.trans (hV.mono HBW.o.size))) (fun i hi=>zqk hi))
   have hS1:((S (k+1)).1,(S (k+1)).2)=((zau (S k).1.1 (S k).1.2 (us.getD k ⟨#[]⟩)).1,(S k).2++ansB (zau (S k).1.1 (S k).1.2 (us.getD k ⟨#[]⟩)).2):=by rw [hSk]
   have hS1a:=congrArg Prod.fst hS1
   have hS1b:=congrArg Prod.snd hS1
   simp only at hS1a hS1b
   have HSA:=Zh hS1a
   have HSB:=Zh hS1b
   clear hSk hS1 hS1a hS1b
   obtain ⟨SN,hSN⟩ : ∃ s,S (k+1)=s:=⟨_,rfl⟩
   rw [hSN] at HSA HSB
   have HSN:=Zh hSN
   clear hSN
   obtain ⟨⟨Nn,ys0⟩,out⟩:=SN
   generalize zau (S k).1.1 (S k).1.2 (us.getD k ⟨#[]⟩)=LV at *
   obtain ⟨⟨M,ys⟩,T⟩:=LV
   generalize S k=SK at *
   obtain ⟨⟨N,bs⟩,acc⟩:=SK
   generalize us.getD k ⟨#[]⟩=line at *
   obtain ⟨f0,f1,ff0,ff1,hq5l⟩:=HX.o
   simp only at f0 f1 HI HK hle1 hbd1 HSA HSB ⊢
   have hWz:(mkS acc).size=acc.length:=za2 acc
   have HCN:=Zh (z48 acc T)
   obtain ⟨Wt,hWt⟩ : ∃ W,mkS acc=W:=⟨_,rfl⟩
   rw [hWt] at hWz HCN ⊢
   have HWT:=Zh hWt
   clear hWt
   go_wp2_with fail
   refine HRL.o.mono ?_
   rintro e w4 ⟨A4,c4,rfl,hi4,hn4,hok4,hb4⟩
   simp only at hi4 hn4 hok4
   have hz4:=hb4.size
   have hal:=(Below.refl w4.heap.size w4).alloc (Nat.le_refl _) (.cells #[.int .i64 M,.slice A4 ys.length c4] 27)
   have HN5:=Zh (Cells2.new w4 (.int .i64 M) (.slice A4 ys.length c4) 27)
   have HW5:=Zh (hb4.trans (hal.mono hb4.size))
   have HX5:=Zh (HX.o.below HW5.o hq5l)
   have HT5:=Zh (HT.o.below HW5.o)
   have HI5:=Zh (hi4.lift hal)
   have HN4:=Zh hn4
   have HK4:=Zh hok4
   have HB5:=Zh (HBW.o.trans (HW5.o.mono HBW.o.size))
   have hq4:q5<w4.heap.size:=by omega
   clear hi4 hn4 hok4 hal hb4 f0 f1 ff0 ff1
   obtain ⟨f0,f1,ff0,ff1,hq5l5⟩:=HX5.o
   obtain ⟨n0,n1,_,_,_⟩:=HN5.o
   have HX6:=Zh ((HX5.o.set0 (.int .i64 M)).set1 (.slice A4 ys.length c4))
   have HB6:=Zh ((HB5.o.setCell (p:=⟨q5,0,none⟩) hq5w (.int .i64 M)).setCell (p:=⟨q5,1,none⟩) hq5w (.slice A4 ys.length c4))
   have hgq:q5≠g0:=by omega
   have HNQ:=Zh (show ∀ k o,A4=some ⟨k,o,none⟩->0<ys.length->k≠q5 from fun k o e h=>by have:=HN4.o k o e h;omega)
   have HI6:=Zh (show Ints (((w4.alloc (.cells #[.int .i64 M,.slice A4 ys.length c4] 27)).setCell ⟨q5,0,none⟩ (.int .i64 M)).setCell ⟨q5,1,none⟩ (.slice A4 ys.length c4)) (((w4.alloc (.cells #[.int .i64 M,.slice A4 ys.length c4] 27)).setCell ⟨q5,0,none⟩ (.int .i64 M)).setCell ⟨q5,1,none⟩ (.slice A4 ys.length c4)).heap.size A4 ys from ((HI5.o.setFar2 (p:=⟨q5,0,none⟩) HNQ.o (.int .i64 M)).setFar2 (p:=⟨q5,1,none⟩) HNQ.o (.slice A4 ys.length c4)).mono (by simp [World.setCell]))
   have HT6:=Zh (show TxR (((w4.alloc (.cells #[.int .i64 M,.slice A4 ys.length c4] 27)).setCell ⟨q5,0,none⟩ (.int .i64 M)).setCell ⟨q5,1,none⟩ (.slice A4 ys.length c4)) w.heap.size g0 us from ⟨HT5.o.1,by simpa [World.setCell] using HT5.o.2.1,fun i hi=>by
    rw [World.cell?_setCell_other _ _ _ _ (fun h=>by injection h;omega),World.cell?_setCell_other _ _ _ _ (fun h=>by injection h;omega)]
    exact HT5.o.2.2 i hi⟩)
   obtain ⟨g0',g1',gg0,gg1,_⟩:=HX5.o.set0 (.int .i64 M)
   clear hq4 hz4 hq5l hq5l5
   by_cases hT:T.data.toList=[]
   ·have hTe:T=⟨#[]⟩:=by
     obtain ⟨d⟩:=T
     simp only at hT
     rw [Array.toList_eq_nil_iff.1 hT]
    have HSB2:=Zh (show out=acc by rw [HSB.o,ansB,if_pos hT,List.append_nil])
    clear HSB hT
    subst hTe
    go_wp2_with fail
    go_roundw
    case rel =>
     have HE9:=Zh (show S (k+1)=((M,ys),acc) by rw [HSN.o,HSA.o,HSB2.o])
     refine ⟨k+1,A4,c4,by omega,by go_num,?_,?_,?_,?_,HB6.o,HT6.o⟩
     ·rw [HE9.o];exact congrArg Value.string HWT.o.symm
     ·rw [HE9.o];exact HX6.o
     ·rw [HE9.o];exact HI6.o
     ·rw [HE9.o];exact HK4.o
    case measure=>simp [intOf];omega
   ·obtain ⟨ch,rl,hcr⟩:=List.exists_cons_of_ne_nil hT
    have HSB2:=Zh (show out=acc++(T.data.toList++[10]) by rw [HSB.o,ansB,if_neg hT])
    have he0:T.toList=ch::rl:=by rw [Lib.toList_data];exact hcr
    have he2:(T.toList==[])=false:=by rw [he0];rfl
    have he3:(T.toList=[])=False:=eq_false (by rw [he0];exact List.cons_ne_nil _ _)
    have he4:T.toList.isEmpty=false:=by rw [he0];rfl
    have he5:(T.toList==(⟨#[]⟩:ByteArray).toList)=false:=by rw [show (⟨#[]⟩:ByteArray).toList=[] by rw [Lib.toList_data]];exact he2
    have hcs1 : ¬ 9223372036854775807<Wt.size+T.size:=by omega
    have hcs2 : ¬ 9223372036854775807<Wt.size+T.size+1:=by omega
    clear hT hcr
    go_wp2_with fail
    go_roundw
    case rel =>
     have HE9:=Zh (show S (k+1)=((M,ys),acc++(T.data.toList++[10])) by rw [HSN.o,HSA.o,HSB2.o])
     refine ⟨k+1,A4,c4,by omega,by go_num,?_,?_,?_,?_,HB6.o,HT6.o⟩
     ·rw [HE9.o];exact congrArg Value.string HCN.o
     ·rw [HE9.o];exact HX6.o
     ·rw [HE9.o];exact HI6.o
     ·rw [HE9.o];exact HK4.o
    case measure=>simp [intOf];omega
  ·have hke:k=us.length:=by omega
   subst hke
   have hps:=HPS.o
   have hle1:=HLE.o us.length (Nat.le_refl _)
   obtain ⟨ch,rl,hcr⟩:=List.exists_cons_of_ne_nil hps
   obtain ⟨Wt,hWt⟩ : ∃ W,mkS (S us.length).2=W:=⟨_,rfl⟩
   have he0:Wt.toList=ch::rl:=by rw [Lib.toList_data,<- hWt,hcr];simp [mkS]
   have he2:(Wt.toList==[])=false:=by rw [he0];rfl
   have he3:(Wt.toList=[])=False:=eq_false (by rw [he0];exact List.cons_ne_nil _ _)
   have he4:Wt.toList.isEmpty=false:=by rw [he0];rfl
   have he5:(Wt.toList==(⟨#[]⟩:ByteArray).toList)=false:=by rw [show (⟨#[]⟩:ByteArray).toList=[] by rw [Lib.toList_data]];exact he2
   rw [hWt] at HRS ⊢
   clear hps hle1 hcr hWt
   have hw1:IntKind.i64.wrap ((us.length:Int)-1)=(us.length:Int)-1:=i64w (by omega)
   have hc1:(us.length:Int)-1<=(m:Int):=by omega
   have hc2:(m:Int)<=(us.length:Int):=by omega
   go_wp2_with fail
   refine (HJN.o _ _ (HST.o _ HT.o) hcap).mono ?_
   rintro e w5 ⟨rfl,hb5⟩
   have HB5:=Zh (HBW.o.trans (hb5.mono HBW.o.size))
   clear hb5
   go_wp2_with fail
   refine (HRS.o w5 (fun V hV=>HE.o V (HB5.o.trans (hV.mono HB5.o.size)))).mono ?_
   rintro e w6 ⟨rfl,hb6⟩
   have HB6:=Zh (HB5.o.trans (hb6.mono HB5.o.size))
   clear hb6
   go_wp2_with fail
   go_ret
   exact ⟨rfl,HB6.o⟩
end Go.Proofs.YtjpnjchpdkogbaaGreatDoor
