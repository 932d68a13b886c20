/- Parts of the proof of the card of the law FnConfirms. -/
import Derived.Test.YtjgbidnebnggoaaGreatDoorG29
import Derived.Test.YtjgbidnebnggoaaGreatDoorG26
set_option linter.unusedVariables false
set_option linter.unusedSimpArgs false
set_option maxRecDepth 100000
set_option maxHeartbeats 4000000
namespace Go.Proofs.YtjgbidnebnggoaaGreatDoor
open Go.RowKit
def ansB (a:ByteArray):List UInt8:=if a.data.toList=[] then [] else a.data.toList++[10]
noncomputable def stK (r0:Nat × List Int) (ls:List ByteArray):Nat->(Nat × List Int) × List UInt8
 | 0=>(r0,[])
 | k+1=>((zaa (stK r0 ls k).1.1 (stK r0 ls k).1.2 (ls.getD k ⟨#[]⟩)).1,(stK r0 ls k).2++ansB (zaa (stK r0 ls k).1.1 (stK r0 ls k).1.2 (ls.getD k ⟨#[]⟩)).2)
theorem zqx {r0:Nat × List Int}{ls:List ByteArray}(n:Nat)(h : ∀ k,k<n->(zaa (stK r0 ls k).1.1 (stK r0 ls k).1.2 (ls.getD k ⟨#[]⟩)).2.size<=1073741824) : ∀ k,k<=n->(stK r0 ls k).2.length<=k*1073741825
 | 0,_=>Nat.le_refl _
 | k+1,hk=>by
  have ih:=zqx n h k (by omega)
  have h1:=h k (by omega)
  show ((stK r0 ls k).2++ansB _).length<=_
  rw [List.length_append]
  have h2:(ansB (zaa (stK r0 ls k).1.1 (stK r0 ls k).1.2 (ls.getD k ⟨#[]⟩)).2).length<=(zaa (stK r0 ls k).1.1 (stK r0 ls k).1.2 (ls.getD k ⟨#[]⟩)).2.size+1:=by
   unfold ansB
   split
   ·exact Nat.zero_le _
   ·simp
  omega
theorem Bld.far {w:World}{b:Nat}{v:Value}{l:List UInt8}(h:Bld w b v l){p:Addr}(hp:b≠p.block)(hv:v.ownBlock≠some p.block)(u:Value):Bld (w.setCell p u) b v l:=by
 obtain ⟨q,hq,hk,ho⟩:=h
 refine ⟨q,hq,by rw [Below.heap_setCell _ _ _ _ (fun e=>hp e)];exact hk,?_⟩
 exact ho.kept (row:=some p.block) ⟨rfl,rfl,rfl,by simp [World.setCell],fun k _ hk=>Below.heap_setCell _ _ _ _ (fun e=>hk (by simp [e]))⟩ (Or.inr hv)
theorem Bld.ge {w:World}{b:Nat}{v:Value}{l:List UInt8}(h:Bld w b v l) : ∀ k,v.ownBlock=some k->b<=k:=by
 obtain ⟨p,_,_,ho⟩:=h
 exact fun k hk=>(ho.lt k hk).1
theorem z6g (text:ByteArray)(w:World)(hs:text.size<=1048576)(hE:Env w.heap.size w)(hn:(slnV text).length<=40)(hls : ∀ l∈slnV text,l.size<=1048576)
  (hC : ∀ l∈slnV text,∀ i,fndK (keyV (splT 32 l))=some i->za6 i)
  (hB : ∀ k,k<(slnV text).length->(zaa (stK (8,[0,3,6]) (slnV text) k).1.1 (stK (8,[0,3,6]) (slnV text) k).1.2 ((slnV text).getD k ⟨#[]⟩)).2.size<=1073741824) :
  Calls Tryz.prog 5 #[.string text] w fun e w'=>e = .returned (.tuple #[.string (mkS (stK (8,[0,3,6]) (slnV text) (slnV text).length).2),.int .i64 (slnV text).length])/\Below w.heap.size w w':=by
 have HSL:=Zh (zks text w hs (hE w (Below.refl _ _)).2.2.1)
 have hlen:=zqx (slnV text).length hB
 generalize slnV text=us at *
 obtain ⟨R0,hR0⟩ : ∃ R:List Int,[0,3,6]=R:=⟨_,rfl⟩
 have HNC:=Zh (fun V=>hR0 ▸ z6f V)
 have hok0:RhOk (8:Nat) R0:=by
  rw [<- hR0]
  refine ⟨by decide,by decide,fun i hi=>?_,fun i hi=>?_⟩
  ·have:i=0\/i=1\/i=2:=by simp at hi;omega
   rcases this with rfl | rfl | rfl <;> decide
  ·have:i=0\/i=1:=by simp at hi;omega
   rcases this with rfl | rfl <;> decide
 rw [hR0] at hlen hB ⊢
 have HS0:=Zh (show stK (8,R0) us 0=((8,R0),[]) from rfl)
 have HSS:=Zh (fun k=>show stK (8,R0) us (k+1)=((zaa (stK (8,R0) us k).1.1 (stK (8,R0) us k).1.2 (us.getD k ⟨#[]⟩)).1,(stK (8,R0) us k).2++ansB (zaa (stK (8,R0) us k).1.1 (stK (8,R0) us k).1.2 (us.getD k ⟨#[]⟩)).2) from rfl)
 generalize stK (8,R0) us=S at *
 have HLE:=Zh hlen
 have HBD:=Zh hB
 have HE:=Zh hE
 have HCC:=Zh hC
 have HLS:=Zh hls
 have HOK0:=Zh hok0
 have hnl : ¬ (40:Int)<(us.length:Int):=by omega
 have hnl0:(0:Int)<=(us.length:Int):=Int.natCast_nonneg _
 clear hlen hB hE hC hls hok0 hR0
 go_enter Tryz.func5,Tryz.ntmps5
 go_wp2_with fail
 refine HSL.o.mono ?_
 rintro e w1 ⟨g0,rfl,htx,hb⟩
 have HT1:=Zh htx
 have HB1:=Zh hb
 clear htx hb
 go_wp2_with fail
 refine (HNC.o _).mono ?_
 rintro e w2 ⟨A2,c2,rfl,hrw,hb⟩
 have HB2:=Zh (HB1.o.trans (hb.mono HB1.o.size))
 have HT2:=Zh (HT1.o.below hb)
 have HI2:=Zh (hrw.fitsP HOK0.o)
 clear hb hrw
 obtain ⟨q5,hq5⟩ : ∃ q,w2.heap.size=q:=⟨_,rfl⟩
 have hal1:=(Below.refl w2.heap.size w2).alloc (Nat.le_refl _) (.cells #[.int .i64 8,.slice A2 R0.length c2] 35)
 have hal2:=hal1.alloc hal1.size (.cells #[.pointer none,.slice none 0 0] 39)
 have HX3:=Zh ((Cells2.new w2 (.int .i64 8) (.slice A2 R0.length c2) 35).alloc (.cells #[.pointer none,.slice none 0 0] 39))
 have HL3:=Zh (Bld.new (w2.alloc (.cells #[.int .i64 8,.slice A2 R0.length c2] 35)))
 have HB3:=Zh (HB2.o.trans (hal2.mono HB2.o.size))
 have HT3:=Zh (HT2.o.below hal2)
 have HI3:=Zh (HI2.o.lift hal2)
 rw [World.size_alloc,hq5] at HL3
 rw [hq5] at HX3
 have hg0:g0<q5:=by have:=HT2.o.2.1;omega
 have hq5w:w.heap.size<=q5:=by have:=HB2.o.size;omega
 clear hal1 hal2
 go_wp2_with fail
 generalize (w2.alloc (.cells #[.int .i64 8,.slice A2 R0.length c2] 35)).alloc (.cells #[.pointer none,.slice none 0 0] 39)=w3 at *
 clear hq5
 go_loopw [19] (fun i wr=>∃ (k:Nat) (A:Option Addr) (c:Nat) (v:Value),k<=us.length/\i = .int .i64 k/\Cells2 wr q5 (.int .i64 (S k).1.1) (.slice A (S k).1.2.length c)/\Ints wr wr.heap.size A (S k).1.2/\RhOk (S k).1.1 (S k).1.2/\Bld wr (q5+1) v (S k).2/\Below w.heap.size w wr/\TxR wr w.heap.size g0 us) (fun i _=>us.length-(intOf i).toNat)
 case atStart =>
  refine ⟨0,A2,c2,.slice none 0 0,Nat.zero_le _,rfl,?_,?_,?_,?_,HB3.o,HT3.o⟩
  ·rw [HS0.o];exact HX3.o
  ·rw [HS0.o];exact HI3.o
  ·rw [HS0.o];exact HOK0.o
  ·rw [HS0.o];exact HL3.o
 case round =>
  obtain ⟨k,A,c,v,hk,rfl,hx,hi,hok,hbd,hb,ht⟩:=hrel
  obtain ⟨wo,rfl⟩ : ∃ wo:World,wo=wr:=⟨_,rfl⟩
  have HX:=Zh hx
  have HI:=Zh hi
  have HK:=Zh hok
  have HBD5:=Zh hbd
  have HBW:=Zh hb
  have HT:=Zh ht
  clear hx hi hok hbd hb ht
  have hk0:(0:Int)<=(k:Int):=Int.natCast_nonneg _
  by_cases hlt:k<us.length
  ·have hlti:(k:Int)<(us.length:Int):=by omega
   have hcl:=HT.o.2.2 k hlt
   have hmem:us.getD k ⟨#[]⟩∈us:=by rw [List.getD_eq_getElem?_getD,List.getElem?_eq_getElem hlt];exact List.getElem_mem hlt
   have hSk:=HSS.o k
   have hle1:=HLE.o k (by omega)
   have hbd1:=HBD.o k hlt
   have HRL:=Zh (z59 (S k).1.1 A c (S k).1.2 (us.getD k ⟨#[]⟩) wo HI.o HK.o (HLS.o _ hmem) (fun V hV=>HE.o V (HBW.o.trans (hV.mono HBW.o.size))) (HCC.o _ hmem))
   have hS1:((S (k+1)).1,(S (k+1)).2)=((zaa (S k).1.1 (S k).1.2 (us.getD k ⟨#[]⟩)).1,(S k).2++ansB (zaa (S k).1.1 (S k).1.2 (us.getD k ⟨#[]⟩)).2):=by rw [hSk]
   have hS1a:=congrArg Prod.fst hS1
   have hS1b:=congrArg Prod.snd hS1
   simp only at hS1a hS1b
   have HSA:=Zh hS1a
   have HSB:=Zh hS1b
   clear hSk hS1 hS1a hS1b hmem
   obtain ⟨SN,hSN⟩ : ∃ s,S (k+1)=s:=⟨_,rfl⟩
   rw [hSN] at HSA HSB
   have HSN:=Zh hSN
   clear hSN
   obtain ⟨⟨Nn,xs⟩,out⟩:=SN
   generalize zaa (S k).1.1 (S k).1.2 (us.getD k ⟨#[]⟩)=LV at *
   obtain ⟨⟨M,ys⟩,T⟩:=LV
   generalize S k=SK at *
   obtain ⟨⟨N,bs⟩,acc⟩:=SK
   generalize us.getD k ⟨#[]⟩=line at *
   obtain ⟨f0,f1,ff0,ff1,hq5l⟩:=HX.o
   simp only at f0 f1 HI HK HBD5 hle1 hbd1 HSA HSB
   go_wp2_with fail
   refine HRL.o.mono ?_
   rintro e w4 ⟨A4,c4,rfl,hi4,hn4,hok4,hb4⟩
   simp only at hi4 hn4 hok4
   have hz4:=hb4.size
   have hal:=(Below.refl w4.heap.size w4).alloc (Nat.le_refl _) (.cells #[.int .i64 M,.slice A4 ys.length c4] 35)
   have HN5:=Zh (Cells2.new w4 (.int .i64 M) (.slice A4 ys.length c4) 35)
   have HW5:=Zh (hb4.trans (hal.mono hb4.size))
   have HX5:=Zh (HX.o.below HW5.o hq5l)
   have HL5:=Zh (HBD5.o.below HW5.o)
   have HT5:=Zh (HT.o.below HW5.o)
   have HI5:=Zh (hi4.lift hal)
   have HN4:=Zh hn4
   have HK4:=Zh hok4
   have HB5:=Zh (HBW.o.trans (HW5.o.mono HBW.o.size))
   have HRV:=Zh HBD5.o.row
   have hbl5:=HBD5.o.lt
   have hq4:q5<w4.heap.size:=by omega
   clear hi4 hn4 hok4 hal hb4 f0 f1 ff0 ff1
   obtain ⟨f0,f1,ff0,ff1,hq5l5⟩:=HX5.o
   obtain ⟨n0,n1,_,_,_⟩:=HN5.o
   have HX6:=Zh ((HX5.o.set0 (.int .i64 M)).set1 (.slice A4 ys.length c4))
   have HB6:=Zh ((HB5.o.setCell (p:=⟨q5,0,none⟩) hq5w (.int .i64 M)).setCell (p:=⟨q5,1,none⟩) hq5w (.slice A4 ys.length c4))
   have HVQ:=Zh (show v.ownBlock≠some q5 from fun e=>by have:=HL5.o.ge q5 e;omega)
   have HL6:=Zh ((HL5.o.far (p:=⟨q5,0,none⟩) (by show q5+1≠q5;omega) HVQ.o (.int .i64 M)).far (p:=⟨q5,1,none⟩) (by show q5+1≠q5;omega) HVQ.o (.slice A4 ys.length c4))
   have hgq:q5≠g0:=by omega
   have HNQ:=Zh (show ∀ k o,A4=some ⟨k,o,none⟩->0<ys.length->k≠q5 from fun k o e h=>by have:=HN4.o k o e h;omega)
   have HI6:=Zh (show Ints (((w4.alloc (.cells #[.int .i64 M,.slice A4 ys.length c4] 35)).setCell ⟨q5,0,none⟩ (.int .i64 M)).setCell ⟨q5,1,none⟩ (.slice A4 ys.length c4)) (((w4.alloc (.cells #[.int .i64 M,.slice A4 ys.length c4] 35)).setCell ⟨q5,0,none⟩ (.int .i64 M)).setCell ⟨q5,1,none⟩ (.slice A4 ys.length c4)).heap.size A4 ys from ((HI5.o.setFar2 (p:=⟨q5,0,none⟩) HNQ.o (.int .i64 M)).setFar2 (p:=⟨q5,1,none⟩) HNQ.o (.slice A4 ys.length c4)).mono (by simp [World.setCell]))
   have HT6:=Zh (show TxR (((w4.alloc (.cells #[.int .i64 M,.slice A4 ys.length c4] 35)).setCell ⟨q5,0,none⟩ (.int .i64 M)).setCell ⟨q5,1,none⟩ (.slice A4 ys.length c4)) w.heap.size g0 us from ⟨HT5.o.1,by simpa [World.setCell] using HT5.o.2.1,fun i hi=>by
    rw [World.cell?_setCell_other _ _ _ _ (fun h=>by injection h;omega),World.cell?_setCell_other _ _ _ _ (fun h=>by injection h;omega)]
    exact HT5.o.2.2 i hi⟩)
   have hz6:wo.heap.size<=(((w4.alloc (.cells #[.int .i64 M,.slice A4 ys.length c4] 35)).setCell ⟨q5,0,none⟩ (.int .i64 M)).setCell ⟨q5,1,none⟩ (.slice A4 ys.length c4)).heap.size:=by simp [World.setCell];omega
   obtain ⟨g0',g1',gg0,gg1,_⟩:=HX5.o.set0 (.int .i64 M)
   have HZ:=Zh (show q5<w4.heap.size/\wo.heap.size<=w4.heap.size/\q5<wo.heap.size/\q5+1<wo.heap.size from ⟨hq4,hz4,hq5l,hbl5⟩)
   have HZ6:=Zh hz6
   clear hq4 hz4 hq5l hq5l5 hbl5 hz6
   by_cases hT:T.data.toList=[]
   ·have hTe:T=⟨#[]⟩:=by
     obtain ⟨d⟩:=T
     simp only at hT
     rw [Array.toList_eq_nil_iff.1 hT]
    have HSB2:=Zh (show out=acc by rw [HSB.o,ansB,if_pos hT,List.append_nil])
    clear HSB
    clear hT
    subst hTe
    go_wp2_with fail
    go_roundw
    case rel =>
     have HE9:=Zh (show S (k+1)=((M,ys),acc) by rw [HSN.o,HSA.o,HSB2.o])
     refine ⟨k+1,A4,c4,v,by omega,by go_num,?_,?_,?_,?_,HB6.o,HT6.o⟩
     ·rw [HE9.o];exact HX6.o
     ·rw [HE9.o];exact HI6.o
     ·rw [HE9.o];exact HK4.o
     ·rw [HE9.o];exact HL6.o
    case measure=>simp [intOf];omega
   ·obtain ⟨ch,rl,hcr⟩:=List.exists_cons_of_ne_nil hT
    have HSB2:=Zh (show out=acc++(T.data.toList++[10]) by rw [HSB.o,ansB,if_neg hT])
    have he0:T.toList=ch::rl:=by rw [Lib.toList_data];exact hcr
    have he2:(T.toList==[])=false:=by rw [he0];rfl
    have he3:(T.toList=[])=False:=eq_false (by rw [he0];exact List.cons_ne_nil _ _)
    have he4:T.toList.isEmpty=false:=by rw [he0];rfl
    have he5:(T.toList==(⟨#[]⟩:ByteArray).toList)=false:=by rw [show (⟨#[]⟩:ByteArray).toList=[] by rw [Lib.toList_data]];exact he2
    have hcs : ¬ 9223372036854775807<T.size+1:=by omega
    have HCT:=Zh (show (T++⟨#[10]⟩:ByteArray).data.toList=T.data.toList++[10] by simp)
    have HCZ:=Zh (show (T++⟨#[10]⟩:ByteArray).size=T.size+1 by
     show (T++⟨#[10]⟩:ByteArray).data.size=_
     simp)
    have HWS:=Zh (z6d (q5+1) v acc (T++⟨#[10]⟩) _ HL6.o (by rw [HCZ.o];omega))
    clear hT hcr
    go_wp2_with fail
    refine (HWS.o).mono ?_
    rintro e w7 ⟨⟨x,rfl⟩,v7,hl7,hb7,hk7⟩
    have hz7:=hb7.size
    have HL7:=Zh hl7
    have HB7:=Zh (HB6.o.trans (hb7.mono (by omega)))
    have HX7:=Zh (HX6.o.below hb7 (by omega))
    have HT7:=Zh (show TxR w7 w.heap.size g0 us from ⟨HT6.o.1,Nat.lt_of_lt_of_le HT6.o.2.1 hb7.size,fun i hi=>(hb7.cell (p:=⟨g0,i,none⟩) (by show g0<q5+1;omega)).trans (HT6.o.2.2 i hi)⟩)
    have HI7:=Zh (show Ints w7 w7.heap.size A4 ys from ⟨HI6.o.1,HI6.o.2.1,fun hn=>by
     obtain ⟨kb,ob,eb,hkb,hcb⟩:=HI6.o.2.2 hn
     have h1:=HN4.o kb ob eb hn
     refine ⟨kb,ob,eb,Nat.lt_of_lt_of_le hkb hz7,fun i hi=>?_⟩
     rw [World.cell?_of_block (a:=⟨kb,ob+i,none⟩) (hk7 kb hkb (by have:=HZ.o;omega) (fun h=>by have:=HRV.o kb h;omega))]
     exact hcb i hi⟩)
    clear hl7 hb7 hk7 hz7
    go_wp2_with fail
    go_roundw
    case rel =>
     have HE9:=Zh (show S (k+1)=((M,ys),acc++(T.data.toList++[10])) by rw [HSN.o,HSA.o,HSB2.o])
     refine ⟨k+1,A4,c4,v7,by omega,by go_num,?_,?_,?_,?_,HB7.o,HT7.o⟩
     ·rw [HE9.o];exact HX7.o
     ·rw [HE9.o];exact HI7.o
     ·rw [HE9.o];exact HK4.o
     ·rw [HE9.o,<- HCT.o];exact HL7.o
    case measure=>simp [intOf];omega
  ·have hke:k=us.length:=by omega
   subst hke
   obtain ⟨f0,f1,ff0,ff1,hq5l⟩:=HX.o
   go_wp2_with fail
   refine (z6e (q5+1) v _ wo HBD5.o).mono ?_
   rintro e w5 ⟨rfl,hb5⟩
   go_wp2_with fail
   go_ret2
   exact ⟨rfl,HBW.o.trans (hb5.mono (by omega))⟩
set_option maxRecDepth 100000
theorem zay {line:ByteArray}{ws:List ByteArray}{q:Option Nat}(hw:splT 32 line=ws)(hk:fndK ((ws.getD 0 ⟨#[]⟩).data.toList++[32]++itoK ((ws.length-1:Nat):Int))=q):fndK (keyV (splT 32 line))=q:=by
 rw [hw];unfold keyV;rw [za5];exact hk
def lns (hl:ByteArray):List ByteArray:=[
 (⟨#[115,104,111,119]⟩:ByteArray),
 (⟨#[108,105,110,101]⟩:ByteArray),
 (⟨#[101,118,101,110]⟩:ByteArray),
 (⟨#[109,101,116,101,114]⟩:ByteArray),
 (⟨#[99,108,97,115,115]⟩:ByteArray),
 hl,
 (⟨#[116,117,114,110,32,50]⟩:ByteArray),
 (⟨#[109,105,114,114,111,114]⟩:ByteArray),
 (⟨#[111,116,104,101,114]⟩:ByteArray),
 (⟨#[119,105,110,100,111,119,115,32,50]⟩:ByteArray),
 (⟨#[101,118,101,110,32,53,32,49,50]⟩:ByteArray),
 (⟨#[103,101,110,32,49,50,32,53,32,55]⟩:ByteArray),
 (⟨#[98,101,97,116,115,32,120,120,46,46]⟩:ByteArray),
 (⟨#[116,105,108,101]⟩:ByteArray),
 (⟨#[112,97,114,116,110,101,114]⟩:ByteArray),
 (⟨#[112,111,108,121,32,51,32,52]⟩:ByteArray),
 (⟨#[98,97,114,32,50,43,50,43,51]⟩:ByteArray),
 (⟨#[115,116,105,99,107]⟩:ByteArray),
 (⟨#[112,97,116,116,101,114,110,32,48,44,50]⟩:ByteArray),
 (⟨#[112,97,116,116,101,114,110,32,48,44,49,44,51]⟩:ByteArray),
 (⟨#[99,111,118,101,114,32,48,44,49,44,51]⟩:ByteArray),
 (⟨#[116,119,111,32,48,44,49,44,52]⟩:ByteArray),
 (⟨#[99,111,117,110,116,32,56,32,51]⟩:ByteArray),
 (⟨#[112,108,97,121,32,97,91,98,99,93,50,100]⟩:ByteArray),
 (⟨#[113,117,97,110,116,105,122,101,32,49,48,32,51,44,49,53,44,50,54]⟩:ByteArray),
 (⟨#[119,104,97,116]⟩:ByteArray)]
def oc_0 (ha:Txt):Txt:=[]
def oc_1 (ha:Txt):Txt:=oc_0 ha++ansB (mkS [120,46,46,120,46,46,120,46])
def oc_2 (ha:Txt):Txt:=oc_1 ha++ansB (mkS [120,46,46,120,46,46,120,46,32,115,116,101,112,115,32,51,43,51,43,50,32,112,101,114,105,111,100,32,56,32,118,101,99,116,111,114,32,48,44,49,44,50,44,48])
def oc_3 (ha:Txt):Txt:=oc_2 ha++ansB (mkS [101,118,101,110,32,110,101,97,114,101,115,116,32,120,46,46,120,46,46,120,46,32,109,111,118,101,115,32,48])
def oc_4 (ha:Txt):Txt:=oc_3 ha++ansB (mkS [50,42,52,32,49])
def oc_5 (ha:Txt):Txt:=oc_4 ha++ansB (mkS [120,46,120,46,46,120,46,46,32,111,114,98,105,116,32,56,32,99,108,97,115,115,32,120,120,120,46,46,46,46,46])
def oc_6 (ha:Txt):Txt:=oc_5 ha++ansB (mkS ha)
def oc_7 (ha:Txt):Txt:=oc_6 ha++ansB (mkS [120,46,120,46,46,120,46,46])
def oc_8 (ha:Txt):Txt:=oc_7 ha++ansB (mkS [120,46,46,120,46,46,120,46])
def oc_9 (ha:Txt):Txt:=oc_8 ha++ansB (mkS [46,120,120,46,120,120,46,120])
def zel (ha:Txt):Txt:=oc_9 ha++ansB (mkS [51])
def zem (ha:Txt):Txt:=zel ha++ansB (mkS [120,46,120,46,120,46,46,120,46,120,46,46])
def zen (ha:Txt):Txt:=zem ha++ansB (mkS [120,46,120,46,120,46,46,120,46,120,46,46])
def zeo (ha:Txt):Txt:=zen ha++ansB (mkS [120,120,46,46])
def zep (ha:Txt):Txt:=zeo ha++ansB (mkS [111,114,100,101,114,115,32,50,32,112,97,114,116,110,101,114,32,120,46,120,46])
def zeq (ha:Txt):Txt:=zep ha++ansB (mkS [120,46,120,46])
def zer (ha:Txt):Txt:=zeq ha++ansB (mkS [120,46,46,120,120,46,120,46,120,120,46,46])
def zes (ha:Txt):Txt:=zer ha++ansB (mkS [120,46,120,46,120,46,46])
def zet (ha:Txt):Txt:=zes ha++ansB (mkS [82,46,82,46,82,46,46])
def zeu (ha:Txt):Txt:=zet ha++ansB (mkS [112,101,114,105,111,100,32,52,32,101,110,116,114,105,101,115,32,48,44,49])
def zev (ha:Txt):Txt:=zeu ha++ansB (mkS [102,97,105,108,115,32,50])
def zew (ha:Txt):Txt:=zev ha++ansB (mkS [54,32,97,97,98,97,98,98])
def zex (ha:Txt):Txt:=zew ha++ansB (mkS [49,53])
def zey (ha:Txt):Txt:=zex ha++ansB (mkS [55])
def zez (ha:Txt):Txt:=zey ha++ansB (mkS [97,98,99,98,99,100])
def ze0 (ha:Txt):Txt:=zez ha++ansB (mkS [48,44,49,48,44,51,48])
def zcc (ha:Txt):Txt:=ze0 ha++ansB (mkS [117,110,107,110,111,119,110,32,99,111,109,109,97,110,100])
theorem st_0 {hl:ByteArray}{ha:Txt}(_:zaa 8 [0,3,6] hl=((8,[0,3,6]),mkS ha)):stK (8,[0,3,6]) (lns hl) 0=((8,[0,3,6]),oc_0 ha):=rfl
section
variable {hl:ByteArray} {ha:Txt} (hh:zaa 8 [0,3,6] hl=((8,[0,3,6]),mkS ha))
include hh
theorem st_1:stK (8,[0,3,6]) (lns hl) 1=((8,[0,3,6]),oc_1 ha):=by
 show ((zaa (stK (8,[0,3,6]) (lns hl) 0).1.1 (stK (8,[0,3,6]) (lns hl) 0).1.2 (⟨#[115,104,111,119]⟩:ByteArray)).1,(stK (8,[0,3,6]) (lns hl) 0).2++ansB (zaa (stK (8,[0,3,6]) (lns hl) 0).1.1 (stK (8,[0,3,6]) (lns hl) 0).1.2 (⟨#[115,104,111,119]⟩:ByteArray)).2)=_
 rw [st_0 hh]
 show ((zaa 8 [0,3,6] (⟨#[115,104,111,119]⟩:ByteArray)).1,oc_0 ha++ansB (zaa 8 [0,3,6] (⟨#[115,104,111,119]⟩:ByteArray)).2)=_
 rw [zp6]
 rfl
theorem st_2:stK (8,[0,3,6]) (lns hl) 2=((8,[0,3,6]),oc_2 ha):=by
 show ((zaa (stK (8,[0,3,6]) (lns hl) 1).1.1 (stK (8,[0,3,6]) (lns hl) 1).1.2 (⟨#[108,105,110,101]⟩:ByteArray)).1,(stK (8,[0,3,6]) (lns hl) 1).2++ansB (zaa (stK (8,[0,3,6]) (lns hl) 1).1.1 (stK (8,[0,3,6]) (lns hl) 1).1.2 (⟨#[108,105,110,101]⟩:ByteArray)).2)=_
 rw [st_1 hh]
 show ((zaa 8 [0,3,6] (⟨#[108,105,110,101]⟩:ByteArray)).1,oc_1 ha++ansB (zaa 8 [0,3,6] (⟨#[108,105,110,101]⟩:ByteArray)).2)=_
 rw [zp7]
 rfl
theorem st_3:stK (8,[0,3,6]) (lns hl) 3=((8,[0,3,6]),oc_3 ha):=by
 show ((zaa (stK (8,[0,3,6]) (lns hl) 2).1.1 (stK (8,[0,3,6]) (lns hl) 2).1.2 (⟨#[101,118,101,110]⟩:ByteArray)).1,(stK (8,[0,3,6]) (lns hl) 2).2++ansB (zaa (stK (8,[0,3,6]) (lns hl) 2).1.1 (stK (8,[0,3,6]) (lns hl) 2).1.2 (⟨#[101,118,101,110]⟩:ByteArray)).2)=_
 rw [st_2 hh]
 show ((zaa 8 [0,3,6] (⟨#[101,118,101,110]⟩:ByteArray)).1,oc_2 ha++ansB (zaa 8 [0,3,6] (⟨#[101,118,101,110]⟩:ByteArray)).2)=_
 rw [zp8]
 rfl
theorem st_4:stK (8,[0,3,6]) (lns hl) 4=((8,[0,3,6]),oc_4 ha):=by
 show ((zaa (stK (8,[0,3,6]) (lns hl) 3).1.1 (stK (8,[0,3,6]) (lns hl) 3).1.2 (⟨#[109,101,116,101,114]⟩:ByteArray)).1,(stK (8,[0,3,6]) (lns hl) 3).2++ansB (zaa (stK (8,[0,3,6]) (lns hl) 3).1.1 (stK (8,[0,3,6]) (lns hl) 3).1.2 (⟨#[109,101,116,101,114]⟩:ByteArray)).2)=_
 rw [st_3 hh]
 show ((zaa 8 [0,3,6] (⟨#[109,101,116,101,114]⟩:ByteArray)).1,oc_3 ha++ansB (zaa 8 [0,3,6] (⟨#[109,101,116,101,114]⟩:ByteArray)).2)=_
 rw [zp9]
 rfl
theorem st_5:stK (8,[0,3,6]) (lns hl) 5=((8,[0,3,6]),oc_5 ha):=by
 show ((zaa (stK (8,[0,3,6]) (lns hl) 4).1.1 (stK (8,[0,3,6]) (lns hl) 4).1.2 (⟨#[99,108,97,115,115]⟩:ByteArray)).1,(stK (8,[0,3,6]) (lns hl) 4).2++ansB (zaa (stK (8,[0,3,6]) (lns hl) 4).1.1 (stK (8,[0,3,6]) (lns hl) 4).1.2 (⟨#[99,108,97,115,115]⟩:ByteArray)).2)=_
 rw [st_4 hh]
 show ((zaa 8 [0,3,6] (⟨#[99,108,97,115,115]⟩:ByteArray)).1,oc_4 ha++ansB (zaa 8 [0,3,6] (⟨#[99,108,97,115,115]⟩:ByteArray)).2)=_
 rw [zqa]
 rfl
theorem st_6:stK (8,[0,3,6]) (lns hl) 6=((8,[0,3,6]),oc_6 ha):=by
 show ((zaa (stK (8,[0,3,6]) (lns hl) 5).1.1 (stK (8,[0,3,6]) (lns hl) 5).1.2 hl).1,(stK (8,[0,3,6]) (lns hl) 5).2++ansB (zaa (stK (8,[0,3,6]) (lns hl) 5).1.1 (stK (8,[0,3,6]) (lns hl) 5).1.2 hl).2)=_
 rw [st_5 hh]
 show ((zaa 8 [0,3,6] hl).1,oc_5 ha++ansB (zaa 8 [0,3,6] hl).2)=_
 rw [hh]
 rfl
theorem st_7:stK (8,[0,3,6]) (lns hl) 7=((8,[0,2,5]),oc_7 ha):=by
 show ((zaa (stK (8,[0,3,6]) (lns hl) 6).1.1 (stK (8,[0,3,6]) (lns hl) 6).1.2 (⟨#[116,117,114,110,32,50]⟩:ByteArray)).1,(stK (8,[0,3,6]) (lns hl) 6).2++ansB (zaa (stK (8,[0,3,6]) (lns hl) 6).1.1 (stK (8,[0,3,6]) (lns hl) 6).1.2 (⟨#[116,117,114,110,32,50]⟩:ByteArray)).2)=_
 rw [st_6 hh]
 show ((zaa 8 [0,3,6] (⟨#[116,117,114,110,32,50]⟩:ByteArray)).1,oc_6 ha++ansB (zaa 8 [0,3,6] (⟨#[116,117,114,110,32,50]⟩:ByteArray)).2)=_
 rw [zqb]
 rfl
theorem st_8:stK (8,[0,3,6]) (lns hl) 8=((8,[0,3,6]),oc_8 ha):=by
 show ((zaa (stK (8,[0,3,6]) (lns hl) 7).1.1 (stK (8,[0,3,6]) (lns hl) 7).1.2 (⟨#[109,105,114,114,111,114]⟩:ByteArray)).1,(stK (8,[0,3,6]) (lns hl) 7).2++ansB (zaa (stK (8,[0,3,6]) (lns hl) 7).1.1 (stK (8,[0,3,6]) (lns hl) 7).1.2 (⟨#[109,105,114,114,111,114]⟩:ByteArray)).2)=_
 rw [st_7 hh]
 show ((zaa 8 [0,2,5] (⟨#[109,105,114,114,111,114]⟩:ByteArray)).1,oc_7 ha++ansB (zaa 8 [0,2,5] (⟨#[109,105,114,114,111,114]⟩:ByteArray)).2)=_
 rw [zqc]
 rfl
theorem st_9:stK (8,[0,3,6]) (lns hl) 9=((8,[1,2,4,5,7]),oc_9 ha):=by
 show ((zaa (stK (8,[0,3,6]) (lns hl) 8).1.1 (stK (8,[0,3,6]) (lns hl) 8).1.2 (⟨#[111,116,104,101,114]⟩:ByteArray)).1,(stK (8,[0,3,6]) (lns hl) 8).2++ansB (zaa (stK (8,[0,3,6]) (lns hl) 8).1.1 (stK (8,[0,3,6]) (lns hl) 8).1.2 (⟨#[111,116,104,101,114]⟩:ByteArray)).2)=_
 rw [st_8 hh]
 show ((zaa 8 [0,3,6] (⟨#[111,116,104,101,114]⟩:ByteArray)).1,oc_8 ha++ansB (zaa 8 [0,3,6] (⟨#[111,116,104,101,114]⟩:ByteArray)).2)=_
 rw [zqd]
 rfl
theorem zqy:stK (8,[0,3,6]) (lns hl) 10=((8,[1,2,4,5,7]),zel ha):=by
 show ((zaa (stK (8,[0,3,6]) (lns hl) 9).1.1 (stK (8,[0,3,6]) (lns hl) 9).1.2 (⟨#[119,105,110,100,111,119,115,32,50]⟩:ByteArray)).1,(stK (8,[0,3,6]) (lns hl) 9).2++ansB (zaa (stK (8,[0,3,6]) (lns hl) 9).1.1 (stK (8,[0,3,6]) (lns hl) 9).1.2 (⟨#[119,105,110,100,111,119,115,32,50]⟩:ByteArray)).2)=_
 rw [st_9 hh]
 show ((zaa 8 [1,2,4,5,7] (⟨#[119,105,110,100,111,119,115,32,50]⟩:ByteArray)).1,oc_9 ha++ansB (zaa 8 [1,2,4,5,7] (⟨#[119,105,110,100,111,119,115,32,50]⟩:ByteArray)).2)=_
 rw [zqe]
 rfl
theorem zqz:stK (8,[0,3,6]) (lns hl) 11=((12,[0,2,4,7,9]),zem ha):=by
 show ((zaa (stK (8,[0,3,6]) (lns hl) 10).1.1 (stK (8,[0,3,6]) (lns hl) 10).1.2 (⟨#[101,118,101,110,32,53,32,49,50]⟩:ByteArray)).1,(stK (8,[0,3,6]) (lns hl) 10).2++ansB (zaa (stK (8,[0,3,6]) (lns hl) 10).1.1 (stK (8,[0,3,6]) (lns hl) 10).1.2 (⟨#[101,118,101,110,32,53,32,49,50]⟩:ByteArray)).2)=_
 rw [zqy hh]
 show ((zaa 8 [1,2,4,5,7] (⟨#[101,118,101,110,32,53,32,49,50]⟩:ByteArray)).1,zel ha++ansB (zaa 8 [1,2,4,5,7] (⟨#[101,118,101,110,32,53,32,49,50]⟩:ByteArray)).2)=_
 rw [zqf]
 rfl
theorem zq0:stK (8,[0,3,6]) (lns hl) 12=((12,[0,2,4,7,9]),zen ha):=by
 show ((zaa (stK (8,[0,3,6]) (lns hl) 11).1.1 (stK (8,[0,3,6]) (lns hl) 11).1.2 (⟨#[103,101,110,32,49,50,32,53,32,55]⟩:ByteArray)).1,(stK (8,[0,3,6]) (lns hl) 11).2++ansB (zaa (stK (8,[0,3,6]) (lns hl) 11).1.1 (stK (8,[0,3,6]) (lns hl) 11).1.2 (⟨#[103,101,110,32,49,50,32,53,32,55]⟩:ByteArray)).2)=_
 rw [zqz hh]
 show ((zaa 12 [0,2,4,7,9] (⟨#[103,101,110,32,49,50,32,53,32,55]⟩:ByteArray)).1,zem ha++ansB (zaa 12 [0,2,4,7,9] (⟨#[103,101,110,32,49,50,32,53,32,55]⟩:ByteArray)).2)=_
 rw [zqg]
 rfl
theorem zq1:stK (8,[0,3,6]) (lns hl) 13=((4,[0,1]),zeo ha):=by
 show ((zaa (stK (8,[0,3,6]) (lns hl) 12).1.1 (stK (8,[0,3,6]) (lns hl) 12).1.2 (⟨#[98,101,97,116,115,32,120,120,46,46]⟩:ByteArray)).1,(stK (8,[0,3,6]) (lns hl) 12).2++ansB (zaa (stK (8,[0,3,6]) (lns hl) 12).1.1 (stK (8,[0,3,6]) (lns hl) 12).1.2 (⟨#[98,101,97,116,115,32,120,120,46,46]⟩:ByteArray)).2)=_
 rw [zq0 hh]
 show ((zaa 12 [0,2,4,7,9] (⟨#[98,101,97,116,115,32,120,120,46,46]⟩:ByteArray)).1,zen ha++ansB (zaa 12 [0,2,4,7,9] (⟨#[98,101,97,116,115,32,120,120,46,46]⟩:ByteArray)).2)=_
 rw [zqh]
 rfl
theorem zq2:stK (8,[0,3,6]) (lns hl) 14=((4,[0,1]),zep ha):=by
 show ((zaa (stK (8,[0,3,6]) (lns hl) 13).1.1 (stK (8,[0,3,6]) (lns hl) 13).1.2 (⟨#[116,105,108,101]⟩:ByteArray)).1,(stK (8,[0,3,6]) (lns hl) 13).2++ansB (zaa (stK (8,[0,3,6]) (lns hl) 13).1.1 (stK (8,[0,3,6]) (lns hl) 13).1.2 (⟨#[116,105,108,101]⟩:ByteArray)).2)=_
 rw [zq1 hh]
 show ((zaa 4 [0,1] (⟨#[116,105,108,101]⟩:ByteArray)).1,zeo ha++ansB (zaa 4 [0,1] (⟨#[116,105,108,101]⟩:ByteArray)).2)=_
 rw [zqi]
 rfl
theorem zq3:stK (8,[0,3,6]) (lns hl) 15=((4,[0,2]),zeq ha):=by
 show ((zaa (stK (8,[0,3,6]) (lns hl) 14).1.1 (stK (8,[0,3,6]) (lns hl) 14).1.2 (⟨#[112,97,114,116,110,101,114]⟩:ByteArray)).1,(stK (8,[0,3,6]) (lns hl) 14).2++ansB (zaa (stK (8,[0,3,6]) (lns hl) 14).1.1 (stK (8,[0,3,6]) (lns hl) 14).1.2 (⟨#[112,97,114,116,110,101,114]⟩:ByteArray)).2)=_
 rw [zq2 hh]
 show ((zaa 4 [0,1] (⟨#[112,97,114,116,110,101,114]⟩:ByteArray)).1,zep ha++ansB (zaa 4 [0,1] (⟨#[112,97,114,116,110,101,114]⟩:ByteArray)).2)=_
 rw [zqj]
 rfl
theorem zq4:stK (8,[0,3,6]) (lns hl) 16=((12,[0,3,4,6,8,9]),zer ha):=by
 show ((zaa (stK (8,[0,3,6]) (lns hl) 15).1.1 (stK (8,[0,3,6]) (lns hl) 15).1.2 (⟨#[112,111,108,121,32,51,32,52]⟩:ByteArray)).1,(stK (8,[0,3,6]) (lns hl) 15).2++ansB (zaa (stK (8,[0,3,6]) (lns hl) 15).1.1 (stK (8,[0,3,6]) (lns hl) 15).1.2 (⟨#[112,111,108,121,32,51,32,52]⟩:ByteArray)).2)=_
 rw [zq3 hh]
 show ((zaa 4 [0,2] (⟨#[112,111,108,121,32,51,32,52]⟩:ByteArray)).1,zeq ha++ansB (zaa 4 [0,2] (⟨#[112,111,108,121,32,51,32,52]⟩:ByteArray)).2)=_
 rw [zqk]
 rfl
theorem zq5:stK (8,[0,3,6]) (lns hl) 17=((7,[0,2,4]),zes ha):=by
 show ((zaa (stK (8,[0,3,6]) (lns hl) 16).1.1 (stK (8,[0,3,6]) (lns hl) 16).1.2 (⟨#[98,97,114,32,50,43,50,43,51]⟩:ByteArray)).1,(stK (8,[0,3,6]) (lns hl) 16).2++ansB (zaa (stK (8,[0,3,6]) (lns hl) 16).1.1 (stK (8,[0,3,6]) (lns hl) 16).1.2 (⟨#[98,97,114,32,50,43,50,43,51]⟩:ByteArray)).2)=_
 rw [zq4 hh]
 show ((zaa 12 [0,3,4,6,8,9] (⟨#[98,97,114,32,50,43,50,43,51]⟩:ByteArray)).1,zer ha++ansB (zaa 12 [0,3,4,6,8,9] (⟨#[98,97,114,32,50,43,50,43,51]⟩:ByteArray)).2)=_
 rw [zql]
 rfl
theorem zq6:stK (8,[0,3,6]) (lns hl) 18=((7,[0,2,4]),zet ha):=by
 show ((zaa (stK (8,[0,3,6]) (lns hl) 17).1.1 (stK (8,[0,3,6]) (lns hl) 17).1.2 (⟨#[115,116,105,99,107]⟩:ByteArray)).1,(stK (8,[0,3,6]) (lns hl) 17).2++ansB (zaa (stK (8,[0,3,6]) (lns hl) 17).1.1 (stK (8,[0,3,6]) (lns hl) 17).1.2 (⟨#[115,116,105,99,107]⟩:ByteArray)).2)=_
 rw [zq5 hh]
 show ((zaa 7 [0,2,4] (⟨#[115,116,105,99,107]⟩:ByteArray)).1,zes ha++ansB (zaa 7 [0,2,4] (⟨#[115,116,105,99,107]⟩:ByteArray)).2)=_
 rw [zqm]
 rfl
theorem zq7:stK (8,[0,3,6]) (lns hl) 19=((7,[0,2,4]),zeu ha):=by
 show ((zaa (stK (8,[0,3,6]) (lns hl) 18).1.1 (stK (8,[0,3,6]) (lns hl) 18).1.2 (⟨#[112,97,116,116,101,114,110,32,48,44,50]⟩:ByteArray)).1,(stK (8,[0,3,6]) (lns hl) 18).2++ansB (zaa (stK (8,[0,3,6]) (lns hl) 18).1.1 (stK (8,[0,3,6]) (lns hl) 18).1.2 (⟨#[112,97,116,116,101,114,110,32,48,44,50]⟩:ByteArray)).2)=_
 rw [zq6 hh]
 show ((zaa 7 [0,2,4] (⟨#[112,97,116,116,101,114,110,32,48,44,50]⟩:ByteArray)).1,zet ha++ansB (zaa 7 [0,2,4] (⟨#[112,97,116,116,101,114,110,32,48,44,50]⟩:ByteArray)).2)=_
 rw [zqn]
 rfl
theorem zq8:stK (8,[0,3,6]) (lns hl) 20=((7,[0,2,4]),zev ha):=by
 show ((zaa (stK (8,[0,3,6]) (lns hl) 19).1.1 (stK (8,[0,3,6]) (lns hl) 19).1.2 (⟨#[112,97,116,116,101,114,110,32,48,44,49,44,51]⟩:ByteArray)).1,(stK (8,[0,3,6]) (lns hl) 19).2++ansB (zaa (stK (8,[0,3,6]) (lns hl) 19).1.1 (stK (8,[0,3,6]) (lns hl) 19).1.2 (⟨#[112,97,116,116,101,114,110,32,48,44,49,44,51]⟩:ByteArray)).2)=_
 rw [zq7 hh]
 show ((zaa 7 [0,2,4] (⟨#[112,97,116,116,101,114,110,32,48,44,49,44,51]⟩:ByteArray)).1,zeu ha++ansB (zaa 7 [0,2,4] (⟨#[112,97,116,116,101,114,110,32,48,44,49,44,51]⟩:ByteArray)).2)=_
 rw [zqo]
 rfl
theorem zq9:stK (8,[0,3,6]) (lns hl) 21=((7,[0,2,4]),zew ha):=by
 show ((zaa (stK (8,[0,3,6]) (lns hl) 20).1.1 (stK (8,[0,3,6]) (lns hl) 20).1.2 (⟨#[99,111,118,101,114,32,48,44,49,44,51]⟩:ByteArray)).1,(stK (8,[0,3,6]) (lns hl) 20).2++ansB (zaa (stK (8,[0,3,6]) (lns hl) 20).1.1 (stK (8,[0,3,6]) (lns hl) 20).1.2 (⟨#[99,111,118,101,114,32,48,44,49,44,51]⟩:ByteArray)).2)=_
 rw [zq8 hh]
 show ((zaa 7 [0,2,4] (⟨#[99,111,118,101,114,32,48,44,49,44,51]⟩:ByteArray)).1,zev ha++ansB (zaa 7 [0,2,4] (⟨#[99,111,118,101,114,32,48,44,49,44,51]⟩:ByteArray)).2)=_
 rw [zqp]
 rfl
theorem zra:stK (8,[0,3,6]) (lns hl) 22=((7,[0,2,4]),zex ha):=by
 show ((zaa (stK (8,[0,3,6]) (lns hl) 21).1.1 (stK (8,[0,3,6]) (lns hl) 21).1.2 (⟨#[116,119,111,32,48,44,49,44,52]⟩:ByteArray)).1,(stK (8,[0,3,6]) (lns hl) 21).2++ansB (zaa (stK (8,[0,3,6]) (lns hl) 21).1.1 (stK (8,[0,3,6]) (lns hl) 21).1.2 (⟨#[116,119,111,32,48,44,49,44,52]⟩:ByteArray)).2)=_
 rw [zq9 hh]
 show ((zaa 7 [0,2,4] (⟨#[116,119,111,32,48,44,49,44,52]⟩:ByteArray)).1,zew ha++ansB (zaa 7 [0,2,4] (⟨#[116,119,111,32,48,44,49,44,52]⟩:ByteArray)).2)=_
 rw [zqq]
 rfl
theorem zrb:stK (8,[0,3,6]) (lns hl) 23=((7,[0,2,4]),zey ha):=by
 show ((zaa (stK (8,[0,3,6]) (lns hl) 22).1.1 (stK (8,[0,3,6]) (lns hl) 22).1.2 (⟨#[99,111,117,110,116,32,56,32,51]⟩:ByteArray)).1,(stK (8,[0,3,6]) (lns hl) 22).2++ansB (zaa (stK (8,[0,3,6]) (lns hl) 22).1.1 (stK (8,[0,3,6]) (lns hl) 22).1.2 (⟨#[99,111,117,110,116,32,56,32,51]⟩:ByteArray)).2)=_
 rw [zra hh]
 show ((zaa 7 [0,2,4] (⟨#[99,111,117,110,116,32,56,32,51]⟩:ByteArray)).1,zex ha++ansB (zaa 7 [0,2,4] (⟨#[99,111,117,110,116,32,56,32,51]⟩:ByteArray)).2)=_
 rw [zqr]
 rfl
theorem zrc:stK (8,[0,3,6]) (lns hl) 24=((7,[0,2,4]),zez ha):=by
 show ((zaa (stK (8,[0,3,6]) (lns hl) 23).1.1 (stK (8,[0,3,6]) (lns hl) 23).1.2 (⟨#[112,108,97,121,32,97,91,98,99,93,50,100]⟩:ByteArray)).1,(stK (8,[0,3,6]) (lns hl) 23).2++ansB (zaa (stK (8,[0,3,6]) (lns hl) 23).1.1 (stK (8,[0,3,6]) (lns hl) 23).1.2 (⟨#[112,108,97,121,32,97,91,98,99,93,50,100]⟩:ByteArray)).2)=_
 rw [zrb hh]
 show ((zaa 7 [0,2,4] (⟨#[112,108,97,121,32,97,91,98,99,93,50,100]⟩:ByteArray)).1,zey ha++ansB (zaa 7 [0,2,4] (⟨#[112,108,97,121,32,97,91,98,99,93,50,100]⟩:ByteArray)).2)=_
 rw [zqs]
 rfl
theorem zrd:stK (8,[0,3,6]) (lns hl) 25=((7,[0,2,4]),ze0 ha):=by
 show ((zaa (stK (8,[0,3,6]) (lns hl) 24).1.1 (stK (8,[0,3,6]) (lns hl) 24).1.2 (⟨#[113,117,97,110,116,105,122,101,32,49,48,32,51,44,49,53,44,50,54]⟩:ByteArray)).1,(stK (8,[0,3,6]) (lns hl) 24).2++ansB (zaa (stK (8,[0,3,6]) (lns hl) 24).1.1 (stK (8,[0,3,6]) (lns hl) 24).1.2 (⟨#[113,117,97,110,116,105,122,101,32,49,48,32,51,44,49,53,44,50,54]⟩:ByteArray)).2)=_
 rw [zrc hh]
 show ((zaa 7 [0,2,4] (⟨#[113,117,97,110,116,105,122,101,32,49,48,32,51,44,49,53,44,50,54]⟩:ByteArray)).1,zez ha++ansB (zaa 7 [0,2,4] (⟨#[113,117,97,110,116,105,122,101,32,49,48,32,51,44,49,53,44,50,54]⟩:ByteArray)).2)=_
 rw [zqt]
 rfl
theorem z6h:stK (8,[0,3,6]) (lns hl) 26=((7,[0,2,4]),zcc ha):=by
 show ((zaa (stK (8,[0,3,6]) (lns hl) 25).1.1 (stK (8,[0,3,6]) (lns hl) 25).1.2 (⟨#[119,104,97,116]⟩:ByteArray)).1,(stK (8,[0,3,6]) (lns hl) 25).2++ansB (zaa (stK (8,[0,3,6]) (lns hl) 25).1.1 (stK (8,[0,3,6]) (lns hl) 25).1.2 (⟨#[119,104,97,116]⟩:ByteArray)).2)=_
 rw [zrd hh]
 show ((zaa 7 [0,2,4] (⟨#[119,104,97,116]⟩:ByteArray)).1,ze0 ha++ansB (zaa 7 [0,2,4] (⟨#[119,104,97,116]⟩:ByteArray)).2)=_
 rw [zqu]
 rfl
theorem z6i (hz:ha.length<=1000) : ∀ k,k<26->(zaa (stK (8,[0,3,6]) (lns hl) k).1.1 (stK (8,[0,3,6]) (lns hl) k).1.2 ((lns hl).getD k ⟨#[]⟩)).2.size<=1073741824:=by
 intro k hk
 match k,hk with
 | 0,_ =>
  rw [st_0 hh]
  show (zaa 8 [0,3,6] (⟨#[115,104,111,119]⟩:ByteArray)).2.size<=_
  rw [zp6]
  decide
 | 1,_ =>
  rw [st_1 hh]
  show (zaa 8 [0,3,6] (⟨#[108,105,110,101]⟩:ByteArray)).2.size<=_
  rw [zp7]
  decide
 | 2,_ =>
  rw [st_2 hh]
  show (zaa 8 [0,3,6] (⟨#[101,118,101,110]⟩:ByteArray)).2.size<=_
  rw [zp8]
  decide
 | 3,_ =>
  rw [st_3 hh]
  show (zaa 8 [0,3,6] (⟨#[109,101,116,101,114]⟩:ByteArray)).2.size<=_
  rw [zp9]
  decide
 | 4,_ =>
  rw [st_4 hh]
  show (zaa 8 [0,3,6] (⟨#[99,108,97,115,115]⟩:ByteArray)).2.size<=_
  rw [zqa]
  decide
 | 5,_ =>
  rw [st_5 hh]
  show (zaa 8 [0,3,6] hl).2.size<=_
  rw [hh]
  show (mkS ha).size<=_;rw [zbl];omega
 | 6,_ =>
  rw [st_6 hh]
  show (zaa 8 [0,3,6] (⟨#[116,117,114,110,32,50]⟩:ByteArray)).2.size<=_
  rw [zqb]
  decide
 | 7,_ =>
  rw [st_7 hh]
  show (zaa 8 [0,2,5] (⟨#[109,105,114,114,111,114]⟩:ByteArray)).2.size<=_
  rw [zqc]
  decide
 | 8,_ =>
  rw [st_8 hh]
  show (zaa 8 [0,3,6] (⟨#[111,116,104,101,114]⟩:ByteArray)).2.size<=_
  rw [zqd]
  decide
 | 9,_ =>
  rw [st_9 hh]
  show (zaa 8 [1,2,4,5,7] (⟨#[119,105,110,100,111,119,115,32,50]⟩:ByteArray)).2.size<=_
  rw [zqe]
  decide
 | 10,_ =>
  rw [zqy hh]
  show (zaa 8 [1,2,4,5,7] (⟨#[101,118,101,110,32,53,32,49,50]⟩:ByteArray)).2.size<=_
  rw [zqf]
  decide
 | 11,_ =>
  rw [zqz hh]
  show (zaa 12 [0,2,4,7,9] (⟨#[103,101,110,32,49,50,32,53,32,55]⟩:ByteArray)).2.size<=_
  rw [zqg]
  decide
 | 12,_ =>
  rw [zq0 hh]
  show (zaa 12 [0,2,4,7,9] (⟨#[98,101,97,116,115,32,120,120,46,46]⟩:ByteArray)).2.size<=_
  rw [zqh]
  decide
 | 13,_ =>
  rw [zq1 hh]
  show (zaa 4 [0,1] (⟨#[116,105,108,101]⟩:ByteArray)).2.size<=_
  rw [zqi]
  decide
 | 14,_ =>
  rw [zq2 hh]
  show (zaa 4 [0,1] (⟨#[112,97,114,116,110,101,114]⟩:ByteArray)).2.size<=_
  rw [zqj]
  decide
 | 15,_ =>
  rw [zq3 hh]
  show (zaa 4 [0,2] (⟨#[112,111,108,121,32,51,32,52]⟩:ByteArray)).2.size<=_
  rw [zqk]
  decide
 | 16,_ =>
  rw [zq4 hh]
  show (zaa 12 [0,3,4,6,8,9] (⟨#[98,97,114,32,50,43,50,43,51]⟩:ByteArray)).2.size<=_
  rw [zql]
  decide
 | 17,_ =>
  rw [zq5 hh]
  show (zaa 7 [0,2,4] (⟨#[115,116,105,99,107]⟩:ByteArray)).2.size<=_
  rw [zqm]
  decide
 | 18,_ =>
  rw [zq6 hh]
  show (zaa 7 [0,2,4] (⟨#[112,97,116,116,101,114,110,32,48,44,50]⟩:ByteArray)).2.size<=_
  rw [zqn]
  decide
 | 19,_ =>
  rw [zq7 hh]
  show (zaa 7 [0,2,4] (⟨#[112,97,116,116,101,114,110,32,48,44,49,44,51]⟩:ByteArray)).2.size<=_
  rw [zqo]
  decide
 | 20,_ =>
  rw [zq8 hh]
  show (zaa 7 [0,2,4] (⟨#[99,111,118,101,114,32,48,44,49,44,51]⟩:ByteArray)).2.size<=_
  rw [zqp]
  decide
 | 21,_ =>
  rw [zq9 hh]
  show (zaa 7 [0,2,4] (⟨#[116,119,111,32,48,44,49,44,52]⟩:ByteArray)).2.size<=_
  rw [zqq]
  decide
 | 22,_ =>
  rw [zra hh]
  show (zaa 7 [0,2,4] (⟨#[99,111,117,110,116,32,56,32,51]⟩:ByteArray)).2.size<=_
  rw [zqr]
  decide
 | 23,_ =>
  rw [zrb hh]
  show (zaa 7 [0,2,4] (⟨#[112,108,97,121,32,97,91,98,99,93,50,100]⟩:ByteArray)).2.size<=_
  rw [zqs]
  decide
 | 24,_ =>
  rw [zrc hh]
  show (zaa 7 [0,2,4] (⟨#[113,117,97,110,116,105,122,101,32,49,48,32,51,44,49,53,44,50,54]⟩:ByteArray)).2.size<=_
  rw [zqt]
  decide
 | 25,_ =>
  rw [zrd hh]
  show (zaa 7 [0,2,4] (⟨#[119,104,97,116]⟩:ByteArray)).2.size<=_
  rw [zqu]
  decide
 | k+26,h=>omega
end
theorem z6j {hl:ByteArray}(hk:fndK (keyV (splT 32 hl))=some 19) : ∀ l∈lns hl,∀ i,fndK (keyV (splT 32 l))=some i->za6 i:=by
 intro l h i hi
 simp only [lns,List.mem_cons,List.not_mem_nil,or_false] at h
 rcases h with rfl | rfl | rfl | rfl | rfl | rfl | rfl | rfl | rfl | rfl | rfl | rfl | rfl | rfl | rfl | rfl | rfl | rfl | rfl | rfl | rfl | rfl | rfl | rfl | rfl | rfl
 ·rw [zay (ws:=[(⟨#[115,104,111,119]⟩:ByteArray)]) (q:=some 13) (by decide +kernel) (by decide +kernel)] at hi;injection hi with hi;subst hi;exact z5r
 ·rw [zay (ws:=[(⟨#[108,105,110,101]⟩:ByteArray)]) (q:=some 14) (by decide +kernel) (by decide +kernel)] at hi;injection hi with hi;subst hi;exact z5s
 ·rw [zay (ws:=[(⟨#[101,118,101,110]⟩:ByteArray)]) (q:=some 15) (by decide +kernel) (by decide +kernel)] at hi;injection hi with hi;subst hi;exact z5t
 ·rw [zay (ws:=[(⟨#[109,101,116,101,114]⟩:ByteArray)]) (q:=some 17) (by decide +kernel) (by decide +kernel)] at hi;injection hi with hi;subst hi;exact z5v
 ·rw [zay (ws:=[(⟨#[99,108,97,115,115]⟩:ByteArray)]) (q:=some 18) (by decide +kernel) (by decide +kernel)] at hi;injection hi with hi;subst hi;exact z5w
 ·rw [hk] at hi;injection hi with hi;subst hi;exact z5x
 ·rw [zay (ws:=[(⟨#[116,117,114,110]⟩:ByteArray),(⟨#[50]⟩:ByteArray)]) (q:=some 3) (by decide +kernel) (by decide +kernel)] at hi;injection hi with hi;subst hi;exact z5l
 ·rw [zay (ws:=[(⟨#[109,105,114,114,111,114]⟩:ByteArray)]) (q:=some 4) (by decide +kernel) (by decide +kernel)] at hi;injection hi with hi;subst hi;exact z5m
 ·rw [zay (ws:=[(⟨#[111,116,104,101,114]⟩:ByteArray)]) (q:=some 5) (by decide +kernel) (by decide +kernel)] at hi;injection hi with hi;subst hi;exact z5n
 ·rw [zay (ws:=[(⟨#[119,105,110,100,111,119,115]⟩:ByteArray),(⟨#[50]⟩:ByteArray)]) (q:=some 20) (by decide +kernel) (by decide +kernel)] at hi;injection hi with hi;subst hi;exact z5y
 ·rw [zay (ws:=[(⟨#[101,118,101,110]⟩:ByteArray),(⟨#[53]⟩:ByteArray),(⟨#[49,50]⟩:ByteArray)]) (q:=some 1) (by decide +kernel) (by decide +kernel)] at hi;injection hi with hi;subst hi;exact z5j
 ·rw [zay (ws:=[(⟨#[103,101,110]⟩:ByteArray),(⟨#[49,50]⟩:ByteArray),(⟨#[53]⟩:ByteArray),(⟨#[55]⟩:ByteArray)]) (q:=some 2) (by decide +kernel) (by decide +kernel)] at hi;injection hi with hi;subst hi;exact z5k
 ·rw [zay (ws:=[(⟨#[98,101,97,116,115]⟩:ByteArray),(⟨#[120,120,46,46]⟩:ByteArray)]) (q:=some 0) (by decide +kernel) (by decide +kernel)] at hi;injection hi with hi;subst hi;exact z5i
 ·rw [zay (ws:=[(⟨#[116,105,108,101]⟩:ByteArray)]) (q:=some 16) (by decide +kernel) (by decide +kernel)] at hi;injection hi with hi;subst hi;exact z5u
 ·rw [zay (ws:=[(⟨#[112,97,114,116,110,101,114]⟩:ByteArray)]) (q:=some 9) (by decide +kernel) (by decide +kernel)] at hi;injection hi with hi;subst hi;exact z5o
 ·rw [zay (ws:=[(⟨#[112,111,108,121]⟩:ByteArray),(⟨#[51]⟩:ByteArray),(⟨#[52]⟩:ByteArray)]) (q:=some 11) (by decide +kernel) (by decide +kernel)] at hi;injection hi with hi;subst hi;exact z5p
 ·rw [zay (ws:=[(⟨#[98,97,114]⟩:ByteArray),(⟨#[50,43,50,43,51]⟩:ByteArray)]) (q:=some 12) (by decide +kernel) (by decide +kernel)] at hi;injection hi with hi;subst hi;exact z5q
 ·rw [zay (ws:=[(⟨#[115,116,105,99,107]⟩:ByteArray)]) (q:=some 21) (by decide +kernel) (by decide +kernel)] at hi;injection hi with hi;subst hi;exact z5z
 ·rw [zay (ws:=[(⟨#[112,97,116,116,101,114,110]⟩:ByteArray),(⟨#[48,44,50]⟩:ByteArray)]) (q:=some 22) (by decide +kernel) (by decide +kernel)] at hi;injection hi with hi;subst hi;exact zqw
 ·rw [zay (ws:=[(⟨#[112,97,116,116,101,114,110]⟩:ByteArray),(⟨#[48,44,49,44,51]⟩:ByteArray)]) (q:=some 22) (by decide +kernel) (by decide +kernel)] at hi;injection hi with hi;subst hi;exact zqw
 ·rw [zay (ws:=[(⟨#[99,111,118,101,114]⟩:ByteArray),(⟨#[48,44,49,44,51]⟩:ByteArray)]) (q:=some 23) (by decide +kernel) (by decide +kernel)] at hi;injection hi with hi;subst hi;exact z50
 ·rw [zay (ws:=[(⟨#[116,119,111]⟩:ByteArray),(⟨#[48,44,49,44,52]⟩:ByteArray)]) (q:=some 24) (by decide +kernel) (by decide +kernel)] at hi;injection hi with hi;subst hi;exact z52
 ·rw [zay (ws:=[(⟨#[99,111,117,110,116]⟩:ByteArray),(⟨#[56]⟩:ByteArray),(⟨#[51]⟩:ByteArray)]) (q:=some 25) (by decide +kernel) (by decide +kernel)] at hi;injection hi with hi;subst hi;exact z55
 ·rw [zay (ws:=[(⟨#[112,108,97,121]⟩:ByteArray),(⟨#[97,91,98,99,93,50,100]⟩:ByteArray)]) (q:=some 26) (by decide +kernel) (by decide +kernel)] at hi;injection hi with hi;subst hi;exact z56
 ·rw [zay (ws:=[(⟨#[113,117,97,110,116,105,122,101]⟩:ByteArray),(⟨#[49,48]⟩:ByteArray),(⟨#[51,44,49,53,44,50,54]⟩:ByteArray)]) (q:=some 27) (by decide +kernel) (by decide +kernel)] at hi;injection hi with hi;subst hi;exact z57
 ·rw [zay (ws:=[(⟨#[119,104,97,116]⟩:ByteArray)]) (q:=none) (by decide +kernel) (by decide +kernel)] at hi;cases hi
theorem z6k {hl:ByteArray}(hz:hl.size<=1048576) : ∀ l∈lns hl,l.size<=1048576:=by
 intro l h
 simp only [lns,List.mem_cons,List.not_mem_nil,or_false] at h
 rcases h with rfl | rfl | rfl | rfl | rfl | rfl | rfl | rfl | rfl | rfl | rfl | rfl | rfl | rfl | rfl | rfl | rfl | rfl | rfl | rfl | rfl | rfl | rfl | rfl | rfl | rfl
 ·decide
 ·decide
 ·decide
 ·decide
 ·decide
 ·exact hz
 ·decide
 ·decide
 ·decide
 ·decide
 ·decide
 ·decide
 ·decide
 ·decide
 ·decide
 ·decide
 ·decide
 ·decide
 ·decide
 ·decide
 ·decide
 ·decide
 ·decide
 ·decide
 ·decide
 ·decide
def preT:Txt:=[115,104,111,119,10,108,105,110,101,10,101,118,101,110,10,109,101,116,101,114,10,99,108,97,115,115,10,104,97,110,100,115,32]
def postT:Txt:=[10,116,117,114,110,32,50,10,109,105,114,114,111,114,10,111,116,104,101,114,10,119,105,110,100,111,119,115,32,50,10,101,118,101,110,32,53,32,49,50,10,103,101,110,32,49,50,32,53,32,55,10,98,101,97,116,115,32,120,120,46,46,10,116,105,108,101,10,112,97,114,116,110,101,114,10,112,111,108,121,32,51,32,52,10,98,97,114,32,50,43,50,43,51,10,115,116,105,99,107,10,112,97,116,116,101,114,110,32,48,44,50,10,112,97,116,116,101,114,110,32,48,44,49,44,51,10,99,111,118,101,114,32,48,44,49,44,51,10,116,119,111,32,48,44,49,44,52,10,99,111,117,110,116,32,56,32,51,10,112,108,97,121,32,97,91,98,99,93,50,100,10,113,117,97,110,116,105,122,101,32,49,48,32,51,44,49,53,44,50,54,10,119,104,97,116]
theorem sl_2 (t:ByteArray)(h:t.data.toList=preT++itoL 2++postT):slnV t=lns (⟨#[104,97,110,100,115,32,50]⟩:ByteArray):=by
 unfold slnV splT
 rw [h,za5]
 decide +kernel
theorem hk_2:fndK (keyV (splT 32 (⟨#[104,97,110,100,115,32,50]⟩:ByteArray)))=some 19:=zay (ws:=[(⟨#[104,97,110,100,115]⟩:ByteArray),(⟨#[50]⟩:ByteArray)]) (by decide +kernel) (by decide +kernel)
theorem an_2:slnV (mkS (zcc [49]))=[(⟨#[120,46,46,120,46,46,120,46]⟩:ByteArray),(⟨#[120,46,46,120,46,46,120,46,32,115,116,101,112,115,32,51,43,51,43,50,32,112,101,114,105,111,100,32,56,32,118,101,99,116,111,114,32,48,44,49,44,50,44,48]⟩:ByteArray),(⟨#[101,118,101,110,32,110,101,97,114,101,115,116,32,120,46,46,120,46,46,120,46,32,109,111,118,101,115,32,48]⟩:ByteArray),(⟨#[50,42,52,32,49]⟩:ByteArray),(⟨#[120,46,120,46,46,120,46,46,32,111,114,98,105,116,32,56,32,99,108,97,115,115,32,120,120,120,46,46,46,46,46]⟩:ByteArray),(⟨#[49]⟩:ByteArray),(⟨#[120,46,120,46,46,120,46,46]⟩:ByteArray),(⟨#[120,46,46,120,46,46,120,46]⟩:ByteArray),(⟨#[46,120,120,46,120,120,46,120]⟩:ByteArray),(⟨#[51]⟩:ByteArray),(⟨#[120,46,120,46,120,46,46,120,46,120,46,46]⟩:ByteArray),(⟨#[120,46,120,46,120,46,46,120,46,120,46,46]⟩:ByteArray),(⟨#[120,120,46,46]⟩:ByteArray),(⟨#[111,114,100,101,114,115,32,50,32,112,97,114,116,110,101,114,32,120,46,120,46]⟩:ByteArray),(⟨#[120,46,120,46]⟩:ByteArray),(⟨#[120,46,46,120,120,46,120,46,120,120,46,46]⟩:ByteArray),(⟨#[120,46,120,46,120,46,46]⟩:ByteArray),(⟨#[82,46,82,46,82,46,46]⟩:ByteArray),(⟨#[112,101,114,105,111,100,32,52,32,101,110,116,114,105,101,115,32,48,44,49]⟩:ByteArray),(⟨#[102,97,105,108,115,32,50]⟩:ByteArray),(⟨#[54,32,97,97,98,97,98,98]⟩:ByteArray),(⟨#[49,53]⟩:ByteArray),(⟨#[55]⟩:ByteArray),(⟨#[97,98,99,98,99,100]⟩:ByteArray),(⟨#[48,44,49,48,44,51,48]⟩:ByteArray),(⟨#[117,110,107,110,111,119,110,32,99,111,109,109,97,110,100]⟩:ByteArray)]:=by decide +kernel
theorem sl_3 (t:ByteArray)(h:t.data.toList=preT++itoL 3++postT):slnV t=lns (⟨#[104,97,110,100,115,32,51]⟩:ByteArray):=by
 unfold slnV splT
 rw [h,za5]
 decide +kernel
theorem hk_3:fndK (keyV (splT 32 (⟨#[104,97,110,100,115,32,51]⟩:ByteArray)))=some 19:=zay (ws:=[(⟨#[104,97,110,100,115]⟩:ByteArray),(⟨#[51]⟩:ByteArray)]) (by decide +kernel) (by decide +kernel)
theorem an_3:slnV (mkS (zcc [50]))=[(⟨#[120,46,46,120,46,46,120,46]⟩:ByteArray),(⟨#[120,46,46,120,46,46,120,46,32,115,116,101,112,115,32,51,43,51,43,50,32,112,101,114,105,111,100,32,56,32,118,101,99,116,111,114,32,48,44,49,44,50,44,48]⟩:ByteArray),(⟨#[101,118,101,110,32,110,101,97,114,101,115,116,32,120,46,46,120,46,46,120,46,32,109,111,118,101,115,32,48]⟩:ByteArray),(⟨#[50,42,52,32,49]⟩:ByteArray),(⟨#[120,46,120,46,46,120,46,46,32,111,114,98,105,116,32,56,32,99,108,97,115,115,32,120,120,120,46,46,46,46,46]⟩:ByteArray),(⟨#[50]⟩:ByteArray),(⟨#[120,46,120,46,46,120,46,46]⟩:ByteArray),(⟨#[120,46,46,120,46,46,120,46]⟩:ByteArray),(⟨#[46,120,120,46,120,120,46,120]⟩:ByteArray),(⟨#[51]⟩:ByteArray),(⟨#[120,46,120,46,120,46,46,120,46,120,46,46]⟩:ByteArray),(⟨#[120,46,120,46,120,46,46,120,46,120,46,46]⟩:ByteArray),(⟨#[120,120,46,46]⟩:ByteArray),(⟨#[111,114,100,101,114,115,32,50,32,112,97,114,116,110,101,114,32,120,46,120,46]⟩:ByteArray),(⟨#[120,46,120,46]⟩:ByteArray),(⟨#[120,46,46,120,120,46,120,46,120,120,46,46]⟩:ByteArray),(⟨#[120,46,120,46,120,46,46]⟩:ByteArray),(⟨#[82,46,82,46,82,46,46]⟩:ByteArray),(⟨#[112,101,114,105,111,100,32,52,32,101,110,116,114,105,101,115,32,48,44,49]⟩:ByteArray),(⟨#[102,97,105,108,115,32,50]⟩:ByteArray),(⟨#[54,32,97,97,98,97,98,98]⟩:ByteArray),(⟨#[49,53]⟩:ByteArray),(⟨#[55]⟩:ByteArray),(⟨#[97,98,99,98,99,100]⟩:ByteArray),(⟨#[48,44,49,48,44,51,48]⟩:ByteArray),(⟨#[117,110,107,110,111,119,110,32,99,111,109,109,97,110,100]⟩:ByteArray)]:=by decide +kernel
theorem sl_4 (t:ByteArray)(h:t.data.toList=preT++itoL 4++postT):slnV t=lns (⟨#[104,97,110,100,115,32,52]⟩:ByteArray):=by
 unfold slnV splT
 rw [h,za5]
 decide +kernel
theorem hk_4:fndK (keyV (splT 32 (⟨#[104,97,110,100,115,32,52]⟩:ByteArray)))=some 19:=zay (ws:=[(⟨#[104,97,110,100,115]⟩:ByteArray),(⟨#[52]⟩:ByteArray)]) (by decide +kernel) (by decide +kernel)
theorem an_4:slnV (mkS (zcc [50]))=[(⟨#[120,46,46,120,46,46,120,46]⟩:ByteArray),(⟨#[120,46,46,120,46,46,120,46,32,115,116,101,112,115,32,51,43,51,43,50,32,112,101,114,105,111,100,32,56,32,118,101,99,116,111,114,32,48,44,49,44,50,44,48]⟩:ByteArray),(⟨#[101,118,101,110,32,110,101,97,114,101,115,116,32,120,46,46,120,46,46,120,46,32,109,111,118,101,115,32,48]⟩:ByteArray),(⟨#[50,42,52,32,49]⟩:ByteArray),(⟨#[120,46,120,46,46,120,46,46,32,111,114,98,105,116,32,56,32,99,108,97,115,115,32,120,120,120,46,46,46,46,46]⟩:ByteArray),(⟨#[50]⟩:ByteArray),(⟨#[120,46,120,46,46,120,46,46]⟩:ByteArray),(⟨#[120,46,46,120,46,46,120,46]⟩:ByteArray),(⟨#[46,120,120,46,120,120,46,120]⟩:ByteArray),(⟨#[51]⟩:ByteArray),(⟨#[120,46,120,46,120,46,46,120,46,120,46,46]⟩:ByteArray),(⟨#[120,46,120,46,120,46,46,120,46,120,46,46]⟩:ByteArray),(⟨#[120,120,46,46]⟩:ByteArray),(⟨#[111,114,100,101,114,115,32,50,32,112,97,114,116,110,101,114,32,120,46,120,46]⟩:ByteArray),(⟨#[120,46,120,46]⟩:ByteArray),(⟨#[120,46,46,120,120,46,120,46,120,120,46,46]⟩:ByteArray),(⟨#[120,46,120,46,120,46,46]⟩:ByteArray),(⟨#[82,46,82,46,82,46,46]⟩:ByteArray),(⟨#[112,101,114,105,111,100,32,52,32,101,110,116,114,105,101,115,32,48,44,49]⟩:ByteArray),(⟨#[102,97,105,108,115,32,50]⟩:ByteArray),(⟨#[54,32,97,97,98,97,98,98]⟩:ByteArray),(⟨#[49,53]⟩:ByteArray),(⟨#[55]⟩:ByteArray),(⟨#[97,98,99,98,99,100]⟩:ByteArray),(⟨#[48,44,49,48,44,51,48]⟩:ByteArray),(⟨#[117,110,107,110,111,119,110,32,99,111,109,109,97,110,100]⟩:ByteArray)]:=by decide +kernel
theorem sl_6 (t:ByteArray)(h:t.data.toList=preT++itoL 6++postT):slnV t=lns (⟨#[104,97,110,100,115,32,54]⟩:ByteArray):=by
 unfold slnV splT
 rw [h,za5]
 decide +kernel
theorem hk_6:fndK (keyV (splT 32 (⟨#[104,97,110,100,115,32,54]⟩:ByteArray)))=some 19:=zay (ws:=[(⟨#[104,97,110,100,115]⟩:ByteArray),(⟨#[54]⟩:ByteArray)]) (by decide +kernel) (by decide +kernel)
theorem an_6:slnV (mkS (zcc [51]))=[(⟨#[120,46,46,120,46,46,120,46]⟩:ByteArray),(⟨#[120,46,46,120,46,46,120,46,32,115,116,101,112,115,32,51,43,51,43,50,32,112,101,114,105,111,100,32,56,32,118,101,99,116,111,114,32,48,44,49,44,50,44,48]⟩:ByteArray),(⟨#[101,118,101,110,32,110,101,97,114,101,115,116,32,120,46,46,120,46,46,120,46,32,109,111,118,101,115,32,48]⟩:ByteArray),(⟨#[50,42,52,32,49]⟩:ByteArray),(⟨#[120,46,120,46,46,120,46,46,32,111,114,98,105,116,32,56,32,99,108,97,115,115,32,120,120,120,46,46,46,46,46]⟩:ByteArray),(⟨#[51]⟩:ByteArray),(⟨#[120,46,120,46,46,120,46,46]⟩:ByteArray),(⟨#[120,46,46,120,46,46,120,46]⟩:ByteArray),(⟨#[46,120,120,46,120,120,46,120]⟩:ByteArray),(⟨#[51]⟩:ByteArray),(⟨#[120,46,120,46,120,46,46,120,46,120,46,46]⟩:ByteArray),(⟨#[120,46,120,46,120,46,46,120,46,120,46,46]⟩:ByteArray),(⟨#[120,120,46,46]⟩:ByteArray),(⟨#[111,114,100,101,114,115,32,50,32,112,97,114,116,110,101,114,32,120,46,120,46]⟩:ByteArray),(⟨#[120,46,120,46]⟩:ByteArray),(⟨#[120,46,46,120,120,46,120,46,120,120,46,46]⟩:ByteArray),(⟨#[120,46,120,46,120,46,46]⟩:ByteArray),(⟨#[82,46,82,46,82,46,46]⟩:ByteArray),(⟨#[112,101,114,105,111,100,32,52,32,101,110,116,114,105,101,115,32,48,44,49]⟩:ByteArray),(⟨#[102,97,105,108,115,32,50]⟩:ByteArray),(⟨#[54,32,97,97,98,97,98,98]⟩:ByteArray),(⟨#[49,53]⟩:ByteArray),(⟨#[55]⟩:ByteArray),(⟨#[97,98,99,98,99,100]⟩:ByteArray),(⟨#[48,44,49,48,44,51,48]⟩:ByteArray),(⟨#[117,110,107,110,111,119,110,32,99,111,109,109,97,110,100]⟩:ByteArray)]:=by decide +kernel
theorem sl_9 (t:ByteArray)(h:t.data.toList=preT++itoL 9++postT):slnV t=lns (⟨#[104,97,110,100,115,32,57]⟩:ByteArray):=by
 unfold slnV splT
 rw [h,za5]
 decide +kernel
theorem hk_9:fndK (keyV (splT 32 (⟨#[104,97,110,100,115,32,57]⟩:ByteArray)))=some 19:=zay (ws:=[(⟨#[104,97,110,100,115]⟩:ByteArray),(⟨#[57]⟩:ByteArray)]) (by decide +kernel) (by decide +kernel)
theorem an_9:slnV (mkS (zcc [52]))=[(⟨#[120,46,46,120,46,46,120,46]⟩:ByteArray),(⟨#[120,46,46,120,46,46,120,46,32,115,116,101,112,115,32,51,43,51,43,50,32,112,101,114,105,111,100,32,56,32,118,101,99,116,111,114,32,48,44,49,44,50,44,48]⟩:ByteArray),(⟨#[101,118,101,110,32,110,101,97,114,101,115,116,32,120,46,46,120,46,46,120,46,32,109,111,118,101,115,32,48]⟩:ByteArray),(⟨#[50,42,52,32,49]⟩:ByteArray),(⟨#[120,46,120,46,46,120,46,46,32,111,114,98,105,116,32,56,32,99,108,97,115,115,32,120,120,120,46,46,46,46,46]⟩:ByteArray),(⟨#[52]⟩:ByteArray),(⟨#[120,46,120,46,46,120,46,46]⟩:ByteArray),(⟨#[120,46,46,120,46,46,120,46]⟩:ByteArray),(⟨#[46,120,120,46,120,120,46,120]⟩:ByteArray),(⟨#[51]⟩:ByteArray),(⟨#[120,46,120,46,120,46,46,120,46,120,46,46]⟩:ByteArray),(⟨#[120,46,120,46,120,46,46,120,46,120,46,46]⟩:ByteArray),(⟨#[120,120,46,46]⟩:ByteArray),(⟨#[111,114,100,101,114,115,32,50,32,112,97,114,116,110,101,114,32,120,46,120,46]⟩:ByteArray),(⟨#[120,46,120,46]⟩:ByteArray),(⟨#[120,46,46,120,120,46,120,46,120,120,46,46]⟩:ByteArray),(⟨#[120,46,120,46,120,46,46]⟩:ByteArray),(⟨#[82,46,82,46,82,46,46]⟩:ByteArray),(⟨#[112,101,114,105,111,100,32,52,32,101,110,116,114,105,101,115,32,48,44,49]⟩:ByteArray),(⟨#[102,97,105,108,115,32,50]⟩:ByteArray),(⟨#[54,32,97,97,98,97,98,98]⟩:ByteArray),(⟨#[49,53]⟩:ByteArray),(⟨#[55]⟩:ByteArray),(⟨#[97,98,99,98,99,100]⟩:ByteArray),(⟨#[48,44,49,48,44,51,48]⟩:ByteArray),(⟨#[117,110,107,110,111,119,110,32,99,111,109,109,97,110,100]⟩:ByteArray)]:=by decide +kernel
end Go.Proofs.YtjgbidnebnggoaaGreatDoor
