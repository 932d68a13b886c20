/- Parts of the proof of the card of the law FnConsole. -/
import Derived.Test.YtjpnjchpdkogbaaGreatDoorG30
import Derived.Test.YtjpnjchpdkogbaaGreatDoorStrs
import Derived.Test.YtjpnjchpdkogbaaGreatDoorG26
import Derived.Test.YtjpnjchpdkogbaaGreatDoorG06
import Derived.Test.YtjpnjchpdkogbaaGreatDoorG28
import Derived.Test.YtjpnjchpdkogbaaGreatDoorG09
import Derived.Test.YtjpnjchpdkogbaaGreatDoorG02
set_option linter.unusedVariables false
set_option linter.unusedSimpArgs false
set_option maxRecDepth 100000
set_option maxHeartbeats 4000000
namespace Go.Proofs.YtjpnjchpdkogbaaGreatDoor
open Go.RowKit
def ansB (a:ByteArray):List UInt8:=if a.data.toList=[] then [] else a.data.toList++[10]
noncomputable def stK (r0:Nat × List Int) (ls:List ByteArray):Nat->(Nat × List Int) × List UInt8
 | 0=>(r0,[])
 | k+1=>((zau (stK r0 ls k).1.1 (stK r0 ls k).1.2 (ls.getD k ⟨#[]⟩)).1,(stK r0 ls k).2++ansB (zau (stK r0 ls k).1.1 (stK r0 ls k).1.2 (ls.getD k ⟨#[]⟩)).2)
theorem zj5 {r0:Nat × List Int}{ls:List ByteArray}(n:Nat)(h : ∀ k,k<n->(zau (stK r0 ls k).1.1 (stK r0 ls k).1.2 (ls.getD k ⟨#[]⟩)).2.size<=1073741824) : ∀ k,k<=n->(stK r0 ls k).2.length<=k*1073741825
 | 0,_=>Nat.le_refl _
 | k+1,hk=>by
  have ih:=zj5 n h k (by omega)
  have h1:=h k (by omega)
  show ((stK r0 ls k).2++ansB _).length<=_
  rw [List.length_append]
  have h2:(ansB (zau (stK r0 ls k).1.1 (stK r0 ls k).1.2 (ls.getD k ⟨#[]⟩)).2).length<=(zau (stK r0 ls k).1.1 (stK r0 ls k).1.2 (ls.getD k ⟨#[]⟩)).2.size+1:=by
   unfold ansB
   split
   ·exact Nat.zero_le _
   ·simp
  omega
theorem Bld.far {w:World}{b:Nat}{v:Value}{l:List UInt8}(h:Bld w b v l){p:Addr}(hp:b≠p.block)(hv:v.ownBlock≠some p.block)(u:Value):Bld (w.setCell p u) b v l:=by
 obtain ⟨q,hq,hk,ho⟩:=h
 refine ⟨q,hq,by rw [Below.heap_setCell _ _ _ _ (fun e=>hp e)];exact hk,?_⟩
 exact ho.kept (row:=some p.block) ⟨rfl,rfl,rfl,by simp [World.setCell],fun k _ hk=>Below.heap_setCell _ _ _ _ (fun e=>hk (by simp [e]))⟩ (Or.inr hv)
theorem Bld.ge {w:World}{b:Nat}{v:Value}{l:List UInt8}(h:Bld w b v l) : ∀ k,v.ownBlock=some k->b<=k:=by
 obtain ⟨p,_,_,ho⟩:=h
 exact fun k hk=>(ho.lt k hk).1
theorem z4q (text:ByteArray)(w:World)(hs:text.size<=1048576)(hE:Env w.heap.size w)(hn:(slnV text).length<=40)(hls : ∀ l∈slnV text,l.size<=1048576)
  (hC : ∀ l∈slnV text,∀ i,fndK (keyV (splT 32 l))=some i->zas i)
  (hB : ∀ k,k<(slnV text).length->(zau (stK (8,[0,3,6]) (slnV text) k).1.1 (stK (8,[0,3,6]) (slnV text) k).1.2 ((slnV text).getD k ⟨#[]⟩)).2.size<=1073741824) :
  Calls Tryz.prog 7 #[.string text] w fun e w'=>e = .returned (.tuple #[.string (mkS (stK (8,[0,3,6]) (slnV text) (slnV text).length).2),.int .i64 (slnV text).length])/\Below w.heap.size w w':=by
 have HSL:=Zh (zrl text w hs (hE w (Below.refl _ _)).2.2.1)
 have hlen:=zj5 (slnV text).length hB
 generalize slnV text=us at *
 obtain ⟨R0,hR0⟩ : ∃ R:List Int,[0,3,6]=R:=⟨_,rfl⟩
 have HNC:=Zh (fun V=>hR0 ▸ zqm V)
 have hok0:RhOk (8:Nat) R0:=by
  rw [<- hR0]
  refine ⟨by decide,by decide,fun i hi=>?_,fun i hi=>?_⟩
  ·have:i=0\/i=1\/i=2:=by simp at hi;omega
   rcases this with rfl | rfl | rfl <;> decide
  ·have:i=0\/i=1:=by simp at hi;omega
   rcases this with rfl | rfl <;> decide
 rw [hR0] at hlen hB ⊢
 have HS0:=Zh (show stK (8,R0) us 0=((8,R0),[]) from rfl)
 have HSS:=Zh (fun k=>show stK (8,R0) us (k+1)=((zau (stK (8,R0) us k).1.1 (stK (8,R0) us k).1.2 (us.getD k ⟨#[]⟩)).1,(stK (8,R0) us k).2++ansB (zau (stK (8,R0) us k).1.1 (stK (8,R0) us k).1.2 (us.getD k ⟨#[]⟩)).2) from rfl)
 generalize stK (8,R0) us=S at *
 have HLE:=Zh hlen
 have HBD:=Zh hB
 have HE:=Zh hE
 have HCC:=Zh hC
 have HLS:=Zh hls
 have HOK0:=Zh hok0
 have hnl : ¬ (40:Int)<(us.length:Int):=by omega
 have hnl0:(0:Int)<=(us.length:Int):=Int.natCast_nonneg _
 clear hlen hB hE hC hls hok0 hR0
 go_enter Tryz.func7,Tryz.ntmps7
 go_wp2_with fail
 refine HSL.o.mono ?_
 rintro e w1 ⟨g0,rfl,htx,hb⟩
 have HT1:=Zh htx
 have HB1:=Zh hb
 clear htx hb
 go_wp2_with fail
 refine (HNC.o _).mono ?_
 rintro e w2 ⟨A2,c2,rfl,hrw,hb⟩
 have HB2:=Zh (HB1.o.trans (hb.mono HB1.o.size))
 have HT2:=Zh (HT1.o.below hb)
 have HI2:=Zh (hrw.fitsP HOK0.o)
 clear hb hrw
 obtain ⟨q5,hq5⟩ : ∃ q,w2.heap.size=q:=⟨_,rfl⟩
 have hal1:=(Below.refl w2.heap.size w2).alloc (Nat.le_refl _) (.cells #[.int .i64 8,.slice A2 R0.length c2] 27)
 have hal2:=hal1.alloc hal1.size (.cells #[.pointer none,.slice none 0 0] 49)
 have HX3:=Zh ((Cells2.new w2 (.int .i64 8) (.slice A2 R0.length c2) 27).alloc (.cells #[.pointer none,.slice none 0 0] 49))
 have HL3:=Zh (Bld.new (w2.alloc (.cells #[.int .i64 8,.slice A2 R0.length c2] 27)))
 have HB3:=Zh (HB2.o.trans (hal2.mono HB2.o.size))
 have HT3:=Zh (HT2.o.below hal2)
 have HI3:=Zh (HI2.o.lift hal2)
 rw [World.size_alloc,hq5] at HL3
 rw [hq5] at HX3
 have hg0:g0<q5:=by have:=HT2.o.2.1;omega
 have hq5w:w.heap.size<=q5:=by have:=HB2.o.size;omega
 clear hal1 hal2
 go_wp2_with fail
 generalize (w2.alloc (.cells #[.int .i64 8,.slice A2 R0.length c2] 27)).alloc (.cells #[.pointer none,.slice none 0 0] 49)=w3 at *
 clear hq5
 go_loopw [19] (fun i wr=>∃ (k:Nat) (A:Option Addr) (c:Nat) (v:Value),k<=us.length/\i = .int .i64 k/\Cells2 wr q5 (.int .i64 (S k).1.1) (.slice A (S k).1.2.length c)/\Ints wr wr.heap.size A (S k).1.2/\RhOk (S k).1.1 (S k).1.2/\Bld wr (q5+1) v (S k).2/\Below w.heap.size w wr/\TxR wr w.heap.size g0 us) (fun i _=>us.length-(intOf i).toNat)
 case atStart =>
  refine ⟨0,A2,c2,.slice none 0 0,Nat.zero_le _,rfl,?_,?_,?_,?_,HB3.o,HT3.o⟩
  ·rw [HS0.o];exact HX3.o
  ·rw [HS0.o];exact HI3.o
  ·rw [HS0.o];exact HOK0.o
  ·rw [HS0.o];exact HL3.o
 case round =>
  obtain ⟨k,A,c,v,hk,rfl,hx,hi,hok,hbd,hb,ht⟩:=hrel
  obtain ⟨wo,rfl⟩ : ∃ wo:World,wo=wr:=⟨_,rfl⟩
  have HX:=Zh hx
  have HI:=Zh hi
  have HK:=Zh hok
  have HBD5:=Zh hbd
  have HBW:=Zh hb
  have HT:=Zh ht
  clear hx hi hok hbd hb ht
  have hk0:(0:Int)<=(k:Int):=Int.natCast_nonneg _
  by_cases hlt:k<us.length
  ·have hlti:(k:Int)<(us.length:Int):=by omega
   have hcl:=HT.o.2.2 k hlt
   have hmem:us.getD k ⟨#[]⟩∈us:=by rw [List.getD_eq_getElem?_getD,List.getElem?_eq_getElem hlt];exact List.getElem_mem hlt
   have hSk:=HSS.o k
   have hle1:=HLE.o k (by omega)
   have hbd1:=HBD.o k hlt
   have HRL:=Zh (zql (S k).1.1 A c (S k).1.2 (us.getD k ⟨#[]⟩) wo HI.o HK.o (HLS.o _ hmem) (fun V hV=>HE.o V (HBW.o.trans (hV.mono HBW.o.size))) (HCC.o _ hmem))
   have hS1:((S (k+1)).1,(S (k+1)).2)=((zau (S k).1.1 (S k).1.2 (us.getD k ⟨#[]⟩)).1,(S k).2++ansB (zau (S k).1.1 (S k).1.2 (us.getD k ⟨#[]⟩)).2):=by rw [hSk]
   have hS1a:=congrArg Prod.fst hS1
   have hS1b:=congrArg Prod.snd hS1
   simp only at hS1a hS1b
   have HSA:=Zh hS1a
   have HSB:=Zh hS1b
   clear hSk hS1 hS1a hS1b hmem
   obtain ⟨SN,hSN⟩ : ∃ s,S (k+1)=s:=⟨_,rfl⟩
   rw [hSN] at HSA HSB
   have HSN:=Zh hSN
   clear hSN
   obtain ⟨⟨Nn,xs⟩,out⟩:=SN
   generalize zau (S k).1.1 (S k).1.2 (us.getD k ⟨#[]⟩)=LV at *
   obtain ⟨⟨M,ys⟩,T⟩:=LV
   generalize S k=SK at *
   obtain ⟨⟨N,bs⟩,acc⟩:=SK
   generalize us.getD k ⟨#[]⟩=line at *
   obtain ⟨f0,f1,ff0,ff1,hq5l⟩:=HX.o
   simp only at f0 f1 HI HK HBD5 hle1 hbd1 HSA HSB
   go_wp2_with fail
   refine HRL.o.mono ?_
   rintro e w4 ⟨A4,c4,rfl,hi4,hn4,hok4,hb4⟩
   simp only at hi4 hn4 hok4
   have hz4:=hb4.size
   have hal:=(Below.refl w4.heap.size w4).alloc (Nat.le_refl _) (.cells #[.int .i64 M,.slice A4 ys.length c4] 27)
   have HN5:=Zh (Cells2.new w4 (.int .i64 M) (.slice A4 ys.length c4) 27)
   have HW5:=Zh (hb4.trans (hal.mono hb4.size))
   have HX5:=Zh (HX.o.below HW5.o hq5l)
   have HL5:=Zh (HBD5.o.below HW5.o)
   have HT5:=Zh (HT.o.below HW5.o)
   have HI5:=Zh (hi4.lift hal)
   have HN4:=Zh hn4
   have HK4:=Zh hok4
   have HB5:=Zh (HBW.o.trans (HW5.o.mono HBW.o.size))
   have HRV:=Zh HBD5.o.row
   have hbl5:=HBD5.o.lt
   have hq4:q5<w4.heap.size:=by omega
   clear hi4 hn4 hok4 hal hb4 f0 f1 ff0 ff1
   obtain ⟨f0,f1,ff0,ff1,hq5l5⟩:=HX5.o
   obtain ⟨n0,n1,_,_,_⟩:=HN5.o
   have HX6:=Zh ((HX5.o.set0 (.int .i64 M)).set1 (.slice A4 ys.length c4))
   have HB6:=Zh ((HB5.o.setCell (p:=⟨q5,0,none⟩) hq5w (.int .i64 M)).setCell (p:=⟨q5,1,none⟩) hq5w (.slice A4 ys.length c4))
   have HVQ:=Zh (show v.ownBlock≠some q5 from fun e=>by have:=HL5.o.ge q5 e;omega)
   have HL6:=Zh ((HL5.o.far (p:=⟨q5,0,none⟩) (by show q5+1≠q5;omega) HVQ.o (.int .i64 M)).far (p:=⟨q5,1,none⟩) (by show q5+1≠q5;omega) HVQ.o (.slice A4 ys.length c4))
   have hgq:q5≠g0:=by omega
   have HNQ:=Zh (show ∀ k o,A4=some ⟨k,o,none⟩->0<ys.length->k≠q5 from fun k o e h=>by have:=HN4.o k o e h;omega)
   have HI6:=Zh (show Ints (((w4.alloc (.cells #[.int .i64 M,.slice A4 ys.length c4] 27)).setCell ⟨q5,0,none⟩ (.int .i64 M)).setCell ⟨q5,1,none⟩ (.slice A4 ys.length c4)) (((w4.alloc (.cells #[.int .i64 M,.slice A4 ys.length c4] 27)).setCell ⟨q5,0,none⟩ (.int .i64 M)).setCell ⟨q5,1,none⟩ (.slice A4 ys.length c4)).heap.size A4 ys from ((HI5.o.setFar2 (p:=⟨q5,0,none⟩) HNQ.o (.int .i64 M)).setFar2 (p:=⟨q5,1,none⟩) HNQ.o (.slice A4 ys.length c4)).mono (by simp [World.setCell]))
   have HT6:=Zh (show TxR (((w4.alloc (.cells #[.int .i64 M,.slice A4 ys.length c4] 27)).setCell ⟨q5,0,none⟩ (.int .i64 M)).setCell ⟨q5,1,none⟩ (.slice A4 ys.length c4)) w.heap.size g0 us from ⟨HT5.o.1,by simpa [World.setCell] using HT5.o.2.1,fun i hi=>by
    rw [World.cell?_setCell_other _ _ _ _ (fun h=>by injection h;omega),World.cell?_setCell_other _ _ _ _ (fun h=>by injection h;omega)]
    exact HT5.o.2.2 i hi⟩)
   have hz6:wo.heap.size<=(((w4.alloc (.cells #[.int .i64 M,.slice A4 ys.length c4] 27)).setCell ⟨q5,0,none⟩ (.int .i64 M)).setCell ⟨q5,1,none⟩ (.slice A4 ys.length c4)).heap.size:=by simp [World.setCell];omega
   obtain ⟨g0',g1',gg0,gg1,_⟩:=HX5.o.set0 (.int .i64 M)
   have HZ:=Zh (show q5<w4.heap.size/\wo.heap.size<=w4.heap.size/\q5<wo.heap.size/\q5+1<wo.heap.size from ⟨hq4,hz4,hq5l,hbl5⟩)
   have HZ6:=Zh hz6
   clear hq4 hz4 hq5l hq5l5 hbl5 hz6
   by_cases hT:T.data.toList=[]
   ·have hTe:T=⟨#[]⟩:=by
     obtain ⟨d⟩:=T
     simp only at hT
     rw [Array.toList_eq_nil_iff.1 hT]
    have HSB2:=Zh (show out=acc by rw [HSB.o,ansB,if_pos hT,List.append_nil])
    clear HSB
    clear hT
    subst hTe
    go_wp2_with fail
    go_roundw
    case rel =>
     have HE9:=Zh (show S (k+1)=((M,ys),acc) by rw [HSN.o,HSA.o,HSB2.o])
     refine ⟨k+1,A4,c4,v,by omega,by go_num,?_,?_,?_,?_,HB6.o,HT6.o⟩
     ·rw [HE9.o];exact HX6.o
     ·rw [HE9.o];exact HI6.o
     ·rw [HE9.o];exact HK4.o
     ·rw [HE9.o];exact HL6.o
    case measure=>simp [intOf];omega
   ·obtain ⟨ch,rl,hcr⟩:=List.exists_cons_of_ne_nil hT
    have HSB2:=Zh (show out=acc++(T.data.toList++[10]) by rw [HSB.o,ansB,if_neg hT])
    have he0:T.toList=ch::rl:=by rw [Lib.toList_data];exact hcr
    have he2:(T.toList==[])=false:=by rw [he0];rfl
    have he3:(T.toList=[])=False:=eq_false (by rw [he0];exact List.cons_ne_nil _ _)
    have he4:T.toList.isEmpty=false:=by rw [he0];rfl
    have he5:(T.toList==(⟨#[]⟩:ByteArray).toList)=false:=by rw [show (⟨#[]⟩:ByteArray).toList=[] by rw [Lib.toList_data]];exact he2
    have hcs : ¬ 9223372036854775807<T.size+1:=by omega
    have HCT:=Zh (show (T++⟨#[10]⟩:ByteArray).data.toList=T.data.toList++[10] by simp)
    have HCZ:=Zh (show (T++⟨#[10]⟩:ByteArray).size=T.size+1 by
     show (T++⟨#[10]⟩:ByteArray).data.size=_
     simp)
    have HWS:=Zh (z4o (q5+1) v acc (T++⟨#[10]⟩) _ HL6.o (by rw [HCZ.o];omega))
    clear hT hcr
    go_wp2_with fail
    refine (HWS.o).mono ?_
    rintro e w7 ⟨⟨x,rfl⟩,v7,hl7,hb7,hk7⟩
    have hz7:=hb7.size
    have HL7:=Zh hl7
    have HB7:=Zh (HB6.o.trans (hb7.mono (by omega)))
    have HX7:=Zh (HX6.o.below hb7 (by omega))
    have HT7:=Zh (show TxR w7 w.heap.size g0 us from ⟨HT6.o.1,Nat.lt_of_lt_of_le HT6.o.2.1 hb7.size,fun i hi=>(hb7.cell (p:=⟨g0,i,none⟩) (by show g0<q5+1;omega)).trans (HT6.o.2.2 i hi)⟩)
    have HI7:=Zh (show Ints w7 w7.heap.size A4 ys from ⟨HI6.o.1,HI6.o.2.1,fun hn=>by
     obtain ⟨kb,ob,eb,hkb,hcb⟩:=HI6.o.2.2 hn
     have h1:=HN4.o kb ob eb hn
     refine ⟨kb,ob,eb,Nat.lt_of_lt_of_le hkb hz7,fun i hi=>?_⟩
     rw [World.cell?_of_block (a:=⟨kb,ob+i,none⟩) (hk7 kb hkb (by have:=HZ.o;omega) (fun h=>by have:=HRV.o kb h;omega))]
     exact hcb i hi⟩)
    clear hl7 hb7 hk7 hz7
    go_wp2_with fail
    go_roundw
    case rel =>
     have HE9:=Zh (show S (k+1)=((M,ys),acc++(T.data.toList++[10])) by rw [HSN.o,HSA.o,HSB2.o])
     refine ⟨k+1,A4,c4,v7,by omega,by go_num,?_,?_,?_,?_,HB7.o,HT7.o⟩
     ·rw [HE9.o];exact HX7.o
     ·rw [HE9.o];exact HI7.o
     ·rw [HE9.o];exact HK4.o
     ·rw [HE9.o,<- HCT.o];exact HL7.o
    case measure=>simp [intOf];omega
  ·have hke:k=us.length:=by omega
   subst hke
   obtain ⟨f0,f1,ff0,ff1,hq5l⟩:=HX.o
   go_wp2_with fail
   refine (z4p (q5+1) v _ wo HBD5.o).mono ?_
   rintro e w5 ⟨rfl,hb5⟩
   go_wp2_with fail
   go_ret2
   exact ⟨rfl,HBW.o.trans (hb5.mono (by omega))⟩
end Go.Proofs.YtjpnjchpdkogbaaGreatDoor
namespace Go.Proofs.YtjpnjchpdkogbaaGreatDoor
open Go.RowKit
set_option maxRecDepth 100000
def fstK:List ByteArray:=[⟨#[115,104,111,119]⟩,⟨#[98,101,97,116,115,32,120,46,120,46,120,46,46,46]⟩,⟨#[101,118,101,110,32,53,32,56]⟩,⟨#[103,101,110,32,49,50,32,55,32,55]⟩,⟨#[108,105,110,101]⟩]
def zj6:List ByteArray:=[⟨#[98,101,97,116,115,32,120,46,120,46]⟩,⟨#[98,101,97,116,115,32,120,120,46,120,46,46]⟩,⟨#[101,118,101,110,32,51,32,56]⟩,⟨#[101,118,101,110,32,53,32,49,50]⟩,⟨#[103,101,110,32,49,50,32,53,32,55]⟩,⟨#[116,117,114,110,32,50]⟩,⟨#[116,117,114,110,32,45,49]⟩,⟨#[109,105,114,114,111,114]⟩,⟨#[111,116,104,101,114]⟩,⟨#[115,116,114,101,116,99,104,32,51]⟩,⟨#[114,101,112,101,97,116,32,50]⟩,⟨#[112,104,97,115,101,32,50]⟩,⟨#[112,97,114,116,110,101,114]⟩,⟨#[119,111,114,100,32,84,77,83]⟩,⟨#[112,111,108,121,32,51,32,52]⟩,⟨#[98,97,114,32,50,43,50,43,51]⟩]
def zj7:List ByteArray:=[⟨#[115,104,111,119]⟩,⟨#[108,105,110,101]⟩,⟨#[101,118,101,110]⟩,⟨#[116,105,108,101]⟩,⟨#[109,101,116,101,114]⟩,⟨#[99,108,97,115,115]⟩,⟨#[104,97,110,100,115,32,51]⟩,⟨#[104,97,110,100,115,32,55]⟩,⟨#[119,105,110,100,111,119,115,32,50]⟩,⟨#[119,105,110,100,111,119,115,32,51]⟩,⟨#[115,116,105,99,107]⟩]
def zj8:List ByteArray:=[⟨#[112,97,116,116,101,114,110,32,48,44,50]⟩,⟨#[112,97,116,116,101,114,110,32,48,44,49,44,51]⟩,⟨#[99,111,118,101,114,32,48,44,49,44,51]⟩,⟨#[116,119,111,32,48,44,49,44,52]⟩,⟨#[99,111,117,110,116,32,56,32,51]⟩,⟨#[99,111,117,110,116,32,49,50,32,52]⟩,⟨#[112,108,97,121,32,97,91,98,99,93,50,100]⟩,⟨#[113,117,97,110,116,105,122,101,32,49,48,32,51,44,49,52,44,50,54]⟩]
def zj9:List ByteArray:=[⟨#[]⟩,⟨#[35,32,110,111,116,101]⟩,⟨#[119,104,97,116]⟩,⟨#[98,101,97,116,115]⟩,⟨#[98,101,97,116,115,32,120,111]⟩,⟨#[101,118,101,110,32,57,32,56]⟩,⟨#[101,118,101,110,32,120,32,49]⟩,⟨#[103,101,110,32,49,50,32,53]⟩,⟨#[103,101,110,32,54,32,52,32,51]⟩,⟨#[116,117,114,110,32,120]⟩,⟨#[115,116,114,101,116,99,104,32,50]⟩,⟨#[114,101,112,101,97,116,32,57]⟩,⟨#[119,111,114,100,32,81]⟩,⟨#[112,111,108,121,32,55,32,49,49]⟩,⟨#[98,97,114,32,49,43,50]⟩,⟨#[112,97,116,116,101,114,110,32,49]⟩,⟨#[112,97,116,116,101,114,110,32,120]⟩,⟨#[99,111,118,101,114,32,45]⟩,⟨#[112,108,97,121,32,93]⟩,⟨#[113,117,97,110,116,105,122,101,32,48,32,49]⟩,⟨#[113,117,97,110,116,105,122,101,32,120,32,49]⟩,⟨#[99,111,117,110,116,32,57,57,32,49]⟩,⟨#[115,104,111,119,32,49]⟩]
def lnsK:List ByteArray:=fstK++(zj6++(zj7++(zj8++zj9)))
theorem zqn : ∀ u∈lnsK,u.size<=40/\(u.data.toList.all fun c=>c != 10)=true:=by decide +kernel
end Go.Proofs.YtjpnjchpdkogbaaGreatDoor
namespace Go.Proofs.YtjpnjchpdkogbaaGreatDoor
open Go.RowKit
def decK:Nat->Nat->List UInt8
 | 0,_=>[]
 | f+1,u=>if u<10 then [UInt8.ofNat (48+u)] else decK f (u / 10)++[UInt8.ofNat (48+u % 10)]
theorem zka : ∀ f u,u<f->decK f u=Lib.decDigits u
 | 0,u,h=>by omega
 | f+1,u,h=>by
  rw [Lib.decDigits]
  show (if u<10 then _ else _)=_
  by_cases h1:u<10
  ·rw [if_pos h1,dif_pos h1]
  ·rw [if_neg h1,dif_neg h1,zka f (u / 10) (by omega)]
def itoK (n:Int):List UInt8:=if n<0 then 45::decK (n.natAbs+1) n.natAbs else decK (n.toNat+1) n.toNat
theorem z4r:itoL=itoK:=by
 funext n
 unfold itoL Lib.itoa itoK
 by_cases h:n<0
 ·rw [if_pos h,if_pos h,zka _ _ (Nat.lt_succ_self _)]
 ·rw [if_neg h,if_neg h,zka _ _ (Nat.lt_succ_self _)]
def rhK (n:Int)(bs:List Int):Bool:=decide (1<=n) && decide (n<=24) && (List.range bs.length).all (fun i=>decide (0<=bs.getD i 0) && decide (bs.getD i 0<n) && (decide (bs.length<=i+1) || decide (bs.getD i 0<bs.getD (i+1) 0)))
theorem z4s {n:Int}{bs:List Int}(h:rhK n bs=true):RhOk n bs:=by
 unfold rhK at h
 rw [Bool.and_eq_true,Bool.and_eq_true,decide_eq_true_eq,decide_eq_true_eq,List.all_eq_true] at h
 refine ⟨h.1.1,h.1.2,fun i hi=>?_,fun i hi=>?_⟩
 ·have:=h.2 i (List.mem_range.2 hi)
  rw [Bool.and_eq_true,Bool.and_eq_true,decide_eq_true_eq,decide_eq_true_eq] at this
  exact this.1
 ·have:=h.2 i (List.mem_range.2 (by omega))
  rw [Bool.and_eq_true,Bool.or_eq_true,decide_eq_true_eq,decide_eq_true_eq] at this
  rcases this.2 with h9 | h9
  ·omega
  ·exact h9
end Go.Proofs.YtjpnjchpdkogbaaGreatDoor
namespace Go.Proofs.YtjpnjchpdkogbaaGreatDoor
open Go.RowKit
noncomputable def zb2 (us:List ByteArray):ByteArray:=mkS (zaf (us.map (·.data.toList)) [10])
theorem z4t {us:List ByteArray}(h0:us≠[])(h : ∀ u∈us,∀ c∈u.data.toList,c≠10):splT 10 (zb2 us)=us:=by
 unfold splT zb2
 rw [show ∀ l:Txt,(mkS l).data.toList=l from fun l=>by simp [mkS],zri 10 _ (by simpa using h0) (fun t ht=>by
  obtain ⟨u,hu,rfl⟩:=List.mem_map.1 ht
  exact h u hu),List.map_map]
 exact (List.map_congr_left fun u _=>show mkS u.data.toList=u from rfl).trans (List.map_id _)
theorem zqo {r0:Nat × List Int}{us:List ByteArray}{m:Nat}(hm:m<=us.length) : ∀ k,k<=m->stK r0 (us.take m) k=stK r0 us k
 | 0,_=>rfl
 | k+1,hk=>by
  have ih:=zqo (r0:=r0) hm k (by omega)
  have hg:(us.take m).getD k ⟨#[]⟩=us.getD k ⟨#[]⟩:=by
   rw [List.getD_eq_getElem?_getD,List.getD_eq_getElem?_getD,List.getElem?_take_of_lt (by omega)]
  rw [stK,stK,ih,hg]
theorem zkb {r0:Nat × List Int} {us:List ByteArray} (h0:RhOk r0.1 r0.2) : ∀ k,RhOk (stK r0 us k).1.1 (stK r0 us k).1.2
 | 0=>h0
 | k+1=>by rw [stK];exact (zgw (zkb h0 k) _).2
theorem z4u (N:Nat)(bs:List Int):zau N bs ⟨#[]⟩=((N,bs),⟨#[]⟩):=by unfold zau;rw [if_pos (.inl rfl)]
theorem z4v {us:List ByteArray}(r0:Nat × List Int)(h0:us≠[])(h : ∀ u∈us,∀ c∈u.data.toList,c≠10) :
  (stK r0 (slnV (zb2 us)) (slnV (zb2 us)).length).2=(stK r0 us us.length).2/\us.length<=(slnV (zb2 us)).length+1/\(slnV (zb2 us)).length<=us.length /\ ∀ u∈slnV (zb2 us),u∈us:=by
 have hpos:0<us.length:=List.length_pos_iff.2 h0
 unfold slnV
 rw [z4t h0 h]
 split
 ·rename_i hl
  obtain ⟨m,hm⟩ : ∃ m,us.length=m+1:=⟨us.length-1,by omega⟩
  have hlen:(us.take (us.length-1)).length=m:=by rw [List.length_take];omega
  rw [hlen,hm]
  rw [hm] at hl
  rw [show m+1-1=m from rfl] at hl ⊢
  rw [zqo (by omega) m (Nat.le_refl _)]
  refine ⟨?_,Nat.le_refl _,by omega,fun u hu=>List.mem_of_mem_take hu⟩
  rw [stK,hl,z4u]
  show _=_++ansB ⟨#[]⟩
  rw [show ansB ⟨#[]⟩=[] from rfl,List.append_nil]
 ·exact ⟨rfl,by omega,Nat.le_refl _,fun u hu=>hu⟩
theorem zqp {r0:Nat × List Int}{us:List ByteArray} : ∀ d,∃ t,(stK r0 us (1+d)).2=(stK r0 us 1).2++t
 | 0=>⟨[],by simp⟩
 | d+1=>by
  obtain ⟨t,ht⟩:=zqp (r0:=r0) (us:=us) d
  rw [<- Nat.add_assoc,stK]
  exact ⟨t++_,by rw [ht,List.append_assoc]⟩
theorem zqq:RhOk (8:Nat) [0,3,6]:=z4s (by decide +kernel)
theorem zkc {o:Option (Nat × List Int)}(h : ∀ N bs,o=some (N,bs)->RhOk N bs):0<(becT o).size:=by
 unfold becT
 cases o with
 | none=>decide
 | some p =>
  obtain ⟨N,bs⟩:=p
  show 0<(mkS (zaj N bs _)).size
  rw [za2,zb5]
  have:=(h N bs rfl).1
  omega
def fstI:List Nat:=[0,1,2,13,14]
theorem z4w {i:Nat}(hi:i∈fstI)(us:List ByteArray):0<(cmdV 8 [0,3,6] us i).2.1.size:=by
 unfold fstI at hi
 simp only [List.mem_cons,List.not_mem_nil,or_false] at hi
 rcases hi with rfl | rfl | rfl | rfl | rfl
 ·exact zkc (fun _ _ h=>zgr h)
 ·exact zkc (fun _ _ h=>zgp h)
 ·exact zkc (fun _ _ h=>zgq h)
 ·show 0<(mkS (zaj 8 _ _)).size
  rw [za2,zb5];decide
 ·show 0<(mkS (linL 8 _)).size
  rw [za2,zua]
  simp only [List.length_append,List.length_cons]
  omega
theorem z4x : ∀ u∈fstK,(u.data.toList.isEmpty=false/\u.data.toList.headD 0≠35)/\(fstI.contains ((fndK (((splT 32 u).getD 0 ⟨#[]⟩).data.toList++[32]++itoK (((splT 32 u).length-1:Nat):Int))).getD 99))=true:=by decide +kernel
theorem z4y {u:ByteArray}(hu:u∈fstK):0<(zau 8 [0,3,6] u).2.size:=by
 obtain ⟨⟨h1,h2⟩,h3⟩:=z4x u hu
 have hn : ¬ (u.data.toList=[]\/u.data.toList.headD 0=35):=fun h=>by
  rcases h with h | h
  ·rw [h] at h1;cases h1
  ·exact h2 h
 unfold zau keyV
 rw [z4r,if_neg hn]
 split
 ·decide
 ·rename_i i hi
  split
  ·decide
  ·rw [hi] at h3
   exact z4w (by simpa using h3) _
theorem z4z {us:List ByteArray}(h0:us≠[])(h:us.getD 0 ⟨#[]⟩∈fstK):(stK (8,[0,3,6]) us us.length).2≠[]:=by
 have hpos:0<us.length:=List.length_pos_iff.2 h0
 obtain ⟨t,ht⟩:=zqp (r0:=(8,[0,3,6])) (us:=us) (us.length-1)
 rw [show 1+(us.length-1)=us.length by omega] at ht
 rw [ht]
 have h1:=z4y h
 have h2:(stK (8,[0,3,6]) us 1).2≠[]:=by
  rw [stK]
  show []++ansB (zau 8 [0,3,6] (us.getD 0 ⟨#[]⟩)).2≠[]
  unfold ansB
  have h3:(zau 8 [0,3,6] (us.getD 0 ⟨#[]⟩)).2.data.toList≠[]:=fun e=>by
   have:(zau 8 [0,3,6] (us.getD 0 ⟨#[]⟩)).2.data.toList.length=(zau 8 [0,3,6] (us.getD 0 ⟨#[]⟩)).2.size:=by simp
   rw [<- this,e] at h1
   exact absurd h1 (by simp)
  rw [if_neg h3]
  simp
 intro e
 exact h2 (List.append_eq_nil_iff.1 e).1
theorem z40 {us:List ByteArray}(h : ∀ u∈us,u.size<=40)(hl:us.length<=20):(zb2 us).size<=1048576:=by
 unfold zb2
 rw [za2]
 have h1:=zb4 [10] 40 (us.map (·.data.toList)) (fun x hx=>by
  obtain ⟨u,hu,rfl⟩:=List.mem_map.1 hx
  have:=h u hu
  have h2:u.data.toList.length=u.size:=by simp
  omega)
 rw [List.length_map] at h1
 have h2:us.length*(40+[(10:UInt8)].length)<=20*41:=Nat.mul_le_mul hl (Nat.le_refl _)
 omega
end Go.Proofs.YtjpnjchpdkogbaaGreatDoor
namespace Go.Proofs.YtjpnjchpdkogbaaGreatDoor
open Go.RowKit
def TxtP (P:ByteArray->Prop)(w:World)(b n:Nat):Prop:=b<w.heap.size /\ ∀ i,i<n -> ∃ u:ByteArray,w.cell? ⟨b,i,none⟩=some (.string u)/\P u
theorem TxtP.frm {P:ByteArray->Prop}{w w':World}{b n:Nat}{S:Nat->Prop}(h:TxtP P w b n)(hf:Frm S w w')(hS : ¬ S b):TxtP P w' b n :=
 ⟨Nat.lt_of_lt_of_le h.1 hf.size,fun i hi=>by obtain ⟨u,h1,h2⟩:=h.2 i hi;exact ⟨u,(hf.cell h.1 hS).trans h1,h2⟩⟩
theorem ze2 {P:ByteArray->Prop}(w:World)(us:List ByteArray)(t:TypeId)(h : ∀ u∈us,P u):TxtP P (w.alloc (.cells (us.map Value.string).toArray t)) w.heap.size us.length:=by
 refine ⟨by rw [World.size_alloc];exact Nat.lt_succ_self _,fun i hi=>⟨us[i],?_,h _ (List.getElem_mem hi)⟩⟩
 rw [cell_of_row _ _ _ _ _ _ (heap_alloc_new w _)]
 simp [List.getElem?_eq_getElem hi]
theorem Cur.allocL {w:World}{g:Nat}{A:Option Addr}{cap:Nat}{xs:List Int}(h:Cur w g A cap xs)(o:Obj):Cur (w.alloc o) g A cap xs :=
 h.frm (Frm.pure ((Below.refl w.heap.size w).alloc (Nat.le_refl _) o) (fun _=>False)) (fun _ h=>h.elim)
theorem OwnTx.frm {w w':World}{base:Nat}{v:Value}{us:List ByteArray}{S:Nat->Prop}(h:OwnTx w base v us)(hf:Frm S w w')(hS : ∀ c,base<=c -> ¬ S c):OwnTx w' base v us:=by
 refine ⟨h.1,?_⟩
 rcases h.2 with h0 | ⟨g,cap,cur,e,hg,hh,rest⟩
 ·exact .inl h0
 ·have hlt:g<w.heap.size:=(Array.getElem?_eq_some_iff.1 hh).1
  exact .inr ⟨g,cap,cur,e,hg,by rw [hf.block g hlt (hS g hg)];exact hh,rest⟩
theorem OwnTx.mono {w:World}{base b':Nat}{v:Value}{us:List ByteArray}(h:OwnTx w base v us)(hb:b'<=base):OwnTx w b' v us:=by
 refine ⟨h.1,?_⟩
 rcases h.2 with h0 | ⟨g,cap,cur,e,hg,rest⟩
 ·exact .inl h0
 ·exact .inr ⟨g,cap,cur,e,Nat.le_trans hb hg,rest⟩
theorem OwnTx.one (w:World)(base:Nat)(u:ByteArray)(hb:base<=w.heap.size):OwnTx (w.alloc (.cells #[.string u] 9)) base (.slice (some ⟨w.heap.size,0,none⟩) 1 1) [u] :=
 ⟨rfl,.inr ⟨w.heap.size,1,#[.string u],rfl,hb,heap_alloc_new w _,Nat.le_refl _,(by unfold maxLen;omega),rfl,rfl⟩⟩
theorem ze3 (P:ByteArray->Prop)(g b c n:Nat)(A:Option Addr)(cap:Nat)(xs:List Int)(w:World)(hC:Cur w g A cap xs)(hT:TxtP P w b n)(hbg:b≠g)(h1:1<=n)(h2:n<=256) :
  Calls Tryz.prog 19 #[.pointer (some ⟨g,0,none⟩),.slice (some ⟨b,0,none⟩) n c] w fun e w'=>(∃ u:ByteArray,e = .returned (.string u)/\P u)/\Cur w' g A cap xs/\Frm (fun c=>c=g) w w':=by
 have HB:=Zh (zh7 g A cap xs n w hC h1 h2)
 have HT:=Zh (fun V (hf:Frm (fun c=>c=g) w V)=>hT.frm hf hbg)
 clear hC hT
 go_enter Tryz.func19,Tryz.ntmps19
 go_wp2_with fail
 refine HB.o.mono ?_
 rintro e w1 ⟨⟨x,rfl,hx⟩,hc1,hf1⟩
 obtain ⟨u,hcell,hu⟩:=(HT.o w1 hf1).2 x hx
 go_wp2_with fail
 go_ret
 exact ⟨⟨u,rfl,hu⟩,hc1,hf1⟩
theorem in_f {u:ByteArray}(h:u∈fstK):u∈lnsK:=List.mem_append_left _ h
theorem in_0 {u:ByteArray}(h:u∈zj6):u∈lnsK:=List.mem_append_right _ (List.mem_append_left _ h)
theorem in_1 {u:ByteArray}(h:u∈zj7):u∈lnsK:=List.mem_append_right _ (List.mem_append_right _ (List.mem_append_left _ h))
theorem in_2 {u:ByteArray}(h:u∈zj8):u∈lnsK:=List.mem_append_right _ (List.mem_append_right _ (List.mem_append_right _ (List.mem_append_left _ h)))
theorem in_3 {u:ByteArray}(h:u∈zj9):u∈lnsK:=List.mem_append_right _ (List.mem_append_right _ (List.mem_append_right _ (List.mem_append_right _ h)))
theorem z41 (g:Nat)(A:Option Addr)(cap:Nat)(xs:List Int)(w:World)(hC:Cur w g A cap xs) :
  Calls Tryz.prog 21 #[.pointer (some ⟨g,0,none⟩)] w fun e w'=>(∃ u:ByteArray,e = .returned (.string u)/\u∈lnsK)/\Cur w' g A cap xs/\Frm (fun c=>c=g) w w':=by
 have HB:=Zh ((zh7 g A cap xs 4 w hC (by decide) (by decide)).mono (R':=fun e w'=>(∃ y:Int,e = .returned (.int .i64 y)/\(y=0\/y=1\/y=2\/y=3))/\Cur w' g A cap xs/\Frm (fun c=>c=g) w w') (by
  rintro e w1 ⟨⟨x,rfl,hx⟩,h1,h2⟩
  exact ⟨⟨x,rfl,by omega⟩,h1,h2⟩))
 clear hC
 go_enter Tryz.func21,Tryz.ntmps21
 go_wp2_with fail
 refine HB.o.mono ?_
 rintro e w1 ⟨⟨x,rfl,hx⟩,hc1,hf1⟩
 have HC1:=Zh hc1
 have HF1:=Zh hf1
 have hne:w1.heap.size≠g:=by have:=hc1.2.1;omega
 clear hc1 hf1
 rcases hx with rfl | rfl | rfl | rfl
 ·go_wp2_with fail
  refine (ze3 (fun u=>u∈lnsK) g w1.heap.size 16 16 A cap xs _ (HC1.o.allocL _) (ze2 w1 zj6 9 (fun u h=>in_0 h)) hne (by decide) (by decide)).mono ?_
  rintro e w2 ⟨⟨u,rfl,hu⟩,hc2,hf2⟩
  have HC2:=Zh hc2
  have HF2:=Zh ((HF1.o.alloc _).trans hf2)
  clear hc2 hf2
  go_wp2_with fail
  go_ret
  exact ⟨⟨u,rfl,hu⟩,HC2.o,HF2.o⟩
 ·go_wp2_with fail
  refine (ze3 (fun u=>u∈lnsK) g w1.heap.size 11 11 A cap xs _ (HC1.o.allocL _) (ze2 w1 zj7 9 (fun u h=>in_1 h)) hne (by decide) (by decide)).mono ?_
  rintro e w2 ⟨⟨u,rfl,hu⟩,hc2,hf2⟩
  have HC2:=Zh hc2
  have HF2:=Zh ((HF1.o.alloc _).trans hf2)
  clear hc2 hf2
  go_wp2_with fail
  go_ret
  exact ⟨⟨u,rfl,hu⟩,HC2.o,HF2.o⟩
 ·go_wp2_with fail
  refine (ze3 (fun u=>u∈lnsK) g w1.heap.size 8 8 A cap xs _ (HC1.o.allocL _) (ze2 w1 zj8 9 (fun u h=>in_2 h)) hne (by decide) (by decide)).mono ?_
  rintro e w2 ⟨⟨u,rfl,hu⟩,hc2,hf2⟩
  have HC2:=Zh hc2
  have HF2:=Zh ((HF1.o.alloc _).trans hf2)
  clear hc2 hf2
  go_wp2_with fail
  go_ret
  exact ⟨⟨u,rfl,hu⟩,HC2.o,HF2.o⟩
 ·go_wp2_with fail
  refine (ze3 (fun u=>u∈lnsK) g w1.heap.size 23 23 A cap xs _ (HC1.o.allocL _) (ze2 w1 zj9 9 (fun u h=>in_3 h)) hne (by decide) (by decide)).mono ?_
  rintro e w2 ⟨⟨u,rfl,hu⟩,hc2,hf2⟩
  have HC2:=Zh hc2
  have HF2:=Zh ((HF1.o.alloc _).trans hf2)
  clear hc2 hf2
  go_wp2_with fail
  go_ret
  exact ⟨⟨u,rfl,hu⟩,HC2.o,HF2.o⟩
def LnsOk (us:List ByteArray):Prop:=(∀ u∈us,u∈lnsK)/\us.getD 0 ⟨#[]⟩∈fstK/\1<=us.length
theorem LnsOk.one {u:ByteArray}(h:u∈fstK):LnsOk [u]:=⟨fun v hv=>by rw [List.mem_singleton] at hv;subst hv;exact in_f h,h,Nat.le_refl _⟩
theorem LnsOk.snoc {us:List ByteArray}{u:ByteArray}(h:LnsOk us)(hu:u∈lnsK):LnsOk (us++[u]):=by
 refine ⟨fun v hv=>?_,?_,by simp⟩
 ·rcases List.mem_append.1 hv with h1 | h1
  ·exact h.1 v h1
  ·rw [List.mem_singleton] at h1;subst h1;exact hu
 ·have h3:=h.2.2
  rw [List.getD_eq_getElem?_getD,List.getElem?_append_left (by omega),<- List.getD_eq_getElem?_getD]
  exact h.2.1
theorem z42 (g:Nat)(A:Option Addr)(cap:Nat)(xs:List Int)(w:World)(hC:Cur w g A cap xs) :
  Calls Tryz.prog 9 #[.pointer (some ⟨g,0,none⟩),.int .i64 8] w fun e w'=>∃ (B:Option Addr) (c:Nat) (us:List ByteArray),e = .returned (.slice B us.length c)/\OwnTx w' w.heap.size (.slice B us.length c) us/\LnsOk us/\us.length<=9/\Frm (fun c=>c=g) w w':=by
 have hgw:g<w.heap.size:=hC.2.1
 have HS:=Zh (ze3 (fun u=>u∈fstK) g w.heap.size 5 5 A cap xs _ (hC.allocL _) (ze2 w fstK 9 (fun u h=>h)) (by omega) (by decide) (by decide))
 have HF0:=Zh ((Frm.refl (fun c=>c=g) w).alloc (.cells (fstK.map Value.string).toArray 9))
 clear hC
 go_enter Tryz.func9,Tryz.ntmps9
 go_wp2_with fail
 refine HS.o.mono ?_
 rintro e w1 ⟨⟨u,rfl,hu⟩,hc1,hf1⟩
 have HC1:=Zh (hc1.allocL (.cells #[.string u] 9))
 have HF1:=Zh ((HF0.o.trans hf1).alloc (.cells #[.string u] 9))
 have hz1:w.heap.size<=w1.heap.size:=(HF0.o.trans hf1).size
 have HO1:=Zh (OwnTx.one w1 w.heap.size u hz1)
 have HL1:=Zh (LnsOk.one hu)
 clear hc1 hf1 hu
 go_wp2_with fail
 obtain ⟨g1,hg1⟩ : ∃ g,w1.heap.size=g:=⟨_,rfl⟩
 rw [hg1] at HO1
 try rw [hg1]
 try simp only [hg1]
 generalize w1.alloc (.cells #[.string u] 9)=w2 at *
 refine (zh7 g A cap xs 8 w2 HC1.o (by decide) (by decide)).mono ?_
 rintro e w3 ⟨⟨x,rfl,hx⟩,hc3,hf3⟩
 have HC3:=Zh hc3
 have HF3:=Zh (HF1.o.trans hf3)
 have HO3:=Zh (HO1.o.frm hf3 (fun c hc e=>by subst e;omega))
 obtain ⟨r,hr⟩ : ∃ r,1+x=r:=⟨_,rfl⟩
 have hwr:IntKind.i64.wrap (1+(x:Int))=(r:Int):=by rw [<- hr,Int.natCast_add];exact i64w (by omega)
 have hr8:r<=8:=by omega
 clear hc3 hf3 hr hx hg1 hz1
 go_wp2_with fail
 go_loopw [5,6] (fun sv sn wr=>∃ (us:List ByteArray) (k:Nat),sn = .int .i64 k/\us.length+k<=9/\LnsOk us/\OwnTx wr w.heap.size sv us/\Cur wr g A cap xs/\Frm (fun c=>c=g) w wr) (fun _ sn _=>(intOf sn).toNat)
 case atStart=>exact ⟨[u],r,rfl,by simp;omega,HL1.o,HO3.o,HC3.o,HF3.o⟩
 case round =>
  obtain ⟨us,k,rfl,hk,hl,hown,hcur,hfrm⟩:=hrel
  obtain ⟨wo,rfl⟩ : ∃ wo:World,wo=wr:=⟨_,rfl⟩
  have HCU:=Zh hcur
  have HFR:=Zh hfrm
  have HOW:=Zh hown
  have HLU:=Zh hl
  obtain ⟨B1,c1,rfl⟩:=hown.form
  clear hcur hfrm hl hown
  by_cases hlt:0<k
  ·obtain ⟨j,rfl⟩ : ∃ j,k=j+1:=⟨k-1,by omega⟩
   have hlt':(0:Int)<((j+1:Nat):Int):=by omega
   go_wp2_with fail
   refine (z41 g A cap xs wo HCU.o).mono ?_
   rintro e w4 ⟨⟨y,rfl,hy⟩,hc4,hf4⟩
   have HC4:=Zh hc4
   have HF4:=Zh (HFR.o.trans hf4)
   have HO4:=Zh ((HOW.o.frm hf4 (fun c hc e=>by subst e;omega)).alloc (.cells #[.string y] 9))
   have HL4:=Zh (HLU.o.snoc hy)
   have hz4:w.heap.size<=(w4.alloc (.cells #[.string y] 9)).heap.size:=by rw [World.size_alloc];have:=HF4.o.size;omega
   have hlen:us.length<=2000000:=by omega
   clear hc4 hf4 hy
   go_wp2_with (at_builtin;refine zq3 rfl (.tmp 19) (.tmp 22) rfl w.heap.size _ us rfl HO4.o w4.heap.size y rfl (zag _ _ _) hlen hz4 ?_;intro v' w5 hown5 hb5;obtain ⟨B2,c2,rfl⟩:=hown5.form)
   have hl5:(us++[y]).length=us.length+1:=by simp
   rw [hl5] at hown5
   have HC5:=Zh ((HC4.o.allocL (.cells #[.string y] 9)).frm (Frm.of_below (S:=fun c=>w.heap.size<=c) hb5 (fun c _ h=>h)) (fun c h=>by omega))
   go_roundw
   case rel=>exact ⟨us++[y],j,by go_num,by rw [hl5];omega,HL4.o,hown5,HC5.o,zuh (HF4.o.alloc _) hb5 (Nat.le_refl _)⟩
   case measure=>simp [intOf]
  ·have hk0:k=0:=by omega
   subst hk0
   go_wp2_with fail
   go_ret
   exact ⟨_,_,us,rfl,HOW.o,HLU.o,by omega,HFR.o⟩
theorem z43 (A:Option Addr)(cap:Nat)(xs:List Int)(w:World)(hB:Byt w w.heap.size A xs) :
  Calls Tryz.prog 4 #[.slice A xs.length cap] w fun e w'=>∃ (B:Option Addr) (c:Nat) (us:List ByteArray),e = .returned (.slice B us.length c)/\OwnTx w' w.heap.size (.slice B us.length c) us/\LnsOk us/\us.length<=9/\Below w.heap.size w w':=by
 have HN:=Zh (zug A cap xs w hB)
 clear hB
 go_enter Tryz.func4,Tryz.ntmps4
 go_wp2_with fail
 refine HN.o.mono ?_
 rintro e w1 ⟨g,rfl,hg,hc,hb⟩
 have HC:=Zh hc
 have HB:=Zh hb
 clear hc hb
 go_wp2_with fail
 refine (z42 g A cap xs _ HC.o).mono ?_
 rintro e w2 ⟨B,c,us,rfl,hown,hl,h9,hf2⟩
 have HB2:=Zh (HB.o.trans (hf2.below (fun c hc=>by subst hc;exact hg) HB.o.size))
 have HO:=Zh (hown.mono HB.o.size)
 have HL:=Zh hl
 clear hf2 hown hl
 go_wp2_with fail
 go_ret
 exact ⟨_,_,us,rfl,HO.o,HL.o,h9,HB2.o⟩
end Go.Proofs.YtjpnjchpdkogbaaGreatDoor
namespace Go.Proofs.YtjpnjchpdkogbaaGreatDoor
open Go.ChangeShapes Go.WideShapes Go.ChangeAt Go.RowKit Go.Joins
theorem z44 {x:Int}(h:(Lit.int .u8 x).wf=true):0<=x/\x<256:=by
 simp [Lit.wf,IntKind.min,IntKind.max,IntKind.signed,IntKind.bits] at h
 exact ⟨by omega,by omega⟩
theorem z45 {H:Type}{enc:TypeId × Value->H}{W:World}{r:Reach}{b0:Nat}{v:Value}{d:DataW H}{p:List MemPlace}
  (hv:Value.okWide Tryz.prog W r b0 22 v)(h:DataW.Trod enc Tryz.prog W 0 (fun _=>true) true 22 v d p) :
  ∃ A cap xs,v = .slice A (List.length xs) cap/\Byt W W.heap.size A xs:=by
 obtain ⟨a0,l0,c0,rfl⟩:=okWide_slice Tryz.underlying22 hv
 obtain ⟨fuel,hf⟩:=h
 rcases open_ints Tryz.underlying22 Tryz.underlying5 (by kernel_rfl) hf with ⟨hcs,_⟩ | ⟨x,l,c,zs,hcs,_,hl,hm,hz,_,hcell,hwz⟩
 ·simp only [Value.cells] at hcs
  injection hcs with hcs _
  exact ⟨none,0,[],hcs,by simp,fun x hx=>by simp at hx,fun h=>by simp at h⟩
 ·simp only [Value.cells] at hcs
  injection hcs with hcs _
  simp only [if_true] at hz
  have e:(zs.take l).length=l:=by rw [List.length_take];omega
  refine ⟨some x,c,zs.take l,by rw [e];exact hcs,by omega,fun n hn=>z44 (hwz n (List.mem_of_mem_take hn)),fun h=>?_⟩
  obtain ⟨b,off,rfl,hc⟩:=ints_at hcell (by omega)
  have h0:=hc 0 (by omega)
  refine ⟨b,off,rfl,World.block_lt_of_cell? _ _ h0,fun i hi=>?_⟩
  rw [hc i (by omega),List.getD_eq_getElem?_getD,List.getD_eq_getElem?_getD,List.getElem?_take_of_lt (by omega)]
end Go.Proofs.YtjpnjchpdkogbaaGreatDoor
