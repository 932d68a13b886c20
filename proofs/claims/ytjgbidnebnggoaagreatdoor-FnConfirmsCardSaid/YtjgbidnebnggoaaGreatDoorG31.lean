/- Parts of the proof of the card of the law FnConfirms. -/
import Derived.Test.YtjgbidnebnggoaaGreatDoorG09
import Derived.Test.YtjgbidnebnggoaaGreatDoorG30
set_option linter.unusedVariables false
set_option linter.unusedSimpArgs false
set_option maxRecDepth 100000
namespace Go.Proofs.YtjgbidnebnggoaaGreatDoor
open Go.ChangeShapes Go.WideShapes Go.ChangeAt Go.RowKit Go.Joins
theorem z6l {x:Int}(h:(Lit.int .u8 x).wf=true):0<=x/\x<256:=by
 simp [Lit.wf,IntKind.min,IntKind.max,IntKind.signed,IntKind.bits] at h
 exact ⟨by omega,by omega⟩
theorem z6m {H:Type}{enc:TypeId × Value->H}{W:World}{r:Reach}{b0:Nat}{v:Value}{d:DataW H}{p:List MemPlace}
  (hv:Value.okWide Tryz.prog W r b0 22 v)(h:DataW.Trod enc Tryz.prog W 0 (fun _=>true) true 22 v d p) :
  ∃ A cap xs,v = .slice A (List.length xs) cap/\Byt W W.heap.size A xs:=by
 obtain ⟨a0,l0,c0,rfl⟩:=okWide_slice Tryz.underlying22 hv
 obtain ⟨fuel,hf⟩:=h
 rcases open_ints Tryz.underlying22 Tryz.underlying5 (by kernel_rfl) hf with ⟨hcs,_⟩ | ⟨x,l,c,zs,hcs,_,hl,hm,hz,_,hcell,hwz⟩
 ·simp only [Value.cells] at hcs
  injection hcs with hcs _
  exact ⟨none,0,[],hcs,by simp,fun x hx=>by simp at hx,fun h=>by simp at h⟩
 ·simp only [Value.cells] at hcs
  injection hcs with hcs _
  simp only [if_true] at hz
  have e:(zs.take l).length=l:=by rw [List.length_take];omega
  refine ⟨some x,c,zs.take l,by rw [e];exact hcs,by omega,fun n hn=>z6l (hwz n (List.mem_of_mem_take hn)),fun h=>?_⟩
  obtain ⟨b,off,rfl,hc⟩:=ints_at hcell (by omega)
  have h0:=hc 0 (by omega)
  refine ⟨b,off,rfl,World.block_lt_of_cell? _ _ h0,fun i hi=>?_⟩
  rw [hc i (by omega),List.getD_eq_getElem?_getD,List.getD_eq_getElem?_getD,List.getElem?_take_of_lt (by omega)]
end Go.Proofs.YtjgbidnebnggoaaGreatDoor
namespace Go.Proofs.YtjgbidnebnggoaaGreatDoor
open Go.RowKit
theorem za8 {a:Act}{w:World}{x:Operand}{p:Addr}{s:ByteArray}{d:Option Nat}{ty:TypeId}{ps:String} {af gd}(hx:a.eval x = .pointer (some p))(hc:w.cell? p=some (.string s)) :
  (execOp a.eval { dst:=d,op:=.load 9 x,type:=ty,pos:=ps,after:=af,guard:=gd }).run Tryz.prog w = .ok (.value (.string s)) w:=by
 simp only [execOp,hx]
 go_simp
theorem za9 {a:Act}{w:World}{x y:Operand}{s:ByteArray}{d:Option Nat}{ty:TypeId}{ps:String} {af gd}(hx:a.eval x = .string s)(hy:a.eval y = .string s) :
  (execOp a.eval { dst:=d,op:=.binOp .eql 9 x y 9,type:=ty,pos:=ps,after:=af,guard:=gd }).run Tryz.prog w = .ok (.value (.bool true)) w:=by
 simp only [execOp,hx,hy]
 go_simp
def ansL (l5:ByteArray):List ByteArray:=[(⟨#[120,46,46,120,46,46,120,46]⟩:ByteArray),(⟨#[120,46,46,120,46,46,120,46,32,115,116,101,112,115,32,51,43,51,43,50,32,112,101,114,105,111,100,32,56,32,118,101,99,116,111,114,32,48,44,49,44,50,44,48]⟩:ByteArray),(⟨#[101,118,101,110,32,110,101,97,114,101,115,116,32,120,46,46,120,46,46,120,46,32,109,111,118,101,115,32,48]⟩:ByteArray),(⟨#[50,42,52,32,49]⟩:ByteArray),(⟨#[120,46,120,46,46,120,46,46,32,111,114,98,105,116,32,56,32,99,108,97,115,115,32,120,120,120,46,46,46,46,46]⟩:ByteArray),l5,(⟨#[120,46,120,46,46,120,46,46]⟩:ByteArray),(⟨#[120,46,46,120,46,46,120,46]⟩:ByteArray),(⟨#[46,120,120,46,120,120,46,120]⟩:ByteArray),(⟨#[51]⟩:ByteArray),(⟨#[120,46,120,46,120,46,46,120,46,120,46,46]⟩:ByteArray),(⟨#[120,46,120,46,120,46,46,120,46,120,46,46]⟩:ByteArray),(⟨#[120,120,46,46]⟩:ByteArray),(⟨#[111,114,100,101,114,115,32,50,32,112,97,114,116,110,101,114,32,120,46,120,46]⟩:ByteArray),(⟨#[120,46,120,46]⟩:ByteArray),(⟨#[120,46,46,120,120,46,120,46,120,120,46,46]⟩:ByteArray),(⟨#[120,46,120,46,120,46,46]⟩:ByteArray),(⟨#[82,46,82,46,82,46,46]⟩:ByteArray),(⟨#[112,101,114,105,111,100,32,52,32,101,110,116,114,105,101,115,32,48,44,49]⟩:ByteArray),(⟨#[102,97,105,108,115,32,50]⟩:ByteArray),(⟨#[54,32,97,97,98,97,98,98]⟩:ByteArray),(⟨#[49,53]⟩:ByteArray),(⟨#[55]⟩:ByteArray),(⟨#[97,98,99,98,99,100]⟩:ByteArray),(⟨#[48,44,49,48,44,51,48]⟩:ByteArray),(⟨#[117,110,107,110,111,119,110,32,99,111,109,109,97,110,100]⟩:ByteArray)]
theorem tx26 {w:World}{base q:Nat}{l5:ByteArray}(h:TxR w base q (ansL l5)) :
  w.cell? ⟨q,0,none⟩=some (.string (⟨#[120,46,46,120,46,46,120,46]⟩:ByteArray)) /\
  w.cell? ⟨q,1,none⟩=some (.string (⟨#[120,46,46,120,46,46,120,46,32,115,116,101,112,115,32,51,43,51,43,50,32,112,101,114,105,111,100,32,56,32,118,101,99,116,111,114,32,48,44,49,44,50,44,48]⟩:ByteArray)) /\
  w.cell? ⟨q,2,none⟩=some (.string (⟨#[101,118,101,110,32,110,101,97,114,101,115,116,32,120,46,46,120,46,46,120,46,32,109,111,118,101,115,32,48]⟩:ByteArray)) /\
  w.cell? ⟨q,3,none⟩=some (.string (⟨#[50,42,52,32,49]⟩:ByteArray)) /\
  w.cell? ⟨q,4,none⟩=some (.string (⟨#[120,46,120,46,46,120,46,46,32,111,114,98,105,116,32,56,32,99,108,97,115,115,32,120,120,120,46,46,46,46,46]⟩:ByteArray)) /\
  w.cell? ⟨q,5,none⟩=some (.string l5) /\
  w.cell? ⟨q,6,none⟩=some (.string (⟨#[120,46,120,46,46,120,46,46]⟩:ByteArray)) /\
  w.cell? ⟨q,7,none⟩=some (.string (⟨#[120,46,46,120,46,46,120,46]⟩:ByteArray)) /\
  w.cell? ⟨q,8,none⟩=some (.string (⟨#[46,120,120,46,120,120,46,120]⟩:ByteArray)) /\
  w.cell? ⟨q,9,none⟩=some (.string (⟨#[51]⟩:ByteArray)) /\
  w.cell? ⟨q,10,none⟩=some (.string (⟨#[120,46,120,46,120,46,46,120,46,120,46,46]⟩:ByteArray)) /\
  w.cell? ⟨q,11,none⟩=some (.string (⟨#[120,46,120,46,120,46,46,120,46,120,46,46]⟩:ByteArray)) /\
  w.cell? ⟨q,12,none⟩=some (.string (⟨#[120,120,46,46]⟩:ByteArray)) /\
  w.cell? ⟨q,13,none⟩=some (.string (⟨#[111,114,100,101,114,115,32,50,32,112,97,114,116,110,101,114,32,120,46,120,46]⟩:ByteArray)) /\
  w.cell? ⟨q,14,none⟩=some (.string (⟨#[120,46,120,46]⟩:ByteArray)) /\
  w.cell? ⟨q,15,none⟩=some (.string (⟨#[120,46,46,120,120,46,120,46,120,120,46,46]⟩:ByteArray)) /\
  w.cell? ⟨q,16,none⟩=some (.string (⟨#[120,46,120,46,120,46,46]⟩:ByteArray)) /\
  w.cell? ⟨q,17,none⟩=some (.string (⟨#[82,46,82,46,82,46,46]⟩:ByteArray)) /\
  w.cell? ⟨q,18,none⟩=some (.string (⟨#[112,101,114,105,111,100,32,52,32,101,110,116,114,105,101,115,32,48,44,49]⟩:ByteArray)) /\
  w.cell? ⟨q,19,none⟩=some (.string (⟨#[102,97,105,108,115,32,50]⟩:ByteArray)) /\
  w.cell? ⟨q,20,none⟩=some (.string (⟨#[54,32,97,97,98,97,98,98]⟩:ByteArray)) /\
  w.cell? ⟨q,21,none⟩=some (.string (⟨#[49,53]⟩:ByteArray)) /\
  w.cell? ⟨q,22,none⟩=some (.string (⟨#[55]⟩:ByteArray)) /\
  w.cell? ⟨q,23,none⟩=some (.string (⟨#[97,98,99,98,99,100]⟩:ByteArray)) /\
  w.cell? ⟨q,24,none⟩=some (.string (⟨#[48,44,49,48,44,51,48]⟩:ByteArray)) /\
  w.cell? ⟨q,25,none⟩=some (.string (⟨#[117,110,107,110,111,119,110,32,99,111,109,109,97,110,100]⟩:ByteArray)) :=
 ⟨h.2.2 0 (by show 0<26;decide),h.2.2 1 (by show 1<26;decide),h.2.2 2 (by show 2<26;decide),h.2.2 3 (by show 3<26;decide),h.2.2 4 (by show 4<26;decide),h.2.2 5 (by show 5<26;decide),h.2.2 6 (by show 6<26;decide),h.2.2 7 (by show 7<26;decide),h.2.2 8 (by show 8<26;decide),h.2.2 9 (by show 9<26;decide),h.2.2 10 (by show 10<26;decide),h.2.2 11 (by show 11<26;decide),h.2.2 12 (by show 12<26;decide),h.2.2 13 (by show 13<26;decide),h.2.2 14 (by show 14<26;decide),h.2.2 15 (by show 15<26;decide),h.2.2 16 (by show 16<26;decide),h.2.2 17 (by show 17<26;decide),h.2.2 18 (by show 18<26;decide),h.2.2 19 (by show 19<26;decide),h.2.2 20 (by show 20<26;decide),h.2.2 21 (by show 21<26;decide),h.2.2 22 (by show 22<26;decide),h.2.2 23 (by show 23<26;decide),h.2.2 24 (by show 24<26;decide),h.2.2 25 (by show 25<26;decide)⟩
theorem zfs (g:Int)(hl:ByteArray)(ha:Txt)(t:ByteArray)(w:World)(ht:t.data.toList=preT++itoL g++postT)(hE:Env w.heap.size w)(hlz:hl.size<=1048576)(haz:ha.length<=1000)
  (hsl : ∀ t:ByteArray,t.data.toList=preT++itoL g++postT->slnV t=lns hl)(hk:fndK (keyV (splT 32 hl))=some 19)(hh:zaa 8 [0,3,6] hl=((8,[0,3,6]),mkS ha))(hg:Fits g) :
  Calls Tryz.prog 5 #[.string t] w fun e w'=>e = .returned (.tuple #[.string (mkS (zcc ha)),.int .i64 26])/\Below w.heap.size w w':=by
 have hs:t.size<=1048576:=by
  have h1:t.size=t.data.toList.length:=by rw [Array.length_toList];rfl
  have h2:=zce g hg
  have h3:preT.length=33:=rfl
  have h4:postT.length=196:=rfl
  rw [h1,ht,List.length_append,List.length_append,h3,h4];omega
 have hq:=hsl t ht
 have hl26:(lns hl).length=26:=rfl
 have h:=z6g t w hs hE (by rw [hq,hl26];decide) (by rw [hq];exact z6k hlz) (by rw [hq];exact z6j hk) (by rw [hq];intro k hk';exact z6i hh haz k (by rw [hl26] at hk';exact hk'))
 rw [hq,hl26,z6h hh] at h
 exact h
theorem z6n {ha:Txt}(h:ha.length<=1000):(mkS (zcc ha)).size<=1048576:=by
 rw [zbl]
 have hA : ∀ l:Txt,(ansB (mkS l)).length<=l.length+1:=fun l=>by
  unfold ansB
  split
  ·exact Nat.zero_le _
  ·simp [mkS]
 have h0:(oc_0 ha).length=0:=rfl
 have h1:(oc_1 ha).length<=(oc_0 ha).length+(8+1):=by
  show (oc_0 ha++ansB (mkS [120,46,46,120,46,46,120,46])).length<=_
  rw [List.length_append]
  exact Nat.add_le_add_left (hA _) _
 have h2:(oc_2 ha).length<=(oc_1 ha).length+(44+1):=by
  show (oc_1 ha++ansB (mkS [120,46,46,120,46,46,120,46,32,115,116,101,112,115,32,51,43,51,43,50,32,112,101,114,105,111,100,32,56,32,118,101,99,116,111,114,32,48,44,49,44,50,44,48])).length<=_
  rw [List.length_append]
  exact Nat.add_le_add_left (hA _) _
 have h3:(oc_3 ha).length<=(oc_2 ha).length+(29+1):=by
  show (oc_2 ha++ansB (mkS [101,118,101,110,32,110,101,97,114,101,115,116,32,120,46,46,120,46,46,120,46,32,109,111,118,101,115,32,48])).length<=_
  rw [List.length_append]
  exact Nat.add_le_add_left (hA _) _
 have h4:(oc_4 ha).length<=(oc_3 ha).length+(5+1):=by
  show (oc_3 ha++ansB (mkS [50,42,52,32,49])).length<=_
  rw [List.length_append]
  exact Nat.add_le_add_left (hA _) _
 have h5:(oc_5 ha).length<=(oc_4 ha).length+(31+1):=by
  show (oc_4 ha++ansB (mkS [120,46,120,46,46,120,46,46,32,111,114,98,105,116,32,56,32,99,108,97,115,115,32,120,120,120,46,46,46,46,46])).length<=_
  rw [List.length_append]
  exact Nat.add_le_add_left (hA _) _
 have h6:(oc_6 ha).length<=(oc_5 ha).length+(ha.length+1):=by
  show (oc_5 ha++ansB (mkS ha)).length<=_
  rw [List.length_append]
  exact Nat.add_le_add_left (hA _) _
 have h7:(oc_7 ha).length<=(oc_6 ha).length+(8+1):=by
  show (oc_6 ha++ansB (mkS [120,46,120,46,46,120,46,46])).length<=_
  rw [List.length_append]
  exact Nat.add_le_add_left (hA _) _
 have h8:(oc_8 ha).length<=(oc_7 ha).length+(8+1):=by
  show (oc_7 ha++ansB (mkS [120,46,46,120,46,46,120,46])).length<=_
  rw [List.length_append]
  exact Nat.add_le_add_left (hA _) _
 have h9:(oc_9 ha).length<=(oc_8 ha).length+(8+1):=by
  show (oc_8 ha++ansB (mkS [46,120,120,46,120,120,46,120])).length<=_
  rw [List.length_append]
  exact Nat.add_le_add_left (hA _) _
 have h10:(zel ha).length<=(oc_9 ha).length+(1+1):=by
  show (oc_9 ha++ansB (mkS [51])).length<=_
  rw [List.length_append]
  exact Nat.add_le_add_left (hA _) _
 have h11:(zem ha).length<=(zel ha).length+(12+1):=by
  show (zel ha++ansB (mkS [120,46,120,46,120,46,46,120,46,120,46,46])).length<=_
  rw [List.length_append]
  exact Nat.add_le_add_left (hA _) _
 have h12:(zen ha).length<=(zem ha).length+(12+1):=by
  show (zem ha++ansB (mkS [120,46,120,46,120,46,46,120,46,120,46,46])).length<=_
  rw [List.length_append]
  exact Nat.add_le_add_left (hA _) _
 have h13:(zeo ha).length<=(zen ha).length+(4+1):=by
  show (zen ha++ansB (mkS [120,120,46,46])).length<=_
  rw [List.length_append]
  exact Nat.add_le_add_left (hA _) _
 have h14:(zep ha).length<=(zeo ha).length+(21+1):=by
  show (zeo ha++ansB (mkS [111,114,100,101,114,115,32,50,32,112,97,114,116,110,101,114,32,120,46,120,46])).length<=_
  rw [List.length_append]
  exact Nat.add_le_add_left (hA _) _
 have h15:(zeq ha).length<=(zep ha).length+(4+1):=by
  show (zep ha++ansB (mkS [120,46,120,46])).length<=_
  rw [List.length_append]
  exact Nat.add_le_add_left (hA _) _
 have h16:(zer ha).length<=(zeq ha).length+(12+1):=by
  show (zeq ha++ansB (mkS [120,46,46,120,120,46,120,46,120,120,46,46])).length<=_
  rw [List.length_append]
  exact Nat.add_le_add_left (hA _) _
 have h17:(zes ha).length<=(zer ha).length+(7+1):=by
  show (zer ha++ansB (mkS [120,46,120,46,120,46,46])).length<=_
  rw [List.length_append]
  exact Nat.add_le_add_left (hA _) _
 have h18:(zet ha).length<=(zes ha).length+(7+1):=by
  show (zes ha++ansB (mkS [82,46,82,46,82,46,46])).length<=_
  rw [List.length_append]
  exact Nat.add_le_add_left (hA _) _
 have h19:(zeu ha).length<=(zet ha).length+(20+1):=by
  show (zet ha++ansB (mkS [112,101,114,105,111,100,32,52,32,101,110,116,114,105,101,115,32,48,44,49])).length<=_
  rw [List.length_append]
  exact Nat.add_le_add_left (hA _) _
 have h20:(zev ha).length<=(zeu ha).length+(7+1):=by
  show (zeu ha++ansB (mkS [102,97,105,108,115,32,50])).length<=_
  rw [List.length_append]
  exact Nat.add_le_add_left (hA _) _
 have h21:(zew ha).length<=(zev ha).length+(8+1):=by
  show (zev ha++ansB (mkS [54,32,97,97,98,97,98,98])).length<=_
  rw [List.length_append]
  exact Nat.add_le_add_left (hA _) _
 have h22:(zex ha).length<=(zew ha).length+(2+1):=by
  show (zew ha++ansB (mkS [49,53])).length<=_
  rw [List.length_append]
  exact Nat.add_le_add_left (hA _) _
 have h23:(zey ha).length<=(zex ha).length+(1+1):=by
  show (zex ha++ansB (mkS [55])).length<=_
  rw [List.length_append]
  exact Nat.add_le_add_left (hA _) _
 have h24:(zez ha).length<=(zey ha).length+(6+1):=by
  show (zey ha++ansB (mkS [97,98,99,98,99,100])).length<=_
  rw [List.length_append]
  exact Nat.add_le_add_left (hA _) _
 have h25:(ze0 ha).length<=(zez ha).length+(7+1):=by
  show (zez ha++ansB (mkS [48,44,49,48,44,51,48])).length<=_
  rw [List.length_append]
  exact Nat.add_le_add_left (hA _) _
 have h26:(zcc ha).length<=(ze0 ha).length+(15+1):=by
  show (ze0 ha++ansB (mkS [117,110,107,110,111,119,110,32,99,111,109,109,97,110,100])).length<=_
  rw [List.length_append]
  exact Nat.add_le_add_left (hA _) _
 omega
theorem z6o (a:Nat)(ha:a<5) : ∃ (g:Int) (hx:Txt) (l5:ByteArray),Fits g/\([.int .i64 2,.int .i64 3,.int .i64 4,.int .i64 6,.int .i64 9]:List Value)[a]? = some (.int .i64 g) /\
  ([.string ⟨#[49]⟩,.string ⟨#[50]⟩,.string ⟨#[50]⟩,.string ⟨#[51]⟩,.string ⟨#[52]⟩]:List Value)[a]? = some (.string l5)/\slnV (mkS (zcc hx))=ansL l5/\hx.length<=1000 /\
  ∀ (t:ByteArray) (V:World),t.data.toList=preT++itoL g++postT->Env V.heap.size V ->
   Calls Tryz.prog 5 #[.string t] V fun e w'=>e = .returned (.tuple #[.string (mkS (zcc hx)),.int .i64 26])/\Below V.heap.size V w':=by
 have hc:a=0\/a=1\/a=2\/a=3\/a=4:=by omega
 rcases hc with rfl | rfl | rfl | rfl | rfl
 ·exact ⟨2,[49],⟨#[49]⟩,⟨by decide,by decide⟩,rfl,rfl,an_2,by decide,fun t V h hE=>zfs 2 (⟨#[104,97,110,100,115,32,50]⟩:ByteArray) [49] t V h hE (by decide) (by decide) sl_2 hk_2 z3z ⟨by decide,by decide⟩⟩
 ·exact ⟨3,[50],⟨#[50]⟩,⟨by decide,by decide⟩,rfl,rfl,an_3,by decide,fun t V h hE=>zfs 3 (⟨#[104,97,110,100,115,32,51]⟩:ByteArray) [50] t V h hE (by decide) (by decide) sl_3 hk_3 z32 ⟨by decide,by decide⟩⟩
 ·exact ⟨4,[50],⟨#[50]⟩,⟨by decide,by decide⟩,rfl,rfl,an_4,by decide,fun t V h hE=>zfs 4 (⟨#[104,97,110,100,115,32,52]⟩:ByteArray) [50] t V h hE (by decide) (by decide) sl_4 hk_4 z34 ⟨by decide,by decide⟩⟩
 ·exact ⟨6,[51],⟨#[51]⟩,⟨by decide,by decide⟩,rfl,rfl,an_6,by decide,fun t V h hE=>zfs 6 (⟨#[104,97,110,100,115,32,54]⟩:ByteArray) [51] t V h hE (by decide) (by decide) sl_6 hk_6 z36 ⟨by decide,by decide⟩⟩
 ·exact ⟨9,[52],⟨#[52]⟩,⟨by decide,by decide⟩,rfl,rfl,an_9,by decide,fun t V h hE=>zfs 9 (⟨#[104,97,110,100,115,32,57]⟩:ByteArray) [52] t V h hE (by decide) (by decide) sl_9 hk_9 z39 ⟨by decide,by decide⟩⟩
end Go.Proofs.YtjgbidnebnggoaaGreatDoor
namespace Go.Proofs.YtjgbidnebnggoaaGreatDoor
open Go.RowKit
def pre (n i:Nat):Array Bool:=(List.replicate i true++List.replicate (n-i) false).toArray
theorem ze1 {n i j:Nat}(d:Bool)(hi:i<=n):(pre n i).getD j d=if j<n then decide (j<i) else d:=by
 unfold pre
 rw [Array.getD_eq_getD_getElem?,List.getElem?_toArray,List.getElem?_append,List.length_replicate]
 by_cases h1:j<i
 ·rw [if_pos h1,List.getElem?_replicate,if_pos h1,if_pos (by omega)];simp [h1]
 ·rw [if_neg h1,List.getElem?_replicate]
  by_cases h2:j<n
  ·rw [if_pos (by omega),if_pos h2];simp [h1]
  ·rw [if_neg (by omega),if_neg h2];rfl
theorem z6p {n i:Nat}(hi:i<n):(pre n i).setIfInBounds i true=pre n (i+1):=by
 apply Array.ext
 ·simp [pre];omega
 ·intro k h1 h2
  have hk:k<n:=by simp [pre] at h2;omega
  have e1:=ze1 (n:=n) (i:=i) (j:=k) false (by omega)
  have e2:=ze1 (n:=n) (i:=i+1) (j:=k) false (by omega)
  rw [Array.getD_eq_getD_getElem?,Array.getElem?_eq_getElem (by simpa using h1)] at e1
  rw [Array.getD_eq_getD_getElem?,Array.getElem?_eq_getElem h2] at e2
  simp only [Option.getD_some,if_pos hk] at e1 e2
  rw [e2,Array.getElem_setIfInBounds (by simpa using h1)]
  by_cases hki:i=k
  ·rw [if_pos hki];simp;omega
  ·rw [if_neg hki,e1]
   by_cases h3:k<i
   ·simp [h3];omega
   ·simp [h3];omega
theorem z6q {P:Program}{ops:Array Oper}{Q:Exit->Act->World->Prop}{md:Region.Mode}{S:World->Prop}{fuel n i:Nat}{listed:Array Bool}{a:Act}{w:World}(hl:listed=pre n i)
  (h:wpAnyH P md ops Q S fuel (pre n i) a w):wpAnyH P md ops Q S fuel listed a w:=by
 subst hl;exact h
theorem zhc {P:Program}{ops:Array Oper}{Q:Exit->Act->World->Prop}{md:Region.Mode}{S:World->Prop}{i:Nat}{oi:Oper}{d:Option Nat}{v:Value}{fuel:Nat}{listed:Array Bool}{a:Act}{w:World}(hi:ops[i]? = some oi)(hd:oi.dst=d)
  (hs:Region.noSelect ops=true)(hf:Region.free md ops listed i=true)(hr:(Region.ready md ops listed).contains i=true)
  (hQ : ∀ c a w,Q (.panic c) (a.put d v) w->Q (.panic c) a w)(hy:YieldsIf P ops S oi v a)(hS:S w)
  (h:wpAnyH P md ops Q S fuel (listed.setIfInBounds i true) (a.put d v) w):wpAnyH P md ops Q S (fuel+1) listed a w:=by
 subst hd
 exact wpAnyH_take hi hs hf hr hQ hy hS h
def chn (md:Region.Mode)(ops:Array Oper)(x:Nat->Nat->Bool):Bool :=
 (List.range ops.size).all fun j=>((ops[j]?).map fun o=>(j==0 || o.after.any fun e=>Region.binds md e && x j e.on) && (o.after.all fun e=>decide (e.on<j))).getD false
def xC (j k:Nat):Bool:=k+1==j || ((j==37 || j==38) && k==33)
theorem z6r {P:Program}{ops:Array Oper}{Q:Exit->Act->World->Prop}{md:Region.Mode}{S:World->Prop}{n:Nat}{a:Act}{w:World}(hn:ops.size=n)(hch:chn md ops xC=true)
  (h:ops.size=n->chn md ops xC=true->wpAnyH P md ops Q S n (pre n 0) a w):wpAnyH P md ops Q S ops.size (Array.replicate ops.size false) a w:=by
 have h:=h hn hch
 subst hn
 have e:pre ops.size 0=Array.replicate ops.size false:=by
  unfold pre
  simp
 rw [e] at h
 exact h
theorem zab {P:Program}{ops:Array Oper}{Q:Exit->Act->World->Prop}{md:Region.Mode}{S:World->Prop}{n i:Nat}{oi:Oper}{d:Option Nat}{v:Value}{fuel:Nat}{a:Act}{w:World}(x:Nat->Nat->Bool)(hch:chn md ops x=true)(hn:ops.size=n)
  (hx : ∀ j k,i<j->x j k=true->i<=k)(hi:ops[i]? = some oi)(hd:oi.dst=d)(hy:YieldsIf P ops S oi v a)(hS:S w)
  (h:wpAnyH P md ops Q S fuel (pre n (i+1)) (a.put d v) w):wpAnyH P md ops Q S (fuel+1) (pre n i) a w:=by
 subst hn
 subst hd
 have hin:i<ops.size:=(Array.getElem?_eq_some_iff.1 hi).1
 have hall:=List.all_eq_true.1 hch
 have hrd:i∈Region.ready md ops (pre ops.size i):=by
  refine mem_ready.2 ⟨?_,oi,hi,fun e he _=>?_⟩
  ·rw [ze1 _ (by omega),if_pos hin];simp
  ·have h1:=hall i (List.mem_range.2 hin)
   rw [hi] at h1
   simp only [Option.map_some,Option.getD_some,Bool.and_eq_true] at h1
   have h2:=Array.all_eq_true'.1 h1.2 e he
   have h3:e.on<i:=of_decide_eq_true h2
   rw [ze1 _ (by omega),if_pos (by omega)];simp [h3]
 refine ⟨fun h0=>absurd (h0 ▸ hrd) (by simp),fun j hj=>?_⟩
 obtain ⟨hl,oj,hoj,hb⟩:=mem_ready.1 hj
 have hjn:j<ops.size:=(Array.getElem?_eq_some_iff.1 hoj).1
 rw [ze1 _ (by omega),if_pos hjn] at hl
 have hge : ¬ j<i:=of_decide_eq_false hl
 by_cases hji:j=i
 ·subst hji
  rw [z6p hin]
  exact hy.wpOp hi hS ⟨hS,h⟩
 ·exfalso
  have h1:=hall j (List.mem_range.2 hjn)
  rw [hoj] at h1
  simp only [Option.map_some,Option.getD_some,Bool.and_eq_true,Bool.or_eq_true,beq_iff_eq] at h1
  rcases h1.1 with h2 | h2
  ·omega
  ·obtain ⟨e,he,hbx⟩:=Array.any_eq_true'.1 h2
   simp only [Bool.and_eq_true] at hbx
   have h3:=hb e he hbx.1
   have h4:=hx j e.on (by omega) hbx.2
   rw [ze1 _ (by omega)] at h3
   split at h3
   ·have:=of_decide_eq_true h3;omega
   ·cases h3
theorem zas {i:Nat}(hi:i<=33) : ∀ j k,i<j->xC j k=true->i<=k:=by
 intro j k hj h
 simp only [xC,Bool.or_eq_true,Bool.and_eq_true,beq_iff_eq] at h
 omega
theorem zac {i:Nat}(hi:38<=i) : ∀ j k,i<j->xC j k=true->i<=k:=by
 intro j k hj h
 simp only [xC,Bool.or_eq_true,Bool.and_eq_true,beq_iff_eq] at h
 omega
end Go.Proofs.YtjgbidnebnggoaaGreatDoor
