/- Parts of the proof of the card of the law FnConsole. -/
import Derived.Test.YtjpnjchpdkogbaaGreatDoorG02
import Derived.Test.YtjpnjchpdkogbaaGreatDoorG10
import Derived.Test.YtjpnjchpdkogbaaGreatDoorG12
import Derived.Test.YtjpnjchpdkogbaaGreatDoorG03
import Derived.Test.YtjpnjchpdkogbaaGreatDoorG13
import Derived.Test.YtjpnjchpdkogbaaGreatDoorG11
import Derived.Test.YtjpnjchpdkogbaaGreatDoorG08
import Derived.Test.YtjpnjchpdkogbaaGreatDoorG14
import Derived.Test.YtjpnjchpdkogbaaGreatDoorG17
import Derived.Test.YtjpnjchpdkogbaaGreatDoorG18
import Derived.Test.YtjpnjchpdkogbaaGreatDoorG20
import Derived.Test.YtjpnjchpdkogbaaGreatDoorG21
import Derived.Test.YtjpnjchpdkogbaaGreatDoorG22
import Derived.Test.YtjpnjchpdkogbaaGreatDoorG25
import Derived.Test.YtjpnjchpdkogbaaGreatDoorG16
import Derived.Maps.OwnSet
import Derived.Test.YtjpnjchpdkogbaaGreatDoorG01
import Derived.Test.YtjpnjchpdkogbaaGreatDoorG09
import Derived.Test.YtjpnjchpdkogbaaGreatDoorG05
set_option linter.unusedVariables false
set_option linter.unusedSimpArgs false
set_option maxRecDepth 1000000
set_option maxHeartbeats 4000000
namespace Go.Proofs.YtjpnjchpdkogbaaGreatDoor
open Go.RowKit
def strV (N:Nat)(bs:List Int)(u:Int):Option (Nat × List Int):=if decide (1<=u) && uniP N u.toNat then some (N,affL N u.toNat 0 bs) else none
def rptL (N:Nat)(bs:List Int)(k:Nat):List Int:=(List.range k).flatMap fun i=>bs.map fun p=>((i*N:Nat):Int)+p
def rptV (N:Nat)(bs:List Int)(k:Int):Option (Nat × List Int):=if inB k 1 ((24 / N:Nat):Int) then some (k.toNat*N,rptL N bs k.toNat) else none
def phaV (N:Nat)(bs:List Int)(k:Int):Option (Nat × List Int):=if inB k (-1000) 1000 then some (N,joiL N bs (rotL N bs k)) else none
def wrdL (N:Nat):List UInt8->List Int->List Int
 | [],bs=>bs
 | c::r,bs=>wrdL N r (if c=84 then rotL N bs 1 else if c=77 then mirV N bs else othL N bs N)
def wrdV (N:Nat)(bs:List Int)(s:ByteArray):Option (Nat × List Int):=if decide (s.size<=40) && s.data.toList.all (fun c=>c==84 || c==77 || c==83) then some (N,wrdL N s.data.toList (rotL N bs 0)) else none
def btsV (u:ByteArray):Option (Nat × List Int):=if prhB u then some ((prhN u).toNat,prhL u) else none
def parO (N:Nat)(bs:List Int):Option (Nat × List Int):=(parV N bs).map fun x=>(N,x)
abbrev CmdR:=Bool × ByteArray × Option (Nat × List Int)
noncomputable def becR (bad:Bool)(o:Option (Nat × List Int)):CmdR:=(bad,becT o,o)
def zae (us:List ByteArray)(j:Nat):Option Int:=zab (us.getD j ⟨#[]⟩)
def zb6 (us:List ByteArray)(j:Nat):Option (List Int):=zal (us.getD j ⟨#[]⟩)
noncomputable def cmdV (N:Nat) (bs:List Int) (us:List ByteArray):Nat->CmdR
 | 0=>becR false (btsV (us.getD 0 ⟨#[]⟩))
 | 1=>becR (!(zae us 0).isSome || !(zae us 1).isSome) (evrV ((zae us 0).getD 0) ((zae us 1).getD 0))
 | 2=>becR ((!(zae us 0).isSome || !(zae us 1).isSome) || !(zae us 2).isSome) (genV ((zae us 0).getD 0) ((zae us 1).getD 0) ((zae us 2).getD 0))
 | 3=>becR (!(zae us 0).isSome) (rotV N bs ((zae us 0).getD 0))
 | 4=>becR false (some (N,mirV N bs))
 | 5=>becR false (some (N,othL N bs N))
 | 6=>becR (!(zae us 0).isSome) (strV N bs ((zae us 0).getD 0))
 | 7=>becR (!(zae us 0).isSome) (rptV N bs ((zae us 0).getD 0))
 | 8=>becR (!(zae us 0).isSome) (phaV N bs ((zae us 0).getD 0))
 | 9=>becR false (parO N bs)
 | 10=>becR false (wrdV N bs (us.getD 0 ⟨#[]⟩))
 | 11=>becR (!(zae us 0).isSome || !(zae us 1).isSome) (polV ((zae us 0).getD 0) ((zae us 1).getD 0))
 | 12=>becR false (brhV ((zcj (us.getD 0 ⟨#[]⟩)).getD []))
 | 13=>(false,mkS (zaj N bs (fun _=>120)),none)
 | 14=>(false,mkS (linL N bs),none)
 | 15=>(false,mkS (evlL N bs),none)
 | 16=>(false,mkS (tilL N bs),none)
 | 17=>(false,mkS (metV N bs),none)
 | 18=>(false,mkS (cllL N bs),none)
 | 19=>(!(zae us 0).isSome,mkS (itoL (zdm N bs ((zae us 0).getD 0))),none)
 | 20=>(!(zae us 0).isSome,mkS (itoL (cntW N bs ((zae us 0).getD 0))),none)
 | 21=>(false,mkS (zaj N bs natF),none)
 | 22=>(!(zb6 us 0).isSome,mkS (lliV ((zb6 us 0).getD [])),none)
 | 23=>(!(zb6 us 0).isSome,mkS (cvlV ((zb6 us 0).getD [])),none)
 | 24=>(!(zb6 us 0).isSome,mkS (itoL (twoV ((zb6 us 0).getD []))),none)
 | 25=>(!(zae us 0).isSome || !(zae us 1).isSome,mkS (itoL (nklV ((zae us 0).getD 0) ((zae us 1).getD 0))),none)
 | 26=>(false,plaT (us.getD 0 ⟨#[]⟩),none)
 | _=>(!(zae us 0).isSome || !(zb6 us 1).isSome,qntT ((zb6 us 1).getD []) ((zae us 0).getD 0),none)
noncomputable def zau (N:Nat)(bs:List Int)(line:ByteArray):(Nat × List Int) × ByteArray :=
 if line.data.toList=[]\/line.data.toList.headD 0=35 then ((N,bs),⟨#[]⟩) else
 match fndK (keyV (splT 32 line)) with
 | none=>((N,bs),unkS)
 | some i=>if (cmdV N bs ((splT 32 line).drop 1) i).1 then ((N,bs),unkS) else ((cmdV N bs ((splT 32 line).drop 1) i).2.2.getD (N,bs),(cmdV N bs ((splT 32 line).drop 1) i).2.1)
end Go.Proofs.YtjpnjchpdkogbaaGreatDoor
namespace Go.Proofs.YtjpnjchpdkogbaaGreatDoor
open Go.RowKit Go.Maps
def zjs (v:Value):Option (DataW Value × List MemPlace):=some (.held v,[])
def putL (es:List (Lit × Value)):DataW Value:=es.foldl (fun D e=>D.put e.1 (.held e.2)) (.map [])
theorem z1v (es:List (Lit × Value))(e:Lit × Value):putL (es++[e])=(putL es).put e.1 (.held e.2):=by simp [putL,List.foldl_append]
theorem zjt {k:Lit}(z:DataW Value) : ∀ (es:List (Lit × Value)) (D:DataW Value),(∀ e∈es,k≠e.1)->(es.foldl (fun D e=>D.put e.1 (.held e.2)) D).atKey k z=D.atKey k z/\has (es.foldl (fun D e=>D.put e.1 (.held e.2)) D) k=has D k
 | [],D,_=>⟨rfl,rfl⟩
 | e::es,D,h=>by
  have h1:=zjt z es (D.put e.1 (.held e.2)) (fun x hx=>h x (List.mem_cons_of_mem _ hx))
  have hne:=h e (List.mem_cons_self ..)
  exact ⟨h1.1.trans (atKey_put_other hne _ _),h1.2.trans (has_put_other hne _)⟩
theorem z1w {es:List (Lit × Value)}{k:Lit}(h : ∀ e∈es,k≠e.1):has (putL es) k=false:=by
 have:=(zjt (k:=k) .nil es (.map []) h).2
 exact this.trans rfl
theorem zp3 {k:Lit}{v:Value}(hk:WideAt.IsKeyLit k)(z:DataW Value) : ∀ (es:List (Lit × Value)) (D:DataW Value),IsMap D->(es.map (·.1)).Nodup->(k,v)∈es->(es.foldl (fun D e=>D.put e.1 (.held e.2)) D).atKey k z = .held v/\has (es.foldl (fun D e=>D.put e.1 (.held e.2)) D) k=true
 | [],D,_,_,h=>by cases h
 | e::es,D,hD,hn,h=>by
  rw [List.map_cons,List.nodup_cons] at hn
  rcases List.mem_cons.1 h with he | he
  ·subst he
   have h1:=zjt z es (D.put k (.held v)) (fun x hx heq=>hn.1 (by
    have h9:x.1∈es.map (·.1):=List.mem_map_of_mem hx
    rw [<- heq] at h9
    exact h9))
   exact ⟨h1.1.trans (atKey_put_same hD hk _ _),h1.2.trans (has_put_same hD hk _)⟩
  ·exact zp3 hk z es _ (hD.put _ _) hn.2 he
theorem z1x {es:List (Lit × Value)}{k:Lit}{v:Value}(hk:WideAt.IsKeyLit k)(z:DataW Value)(hn:(es.map (·.1)).Nodup)(h:(k,v)∈es):(putL es).atKey k z = .held v/\has (putL es) k=true :=
 zp3 hk z es _ isMap_empty hn h
end Go.Proofs.YtjpnjchpdkogbaaGreatDoor
namespace Go.Proofs.YtjpnjchpdkogbaaGreatDoor
open Go.RowKit Go.Maps
def Lit28 (w0 w:World)(mb n:Nat)(es:List (Lit × Value)):Prop:=w.ownsMap Tryz.prog 9 zjs mb n (putL es)/\Below mb w0 w/\mb<w.heap.size
theorem zp4 (k:ByteArray)(hk:k.size<=maxLen):keyOf Tryz.prog 9 (.string k)=some (.string k.data.toList):=by
 unfold keyOf
 rw [Tryz.underlying9]
 simp [mapKey,Tryz.underlying9,hk]
theorem Lit28.made (w0:World)(mb:Nat)(h:w0.heap.size=mb):Lit28 w0 (w0.alloc (.map #[] 0)) mb 0 []:=by
 subst h
 exact ⟨World.ownsMap_made w0 _ _ _,(Below.refl _ _).alloc (Nat.le_refl _) _,by simp⟩
theorem Lit28.cast {w0 w:World}{mb n m:Nat}{es es':List (Lit × Value)}(h:Lit28 w0 w mb n es)(hn:n=m)(e:es=es'):Lit28 w0 w mb m es':=by subst hn;subst e;exact h
theorem Lit28.below {w0 w w':World}{mb n:Nat}{es:List (Lit × Value)}(h:Lit28 w0 w mb n es)(hb:Below w.heap.size w w'):Lit28 w0 w' mb n es :=
 ⟨h.1.kept (row:=none) ⟨hb.os,hb.tape,hb.output,hb.size,fun k hk _=>hb.block k hk⟩ (by simp),h.2.1.trans (hb.mono (Nat.le_of_lt h.2.2)),Nat.lt_of_lt_of_le h.2.2 hb.size⟩
theorem zp5 {w:World}{ops:Array Oper}{rest:List Oper}{o:Oper}{a:Act}{Q:Exit->Act->World->Prop}
  (hg:o.guard=none)(m x v:Operand)(hop:o.op=Op.insert 77 m x v)(w0:World)(mb n:Nat)(es:List (Lit × Value))(hm:a.eval m = .map (some mb))(h:Lit28 w0 w mb n es)(hn:n<1000)
  (k:ByteArray)(hk:k.size<=maxLen)(val:Value)(hx:a.eval x = .string k)(hv:a.eval v=val)(b:Nat)(u:Value)(hb:b<mb)(hc:w0.cell? ⟨b,0,none⟩=some u)(g:Nat)(W:Value)(hgb:g<mb)(hg2:w0.cell? ⟨g,2,none⟩=some W)
  (hK : ∀ w',Lit28 w0 w' mb (n+1) (es++[(.string k.data.toList,val)])->w'.cell? ⟨b,0,none⟩=some u->w'.cell? ⟨g,2,none⟩=some W->wpList Tryz.prog ops Q rest (a.put o.dst undef) w') :
  wpList Tryz.prog ops Q (o::rest) a w:=by
 refine wpList_plain hg fun K' hK'=>?_
 obtain ⟨w',hrun,r1,r2⟩:=h.1.update (string_keyed Tryz.underlying9) Tryz.underlying77 (by unfold maxLen;omega) (zp4 k hk) (val:=val) (d:=.held val) (ps:=[]) rfl
 have hb2:Below mb w0 w':=h.2.1.grown r2 (Nat.le_of_lt h.2.2) (fun k hk=>by injection hk with hk;omega)
 unfold Oper.wp
 simp [execOp,hop,hm,hx,hv,hrun,Result.andThen]
 refine hK' _ _ (hK w' ⟨?_,hb2,Nat.lt_of_lt_of_le h.2.2 r2.size⟩ ?_ ?_)
 ·rw [z1v];exact r1
 ·rw [hb2.cell (p:=⟨b,0,none⟩) hb];exact hc
 ·rw [hb2.cell (p:=⟨g,2,none⟩) hgb];exact hg2
theorem z1y (w:World):(zeroValue 54).run Tryz.prog w = .ok .nilFunc w:=by kernel_rfl
theorem zax {w:World}{ops:Array Oper}{rest:List Oper}{o:Oper}{a:Act}{Q:Exit->Act->World->Prop}
  (hg:o.guard=none)(m x:Operand)(hop:o.op=Op.lookup 77 m x true)(w0:World)(mb n:Nat)(es:List (Lit × Value))(hm:a.eval m = .map (some mb))(h:Lit28 w0 w mb n es)
  (k:ByteArray)(hk:k.size<=maxLen)(hx:a.eval x = .string k)(v:Value)(q:Bool)(hq:has (putL es) (.string k.data.toList)=q)(hv:(putL es).atKey (.string k.data.toList) (.held .nilFunc) = .held v)
  (hK:wpList Tryz.prog ops Q rest (a.put o.dst (.tuple #[v,.bool q])) w) :
  wpList Tryz.prog ops Q (o::rest) a w:=by
 refine wpList_lookup_own_ok w hg m x _ hop 9 54 (string_keyed Tryz.underlying9) Tryz.underlying77 zjs (z1y w) (.held .nilFunc) [] rfl mb n (putL es) hm h.1 (.string k) _ hx (zp4 k hk) ?_
 intro v' ps hv'
 rw [hv] at hv'
 unfold zjs at hv'
 injection hv' with hv'
 injection hv' with h1 h2
 injection h1 with h1
 rw [h1,hq]
 exact hK
end Go.Proofs.YtjpnjchpdkogbaaGreatDoor
namespace Go.Proofs.YtjpnjchpdkogbaaGreatDoor
open Go.RowKit Go.Maps
def cloF:Nat->Nat
 | 0=>25
 | 1=>27
 | 2=>30
 | 3=>32
 | 4=>34
 | 5=>36
 | 6=>38
 | 7=>40
 | 8=>42
 | 9=>44
 | 10=>46
 | 11=>48
 | 12=>50
 | 13=>51
 | 14=>53
 | 15=>55
 | 16=>57
 | 17=>59
 | 18=>61
 | 19=>63
 | 20=>66
 | 21=>68
 | 22=>70
 | 23=>73
 | 24=>75
 | 25=>77
 | 26=>79
 | _=>80
def cloA (b g:Nat)(i:Nat):Array Value:=if i=12\/26<=i then #[.pointer (some ⟨g,0,none⟩)] else #[.pointer (some ⟨b,0,none⟩)]
def cloV (b g:Nat)(i:Nat):Value:=if i=12\/26<=i then .func (.func (cloF i)) #[.pointer (some ⟨g,0,none⟩)] #[] else .func (.func (cloF i)) #[] #[.pointer (some ⟨b,0,none⟩)]
def es28 (b g:Nat):List (Lit × Value):=(List.range 28).map fun i=>(.string (keyT.getD i []),cloV b g i)
theorem zp6 (b g:Nat):(es28 b g).map (·.1)=keyT.map Lit.string:=rfl
theorem z1z (b g:Nat):((es28 b g).map (·.1)).Nodup:=by
 rw [zp6]
 exact List.pairwise_map.2 (keyT_nodup.imp fun h e=>h (by injection e))
theorem zgn {k:Txt}{i:Nat}(h:fndK k=some i):i<28/\keyT.getD i []=k:=by
 unfold fndK at h
 obtain ⟨hl,hp,_⟩:=List.findIdx?_eq_some_iff_getElem.1 h
 refine ⟨hl,?_⟩
 rw [List.getD_eq_getElem?_getD,List.getElem?_eq_getElem hl]
 exact beq_iff_eq.1 hp
theorem z10 {k:Txt}{i:Nat}(h:fndK k=some i)(b g:Nat):has (putL (es28 b g)) (.string k)=true/\(putL (es28 b g)).atKey (.string k) (.held .nilFunc) = .held (cloV b g i):=by
 obtain ⟨hi,hk⟩:=zgn h
 have hm:(Lit.string k,cloV b g i)∈es28 b g:=by
  unfold es28
  rw [List.mem_map]
  exact ⟨i,List.mem_range.2 hi,by rw [hk]⟩
 have:=z1x (k:=.string k) trivial (.held .nilFunc) (z1z b g) hm
 exact ⟨this.2,this.1⟩
theorem z11 {k:Txt}(h:fndK k=none)(b g:Nat):has (putL (es28 b g)) (.string k)=false/\(putL (es28 b g)).atKey (.string k) (.held .nilFunc) = .held .nilFunc:=by
 have hn:has (putL (es28 b g)) (.string k)=false:=by
  refine z1w fun e he hk=>?_
  have h2:e.1∈(es28 b g).map (·.1):=List.mem_map_of_mem he
  rw [zp6,List.mem_map] at h2
  obtain ⟨x,hx,hxe⟩:=h2
  rw [<- hk] at hxe
  injection hxe with hxe
  have h3:=List.findIdx?_eq_none_iff.1 h x hx
  rw [hxe] at h3
  simp at h3
 exact ⟨hn,atKey_of_not_has hn _⟩
theorem zp7 (cmd:ByteArray)(t:Txt):((cmd++⟨#[32]⟩)++mkS t).data.toList=cmd.data.toList++[32]++t:=by simp [mkS]
theorem zgo (cmd:ByteArray)(t:Txt):((cmd++⟨#[32]⟩)++mkS t).size=cmd.size+1+t.length:=by
 show ((cmd++⟨#[32]⟩)++mkS t).data.size=_
 simp [mkS]
 show cmd.size+(t.length+1)=_
 omega
theorem z12 (g gw off cap:Nat)(n:Int)(R:Value)(L:Nat)(cmd:ByteArray)(w:World)(hC:Con w g n R (.slice (some ⟨gw,off,none⟩) L cap) false)(hl:L<=1048577)(hcs:cmd.size<=1048576)(hP : ∀ V,Frm (zaa g) w V->Pow V)
  (hfn:fndK (cmd.data.toList++[32]++itoL (L:Int))=none) :
  Calls Tryz.prog 14 #[.pointer (some ⟨g,0,none⟩),.string cmd] w fun e w'=>e = .returned (.string ⟨#[]⟩)/\Con w' g n R (.slice (some ⟨gw,off,none⟩) L cap) true/\Frm (zaa g) w w':=by
 have HLK:=Zh (z11 hfn w.heap.size g)
 have hgl:=hC.1
 have HC0:=Zh hC
 have HPW:=Zh hP
 have HFT:=Zh (show Fits (L:Int) by unfold Fits;omega)
 have hitl:=(zbe (L:Int) HFT.o)
 have HFI:=Zh (fun V (h:Pow V)=>zbq (L:Int) HFT.o V h)
 have HKS:=Zh (show ((cmd++⟨#[32]⟩)++mkS (itoL (L:Int))).size<=maxLen by rw [zgo];unfold maxLen;omega)
 have HKC:=Zh (zp7 cmd (itoL (L:Int)))
 have HBX:=Zh ((Below.refl w.heap.size w).alloc (Nat.le_refl _) (.cells #[.pointer (some ⟨g,0,none⟩)] 42))
 have HXB:=Zh (zag w (.pointer (some ⟨g,0,none⟩)) 42)
 have HG2:=Zh ((HC0.o.below HBX.o).2.2.2.1)
 have hL:=Lit28.made (w.alloc (.cells #[.pointer (some ⟨g,0,none⟩)] 42)) (w.heap.size+1) (by simp)
 have hx1:0=0:=rfl
 have hx2:0=0:=rfl
 have hmm:=@run_makeMap Tryz.prog
 have hkz:=zgo cmd (itoL (L:Int))
 have hmz:(mkS (itoL (L:Int))).size=(itoL (L:Int)).length:=za2 _
 have hks : ¬ 9223372036854775807<cmd.size+1:=by omega
 have hks2 : ¬ 9223372036854775807<cmd.size+1+(mkS (itoL (L:Int))).size:=by omega
 clear hC hP hfn hkz hmz
 generalize itoL (L:Int)=tl at *
 go_enter Tryz.func14,Tryz.ntmps14
 go_wp2_with (refine zp5 rfl _ _ _ rfl (w.alloc (.cells #[.pointer (some ⟨g,0,none⟩)] 42)) (w.heap.size+1) _ _ rfl hL (by decide) _ (by decide) _ rfl rfl w.heap.size _ (by omega) HXB.o g _ (by omega) HG2.o ?_;clear hL hx1 hx2;intro w1 hL hx1 hx2)
 have HL1:=Zh (show Lit28 (w.alloc (.cells #[.pointer (some ⟨g,0,none⟩)] 42)) w1 (w.heap.size+1) 28 (es28 w.heap.size g) from hL.cast rfl (by kernel_rfl))
 have HBW:=Zh (HBX.o.trans (HL1.o.2.1.mono (Nat.le_succ _)))
 refine (HFI.o w1 (HPW.o _ (Frm.pure HBW.o _))).mono ?_
 rintro e w2 ⟨rfl,hb2⟩
 have HL2:=Zh (HL1.o.below hb2)
 have HB1:=Zh (HBW.o.trans (hb2.mono HBW.o.size))
 have HC1:=Zh (HC0.o.below HB1.o)
 have HF1:=Zh (Frm.pure HB1.o (zaa g))
 have hx3:=(HL2.o.2.1.cell (p:=⟨w.heap.size,0,none⟩) (Nat.lt_succ_self _)).trans HXB.o
 obtain ⟨c0,c1,c2,c3,c4,c5,c6,c7,c8⟩:=HC1.o
 clear hL hx1 hx2 hb2 HL1 HBW HFI HXB HG2 HBX
 have HSB:=Zh (HC1.o.setBad true)
 go_wp2_with (refine zax rfl _ _ rfl (w.alloc (.cells #[.pointer (some ⟨g,0,none⟩)] 42)) (w.heap.size+1) _ _ rfl HL2.o _ HKS.o rfl .nilFunc false (by rw [HKC.o];exact HLK.o.1) (by rw [HKC.o];exact HLK.o.2) ?_)
 go_ret
 exact ⟨rfl,HSB.o,HF1.o.setCell (p:=⟨g,3,none⟩) (show zaa g g from rfl) _⟩
end Go.Proofs.YtjpnjchpdkogbaaGreatDoor
namespace Go.Proofs.YtjpnjchpdkogbaaGreatDoor
open Go.RowKit
theorem zgp {k n:Int}{N:Nat}{bs:List Int}(h:evrV k n=some (N,bs)):RhOk N bs:=by
 unfold evrV at h
 cases hc:(inB n 1 24 && inB k 0 n) with
 | false=>rw [hc] at h;cases h
 | true =>
  rw [hc] at h
  injection h with h
  injection h with h1 h2
  subst h1 h2
  rw [Bool.and_eq_true] at hc
  have i1:=zan.1 hc.1
  have i2:=zan.1 hc.2
  exact zc3 (by omega) (by omega) (by omega)
theorem zgq {n k g:Int}{N:Nat}{bs:List Int}(h:genV n k g=some (N,bs)):RhOk N bs:=by
 unfold genV at h
 cases hc:(inB n 1 24 && inB k 0 n && inB g 1 n) with
 | false=>rw [hc] at h;cases h
 | true =>
  rw [hc,if_pos rfl] at h
  by_cases hl:(gnrL n.toNat k.toNat g.toNat).length<k.toNat
  ·rw [if_pos hl] at h;cases h
  ·rw [if_neg hl] at h
   injection h with h
   injection h with h1 h2
   subst h1 h2
   rw [Bool.and_eq_true,Bool.and_eq_true] at hc
   have i1:=zan.1 hc.1.1
   unfold gnrL
   rw [zjr (by omega)]
   exact zfd _ (by omega) (by omega)
theorem zju {M:Nat}{xs:List Int}{k:Int}{N:Nat}{bs:List Int}(hok:RhOk M xs)(h:rotV M xs k=some (N,bs)):RhOk N bs:=by
 unfold rotV at h
 cases hc:inB k (-1000) 1000 with
 | false=>rw [hc] at h;cases h
 | true =>
  rw [hc] at h
  injection h with h
  injection h with h1 h2
  subst h1 h2
  exact (zah hok k).1
theorem zjv {k m:Int}{N:Nat}{bs:List Int}(h:polV k m=some (N,bs)):RhOk N bs:=by
 unfold polV at h
 by_cases h0:comV k m=0
 ·rw [if_pos h0] at h;cases h
 ·rw [if_neg h0] at h
  obtain ⟨K,M,U,V,rfl,rfl,hK,hM,hU,hV,eK,eM,h24,dK,dM⟩:=zp1 h0
  injection h with h
  injection h with h1 h2
  subst h1 h2
  exact zp2 (by omega) h24
theorem zjw {xs:List Int}{N:Nat}{bs:List Int}(h:brhV xs=some (N,bs)):RhOk N bs:=by
 unfold brhV frsV at h
 cases hb:barB xs with
 | false=>rw [hb] at h;cases h
 | true =>
  rw [hb,if_pos rfl] at h
  cases hr:rhB (sumX xs xs.length) (psL xs xs.length) with
  | false=>rw [hr] at h;cases h
  | true =>
   rw [hr,if_pos rfl] at h
   injection h with h
   injection h with h1 h2
   subst h1 h2
   have hk:=zao.1 hr
   have h0:=hk.1
   rw [show ((sumX xs xs.length).toNat:Int)=sumX xs xs.length from Int.toNat_of_nonneg (by omega)]
   exact hk
theorem zgr {u:ByteArray}{N:Nat}{bs:List Int}(h:btsV u=some (N,bs)):RhOk N bs:=by
 unfold btsV at h
 cases hb:prhB u with
 | false=>rw [hb] at h;cases h
 | true =>
  rw [hb,if_pos rfl] at h
  injection h with h
  injection h with h1 h2
  have hp:prhB u=true:=hb
  unfold prhB at hb
  rw [Bool.and_eq_true,decide_eq_true_eq] at hb
  rw [show prhN u=u.size by unfold prhN;rw [hp];rfl] at h1
  rw [show prhL u=posX u u.size by unfold prhL;rw [hp];rfl] at h2
  subst h2
  have h1:N=u.size:=by rw [<- h1];rfl
  subst h1
  have hs:(posX u u.size).Pairwise (fun a b=>a<b):=by
   unfold posX
   rw [List.pairwise_map]
   refine List.Pairwise.filter _ ?_
   exact List.pairwise_lt_range.imp fun h=>Int.ofNat_lt.2 h
  refine ⟨by omega,by omega,fun i hi=>?_,fun i hi=>?_⟩
  ·have hm:(posX u u.size).getD i 0∈posX u u.size:=by rw [List.getD_eq_getElem?_getD,List.getElem?_eq_getElem hi];exact List.getElem_mem hi
   generalize (posX u u.size).getD i 0=y at hm ⊢
   unfold posX at hm
   obtain ⟨t,ht,rfl⟩:=List.mem_map.1 hm
   have:=List.mem_range.1 (List.mem_filter.1 ht).1
   show (0:Int)<=(t:Int)/\(t:Int)<_
   omega
  ·have:=List.pairwise_iff_getElem.1 hs i (i+1) (by omega) hi (by omega)
   rw [List.getD_eq_getElem?_getD,List.getD_eq_getElem?_getD,List.getElem?_eq_getElem hi,List.getElem?_eq_getElem (by omega:i<_)]
   exact this
theorem zjx {M:Nat}{xs:List Int}{N:Nat}{bs:List Int}(hok:RhOk M xs)(h:parO M xs=some (N,bs)):RhOk N bs:=by
 unfold parO at h
 cases hp:parV M xs with
 | none=>rw [hp] at h;cases h
 | some y =>
  rw [hp] at h
  injection h with h
  injection h with h1 h2
  subst h1 h2
  exact znv hok hp
theorem zp8 (p:Int->Bool) : ∀ (f:Nat) (h:Int),0<=h->0<=zcx p f h/\zcx p f h<=h+f
 | 0,h,h0=>⟨Int.le_refl _,by show (0:Int)<=_;omega⟩
 | f+1,h,h0=>by
  unfold zcx
  split
  ·omega
  ·have:=zp8 p f (h+1) (by omega)
   omega
theorem zp9 (n:Int)(bs:List Int)(gap:Int):Fits (zdm n bs gap):=by
 have:=zp8 (fun h=>zb0 n bs h gap) 24 1 (by omega)
 unfold zdm Fits
 omega
theorem zqa {N:Nat}{bs:List Int}(hok:RhOk N bs)(k:Int):Fits (cntW N bs k):=by
 have h2:=hok.2.1
 by_cases h:rhB N bs=true/\inB k 0 48=true
 ·have:=zhc (N:Int) bs k.toNat (N:Int).toNat
  rw [zom h.1 h.2]
  unfold Fits
  omega
 ·rw [zi5 h];unfold Fits;omega
theorem zqb (n k:Int):Fits (nklV n k):=by
 unfold nklV
 cases hc:(inB n 1 24 && inB k 0 n) with
 | false=>show Fits (-1);unfold Fits;omega
 | true =>
  rw [if_pos rfl]
  rw [Bool.and_eq_true] at hc
  have i1:=zan.1 hc.1
  have i2:=zan.1 hc.2
  have h1:=zio n.toNat k.toNat (by omega) (by omega) n.toNat (Nat.le_refl _)
  have h2:n.toNat*2704156<=24*2704156:=Nat.mul_le_mul_right _ (by omega)
  have h3:=Nat.div_le_self (nkS n.toNat k.toNat n.toNat) n.toNat
  generalize nkS n.toNat k.toNat n.toNat / n.toNat=z at *
  unfold Fits
  omega
theorem zqc (xs:List Int):Fits (twoV xs):=by
 have:=zpx xs 40 1 (by decide)
 unfold twoV Fits
 omega
def arT (i:Nat):Nat:=[1,2,3,1,0,0,1,1,1,0,1,2,1,0,0,0,0,0,0,1,1,0,1,1,1,2,1,2].getD i 0
def zjy (l:List UInt8):List UInt8:=(l.reverse.takeWhile (fun c=>c != 32)).reverse
theorem z13 (x y:List UInt8)(h : ∀ c∈x,c≠32):(x++32::y).takeWhile (fun c=>c != 32)=x:=by
 induction x with
 | nil=>rfl
 | cons c r ih =>
  have h1:=h c (List.mem_cons_self ..)
  rw [List.cons_append,List.takeWhile_cons,if_pos (by simpa using h1),ih (fun d hd=>h d (List.mem_cons_of_mem _ hd))]
theorem z14 (a x:List UInt8)(h : ∀ c∈x,c≠32):zjy (a++[32]++x)=x:=by
 unfold zjy
 rw [List.reverse_append,List.reverse_append]
 show ((x.reverse++([32]++a.reverse)).takeWhile _).reverse=x
 rw [show ([32]++a.reverse:List UInt8)=32::a.reverse from rfl,z13 _ _ (fun c hc=>h c (List.mem_reverse.1 hc)),List.reverse_reverse]
theorem z15 : ∀ i:Fin 28,zjy (keyT.getD i.val [])=[UInt8.ofNat (48+arT i.val)]:=by decide
theorem z16 : ∀ i:Fin 28,arT i.val<=3:=by decide
theorem z17 (i:Fin 28):itoL (arT i.val:Int)=[UInt8.ofNat (48+arT i.val)]:=by
 have:=z16 i
 rw [zco,Lib.decDigits_one (by omega)]
theorem z18 {a:Txt}{L i:Nat}(hL:L<=1048577)(h:fndK (a++[32]++itoL (L:Int))=some i):i<28/\L=arT i:=by
 obtain ⟨hi,hk⟩:=zgn h
 refine ⟨hi,?_⟩
 have h1:=z14 a (itoL (L:Int)) (fun c hc=>zrh (L:Int) 32 (by decide) (by decide) c hc)
 rw [<- hk,z15 ⟨i,hi⟩,<- z17 ⟨i,hi⟩] at h1
 have h2:=zg6 (L:Int) (by unfold Fits;omega)
 have h3:arT i<=3:=by
  have : ∀ j:Fin 28,arT j.val<=3:=by decide
  exact this ⟨i,hi⟩
 have h4:=zg6 (arT i:Int) (by unfold Fits;omega)
 have h1':itoL (arT i:Int)=itoL (L:Int):=h1
 rw [h1',h2] at h4
 injection h4 with h4
 omega
end Go.Proofs.YtjpnjchpdkogbaaGreatDoor
namespace Go.Proofs.YtjpnjchpdkogbaaGreatDoor
open Go.RowKit
theorem z19 (b g:Nat)(n:Int)(A:Option Addr)(k cap:Nat)(W:Value)(bad:Bool)(T:ByteArray)(w:World)(hC:Con w g n (.slice A k cap) W bad)(hbx:w.cell? ⟨b,0,none⟩=some (.pointer (some ⟨g,0,none⟩)))
  (hF:Calls Tryz.prog 52 #[.agg #[.int .i64 n,.slice A k cap]] w fun e w'=>e = .returned (.string T)/\Below w.heap.size w w') :
  Calls Tryz.prog 51 #[.pointer (some ⟨b,0,none⟩)] w fun e w'=>e = .returned (.string T)/\Con w' g n (.slice A k cap) W bad/\Frm (zaa g) w w':=by
 have HF:=Zh hF
 have HC:=Zh hC
 obtain ⟨c0,c1,c2,c3,c4,c5,c6,c7,c8⟩:=hC
 clear hF
 go_enter Tryz.func51,Tryz.ntmps51
 go_wp2_with fail
 refine HF.o.mono ?_
 rintro e w1 ⟨rfl,hb⟩
 go_wp2_with fail
 go_ret
 exact ⟨rfl,HC.o.below hb,Frm.pure hb _⟩
theorem z2a (b g:Nat)(n:Int)(A:Option Addr)(k cap:Nat)(W:Value)(bad:Bool)(T:ByteArray)(w:World)(hC:Con w g n (.slice A k cap) W bad)(hbx:w.cell? ⟨b,0,none⟩=some (.pointer (some ⟨g,0,none⟩)))
  (hF:Calls Tryz.prog 54 #[.agg #[.int .i64 n,.slice A k cap]] w fun e w'=>e = .returned (.string T)/\Below w.heap.size w w') :
  Calls Tryz.prog 53 #[.pointer (some ⟨b,0,none⟩)] w fun e w'=>e = .returned (.string T)/\Con w' g n (.slice A k cap) W bad/\Frm (zaa g) w w':=by
 have HF:=Zh hF
 have HC:=Zh hC
 obtain ⟨c0,c1,c2,c3,c4,c5,c6,c7,c8⟩:=hC
 clear hF
 go_enter Tryz.func53,Tryz.ntmps53
 go_wp2_with fail
 refine HF.o.mono ?_
 rintro e w1 ⟨rfl,hb⟩
 go_wp2_with fail
 go_ret
 exact ⟨rfl,HC.o.below hb,Frm.pure hb _⟩
theorem z2b (b g:Nat)(n:Int)(A:Option Addr)(k cap:Nat)(W:Value)(bad:Bool)(T:ByteArray)(w:World)(hC:Con w g n (.slice A k cap) W bad)(hbx:w.cell? ⟨b,0,none⟩=some (.pointer (some ⟨g,0,none⟩)))
  (hF:Calls Tryz.prog 56 #[.agg #[.int .i64 n,.slice A k cap]] w fun e w'=>e = .returned (.string T)/\Below w.heap.size w w') :
  Calls Tryz.prog 55 #[.pointer (some ⟨b,0,none⟩)] w fun e w'=>e = .returned (.string T)/\Con w' g n (.slice A k cap) W bad/\Frm (zaa g) w w':=by
 have HF:=Zh hF
 have HC:=Zh hC
 obtain ⟨c0,c1,c2,c3,c4,c5,c6,c7,c8⟩:=hC
 clear hF
 go_enter Tryz.func55,Tryz.ntmps55
 go_wp2_with fail
 refine HF.o.mono ?_
 rintro e w1 ⟨rfl,hb⟩
 go_wp2_with fail
 go_ret
 exact ⟨rfl,HC.o.below hb,Frm.pure hb _⟩
theorem z2c (b g:Nat)(n:Int)(A:Option Addr)(k cap:Nat)(W:Value)(bad:Bool)(T:ByteArray)(w:World)(hC:Con w g n (.slice A k cap) W bad)(hbx:w.cell? ⟨b,0,none⟩=some (.pointer (some ⟨g,0,none⟩)))
  (hF:Calls Tryz.prog 58 #[.agg #[.int .i64 n,.slice A k cap]] w fun e w'=>e = .returned (.string T)/\Below w.heap.size w w') :
  Calls Tryz.prog 57 #[.pointer (some ⟨b,0,none⟩)] w fun e w'=>e = .returned (.string T)/\Con w' g n (.slice A k cap) W bad/\Frm (zaa g) w w':=by
 have HF:=Zh hF
 have HC:=Zh hC
 obtain ⟨c0,c1,c2,c3,c4,c5,c6,c7,c8⟩:=hC
 clear hF
 go_enter Tryz.func57,Tryz.ntmps57
 go_wp2_with fail
 refine HF.o.mono ?_
 rintro e w1 ⟨rfl,hb⟩
 go_wp2_with fail
 go_ret
 exact ⟨rfl,HC.o.below hb,Frm.pure hb _⟩
theorem z2d (b g:Nat)(n:Int)(A:Option Addr)(k cap:Nat)(W:Value)(bad:Bool)(T:ByteArray)(w:World)(hC:Con w g n (.slice A k cap) W bad)(hbx:w.cell? ⟨b,0,none⟩=some (.pointer (some ⟨g,0,none⟩)))
  (hF:Calls Tryz.prog 60 #[.agg #[.int .i64 n,.slice A k cap]] w fun e w'=>e = .returned (.string T)/\Below w.heap.size w w') :
  Calls Tryz.prog 59 #[.pointer (some ⟨b,0,none⟩)] w fun e w'=>e = .returned (.string T)/\Con w' g n (.slice A k cap) W bad/\Frm (zaa g) w w':=by
 have HF:=Zh hF
 have HC:=Zh hC
 obtain ⟨c0,c1,c2,c3,c4,c5,c6,c7,c8⟩:=hC
 clear hF
 go_enter Tryz.func59,Tryz.ntmps59
 go_wp2_with fail
 refine HF.o.mono ?_
 rintro e w1 ⟨rfl,hb⟩
 go_wp2_with fail
 go_ret
 exact ⟨rfl,HC.o.below hb,Frm.pure hb _⟩
theorem z2e (b g:Nat)(n:Int)(A:Option Addr)(k cap:Nat)(W:Value)(bad:Bool)(T:ByteArray)(w:World)(hC:Con w g n (.slice A k cap) W bad)(hbx:w.cell? ⟨b,0,none⟩=some (.pointer (some ⟨g,0,none⟩)))
  (hF:Calls Tryz.prog 62 #[.agg #[.int .i64 n,.slice A k cap]] w fun e w'=>e = .returned (.string T)/\Below w.heap.size w w') :
  Calls Tryz.prog 61 #[.pointer (some ⟨b,0,none⟩)] w fun e w'=>e = .returned (.string T)/\Con w' g n (.slice A k cap) W bad/\Frm (zaa g) w w':=by
 have HF:=Zh hF
 have HC:=Zh hC
 obtain ⟨c0,c1,c2,c3,c4,c5,c6,c7,c8⟩:=hC
 clear hF
 go_enter Tryz.func61,Tryz.ntmps61
 go_wp2_with fail
 refine HF.o.mono ?_
 rintro e w1 ⟨rfl,hb⟩
 go_wp2_with fail
 go_ret
 exact ⟨rfl,HC.o.below hb,Frm.pure hb _⟩
theorem z2f (b g:Nat)(n:Int)(A:Option Addr)(k cap:Nat)(W:Value)(bad:Bool)(T:ByteArray)(w:World)(hC:Con w g n (.slice A k cap) W bad)(hbx:w.cell? ⟨b,0,none⟩=some (.pointer (some ⟨g,0,none⟩)))
  (hF:Calls Tryz.prog 69 #[.agg #[.int .i64 n,.slice A k cap]] w fun e w'=>e = .returned (.string T)/\Below w.heap.size w w') :
  Calls Tryz.prog 68 #[.pointer (some ⟨b,0,none⟩)] w fun e w'=>e = .returned (.string T)/\Con w' g n (.slice A k cap) W bad/\Frm (zaa g) w w':=by
 have HF:=Zh hF
 have HC:=Zh hC
 obtain ⟨c0,c1,c2,c3,c4,c5,c6,c7,c8⟩:=hC
 clear hF
 go_enter Tryz.func68,Tryz.ntmps68
 go_wp2_with fail
 refine HF.o.mono ?_
 rintro e w1 ⟨rfl,hb⟩
 go_wp2_with fail
 go_ret
 exact ⟨rfl,HC.o.below hb,Frm.pure hb _⟩
end Go.Proofs.YtjpnjchpdkogbaaGreatDoor
namespace Go.Proofs.YtjpnjchpdkogbaaGreatDoor
open Go.RowKit
theorem z2g (b g gw off cap:Nat)(n:Int)(R:Value)(bad:Bool)(us:List ByteArray)(T:ByteArray)(w:World)(hC:Con w g n R (.slice (some ⟨gw,off,none⟩) us.length cap) bad)(hW:Wds w gw off us)(hi:0<us.length)
  (hs : ∀ u∈us,u.size<=1048576)(hl:us.length<=1048577)(hE:Errs w)(hP:Pow w)(hbx:w.cell? ⟨b,0,none⟩=some (.pointer (some ⟨g,0,none⟩)))
  (hF : ∀ (V:World)(A:Option Addr)(c:Nat),Frm (zaa g) w V->OwnI V w.heap.size (.slice A ((zal (us.getD 0 ⟨#[]⟩)).getD []).length c) ((zal (us.getD 0 ⟨#[]⟩)).getD [])->(∀ x∈(zal (us.getD 0 ⟨#[]⟩)).getD [],Fits x) ->
   Calls Tryz.prog 71 #[.slice A ((zal (us.getD 0 ⟨#[]⟩)).getD []).length c] V fun e w'=>e = .returned (.string T)/\Below V.heap.size V w') :
  Calls Tryz.prog 70 #[.pointer (some ⟨b,0,none⟩)] w fun e w'=>e = .returned (.string T)/\Con w' g n R (.slice (some ⟨gw,off,none⟩) us.length cap) (bad || !(zal (us.getD 0 ⟨#[]⟩)).isSome)/\Frm (zaa g) w w':=by
 have HF:=Zh hF
 have HN:=Zh (zfw g gw off 0 cap n R bad us w hC hW hi hs hl hE hP)
 generalize zal (us.getD 0 ⟨#[]⟩)=o at *
 clear hF hC hW hs hE hP
 go_enter Tryz.func70,Tryz.ntmps70
 go_wp2_with fail
 refine HN.o.mono ?_
 rintro e w1 ⟨⟨A1,k1,rfl,hown,hft⟩,hc1,hf1⟩
 have HC1:=Zh hc1
 have HX:=Zh hf1
 have HC2:=Zh (HF.o w1 A1 k1 hf1 hown hft)
 clear hc1 hf1 hown hft
 go_wp2_with fail
 refine HC2.o.mono ?_
 rintro e w2 ⟨rfl,hb⟩
 go_wp2_with fail
 go_ret
 exact ⟨rfl,HC1.o.below hb,HX.o.trans (Frm.pure hb _)⟩
theorem z2h (b g gw off cap:Nat)(n:Int)(R:Value)(bad:Bool)(us:List ByteArray)(T:ByteArray)(w:World)(hC:Con w g n R (.slice (some ⟨gw,off,none⟩) us.length cap) bad)(hW:Wds w gw off us)(hi:0<us.length)
  (hs : ∀ u∈us,u.size<=1048576)(hl:us.length<=1048577)(hE:Errs w)(hP:Pow w)(hbx:w.cell? ⟨b,0,none⟩=some (.pointer (some ⟨g,0,none⟩)))
  (hF : ∀ (V:World)(A:Option Addr)(c:Nat),Frm (zaa g) w V->OwnI V w.heap.size (.slice A ((zal (us.getD 0 ⟨#[]⟩)).getD []).length c) ((zal (us.getD 0 ⟨#[]⟩)).getD [])->(∀ x∈(zal (us.getD 0 ⟨#[]⟩)).getD [],Fits x) ->
   Calls Tryz.prog 74 #[.slice A ((zal (us.getD 0 ⟨#[]⟩)).getD []).length c] V fun e w'=>e = .returned (.string T)/\Below V.heap.size V w') :
  Calls Tryz.prog 73 #[.pointer (some ⟨b,0,none⟩)] w fun e w'=>e = .returned (.string T)/\Con w' g n R (.slice (some ⟨gw,off,none⟩) us.length cap) (bad || !(zal (us.getD 0 ⟨#[]⟩)).isSome)/\Frm (zaa g) w w':=by
 have HF:=Zh hF
 have HN:=Zh (zfw g gw off 0 cap n R bad us w hC hW hi hs hl hE hP)
 generalize zal (us.getD 0 ⟨#[]⟩)=o at *
 clear hF hC hW hs hE hP
 go_enter Tryz.func73,Tryz.ntmps73
 go_wp2_with fail
 refine HN.o.mono ?_
 rintro e w1 ⟨⟨A1,k1,rfl,hown,hft⟩,hc1,hf1⟩
 have HC1:=Zh hc1
 have HX:=Zh hf1
 have HC2:=Zh (HF.o w1 A1 k1 hf1 hown hft)
 clear hc1 hf1 hown hft
 go_wp2_with fail
 refine HC2.o.mono ?_
 rintro e w2 ⟨rfl,hb⟩
 go_wp2_with fail
 go_ret
 exact ⟨rfl,HC1.o.below hb,HX.o.trans (Frm.pure hb _)⟩
theorem z2i (b g gw off cap:Nat)(n:Int)(R:Value)(bad:Bool)(us:List ByteArray)(z:Int)(T:ByteArray)(w:World)(hC:Con w g n R (.slice (some ⟨gw,off,none⟩) us.length cap) bad)(hW:Wds w gw off us)(hi:0<us.length)
  (hs : ∀ u∈us,u.size<=1048576)(hl:us.length<=1048577)(hE:Errs w)(hP:Pow w)(hbx:w.cell? ⟨b,0,none⟩=some (.pointer (some ⟨g,0,none⟩)))
  (hF : ∀ (V:World)(A:Option Addr)(c:Nat),Frm (zaa g) w V->OwnI V w.heap.size (.slice A ((zal (us.getD 0 ⟨#[]⟩)).getD []).length c) ((zal (us.getD 0 ⟨#[]⟩)).getD [])->(∀ x∈(zal (us.getD 0 ⟨#[]⟩)).getD [],Fits x) ->
   Calls Tryz.prog 76 #[.slice A ((zal (us.getD 0 ⟨#[]⟩)).getD []).length c] V fun e w'=>e = .returned (.int .i64 z)/\Below V.heap.size V w')
  (hG : ∀ V,Frm (zaa g) w V->Calls Tryz.prog 64 #[.int .i64 z] V fun e w'=>e = .returned (.string T)/\Below V.heap.size V w') :
  Calls Tryz.prog 75 #[.pointer (some ⟨b,0,none⟩)] w fun e w'=>e = .returned (.string T)/\Con w' g n R (.slice (some ⟨gw,off,none⟩) us.length cap) (bad || !(zal (us.getD 0 ⟨#[]⟩)).isSome)/\Frm (zaa g) w w':=by
 have HF:=Zh hF
 have HG:=Zh hG
 have HN:=Zh (zfw g gw off 0 cap n R bad us w hC hW hi hs hl hE hP)
 generalize zal (us.getD 0 ⟨#[]⟩)=o at *
 clear hF hG hC hW hs hE hP
 go_enter Tryz.func75,Tryz.ntmps75
 go_wp2_with fail
 refine HN.o.mono ?_
 rintro e w1 ⟨⟨A1,k1,rfl,hown,hft⟩,hc1,hf1⟩
 have HC1:=Zh hc1
 have HX:=Zh hf1
 have HC2:=Zh (HF.o w1 A1 k1 hf1 hown hft)
 clear hc1 hf1 hown hft
 go_wp2_with fail
 refine HC2.o.mono ?_
 rintro e w2 ⟨rfl,hb⟩
 have HB:=Zh hb
 have HX2:=Zh (HX.o.trans (Frm.pure hb _))
 clear hb
 go_wp2_with fail
 refine (HG.o _ HX2.o).mono ?_
 rintro e w3 ⟨rfl,hb⟩
 go_wp2_with fail
 go_ret
 exact ⟨rfl,(HC1.o.below HB.o).below hb,HX2.o.trans (Frm.pure hb _)⟩
end Go.Proofs.YtjpnjchpdkogbaaGreatDoor
namespace Go.Proofs.YtjpnjchpdkogbaaGreatDoor
open Go.RowKit
theorem z2j (b g gw off cap:Nat)(n:Int)(R:Value)(bad:Bool)(us:List ByteArray)(o:Option (Nat × List Int))(w:World)(hC:Con w g n R (.slice (some ⟨gw,off,none⟩) us.length cap) bad)(hW:Wds w gw off us)(hi:0<us.length)
  (hbl:b<w.heap.size)(hbg:b≠g)(hbx:w.cell? ⟨b,0,none⟩=some (.pointer (some ⟨g,0,none⟩)))(hok : ∀ N bs,o=some (N,bs)->RhOk N bs)
  (hF:Calls Tryz.prog 11 #[.string (us.getD 0 ⟨#[]⟩)] w.drew (RetRhO w.drew o)) :
  Calls Tryz.prog 25 #[.pointer (some ⟨b,0,none⟩)] w fun e w'=>e = .returned (.string (becT o))/\Bec w' g n R (.slice (some ⟨gw,off,none⟩) us.length cap) bad o/\Frm (zaa g) w w':=by
 have hcw:=hW.2 0 hi
 rw [Nat.add_zero] at hcw
 have hu0:(0:Int)<(us.length:Int):=by omega
 have HF:=Zh hF
 have HC:=Zh hC
 have HOK:=Zh hok
 obtain ⟨c0,c1,c2,c3,c4,c5,c6,c7,c8⟩:=hC
 clear hF hok hW
 generalize us.getD 0 ⟨#[]⟩=u at *
 generalize us.length=L at *
 go_enter Tryz.func25,Tryz.ntmps25
 go_wp2_with fail
 (refine wp_region_held_drew (S:=(fun w'=>w'.cell? ⟨b,0,none⟩=some (.pointer (some ⟨g,0,none⟩)))) (by kernel_rfl) ?_ (fun hHeld=>?_);(focus ((try dsimp only);exact hbx)))
 ((refine Zk 0 ?_;(try simp only [Act.put,Zz]));(refine Zk 1 ?_;(try simp only [Act.put,Zz]));(refine Zk 2 ?_;(try simp only [Act.put,Zz]));(refine Zk 3 ?_;(try simp only [Act.put,Zz])))
 (refine wpAnyH_ready (rs:=[4]) (by kernel_rfl) (by simp) ?_;refine AllReadyH.cons rfl (fun K hK=>?_) AllReadyH.nil;go_simp)
 (refine hK.out _ _ ?_ fun hHeld2=>?_;(focus ((try dsimp only);exact hbx));(clear hK K);(try simp only [Act.put,Zz]))
 (refine wpAnyH_ready (rs:=[5]) (by kernel_rfl) (by simp) ?_;refine AllReadyH.cons rfl (fun K hK=>?_) AllReadyH.nil;go_simp)
 (refine hK.out _ _ ?_ fun hHeld2=>?_;(focus ((try dsimp only);exact hbx));(clear hK K);(try simp only [Act.put,Zz]))
 (refine wpAnyH_ready (rs:=[6]) (by kernel_rfl) (by simp) ?_;refine AllReadyH.cons rfl (fun K hK=>?_) AllReadyH.nil;go_simp)
 (refine hK.out _ _ ?_ fun hHeld2=>?_;(focus ((try dsimp only);exact hbx));(clear hK K);(try simp only [Act.put,Zz]))
 (refine wpAnyH_ready (rs:=[7]) (by kernel_rfl) (by simp) ?_;refine AllReadyH.cons rfl (fun K hK=>?_) AllReadyH.nil;go_simp)
 go_at_call 11
 refine HF.o.mono ?_
 rintro e w1 ⟨A1,k1,rfl,hr1,hb0⟩
 have hb1:Below w.heap.size w w1:=⟨hb0.os,hb0.tape,hb0.output,hb0.size,hb0.block⟩
 clear hb0
 have HC1:=Zh (HC.o.below hb1)
 have HR1:=Zh hr1
 have HB1:=Zh hb1
 have hgl:g<w.heap.size:=HC.o.1
 have HBC:=Zh (zbc g n R (.slice (some ⟨gw,off,none⟩) L cap) bad o A1 k1 w.heap.size w1 (HC.o.below hb1) hr1 hgl HOK.o)
 have hbx1:w1.cell? ⟨b,0,none⟩=some (.pointer (some ⟨g,0,none⟩)):=(hb1.cell (p:=⟨b,0,none⟩) hbl).trans hbx
 have hbl1:b<w1.heap.size:=Nat.lt_of_lt_of_le hbl hb1.size
 clear hb1 hr1 hcw c0 c1 c2 c3 c4 c5 c6 c7 c8
 go_wp2_with fail
 (refine hK.out _ _ ?_ fun hHeld2=>?_;(focus ((try dsimp only);exact hbx1));(clear hK K);(try simp only [Act.put,Zz]))
 ((refine Zk 8 ?_;(try simp only [Act.put,Zz]));(refine Zk 9 ?_;(try simp only [Act.put,Zz])))
 (refine wpAnyH_ready (rs:=[10]) (by kernel_rfl) (by simp) ?_;refine AllReadyH.cons rfl (fun K hK=>?_) AllReadyH.nil;go_simp)
 go_at_call 26
 refine HBC.o.mono ?_
 rintro e w2 ⟨rfl,hbec,hf2⟩
 have HBE:=Zh hbec
 have HF2:=Zh ((Frm.pure HB1.o (zaa g)).trans hf2)
 have hbx2:w2.cell? ⟨b,0,none⟩=some (.pointer (some ⟨g,0,none⟩)):=(hf2.cell hbl1 (fun e=>hbg e)).trans hbx1
 clear hbec hf2
 go_wp2_with fail
 (refine hK.out _ _ ?_ fun hHeld2=>?_;(focus ((try dsimp only);exact hbx2));(clear hK K);(try simp only [Act.put,Zz]))
 (refine Zk 11 ?_;(try simp only [Act.put,Zz]))
 refine wpAnyH_done (by kernel_rfl) ?_ _
 go_wp2_with fail
 go_ret
 exact ⟨rfl,HBE.o,⟨HF2.o.os,HF2.o.tape,HF2.o.output,HF2.o.size,HF2.o.block⟩⟩
end Go.Proofs.YtjpnjchpdkogbaaGreatDoor
namespace Go.Proofs.YtjpnjchpdkogbaaGreatDoor
open Go.RowKit
theorem z2k (b g gw off cap k ca:Nat)(n:Int)(A:Option Addr)(bad:Bool)(us:List ByteArray)(z:Int)(T:ByteArray)(w:World)(hC:Con w g n (.slice A k ca) (.slice (some ⟨gw,off,none⟩) us.length cap) bad)(hW:Wds w gw off us)(hi:0<us.length)
  (hs : ∀ u∈us,u.size<=1048576)(hl:us.length<=1048577)(hE:Errs w)(hP:Pow w)(hbl:b<w.heap.size)(hbg:b≠g)(hbx:w.cell? ⟨b,0,none⟩=some (.pointer (some ⟨g,0,none⟩)))
  (hF : ∀ V,Frm (zaa g) w V->Calls Tryz.prog 65 #[.agg #[.int .i64 n,.slice A k ca],.int .i64 ((zab (us.getD 0 ⟨#[]⟩)).getD 0)] V fun e w'=>e = .returned (.int .i64 z)/\Below V.heap.size V w')
  (hG : ∀ V,Frm (zaa g) w V->Calls Tryz.prog 64 #[.int .i64 z] V fun e w'=>e = .returned (.string T)/\Below V.heap.size V w') :
  Calls Tryz.prog 63 #[.pointer (some ⟨b,0,none⟩)] w fun e w'=>e = .returned (.string T)/\Con w' g n (.slice A k ca) (.slice (some ⟨gw,off,none⟩) us.length cap) (bad || !(zab (us.getD 0 ⟨#[]⟩)).isSome)/\Frm (zaa g) w w':=by
 have HN:=Zh (zbm g gw off 0 cap n (.slice A k ca) bad us w.drew hC hW hi hs hl hE hP)
 have HF:=Zh hF
 have HG:=Zh hG
 obtain ⟨c0,c1,c2,c3,c4,c5,c6,c7,c8⟩:=hC
 generalize zab (us.getD 0 ⟨#[]⟩)=o at *
 generalize us.length=L at *
 clear hF hG hW hs hE hP c3 c4 c5 c6 c7 c8
 go_enter Tryz.func63,Tryz.ntmps63
 go_wp2_with fail
 (refine wp_region_held_drew (S:=(fun w'=>w'.cell? ⟨b,0,none⟩=some (.pointer (some ⟨g,0,none⟩))/\w'.cell? ⟨g,0,none⟩=some (.int .i64 n)/\w'.cell? ⟨g,1,none⟩=some (.slice A k ca))) (by kernel_rfl) ?_ (fun hHeld=>?_);(focus ((try dsimp only);exact ⟨hbx,c1,c2⟩)))
 ((refine Zk 0 ?_;(try simp only [Act.put,Zz]));(refine Zk 1 ?_;(try simp only [Act.put,Zz]));(refine Zk 2 ?_;(try simp only [Act.put,Zz]));(refine Zk 3 ?_;(try simp only [Act.put,Zz]));(refine Zk 4 ?_;(try simp only [Act.put,Zz])))
 (refine wpAnyH_ready (rs:=[5]) (by kernel_rfl) (by simp) ?_;refine AllReadyH.cons rfl (fun K hK=>?_) AllReadyH.nil;go_simp)
 go_at_call 29
 refine HN.o.mono ?_
 rintro e w1 ⟨rfl,hc1,hf0⟩
 have HC1:=Zh hc1
 have hf1:Frm (zaa g) w w1:=⟨hf0.os,hf0.tape,hf0.output,hf0.size,hf0.block⟩
 have HX1:=Zh hf1
 have hbx1:w1.cell? ⟨b,0,none⟩=some (.pointer (some ⟨g,0,none⟩)):=(hf1.cell hbl (fun e=>hbg e)).trans hbx
 have hbl1:b<w1.heap.size:=Nat.lt_of_lt_of_le hbl hf1.size
 have d1:=hc1.2.1
 have d2:=hc1.2.2.1
 have hgl:=hc1.1
 clear hc1 hf1 hf0 c0 c1 c2
 go_wp2_with fail
 (refine hK.out _ _ ?_ fun hHeld2=>?_;(focus ((try dsimp only);exact ⟨hbx1,d1,d2⟩));(clear hK K);(try simp only [Act.put,Zz]))
 (refine wpAnyH_ready (rs:=[6]) (by kernel_rfl) (by simp) ?_;refine AllReadyH.cons rfl (fun K hK=>?_) AllReadyH.nil;go_simp)
 go_at_call 65
 refine (HF.o _ HX1.o).mono ?_
 rintro e w2 ⟨rfl,hb2⟩
 have HB2:=Zh hb2
 have HX2:=Zh (HX1.o.trans (Frm.pure hb2 _))
 have hbx2:=(hb2.cell (p:=⟨b,0,none⟩) hbl1).trans hbx1
 have e1:=(hb2.cell (p:=⟨g,0,none⟩) hgl).trans d1
 have e2:=(hb2.cell (p:=⟨g,1,none⟩) hgl).trans d2
 clear hb2
 go_wp2_with fail
 (refine hK.out _ _ ?_ fun hHeld2=>?_;(focus ((try dsimp only);exact ⟨hbx2,e1,e2⟩));(clear hK K);(try simp only [Act.put,Zz]))
 (refine wpAnyH_ready (rs:=[7]) (by kernel_rfl) (by simp) ?_;refine AllReadyH.cons rfl (fun K hK=>?_) AllReadyH.nil;go_simp)
 go_at_call 64
 refine (HG.o _ HX2.o).mono ?_
 rintro e w3 ⟨rfl,hb3⟩
 have HB3:=Zh (HB2.o.trans (hb3.mono HB2.o.size))
 have hbl2:b<w2.heap.size:=Nat.lt_of_lt_of_le hbl1 HB2.o.size
 have hgl2:g<w2.heap.size:=Nat.lt_of_lt_of_le hgl HB2.o.size
 have hbx3:=(hb3.cell (p:=⟨b,0,none⟩) hbl2).trans hbx2
 have f1:=(hb3.cell (p:=⟨g,0,none⟩) hgl2).trans e1
 have f2:=(hb3.cell (p:=⟨g,1,none⟩) hgl2).trans e2
 clear hb3
 go_wp2_with fail
 (refine hK.out _ _ ?_ fun hHeld2=>?_;(focus ((try dsimp only);exact ⟨hbx3,f1,f2⟩));(clear hK K);(try simp only [Act.put,Zz]))
 (refine Zk 8 ?_;(try simp only [Act.put,Zz]))
 refine wpAnyH_done (by kernel_rfl) ?_ _
 go_wp2_with fail
 go_ret
 exact ⟨rfl,HC1.o.below HB3.o,HX1.o.trans (Frm.pure HB3.o _)⟩
theorem z2l (b g gw off cap k ca:Nat)(n:Int)(A:Option Addr)(bad:Bool)(us:List ByteArray)(z:Int)(T:ByteArray)(w:World)(hC:Con w g n (.slice A k ca) (.slice (some ⟨gw,off,none⟩) us.length cap) bad)(hW:Wds w gw off us)(hi:0<us.length)
  (hs : ∀ u∈us,u.size<=1048576)(hl:us.length<=1048577)(hE:Errs w)(hP:Pow w)(hbl:b<w.heap.size)(hbg:b≠g)(hbx:w.cell? ⟨b,0,none⟩=some (.pointer (some ⟨g,0,none⟩)))
  (hF : ∀ V,Frm (zaa g) w V->Calls Tryz.prog 67 #[.agg #[.int .i64 n,.slice A k ca],.int .i64 ((zab (us.getD 0 ⟨#[]⟩)).getD 0)] V fun e w'=>e = .returned (.int .i64 z)/\Below V.heap.size V w')
  (hG : ∀ V,Frm (zaa g) w V->Calls Tryz.prog 64 #[.int .i64 z] V fun e w'=>e = .returned (.string T)/\Below V.heap.size V w') :
  Calls Tryz.prog 66 #[.pointer (some ⟨b,0,none⟩)] w fun e w'=>e = .returned (.string T)/\Con w' g n (.slice A k ca) (.slice (some ⟨gw,off,none⟩) us.length cap) (bad || !(zab (us.getD 0 ⟨#[]⟩)).isSome)/\Frm (zaa g) w w':=by
 have HN:=Zh (zbm g gw off 0 cap n (.slice A k ca) bad us w.drew hC hW hi hs hl hE hP)
 have HF:=Zh hF
 have HG:=Zh hG
 obtain ⟨c0,c1,c2,c3,c4,c5,c6,c7,c8⟩:=hC
 generalize zab (us.getD 0 ⟨#[]⟩)=o at *
 generalize us.length=L at *
 clear hF hG hW hs hE hP c3 c4 c5 c6 c7 c8
 go_enter Tryz.func66,Tryz.ntmps66
 go_wp2_with fail
 (refine wp_region_held_drew (S:=(fun w'=>w'.cell? ⟨b,0,none⟩=some (.pointer (some ⟨g,0,none⟩))/\w'.cell? ⟨g,0,none⟩=some (.int .i64 n)/\w'.cell? ⟨g,1,none⟩=some (.slice A k ca))) (by kernel_rfl) ?_ (fun hHeld=>?_);(focus ((try dsimp only);exact ⟨hbx,c1,c2⟩)))
 ((refine Zk 0 ?_;(try simp only [Act.put,Zz]));(refine Zk 1 ?_;(try simp only [Act.put,Zz]));(refine Zk 2 ?_;(try simp only [Act.put,Zz]));(refine Zk 3 ?_;(try simp only [Act.put,Zz]));(refine Zk 4 ?_;(try simp only [Act.put,Zz])))
 (refine wpAnyH_ready (rs:=[5]) (by kernel_rfl) (by simp) ?_;refine AllReadyH.cons rfl (fun K hK=>?_) AllReadyH.nil;go_simp)
 go_at_call 29
 refine HN.o.mono ?_
 rintro e w1 ⟨rfl,hc1,hf0⟩
 have HC1:=Zh hc1
 have hf1:Frm (zaa g) w w1:=⟨hf0.os,hf0.tape,hf0.output,hf0.size,hf0.block⟩
 have HX1:=Zh hf1
 have hbx1:w1.cell? ⟨b,0,none⟩=some (.pointer (some ⟨g,0,none⟩)):=(hf1.cell hbl (fun e=>hbg e)).trans hbx
 have hbl1:b<w1.heap.size:=Nat.lt_of_lt_of_le hbl hf1.size
 have d1:=hc1.2.1
 have d2:=hc1.2.2.1
 have hgl:=hc1.1
 clear hc1 hf1 hf0 c0 c1 c2
 go_wp2_with fail
 (refine hK.out _ _ ?_ fun hHeld2=>?_;(focus ((try dsimp only);exact ⟨hbx1,d1,d2⟩));(clear hK K);(try simp only [Act.put,Zz]))
 (refine wpAnyH_ready (rs:=[6]) (by kernel_rfl) (by simp) ?_;refine AllReadyH.cons rfl (fun K hK=>?_) AllReadyH.nil;go_simp)
 go_at_call 67
 refine (HF.o _ HX1.o).mono ?_
 rintro e w2 ⟨rfl,hb2⟩
 have HB2:=Zh hb2
 have HX2:=Zh (HX1.o.trans (Frm.pure hb2 _))
 have hbx2:=(hb2.cell (p:=⟨b,0,none⟩) hbl1).trans hbx1
 have e1:=(hb2.cell (p:=⟨g,0,none⟩) hgl).trans d1
 have e2:=(hb2.cell (p:=⟨g,1,none⟩) hgl).trans d2
 clear hb2
 go_wp2_with fail
 (refine hK.out _ _ ?_ fun hHeld2=>?_;(focus ((try dsimp only);exact ⟨hbx2,e1,e2⟩));(clear hK K);(try simp only [Act.put,Zz]))
 (refine wpAnyH_ready (rs:=[7]) (by kernel_rfl) (by simp) ?_;refine AllReadyH.cons rfl (fun K hK=>?_) AllReadyH.nil;go_simp)
 go_at_call 64
 refine (HG.o _ HX2.o).mono ?_
 rintro e w3 ⟨rfl,hb3⟩
 have HB3:=Zh (HB2.o.trans (hb3.mono HB2.o.size))
 have hbl2:b<w2.heap.size:=Nat.lt_of_lt_of_le hbl1 HB2.o.size
 have hgl2:g<w2.heap.size:=Nat.lt_of_lt_of_le hgl HB2.o.size
 have hbx3:=(hb3.cell (p:=⟨b,0,none⟩) hbl2).trans hbx2
 have f1:=(hb3.cell (p:=⟨g,0,none⟩) hgl2).trans e1
 have f2:=(hb3.cell (p:=⟨g,1,none⟩) hgl2).trans e2
 clear hb3
 go_wp2_with fail
 (refine hK.out _ _ ?_ fun hHeld2=>?_;(focus ((try dsimp only);exact ⟨hbx3,f1,f2⟩));(clear hK K);(try simp only [Act.put,Zz]))
 (refine Zk 8 ?_;(try simp only [Act.put,Zz]))
 refine wpAnyH_done (by kernel_rfl) ?_ _
 go_wp2_with fail
 go_ret
 exact ⟨rfl,HC1.o.below HB3.o,HX1.o.trans (Frm.pure HB3.o _)⟩
end Go.Proofs.YtjpnjchpdkogbaaGreatDoor
