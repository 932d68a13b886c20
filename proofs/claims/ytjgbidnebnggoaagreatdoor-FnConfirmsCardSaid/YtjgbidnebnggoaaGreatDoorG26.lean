/- Parts of the proof of the card of the law FnConfirms. -/
import Derived.Test.YtjgbidnebnggoaaGreatDoorG02
import Derived.Test.YtjgbidnebnggoaaGreatDoorG10
import Derived.Test.YtjgbidnebnggoaaGreatDoorG12
import Derived.Test.YtjgbidnebnggoaaGreatDoorG03
import Derived.Test.YtjgbidnebnggoaaGreatDoorG13
import Derived.Test.YtjgbidnebnggoaaGreatDoorG11
import Derived.Test.YtjgbidnebnggoaaGreatDoorG08
import Derived.Test.YtjgbidnebnggoaaGreatDoorG14
import Derived.Test.YtjgbidnebnggoaaGreatDoorG17
import Derived.Test.YtjgbidnebnggoaaGreatDoorG18
import Derived.Test.YtjgbidnebnggoaaGreatDoorG20
import Derived.Test.YtjgbidnebnggoaaGreatDoorG21
import Derived.Test.YtjgbidnebnggoaaGreatDoorG22
import Derived.Test.YtjgbidnebnggoaaGreatDoorG25
import Derived.Test.YtjgbidnebnggoaaGreatDoorG16
import Derived.Maps.OwnSet
import Derived.Test.YtjgbidnebnggoaaGreatDoorG01
import Derived.Test.YtjgbidnebnggoaaGreatDoorG09
import Derived.Test.YtjgbidnebnggoaaGreatDoorG05
import Derived.Test.YtjgbidnebnggoaaGreatDoorG06
set_option linter.unusedVariables false
set_option linter.unusedSimpArgs false
set_option maxRecDepth 1000000
set_option maxHeartbeats 4000000
namespace Go.Proofs.YtjgbidnebnggoaaGreatDoor
open Go.RowKit
def strV (N:Nat)(bs:List Int)(u:Int):Option (Nat × List Int):=if decide (1<=u) && uniP N u.toNat then some (N,affL N u.toNat 0 bs) else none
def rptL (N:Nat)(bs:List Int)(k:Nat):List Int:=(List.range k).flatMap fun i=>bs.map fun p=>((i*N:Nat):Int)+p
def rptV (N:Nat)(bs:List Int)(k:Int):Option (Nat × List Int):=if inB k 1 ((24 / N:Nat):Int) then some (k.toNat*N,rptL N bs k.toNat) else none
def phaV (N:Nat)(bs:List Int)(k:Int):Option (Nat × List Int):=if inB k (-1000) 1000 then some (N,joiL N bs (rotL N bs k)) else none
def wrdL (N:Nat):List UInt8->List Int->List Int
 | [],bs=>bs
 | c::r,bs=>wrdL N r (if c=84 then rotL N bs 1 else if c=77 then mirV N bs else othL N bs N)
def wrdV (N:Nat)(bs:List Int)(s:ByteArray):Option (Nat × List Int):=if decide (s.size<=40) && s.data.toList.all (fun c=>c==84 || c==77 || c==83) then some (N,wrdL N s.data.toList (rotL N bs 0)) else none
def btsV (u:ByteArray):Option (Nat × List Int):=if prhB u then some ((prhN u).toNat,prhL u) else none
def parO (N:Nat)(bs:List Int):Option (Nat × List Int):=(parV N bs).map fun x=>(N,x)
abbrev CmdR:=Bool × ByteArray × Option (Nat × List Int)
noncomputable def becR (bad:Bool)(o:Option (Nat × List Int)):CmdR:=(bad,becT o,o)
def zaf (us:List ByteArray)(j:Nat):Option Int:=zae (us.getD j ⟨#[]⟩)
def zbb (us:List ByteArray)(j:Nat):Option (List Int):=zal (us.getD j ⟨#[]⟩)
noncomputable def cmdV (N:Nat) (bs:List Int) (us:List ByteArray):Nat->CmdR
 | 0=>becR false (btsV (us.getD 0 ⟨#[]⟩))
 | 1=>becR (!(zaf us 0).isSome || !(zaf us 1).isSome) (evrV ((zaf us 0).getD 0) ((zaf us 1).getD 0))
 | 2=>becR ((!(zaf us 0).isSome || !(zaf us 1).isSome) || !(zaf us 2).isSome) (genV ((zaf us 0).getD 0) ((zaf us 1).getD 0) ((zaf us 2).getD 0))
 | 3=>becR (!(zaf us 0).isSome) (rotV N bs ((zaf us 0).getD 0))
 | 4=>becR false (some (N,mirV N bs))
 | 5=>becR false (some (N,othL N bs N))
 | 6=>becR (!(zaf us 0).isSome) (strV N bs ((zaf us 0).getD 0))
 | 7=>becR (!(zaf us 0).isSome) (rptV N bs ((zaf us 0).getD 0))
 | 8=>becR (!(zaf us 0).isSome) (phaV N bs ((zaf us 0).getD 0))
 | 9=>becR false (parO N bs)
 | 10=>becR false (wrdV N bs (us.getD 0 ⟨#[]⟩))
 | 11=>becR (!(zaf us 0).isSome || !(zaf us 1).isSome) (polV ((zaf us 0).getD 0) ((zaf us 1).getD 0))
 | 12=>becR false (brhV ((zcb (us.getD 0 ⟨#[]⟩)).getD []))
 | 13=>(false,mkS (zaq N bs (fun _=>120)),none)
 | 14=>(false,mkS (linL N bs),none)
 | 15=>(false,mkS (evlL N bs),none)
 | 16=>(false,mkS (tilL N bs),none)
 | 17=>(false,mkS (metV N bs),none)
 | 18=>(false,mkS (cllL N bs),none)
 | 19=>(!(zaf us 0).isSome,mkS (itoL (za4 N bs ((zaf us 0).getD 0))),none)
 | 20=>(!(zaf us 0).isSome,mkS (itoL (cntW N bs ((zaf us 0).getD 0))),none)
 | 21=>(false,mkS (zaq N bs natF),none)
 | 22=>(!(zbb us 0).isSome,mkS (lliV ((zbb us 0).getD [])),none)
 | 23=>(!(zbb us 0).isSome,mkS (cvlV ((zbb us 0).getD [])),none)
 | 24=>(!(zbb us 0).isSome,mkS (itoL (twoV ((zbb us 0).getD []))),none)
 | 25=>(!(zaf us 0).isSome || !(zaf us 1).isSome,mkS (itoL (nklV ((zaf us 0).getD 0) ((zaf us 1).getD 0))),none)
 | 26=>(false,plaT (us.getD 0 ⟨#[]⟩),none)
 | _=>(!(zaf us 0).isSome || !(zbb us 1).isSome,qntT ((zbb us 1).getD []) ((zaf us 0).getD 0),none)
noncomputable def zaa (N:Nat)(bs:List Int)(line:ByteArray):(Nat × List Int) × ByteArray :=
 if line.data.toList=[]\/line.data.toList.headD 0=35 then ((N,bs),⟨#[]⟩) else
 match fndK (keyV (splT 32 line)) with
 | none=>((N,bs),unkS)
 | some i=>if (cmdV N bs ((splT 32 line).drop 1) i).1 then ((N,bs),unkS) else ((cmdV N bs ((splT 32 line).drop 1) i).2.2.getD (N,bs),(cmdV N bs ((splT 32 line).drop 1) i).2.1)
end Go.Proofs.YtjgbidnebnggoaaGreatDoor
namespace Go.Proofs.YtjgbidnebnggoaaGreatDoor
open Go.RowKit Go.Maps
def zj6 (v:Value):Option (DataW Value × List MemPlace):=some (.held v,[])
def putL (es:List (Lit × Value)):DataW Value:=es.foldl (fun D e=>D.put e.1 (.held e.2)) (.map [])
theorem z26 (es:List (Lit × Value))(e:Lit × Value):putL (es++[e])=(putL es).put e.1 (.held e.2):=by simp [putL,List.foldl_append]
theorem zj7 {k:Lit}(z:DataW Value) : ∀ (es:List (Lit × Value)) (D:DataW Value),(∀ e∈es,k≠e.1)->(es.foldl (fun D e=>D.put e.1 (.held e.2)) D).atKey k z=D.atKey k z/\has (es.foldl (fun D e=>D.put e.1 (.held e.2)) D) k=has D k
 | [],D,_=>⟨rfl,rfl⟩
 | e::es,D,h=>by
  have h1:=zj7 z es (D.put e.1 (.held e.2)) (fun x hx=>h x (List.mem_cons_of_mem _ hx))
  have hne:=h e (List.mem_cons_self ..)
  exact ⟨h1.1.trans (atKey_put_other hne _ _),h1.2.trans (has_put_other hne _)⟩
theorem z29 {es:List (Lit × Value)}{k:Lit}(h : ∀ e∈es,k≠e.1):has (putL es) k=false:=by
 have:=(zj7 (k:=k) .nil es (.map []) h).2
 exact this.trans rfl
theorem zpr {k:Lit}{v:Value}(hk:WideAt.IsKeyLit k)(z:DataW Value) : ∀ (es:List (Lit × Value)) (D:DataW Value),IsMap D->(es.map (·.1)).Nodup->(k,v)∈es->(es.foldl (fun D e=>D.put e.1 (.held e.2)) D).atKey k z = .held v/\has (es.foldl (fun D e=>D.put e.1 (.held e.2)) D) k=true
 | [],D,_,_,h=>by cases h
 | e::es,D,hD,hn,h=>by
  rw [List.map_cons,List.nodup_cons] at hn
  rcases List.mem_cons.1 h with he | he
  ·subst he
   have h1:=zj7 z es (D.put k (.held v)) (fun x hx heq=>hn.1 (by
    have h9:x.1∈es.map (·.1):=List.mem_map_of_mem hx
    rw [<- heq] at h9
    exact h9))
   exact ⟨h1.1.trans (atKey_put_same hD hk _ _),h1.2.trans (has_put_same hD hk _)⟩
  ·exact zpr hk z es _ (hD.put _ _) hn.2 he
theorem z3a {es:List (Lit × Value)}{k:Lit}{v:Value}(hk:WideAt.IsKeyLit k)(z:DataW Value)(hn:(es.map (·.1)).Nodup)(h:(k,v)∈es):(putL es).atKey k z = .held v/\has (putL es) k=true :=
 zpr hk z es _ isMap_empty hn h
end Go.Proofs.YtjgbidnebnggoaaGreatDoor
namespace Go.Proofs.YtjgbidnebnggoaaGreatDoor
open Go.RowKit Go.Maps
def Lit28 (w0 w:World)(mb n:Nat)(es:List (Lit × Value)):Prop:=w.ownsMap Tryz.prog 9 zj6 mb n (putL es)/\Below mb w0 w/\mb<w.heap.size
theorem zps (k:ByteArray)(hk:k.size<=maxLen):keyOf Tryz.prog 9 (.string k)=some (.string k.data.toList):=by
 unfold keyOf
 rw [Tryz.underlying9]
 simp [mapKey,Tryz.underlying9,hk]
theorem Lit28.made (w0:World)(mb:Nat)(h:w0.heap.size=mb):Lit28 w0 (w0.alloc (.map #[] 0)) mb 0 []:=by
 subst h
 exact ⟨World.ownsMap_made w0 _ _ _,(Below.refl _ _).alloc (Nat.le_refl _) _,by simp⟩
theorem Lit28.cast {w0 w:World}{mb n m:Nat}{es es':List (Lit × Value)}(h:Lit28 w0 w mb n es)(hn:n=m)(e:es=es'):Lit28 w0 w mb m es':=by subst hn;subst e;exact h
theorem Lit28.below {w0 w w':World}{mb n:Nat}{es:List (Lit × Value)}(h:Lit28 w0 w mb n es)(hb:Below w.heap.size w w'):Lit28 w0 w' mb n es :=
 ⟨h.1.kept (row:=none) ⟨hb.os,hb.tape,hb.output,hb.size,fun k hk _=>hb.block k hk⟩ (by simp),h.2.1.trans (hb.mono (Nat.le_of_lt h.2.2)),Nat.lt_of_lt_of_le h.2.2 hb.size⟩
theorem zpt {w:World}{ops:Array Oper}{rest:List Oper}{o:Oper}{a:Act}{Q:Exit->Act->World->Prop}
  (hg:o.guard=none)(m x v:Operand)(hop:o.op=Op.insert 77 m x v)(w0:World)(mb n:Nat)(es:List (Lit × Value))(hm:a.eval m = .map (some mb))(h:Lit28 w0 w mb n es)(hn:n<1000)
  (k:ByteArray)(hk:k.size<=maxLen)(val:Value)(hx:a.eval x = .string k)(hv:a.eval v=val)(b:Nat)(u:Value)(hb:b<mb)(hc:w0.cell? ⟨b,0,none⟩=some u)(g:Nat)(W:Value)(hgb:g<mb)(hg2:w0.cell? ⟨g,2,none⟩=some W)
  (hK : ∀ w',Lit28 w0 w' mb (n+1) (es++[(.string k.data.toList,val)])->w'.cell? ⟨b,0,none⟩=some u->w'.cell? ⟨g,2,none⟩=some W->wpList Tryz.prog ops Q rest (a.put o.dst undef) w') :
  wpList Tryz.prog ops Q (o::rest) a w:=by
 refine wpList_plain hg fun K' hK'=>?_
 obtain ⟨w',hrun,r1,r2⟩:=h.1.update (string_keyed Tryz.underlying9) Tryz.underlying77 (by unfold maxLen;omega) (zps k hk) (val:=val) (d:=.held val) (ps:=[]) rfl
 have hb2:Below mb w0 w':=h.2.1.grown r2 (Nat.le_of_lt h.2.2) (fun k hk=>by injection hk with hk;omega)
 unfold Oper.wp
 simp [execOp,hop,hm,hx,hv,hrun,Result.andThen]
 refine hK' _ _ (hK w' ⟨?_,hb2,Nat.lt_of_lt_of_le h.2.2 r2.size⟩ ?_ ?_)
 ·rw [z26];exact r1
 ·rw [hb2.cell (p:=⟨b,0,none⟩) hb];exact hc
 ·rw [hb2.cell (p:=⟨g,2,none⟩) hgb];exact hg2
theorem z3b (w:World):(zeroValue 46).run Tryz.prog w = .ok .nilFunc w:=by kernel_rfl
theorem za0 {w:World}{ops:Array Oper}{rest:List Oper}{o:Oper}{a:Act}{Q:Exit->Act->World->Prop}
  (hg:o.guard=none)(m x:Operand)(hop:o.op=Op.lookup 77 m x true)(w0:World)(mb n:Nat)(es:List (Lit × Value))(hm:a.eval m = .map (some mb))(h:Lit28 w0 w mb n es)
  (k:ByteArray)(hk:k.size<=maxLen)(hx:a.eval x = .string k)(v:Value)(q:Bool)(hq:has (putL es) (.string k.data.toList)=q)(hv:(putL es).atKey (.string k.data.toList) (.held .nilFunc) = .held v)
  (hK:wpList Tryz.prog ops Q rest (a.put o.dst (.tuple #[v,.bool q])) w) :
  wpList Tryz.prog ops Q (o::rest) a w:=by
 refine wpList_lookup_own_ok w hg m x _ hop 9 46 (string_keyed Tryz.underlying9) Tryz.underlying77 zj6 (z3b w) (.held .nilFunc) [] rfl mb n (putL es) hm h.1 (.string k) _ hx (zps k hk) ?_
 intro v' ps hv'
 rw [hv] at hv'
 unfold zj6 at hv'
 injection hv' with hv'
 injection hv' with h1 h2
 injection h1 with h1
 rw [h1,hq]
 exact hK
end Go.Proofs.YtjgbidnebnggoaaGreatDoor
namespace Go.Proofs.YtjgbidnebnggoaaGreatDoor
open Go.RowKit Go.Maps
def cloF:Nat->Nat
 | 0=>26
 | 1=>28
 | 2=>31
 | 3=>33
 | 4=>35
 | 5=>37
 | 6=>39
 | 7=>41
 | 8=>43
 | 9=>45
 | 10=>47
 | 11=>49
 | 12=>51
 | 13=>52
 | 14=>54
 | 15=>56
 | 16=>58
 | 17=>60
 | 18=>62
 | 19=>64
 | 20=>66
 | 21=>68
 | 22=>70
 | 23=>73
 | 24=>75
 | 25=>77
 | 26=>79
 | _=>80
def cloA (b g:Nat)(i:Nat):Array Value:=if i=12\/26<=i then #[.pointer (some ⟨g,0,none⟩)] else #[.pointer (some ⟨b,0,none⟩)]
def cloV (b g:Nat)(i:Nat):Value:=if i=12\/26<=i then .func (.func (cloF i)) #[.pointer (some ⟨g,0,none⟩)] #[] else .func (.func (cloF i)) #[] #[.pointer (some ⟨b,0,none⟩)]
def es28 (b g:Nat):List (Lit × Value):=(List.range 28).map fun i=>(.string (keyT.getD i []),cloV b g i)
theorem zpu (b g:Nat):(es28 b g).map (·.1)=keyT.map Lit.string:=rfl
theorem z3c (b g:Nat):((es28 b g).map (·.1)).Nodup:=by
 rw [zpu]
 exact List.pairwise_map.2 (keyT_nodup.imp fun h e=>h (by injection e))
theorem zj8 {k:Txt}{i:Nat}(h:fndK k=some i):i<28/\keyT.getD i []=k:=by
 unfold fndK at h
 obtain ⟨hl,hp,_⟩:=List.findIdx?_eq_some_iff_getElem.1 h
 refine ⟨hl,?_⟩
 rw [List.getD_eq_getElem?_getD,List.getElem?_eq_getElem hl]
 exact beq_iff_eq.1 hp
theorem z3d {k:Txt}{i:Nat}(h:fndK k=some i)(b g:Nat):has (putL (es28 b g)) (.string k)=true/\(putL (es28 b g)).atKey (.string k) (.held .nilFunc) = .held (cloV b g i):=by
 obtain ⟨hi,hk⟩:=zj8 h
 have hm:(Lit.string k,cloV b g i)∈es28 b g:=by
  unfold es28
  rw [List.mem_map]
  exact ⟨i,List.mem_range.2 hi,by rw [hk]⟩
 have:=z3a (k:=.string k) trivial (.held .nilFunc) (z3c b g) hm
 exact ⟨this.2,this.1⟩
theorem z3e {k:Txt}(h:fndK k=none)(b g:Nat):has (putL (es28 b g)) (.string k)=false/\(putL (es28 b g)).atKey (.string k) (.held .nilFunc) = .held .nilFunc:=by
 have hn:has (putL (es28 b g)) (.string k)=false:=by
  refine z29 fun e he hk=>?_
  have h2:e.1∈(es28 b g).map (·.1):=List.mem_map_of_mem he
  rw [zpu,List.mem_map] at h2
  obtain ⟨x,hx,hxe⟩:=h2
  rw [<- hk] at hxe
  injection hxe with hxe
  have h3:=List.findIdx?_eq_none_iff.1 h x hx
  rw [hxe] at h3
  simp at h3
 exact ⟨hn,atKey_of_not_has hn _⟩
theorem zpv (cmd:ByteArray)(t:Txt):((cmd++⟨#[32]⟩)++mkS t).data.toList=cmd.data.toList++[32]++t:=by simp [mkS]
theorem zha (cmd:ByteArray)(t:Txt):((cmd++⟨#[32]⟩)++mkS t).size=cmd.size+1+t.length:=by
 show ((cmd++⟨#[32]⟩)++mkS t).data.size=_
 simp [mkS]
 show cmd.size+(t.length+1)=_
 omega
theorem z3f (g gw off cap:Nat)(n:Int)(R:Value)(L:Nat)(cmd:ByteArray)(w:World)(hC:Con w g n R (.slice (some ⟨gw,off,none⟩) L cap) false)(hl:L<=1048577)(hcs:cmd.size<=1048576)(hP : ∀ V,Frm (zad g) w V->Pow V)
  (hfn:fndK (cmd.data.toList++[32]++itoL (L:Int))=none) :
  Calls Tryz.prog 20 #[.pointer (some ⟨g,0,none⟩),.string cmd] w fun e w'=>e = .returned (.string ⟨#[]⟩)/\Con w' g n R (.slice (some ⟨gw,off,none⟩) L cap) true/\Frm (zad g) w w':=by
 have HLK:=Zh (z3e hfn w.heap.size g)
 have hgl:=hC.1
 have HC0:=Zh hC
 have HPW:=Zh hP
 have HFT:=Zh (show Fits (L:Int) by unfold Fits;omega)
 have hitl:=(zce (L:Int) HFT.o)
 have HFI:=Zh (fun V (h:Pow V)=>zbt (L:Int) HFT.o V h)
 have HKS:=Zh (show ((cmd++⟨#[32]⟩)++mkS (itoL (L:Int))).size<=maxLen by rw [zha];unfold maxLen;omega)
 have HKC:=Zh (zpv cmd (itoL (L:Int)))
 have HBX:=Zh ((Below.refl w.heap.size w).alloc (Nat.le_refl _) (.cells #[.pointer (some ⟨g,0,none⟩)] 56))
 have HXB:=Zh (zam w (.pointer (some ⟨g,0,none⟩)) 56)
 have HG2:=Zh ((HC0.o.below HBX.o).2.2.2.1)
 have hL:=Lit28.made (w.alloc (.cells #[.pointer (some ⟨g,0,none⟩)] 56)) (w.heap.size+1) (by simp)
 have hx1:0=0:=rfl
 have hx2:0=0:=rfl
 have hmm:=@run_makeMap Tryz.prog
 have hkz:=zha cmd (itoL (L:Int))
 have hmz:(mkS (itoL (L:Int))).size=(itoL (L:Int)).length:=zbl _
 have hks : ¬ 9223372036854775807<cmd.size+1:=by omega
 have hks2 : ¬ 9223372036854775807<cmd.size+1+(mkS (itoL (L:Int))).size:=by omega
 clear hC hP hfn hkz hmz
 generalize itoL (L:Int)=tl at *
 go_enter Tryz.func20,Tryz.ntmps20
 go_wp2_with (refine zpt rfl _ _ _ rfl (w.alloc (.cells #[.pointer (some ⟨g,0,none⟩)] 56)) (w.heap.size+1) _ _ rfl hL (by decide) _ (by decide) _ rfl rfl w.heap.size _ (by omega) HXB.o g _ (by omega) HG2.o ?_;clear hL hx1 hx2;intro w1 hL hx1 hx2)
 have HL1:=Zh (show Lit28 (w.alloc (.cells #[.pointer (some ⟨g,0,none⟩)] 56)) w1 (w.heap.size+1) 28 (es28 w.heap.size g) from hL.cast rfl (by kernel_rfl))
 have HBW:=Zh (HBX.o.trans (HL1.o.2.1.mono (Nat.le_succ _)))
 refine (HFI.o w1 (HPW.o _ (Frm.pure HBW.o _))).mono ?_
 rintro e w2 ⟨rfl,hb2⟩
 have HL2:=Zh (HL1.o.below hb2)
 have HB1:=Zh (HBW.o.trans (hb2.mono HBW.o.size))
 have HC1:=Zh (HC0.o.below HB1.o)
 have HF1:=Zh (Frm.pure HB1.o (zad g))
 have hx3:=(HL2.o.2.1.cell (p:=⟨w.heap.size,0,none⟩) (Nat.lt_succ_self _)).trans HXB.o
 obtain ⟨c0,c1,c2,c3,c4,c5,c6,c7,c8⟩:=HC1.o
 clear hL hx1 hx2 hb2 HL1 HBW HFI HXB HG2 HBX
 have HSB:=Zh (HC1.o.setBad true)
 go_wp2_with (refine za0 rfl _ _ rfl (w.alloc (.cells #[.pointer (some ⟨g,0,none⟩)] 56)) (w.heap.size+1) _ _ rfl HL2.o _ HKS.o rfl .nilFunc false (by rw [HKC.o];exact HLK.o.1) (by rw [HKC.o];exact HLK.o.2) ?_)
 go_ret
 exact ⟨rfl,HSB.o,HF1.o.setCell (p:=⟨g,3,none⟩) (show zad g g from rfl) _⟩
end Go.Proofs.YtjgbidnebnggoaaGreatDoor
namespace Go.Proofs.YtjgbidnebnggoaaGreatDoor
open Go.RowKit
theorem zpw {k n:Int}{N:Nat}{bs:List Int}(h:evrV k n=some (N,bs)):RhOk N bs:=by
 unfold evrV at h
 cases hc:(inB n 1 24 && inB k 0 n) with
 | false=>rw [hc] at h;cases h
 | true =>
  rw [hc] at h
  injection h with h
  injection h with h1 h2
  subst h1 h2
  rw [Bool.and_eq_true] at hc
  have i1:=zav.1 hc.1
  have i2:=zav.1 hc.2
  exact zd6 (by omega) (by omega) (by omega)
theorem zpx {n k g:Int}{N:Nat}{bs:List Int}(h:genV n k g=some (N,bs)):RhOk N bs:=by
 unfold genV at h
 cases hc:(inB n 1 24 && inB k 0 n && inB g 1 n) with
 | false=>rw [hc] at h;cases h
 | true =>
  rw [hc,if_pos rfl] at h
  by_cases hl:(gnrL n.toNat k.toNat g.toNat).length<k.toNat
  ·rw [if_pos hl] at h;cases h
  ·rw [if_neg hl] at h
   injection h with h
   injection h with h1 h2
   subst h1 h2
   rw [Bool.and_eq_true,Bool.and_eq_true] at hc
   have i1:=zav.1 hc.1.1
   unfold gnrL
   rw [zj5 (by omega)]
   exact zf4 _ (by omega) (by omega)
theorem zpy {M:Nat}{xs:List Int}{k:Int}{N:Nat}{bs:List Int}(hok:RhOk M xs)(h:rotV M xs k=some (N,bs)):RhOk N bs:=by
 unfold rotV at h
 cases hc:inB k (-1000) 1000 with
 | false=>rw [hc] at h;cases h
 | true =>
  rw [hc] at h
  injection h with h
  injection h with h1 h2
  subst h1 h2
  exact (zar hok k).1
theorem zpz {k m:Int}{N:Nat}{bs:List Int}(h:polV k m=some (N,bs)):RhOk N bs:=by
 unfold polV at h
 by_cases h0:comV k m=0
 ·rw [if_pos h0] at h;cases h
 ·rw [if_neg h0] at h
  obtain ⟨K,M,U,V,rfl,rfl,hK,hM,hU,hV,eK,eM,h24,dK,dM⟩:=zpq h0
  injection h with h
  injection h with h1 h2
  subst h1 h2
  exact z2z (by omega) h24
theorem zp0 {xs:List Int}{N:Nat}{bs:List Int}(h:brhV xs=some (N,bs)):RhOk N bs:=by
 unfold brhV frsV at h
 cases hb:barB xs with
 | false=>rw [hb] at h;cases h
 | true =>
  rw [hb,if_pos rfl] at h
  cases hr:rhB (sumX xs xs.length) (psL xs xs.length) with
  | false=>rw [hr] at h;cases h
  | true =>
   rw [hr,if_pos rfl] at h
   injection h with h
   injection h with h1 h2
   subst h1 h2
   have hk:=zao.1 hr
   have h0:=hk.1
   rw [show ((sumX xs xs.length).toNat:Int)=sumX xs xs.length from Int.toNat_of_nonneg (by omega)]
   exact hk
theorem zp1 {u:ByteArray}{N:Nat}{bs:List Int}(h:btsV u=some (N,bs)):RhOk N bs:=by
 unfold btsV at h
 cases hb:prhB u with
 | false=>rw [hb] at h;cases h
 | true =>
  rw [hb,if_pos rfl] at h
  injection h with h
  injection h with h1 h2
  have hp:prhB u=true:=hb
  unfold prhB at hb
  rw [Bool.and_eq_true,decide_eq_true_eq] at hb
  rw [show prhN u=u.size by unfold prhN;rw [hp];rfl] at h1
  rw [show prhL u=posX u u.size by unfold prhL;rw [hp];rfl] at h2
  subst h2
  have h1:N=u.size:=by rw [<- h1];rfl
  subst h1
  have hs:(posX u u.size).Pairwise (fun a b=>a<b):=by
   unfold posX
   rw [List.pairwise_map]
   refine List.Pairwise.filter _ ?_
   exact List.pairwise_lt_range.imp fun h=>Int.ofNat_lt.2 h
  refine ⟨by omega,by omega,fun i hi=>?_,fun i hi=>?_⟩
  ·have hm:(posX u u.size).getD i 0∈posX u u.size:=by rw [List.getD_eq_getElem?_getD,List.getElem?_eq_getElem hi];exact List.getElem_mem hi
   generalize (posX u u.size).getD i 0=y at hm ⊢
   unfold posX at hm
   obtain ⟨t,ht,rfl⟩:=List.mem_map.1 hm
   have:=List.mem_range.1 (List.mem_filter.1 ht).1
   show (0:Int)<=(t:Int)/\(t:Int)<_
   omega
  ·have:=List.pairwise_iff_getElem.1 hs i (i+1) (by omega) hi (by omega)
   rw [List.getD_eq_getElem?_getD,List.getD_eq_getElem?_getD,List.getElem?_eq_getElem hi,List.getElem?_eq_getElem (by omega:i<_)]
   exact this
theorem zp2 {M:Nat}{xs:List Int}{N:Nat}{bs:List Int}(hok:RhOk M xs)(h:parO M xs=some (N,bs)):RhOk N bs:=by
 unfold parO at h
 cases hp:parV M xs with
 | none=>rw [hp] at h;cases h
 | some y =>
  rw [hp] at h
  injection h with h
  injection h with h1 h2
  subst h1 h2
  exact znu hok hp
theorem zp3 (p:Int->Bool) : ∀ (f:Nat) (h:Int),0<=h->0<=zc5 p f h/\zc5 p f h<=h+f
 | 0,h,h0=>⟨Int.le_refl _,by show (0:Int)<=_;omega⟩
 | f+1,h,h0=>by
  unfold zc5
  split
  ·omega
  ·have:=zp3 p f (h+1) (by omega)
   omega
theorem z3g (n:Int)(bs:List Int)(gap:Int):Fits (za4 n bs gap):=by
 have:=zp3 (fun h=>zbe n bs h gap) 24 1 (by omega)
 unfold za4 Fits
 omega
theorem z3h {N:Nat}{bs:List Int}(hok:RhOk N bs)(k:Int):Fits (cntW N bs k):=by
 have h2:=hok.2.1
 by_cases h:rhB N bs=true/\inB k 0 48=true
 ·have:=zhs (N:Int) bs k.toNat (N:Int).toNat
  rw [zjj h.1 h.2]
  unfold Fits
  omega
 ·rw [zjk h];unfold Fits;omega
theorem z3i (n k:Int):Fits (nklV n k):=by
 unfold nklV
 cases hc:(inB n 1 24 && inB k 0 n) with
 | false=>show Fits (-1);unfold Fits;omega
 | true =>
  rw [if_pos rfl]
  rw [Bool.and_eq_true] at hc
  have i1:=zav.1 hc.1
  have i2:=zav.1 hc.2
  have h1:=zi4 n.toNat k.toNat (by omega) (by omega) n.toNat (Nat.le_refl _)
  have h2:n.toNat*2704156<=24*2704156:=Nat.mul_le_mul_right _ (by omega)
  have h3:=Nat.div_le_self (nkS n.toNat k.toNat n.toNat) n.toNat
  generalize nkS n.toNat k.toNat n.toNat / n.toNat=z at *
  unfold Fits
  omega
theorem z3j (xs:List Int):Fits (twoV xs):=by
 have:=zpm xs 40 1 (by decide)
 unfold twoV Fits
 omega
def arT (i:Nat):Nat:=[1,2,3,1,0,0,1,1,1,0,1,2,1,0,0,0,0,0,0,1,1,0,1,1,1,2,1,2].getD i 0
def zj9 (l:List UInt8):List UInt8:=(l.reverse.takeWhile (fun c=>c != 32)).reverse
theorem z3k (x y:List UInt8)(h : ∀ c∈x,c≠32):(x++32::y).takeWhile (fun c=>c != 32)=x:=by
 induction x with
 | nil=>rfl
 | cons c r ih =>
  have h1:=h c (List.mem_cons_self ..)
  rw [List.cons_append,List.takeWhile_cons,if_pos (by simpa using h1),ih (fun d hd=>h d (List.mem_cons_of_mem _ hd))]
theorem z3l (a x:List UInt8)(h : ∀ c∈x,c≠32):zj9 (a++[32]++x)=x:=by
 unfold zj9
 rw [List.reverse_append,List.reverse_append]
 show ((x.reverse++([32]++a.reverse)).takeWhile _).reverse=x
 rw [show ([32]++a.reverse:List UInt8)=32::a.reverse from rfl,z3k _ _ (fun c hc=>h c (List.mem_reverse.1 hc)),List.reverse_reverse]
theorem z3m : ∀ i:Fin 28,zj9 (keyT.getD i.val [])=[UInt8.ofNat (48+arT i.val)]:=by decide
theorem z3n : ∀ i:Fin 28,arT i.val<=3:=by decide
theorem z3o (i:Fin 28):itoL (arT i.val:Int)=[UInt8.ofNat (48+arT i.val)]:=by
 have:=z3n i
 rw [zcv,Lib.decDigits_one (by omega)]
theorem z3p {a:Txt}{L i:Nat}(hL:L<=1048577)(h:fndK (a++[32]++itoL (L:Int))=some i):i<28/\L=arT i:=by
 obtain ⟨hi,hk⟩:=zj8 h
 refine ⟨hi,?_⟩
 have h1:=z3l a (itoL (L:Int)) (fun c hc=>zr1 (L:Int) 32 (by decide) (by decide) c hc)
 rw [<- hk,z3m ⟨i,hi⟩,<- z3o ⟨i,hi⟩] at h1
 have h2:=zhn (L:Int) (by unfold Fits;omega)
 have h3:arT i<=3:=by
  have : ∀ j:Fin 28,arT j.val<=3:=by decide
  exact this ⟨i,hi⟩
 have h4:=zhn (arT i:Int) (by unfold Fits;omega)
 have h1':itoL (arT i:Int)=itoL (L:Int):=h1
 rw [h1',h2] at h4
 injection h4 with h4
 omega
end Go.Proofs.YtjgbidnebnggoaaGreatDoor
namespace Go.Proofs.YtjgbidnebnggoaaGreatDoor
open Go.RowKit
def decK:Nat->Nat->List UInt8
 | 0,_=>[]
 | f+1,u=>if u<10 then [UInt8.ofNat (48+u)] else decK f (u / 10)++[UInt8.ofNat (48+u % 10)]
theorem zka : ∀ f u,u<f->decK f u=Lib.decDigits u
 | 0,u,h=>by omega
 | f+1,u,h=>by
  rw [Lib.decDigits]
  show (if u<10 then _ else _)=_
  by_cases h1:u<10
  ·rw [if_pos h1,dif_pos h1]
  ·rw [if_neg h1,dif_neg h1,zka f (u / 10) (by omega)]
def itoK (n:Int):List UInt8:=if n<0 then 45::decK (n.natAbs+1) n.natAbs else decK (n.toNat+1) n.toNat
theorem za5:itoL=itoK:=by
 funext n
 unfold itoL Lib.itoa itoK
 by_cases h:n<0
 ·rw [if_pos h,if_pos h,zka _ _ (Nat.lt_succ_self _)]
 ·rw [if_neg h,if_neg h,zka _ _ (Nat.lt_succ_self _)]
theorem z3q:zan=fun xs=>szsN xs xs.length:=funext fun xs=>(ztt xs).symm
theorem za1 {N:Nat}{bs:List Int}{line:ByteArray}{ws:List ByteArray}{i:Nat}{r:CmdR}(h0:line.data.toList≠[])(h1:line.data.toList.headD 0≠35)(hw:splT 32 line=ws)(hk:fndK ((ws.getD 0 ⟨#[]⟩).data.toList++[32]++itoK ((ws.length-1:Nat):Int))=some i)(hr:cmdV N bs (ws.drop 1) i=r)(hb:r.1=false) :
  zaa N bs line=(r.2.2.getD (N,bs),r.2.1):=by
 unfold zaa
 rw [if_neg (fun h=>by rcases h with h | h;exact h0 h;exact h1 h),hw]
 have hk2:fndK (keyV ws)=some i:=by unfold keyV;rw [za5];exact hk
 rw [hk2]
 show (if (cmdV N bs (ws.drop 1) i).1=true then _ else _)=_
 rw [hr,hb]
 rfl
theorem z3r {N:Nat}{bs:List Int}{line:ByteArray}{ws:List ByteArray}(h0:line.data.toList≠[])(h1:line.data.toList.headD 0≠35)(hw:splT 32 line=ws)(hk:fndK ((ws.getD 0 ⟨#[]⟩).data.toList++[32]++itoK ((ws.length-1:Nat):Int))=none) :
  zaa N bs line=((N,bs),unkS):=by
 unfold zaa
 rw [if_neg (fun h=>by rcases h with h | h;exact h0 h;exact h1 h),hw]
 have hk2:fndK (keyV ws)=none:=by unfold keyV;rw [za5];exact hk
 rw [hk2]
def rhK (n:Int)(bs:List Int):Bool:=decide (1<=n) && decide (n<=24) && (List.range bs.length).all (fun i=>decide (0<=bs.getD i 0) && decide (bs.getD i 0<n) && (decide (bs.length<=i+1) || decide (bs.getD i 0<bs.getD (i+1) 0)))
theorem zc8 {n:Int}{bs:List Int}(h:rhK n bs=true):RhOk n bs:=by
 unfold rhK at h
 rw [Bool.and_eq_true,Bool.and_eq_true,decide_eq_true_eq,decide_eq_true_eq,List.all_eq_true] at h
 refine ⟨h.1.1,h.1.2,fun i hi=>?_,fun i hi=>?_⟩
 ·have:=h.2 i (List.mem_range.2 hi)
  rw [Bool.and_eq_true,Bool.and_eq_true,decide_eq_true_eq,decide_eq_true_eq] at this
  exact this.1
 ·have:=h.2 i (List.mem_range.2 (by omega))
  rw [Bool.and_eq_true,Bool.or_eq_true,decide_eq_true_eq,decide_eq_true_eq] at this
  rcases this.2 with h9 | h9
  ·omega
  ·exact h9
theorem zb2:zae=fun s=>match Lib.atoiAll s.data.toList with | .ok v=>if itoK v=s.data.toList then some v else none | _=>none:=by
 funext s
 unfold zae
 rw [za5]
 cases Lib.atoiAll s.data.toList <;> rfl
end Go.Proofs.YtjgbidnebnggoaaGreatDoor
namespace Go.Proofs.YtjgbidnebnggoaaGreatDoor
open Go.RowKit
set_option maxRecDepth 100000
theorem zc9 {bad:Bool}{o:Option (Nat × List Int)}{p:Nat × List Int}{t:Txt}(h:o=some p)(ht:zaq p.1 p.2 (fun _=>120)=t):becR bad o=(bad,mkS t,some p):=by
 subst h;subst ht;rfl
theorem zbs {us:List ByteArray}{j:Nat}{u:ByteArray}{v:Int}(hu:us.getD j ⟨#[]⟩=u)(h:zae u=some v):zaf us j=some v:=by
 unfold zaf;rw [hu];exact h
theorem zfr {us:List ByteArray}{j:Nat}{u:ByteArray}{v:List Int}(hu:us.getD j ⟨#[]⟩=u)(h:zal u=some v):zbb us j=some v:=by
 unfold zbb;rw [hu];exact h
theorem zp4 : ∀ (us:List ByteArray) (vs acc:List Int),us.map zae=vs.map some->acc.length+vs.length<=64->numF us acc=some (acc++vs)
 | [],vs,acc,h,_=>by
  have:vs=[]:=by cases vs with | nil=>rfl | cons _ _=>cases h
  subst this
  rw [List.append_nil];rfl
 | u::us,vs,acc,h,hl=>by
  cases vs with
  | nil=>cases h
  | cons v vs =>
   rw [List.map_cons,List.map_cons] at h
   injection h with h1 h2
   rw [List.length_cons] at hl
   unfold numF
   rw [h1]
   show (if acc.length=64 then none else numF us (acc++[v]))=_
   rw [if_neg (by omega),zp4 us vs (acc++[v]) h2 (by simp;omega),List.append_assoc];rfl
theorem zhb {u:ByteArray}{us:List ByteArray}{vs:List Int}(h0:u.data.toList≠[45])(hs:splT 44 u=us)(h:us.map zae=vs.map some)(hl:vs.length<=64):zal u=some vs:=by
 rw [zkq h0,hs,zp4 us vs [] h (by simpa using hl)];rfl
theorem pi_2:zae (⟨#[50]⟩:ByteArray)=some 2:=by
 rw [zb2];decide +kernel
theorem pi_3:zae (⟨#[51]⟩:ByteArray)=some 3:=by
 rw [zb2];decide +kernel
theorem pi_4:zae (⟨#[52]⟩:ByteArray)=some 4:=by
 rw [zb2];decide +kernel
theorem pi_5:zae (⟨#[53]⟩:ByteArray)=some 5:=by
 rw [zb2];decide +kernel
theorem pi_6:zae (⟨#[54]⟩:ByteArray)=some 6:=by
 rw [zb2];decide +kernel
theorem pi_7:zae (⟨#[55]⟩:ByteArray)=some 7:=by
 rw [zb2];decide +kernel
theorem pi_8:zae (⟨#[56]⟩:ByteArray)=some 8:=by
 rw [zb2];decide +kernel
theorem pi_9:zae (⟨#[57]⟩:ByteArray)=some 9:=by
 rw [zb2];decide +kernel
theorem z3s:zae (⟨#[49,48]⟩:ByteArray)=some 10:=by
 rw [zb2];decide +kernel
theorem zp5:zae (⟨#[49,50]⟩:ByteArray)=some 12:=by
 rw [zb2];decide +kernel
theorem nu_a:zal (⟨#[48,44,50]⟩:ByteArray)=some [0,2]:=zhb (us:=[(⟨#[48]⟩:ByteArray),(⟨#[50]⟩:ByteArray)]) (by decide) (by decide +kernel) (by rw [zb2];decide +kernel) (by decide)
theorem nu_b:zal (⟨#[48,44,49,44,51]⟩:ByteArray)=some [0,1,3]:=zhb (us:=[(⟨#[48]⟩:ByteArray),(⟨#[49]⟩:ByteArray),(⟨#[51]⟩:ByteArray)]) (by decide) (by decide +kernel) (by rw [zb2];decide +kernel) (by decide)
theorem nu_c:zal (⟨#[48,44,49,44,52]⟩:ByteArray)=some [0,1,4]:=zhb (us:=[(⟨#[48]⟩:ByteArray),(⟨#[49]⟩:ByteArray),(⟨#[52]⟩:ByteArray)]) (by decide) (by decide +kernel) (by rw [zb2];decide +kernel) (by decide)
theorem nu_d:zal (⟨#[51,44,49,53,44,50,54]⟩:ByteArray)=some [3,15,26]:=zhb (us:=[(⟨#[51]⟩:ByteArray),(⟨#[49,53]⟩:ByteArray),(⟨#[50,54]⟩:ByteArray)]) (by decide) (by decide +kernel) (by rw [zb2];decide +kernel) (by decide)
theorem z3t:cmdV 8 [0,3,6] [] 13=(false,mkS [120,46,46,120,46,46,120,46],none):=by
 show (false,mkS (zaq 8 [0,3,6] (fun _=>120)),none)=_
 have e:zaq 8 [0,3,6] (fun _=>120)=[120,46,46,120,46,46,120,46]:=by decide +kernel
 rw [e]
theorem zp6:zaa 8 [0,3,6] (⟨#[115,104,111,119]⟩:ByteArray)=((8,[0,3,6]),mkS [120,46,46,120,46,46,120,46]) :=
 za1 (ws:=[(⟨#[115,104,111,119]⟩:ByteArray)]) (by decide) (by decide) (by decide +kernel) (by decide +kernel) z3t rfl
theorem z3u:cmdV 8 [0,3,6] [] 14=(false,mkS [120,46,46,120,46,46,120,46,32,115,116,101,112,115,32,51,43,51,43,50,32,112,101,114,105,111,100,32,56,32,118,101,99,116,111,114,32,48,44,49,44,50,44,48],none):=by
 have hs:zaj ((8:Nat):Int) [0,3,6]=zai ((8:Nat):Int) [0,3,6]:=zck (zao.2 (zc8 (by decide +kernel)))
 have e:linL 8 [0,3,6]=[120,46,46,120,46,46,120,46,32,115,116,101,112,115,32,51,43,51,43,50,32,112,101,114,105,111,100,32,56,32,118,101,99,116,111,114,32,48,44,49,44,50,44,48]:=by
  unfold linL stpL stpV zax
  rw [za5,hs]
  decide +kernel
 show (false,mkS (linL 8 [0,3,6]),none)=_
 rw [e]
theorem zp7:zaa 8 [0,3,6] (⟨#[108,105,110,101]⟩:ByteArray)=((8,[0,3,6]),mkS [120,46,46,120,46,46,120,46,32,115,116,101,112,115,32,51,43,51,43,50,32,112,101,114,105,111,100,32,56,32,118,101,99,116,111,114,32,48,44,49,44,50,44,48]) :=
 za1 (ws:=[(⟨#[108,105,110,101]⟩:ByteArray)]) (by decide) (by decide) (by decide +kernel) (by decide +kernel) z3u rfl
theorem z3v:cmdV 8 [0,3,6] [] 15=(false,mkS [101,118,101,110,32,110,101,97,114,101,115,116,32,120,46,46,120,46,46,120,46,32,109,111,118,101,115,32,48],none):=by
 have h:evT=fun S k=>decide ((szsN (spnS S k S.length) (spnS S k S.length).length).getD ((szsN (spnS S k S.length) (spnS S k S.length).length).length-1) 0-(szsN (spnS S k S.length) (spnS S k S.length).length).getD 0 0<=1):=by
  funext S k;unfold evT;rw [z3q]
 have e:evlL 8 [0,3,6]=[101,118,101,110,32,110,101,97,114,101,115,116,32,120,46,46,120,46,46,120,46,32,109,111,118,101,115,32,48]:=by
  unfold evlL evnB
  rw [za5,h]
  decide +kernel
 show (false,mkS (evlL 8 [0,3,6]),none)=_
 rw [e]
theorem zp8:zaa 8 [0,3,6] (⟨#[101,118,101,110]⟩:ByteArray)=((8,[0,3,6]),mkS [101,118,101,110,32,110,101,97,114,101,115,116,32,120,46,46,120,46,46,120,46,32,109,111,118,101,115,32,48]) :=
 za1 (ws:=[(⟨#[101,118,101,110]⟩:ByteArray)]) (by decide) (by decide) (by decide +kernel) (by decide +kernel) z3v rfl
theorem z3w:cmdV 8 [0,3,6] [] 17=(false,mkS [50,42,52,32,49],none):=by
 have e:metV ((8:Nat):Int) [0,3,6]=[50,42,52,32,49]:=by
  rw [zn7 (zc8 (by decide +kernel))]
  unfold fmtM
  rw [za5]
  decide +kernel
 show (false,mkS (metV ((8:Nat):Int) [0,3,6]),none)=_
 rw [e]
theorem zp9:zaa 8 [0,3,6] (⟨#[109,101,116,101,114]⟩:ByteArray)=((8,[0,3,6]),mkS [50,42,52,32,49]) :=
 za1 (ws:=[(⟨#[109,101,116,101,114]⟩:ByteArray)]) (by decide) (by decide) (by decide +kernel) (by decide +kernel) z3w rfl
theorem z3x:cmdV 8 [0,3,6] [] 18=(false,mkS [120,46,120,46,46,120,46,46,32,111,114,98,105,116,32,56,32,99,108,97,115,115,32,120,120,120,46,46,46,46,46],none):=by
 have e:cllL 8 [0,3,6]=[120,46,120,46,46,120,46,46,32,111,114,98,105,116,32,56,32,99,108,97,115,115,32,120,120,120,46,46,46,46,46]:=by
  unfold cllL
  rw [za5]
  decide +kernel
 show (false,mkS (cllL 8 [0,3,6]),none)=_
 rw [e]
theorem zqa:zaa 8 [0,3,6] (⟨#[99,108,97,115,115]⟩:ByteArray)=((8,[0,3,6]),mkS [120,46,120,46,46,120,46,46,32,111,114,98,105,116,32,56,32,99,108,97,115,115,32,120,120,120,46,46,46,46,46]) :=
 za1 (ws:=[(⟨#[99,108,97,115,115]⟩:ByteArray)]) (by decide) (by decide) (by decide +kernel) (by decide +kernel) z3x rfl
theorem z3y:cmdV 8 [0,3,6] [(⟨#[50]⟩:ByteArray)] 19=(false,mkS [49],none):=by
 have hs:zaj ((8:Nat):Int) [0,3,6]=zai ((8:Nat):Int) [0,3,6]:=zck (zao.2 (zc8 (by decide +kernel)))
 have hp:(fun h=>zbe ((8:Nat):Int) [0,3,6] h 2)=fun h=>decide ((1:Int)<=2) && decide ((2:Int)<=if (zai ((8:Nat):Int) [0,3,6]).length=0 \/ ¬ (1<=h/\h<=24) then 0 else lm (zai ((8:Nat):Int) [0,3,6]) h.toNat (zai ((8:Nat):Int) [0,3,6]).length):=by
  funext h;unfold zbe zb7;rw [hs]
 have e:itoL (za4 ((8:Nat):Int) [0,3,6] 2)=[49]:=by
  unfold za4
  rw [za5,hp]
  decide +kernel
 show (!(zaf _ 0).isSome,mkS (itoL (za4 ((8:Nat):Int) [0,3,6] ((zaf _ 0).getD 0))),none)=_
 rw [zbs (u:=(⟨#[50]⟩:ByteArray)) rfl pi_2]
 show (false,mkS (itoL (za4 ((8:Nat):Int) [0,3,6] 2)),none)=_
 rw [e]
theorem z3z:zaa 8 [0,3,6] (⟨#[104,97,110,100,115,32,50]⟩:ByteArray)=((8,[0,3,6]),mkS [49]) :=
 za1 (ws:=[(⟨#[104,97,110,100,115]⟩:ByteArray),(⟨#[50]⟩:ByteArray)]) (by decide) (by decide) (by decide +kernel) (by decide +kernel) z3y rfl
theorem z30:cmdV 8 [0,3,6] [(⟨#[51]⟩:ByteArray)] 19=(false,mkS [50],none):=by
 have hs:zaj ((8:Nat):Int) [0,3,6]=zai ((8:Nat):Int) [0,3,6]:=zck (zao.2 (zc8 (by decide +kernel)))
 have hp:(fun h=>zbe ((8:Nat):Int) [0,3,6] h 3)=fun h=>decide ((1:Int)<=3) && decide ((3:Int)<=if (zai ((8:Nat):Int) [0,3,6]).length=0 \/ ¬ (1<=h/\h<=24) then 0 else lm (zai ((8:Nat):Int) [0,3,6]) h.toNat (zai ((8:Nat):Int) [0,3,6]).length):=by
  funext h;unfold zbe zb7;rw [hs]
 have e:itoL (za4 ((8:Nat):Int) [0,3,6] 3)=[50]:=by
  unfold za4
  rw [za5,hp]
  decide +kernel
 show (!(zaf _ 0).isSome,mkS (itoL (za4 ((8:Nat):Int) [0,3,6] ((zaf _ 0).getD 0))),none)=_
 rw [zbs (u:=(⟨#[51]⟩:ByteArray)) rfl pi_3]
 show (false,mkS (itoL (za4 ((8:Nat):Int) [0,3,6] 3)),none)=_
 rw [e]
theorem z32:zaa 8 [0,3,6] (⟨#[104,97,110,100,115,32,51]⟩:ByteArray)=((8,[0,3,6]),mkS [50]) :=
 za1 (ws:=[(⟨#[104,97,110,100,115]⟩:ByteArray),(⟨#[51]⟩:ByteArray)]) (by decide) (by decide) (by decide +kernel) (by decide +kernel) z30 rfl
theorem z33:cmdV 8 [0,3,6] [(⟨#[52]⟩:ByteArray)] 19=(false,mkS [50],none):=by
 have hs:zaj ((8:Nat):Int) [0,3,6]=zai ((8:Nat):Int) [0,3,6]:=zck (zao.2 (zc8 (by decide +kernel)))
 have hp:(fun h=>zbe ((8:Nat):Int) [0,3,6] h 4)=fun h=>decide ((1:Int)<=4) && decide ((4:Int)<=if (zai ((8:Nat):Int) [0,3,6]).length=0 \/ ¬ (1<=h/\h<=24) then 0 else lm (zai ((8:Nat):Int) [0,3,6]) h.toNat (zai ((8:Nat):Int) [0,3,6]).length):=by
  funext h;unfold zbe zb7;rw [hs]
 have e:itoL (za4 ((8:Nat):Int) [0,3,6] 4)=[50]:=by
  unfold za4
  rw [za5,hp]
  decide +kernel
 show (!(zaf _ 0).isSome,mkS (itoL (za4 ((8:Nat):Int) [0,3,6] ((zaf _ 0).getD 0))),none)=_
 rw [zbs (u:=(⟨#[52]⟩:ByteArray)) rfl pi_4]
 show (false,mkS (itoL (za4 ((8:Nat):Int) [0,3,6] 4)),none)=_
 rw [e]
theorem z34:zaa 8 [0,3,6] (⟨#[104,97,110,100,115,32,52]⟩:ByteArray)=((8,[0,3,6]),mkS [50]) :=
 za1 (ws:=[(⟨#[104,97,110,100,115]⟩:ByteArray),(⟨#[52]⟩:ByteArray)]) (by decide) (by decide) (by decide +kernel) (by decide +kernel) z33 rfl
theorem z35:cmdV 8 [0,3,6] [(⟨#[54]⟩:ByteArray)] 19=(false,mkS [51],none):=by
 have hs:zaj ((8:Nat):Int) [0,3,6]=zai ((8:Nat):Int) [0,3,6]:=zck (zao.2 (zc8 (by decide +kernel)))
 have hp:(fun h=>zbe ((8:Nat):Int) [0,3,6] h 6)=fun h=>decide ((1:Int)<=6) && decide ((6:Int)<=if (zai ((8:Nat):Int) [0,3,6]).length=0 \/ ¬ (1<=h/\h<=24) then 0 else lm (zai ((8:Nat):Int) [0,3,6]) h.toNat (zai ((8:Nat):Int) [0,3,6]).length):=by
  funext h;unfold zbe zb7;rw [hs]
 have e:itoL (za4 ((8:Nat):Int) [0,3,6] 6)=[51]:=by
  unfold za4
  rw [za5,hp]
  decide +kernel
 show (!(zaf _ 0).isSome,mkS (itoL (za4 ((8:Nat):Int) [0,3,6] ((zaf _ 0).getD 0))),none)=_
 rw [zbs (u:=(⟨#[54]⟩:ByteArray)) rfl pi_6]
 show (false,mkS (itoL (za4 ((8:Nat):Int) [0,3,6] 6)),none)=_
 rw [e]
theorem z36:zaa 8 [0,3,6] (⟨#[104,97,110,100,115,32,54]⟩:ByteArray)=((8,[0,3,6]),mkS [51]) :=
 za1 (ws:=[(⟨#[104,97,110,100,115]⟩:ByteArray),(⟨#[54]⟩:ByteArray)]) (by decide) (by decide) (by decide +kernel) (by decide +kernel) z35 rfl
theorem z38:cmdV 8 [0,3,6] [(⟨#[57]⟩:ByteArray)] 19=(false,mkS [52],none):=by
 have hs:zaj ((8:Nat):Int) [0,3,6]=zai ((8:Nat):Int) [0,3,6]:=zck (zao.2 (zc8 (by decide +kernel)))
 have hp:(fun h=>zbe ((8:Nat):Int) [0,3,6] h 9)=fun h=>decide ((1:Int)<=9) && decide ((9:Int)<=if (zai ((8:Nat):Int) [0,3,6]).length=0 \/ ¬ (1<=h/\h<=24) then 0 else lm (zai ((8:Nat):Int) [0,3,6]) h.toNat (zai ((8:Nat):Int) [0,3,6]).length):=by
  funext h;unfold zbe zb7;rw [hs]
 have e:itoL (za4 ((8:Nat):Int) [0,3,6] 9)=[52]:=by
  unfold za4
  rw [za5,hp]
  decide +kernel
 show (!(zaf _ 0).isSome,mkS (itoL (za4 ((8:Nat):Int) [0,3,6] ((zaf _ 0).getD 0))),none)=_
 rw [zbs (u:=(⟨#[57]⟩:ByteArray)) rfl pi_9]
 show (false,mkS (itoL (za4 ((8:Nat):Int) [0,3,6] 9)),none)=_
 rw [e]
theorem z39:zaa 8 [0,3,6] (⟨#[104,97,110,100,115,32,57]⟩:ByteArray)=((8,[0,3,6]),mkS [52]) :=
 za1 (ws:=[(⟨#[104,97,110,100,115]⟩:ByteArray),(⟨#[57]⟩:ByteArray)]) (by decide) (by decide) (by decide +kernel) (by decide +kernel) z38 rfl
theorem z4a:cmdV 8 [0,3,6] [(⟨#[50]⟩:ByteArray)] 3=(false,mkS [120,46,120,46,46,120,46,46],some (8,[0,2,5])):=by
 show becR (!(zaf _ 0).isSome) (rotV 8 [0,3,6] ((zaf _ 0).getD 0))=_
 rw [zbs (u:=(⟨#[50]⟩:ByteArray)) rfl pi_2]
 exact zc9 (p:=(8,[0,2,5])) (by decide +kernel) (by decide +kernel)
theorem zqb:zaa 8 [0,3,6] (⟨#[116,117,114,110,32,50]⟩:ByteArray)=((8,[0,2,5]),mkS [120,46,120,46,46,120,46,46]) :=
 za1 (ws:=[(⟨#[116,117,114,110]⟩:ByteArray),(⟨#[50]⟩:ByteArray)]) (by decide) (by decide) (by decide +kernel) (by decide +kernel) z4a rfl
theorem z4b:cmdV 8 [0,2,5] [] 4=(false,mkS [120,46,46,120,46,46,120,46],some (8,[0,3,6])):=by
 show becR false (some (8,mirV 8 [0,2,5]))=_
 exact zc9 (p:=(8,[0,3,6])) (by decide +kernel) (by decide +kernel)
theorem zqc:zaa 8 [0,2,5] (⟨#[109,105,114,114,111,114]⟩:ByteArray)=((8,[0,3,6]),mkS [120,46,46,120,46,46,120,46]) :=
 za1 (ws:=[(⟨#[109,105,114,114,111,114]⟩:ByteArray)]) (by decide) (by decide) (by decide +kernel) (by decide +kernel) z4b rfl
theorem z4c:cmdV 8 [0,3,6] [] 5=(false,mkS [46,120,120,46,120,120,46,120],some (8,[1,2,4,5,7])):=by
 show becR false (some (8,othL 8 [0,3,6] 8))=_
 exact zc9 (p:=(8,[1,2,4,5,7])) (by decide +kernel) (by decide +kernel)
theorem zqd:zaa 8 [0,3,6] (⟨#[111,116,104,101,114]⟩:ByteArray)=((8,[1,2,4,5,7]),mkS [46,120,120,46,120,120,46,120]) :=
 za1 (ws:=[(⟨#[111,116,104,101,114]⟩:ByteArray)]) (by decide) (by decide) (by decide +kernel) (by decide +kernel) z4c rfl
theorem z4d:cmdV 8 [1,2,4,5,7] [(⟨#[50]⟩:ByteArray)] 20=(false,mkS [51],none):=by
 have e:itoL (cntW ((8:Nat):Int) [1,2,4,5,7] 2)=[51]:=by
  rw [zjj (zao.2 (zc8 (by decide +kernel))) (by decide +kernel),za5]
  decide +kernel
 show (!(zaf _ 0).isSome,mkS (itoL (cntW ((8:Nat):Int) [1,2,4,5,7] ((zaf _ 0).getD 0))),none)=_
 rw [zbs (u:=(⟨#[50]⟩:ByteArray)) rfl pi_2]
 show (false,mkS (itoL (cntW ((8:Nat):Int) [1,2,4,5,7] 2)),none)=_
 rw [e]
theorem zqe:zaa 8 [1,2,4,5,7] (⟨#[119,105,110,100,111,119,115,32,50]⟩:ByteArray)=((8,[1,2,4,5,7]),mkS [51]) :=
 za1 (ws:=[(⟨#[119,105,110,100,111,119,115]⟩:ByteArray),(⟨#[50]⟩:ByteArray)]) (by decide) (by decide) (by decide +kernel) (by decide +kernel) z4d rfl
theorem z4e:cmdV 8 [1,2,4,5,7] [(⟨#[53]⟩:ByteArray),(⟨#[49,50]⟩:ByteArray)] 1=(false,mkS [120,46,120,46,120,46,46,120,46,120,46,46],some (12,[0,2,4,7,9])):=by
 show becR (!(zaf _ 0).isSome || !(zaf _ 1).isSome) (evrV ((zaf _ 0).getD 0) ((zaf _ 1).getD 0))=_
 rw [zbs (u:=(⟨#[53]⟩:ByteArray)) rfl pi_5,zbs (u:=(⟨#[49,50]⟩:ByteArray)) rfl zp5]
 exact zc9 (p:=(12,[0,2,4,7,9])) (by decide +kernel) (by decide +kernel)
theorem zqf:zaa 8 [1,2,4,5,7] (⟨#[101,118,101,110,32,53,32,49,50]⟩:ByteArray)=((12,[0,2,4,7,9]),mkS [120,46,120,46,120,46,46,120,46,120,46,46]) :=
 za1 (ws:=[(⟨#[101,118,101,110]⟩:ByteArray),(⟨#[53]⟩:ByteArray),(⟨#[49,50]⟩:ByteArray)]) (by decide) (by decide) (by decide +kernel) (by decide +kernel) z4e rfl
theorem z4f:cmdV 12 [0,2,4,7,9] [(⟨#[49,50]⟩:ByteArray),(⟨#[53]⟩:ByteArray),(⟨#[55]⟩:ByteArray)] 2=(false,mkS [120,46,120,46,120,46,46,120,46,120,46,46],some (12,[0,2,4,7,9])):=by
 have hg:gnrL 12 5 7=[0,2,4,7,9]:=by
  unfold gnrL;rw [zj5 (by decide)];decide +kernel
 have hv:genV 12 5 7=some (12,[0,2,4,7,9]):=by
  unfold genV
  rw [if_pos (by decide +kernel)]
  show (if (gnrL 12 5 7).length<5 then none else some (12,gnrL 12 5 7))=_
  rw [hg];rfl
 show becR ((!(zaf _ 0).isSome || !(zaf _ 1).isSome) || !(zaf _ 2).isSome) (genV ((zaf _ 0).getD 0) ((zaf _ 1).getD 0) ((zaf _ 2).getD 0))=_
 rw [zbs (u:=(⟨#[49,50]⟩:ByteArray)) rfl zp5,zbs (u:=(⟨#[53]⟩:ByteArray)) rfl pi_5,zbs (u:=(⟨#[55]⟩:ByteArray)) rfl pi_7]
 exact zc9 (p:=(12,[0,2,4,7,9])) hv (by decide +kernel)
theorem zqg:zaa 12 [0,2,4,7,9] (⟨#[103,101,110,32,49,50,32,53,32,55]⟩:ByteArray)=((12,[0,2,4,7,9]),mkS [120,46,120,46,120,46,46,120,46,120,46,46]) :=
 za1 (ws:=[(⟨#[103,101,110]⟩:ByteArray),(⟨#[49,50]⟩:ByteArray),(⟨#[53]⟩:ByteArray),(⟨#[55]⟩:ByteArray)]) (by decide) (by decide) (by decide +kernel) (by decide +kernel) z4f rfl
theorem z4g:cmdV 12 [0,2,4,7,9] [(⟨#[120,120,46,46]⟩:ByteArray)] 0=(false,mkS [120,120,46,46],some (4,[0,1])):=by
 show becR false (btsV (⟨#[120,120,46,46]⟩:ByteArray))=_
 exact zc9 (p:=(4,[0,1])) (by decide +kernel) (by decide +kernel)
theorem zqh:zaa 12 [0,2,4,7,9] (⟨#[98,101,97,116,115,32,120,120,46,46]⟩:ByteArray)=((4,[0,1]),mkS [120,120,46,46]) :=
 za1 (ws:=[(⟨#[98,101,97,116,115]⟩:ByteArray),(⟨#[120,120,46,46]⟩:ByteArray)]) (by decide) (by decide) (by decide +kernel) (by decide +kernel) z4g rfl
theorem z4h:cmdV 4 [0,1] [] 16=(false,mkS [111,114,100,101,114,115,32,50,32,112,97,114,116,110,101,114,32,120,46,120,46],none):=by
 have e:tilL 4 [0,1]=[111,114,100,101,114,115,32,50,32,112,97,114,116,110,101,114,32,120,46,120,46]:=by
  unfold tilL parT zax
  rw [za5]
  decide +kernel
 show (false,mkS (tilL 4 [0,1]),none)=_
 rw [e]
theorem zqi:zaa 4 [0,1] (⟨#[116,105,108,101]⟩:ByteArray)=((4,[0,1]),mkS [111,114,100,101,114,115,32,50,32,112,97,114,116,110,101,114,32,120,46,120,46]) :=
 za1 (ws:=[(⟨#[116,105,108,101]⟩:ByteArray)]) (by decide) (by decide) (by decide +kernel) (by decide +kernel) z4h rfl
theorem z4i:cmdV 4 [0,1] [] 9=(false,mkS [120,46,120,46],some (4,[0,2])):=by
 show becR false (parO 4 [0,1])=_
 exact zc9 (p:=(4,[0,2])) (by decide +kernel) (by decide +kernel)
theorem zqj:zaa 4 [0,1] (⟨#[112,97,114,116,110,101,114]⟩:ByteArray)=((4,[0,2]),mkS [120,46,120,46]) :=
 za1 (ws:=[(⟨#[112,97,114,116,110,101,114]⟩:ByteArray)]) (by decide) (by decide) (by decide +kernel) (by decide +kernel) z4i rfl
theorem z4j:cmdV 4 [0,2] [(⟨#[51]⟩:ByteArray),(⟨#[52]⟩:ByteArray)] 11=(false,mkS [120,46,46,120,120,46,120,46,120,120,46,46],some (12,[0,3,4,6,8,9])):=by
 show becR (!(zaf _ 0).isSome || !(zaf _ 1).isSome) (polV ((zaf _ 0).getD 0) ((zaf _ 1).getD 0))=_
 rw [zbs (u:=(⟨#[51]⟩:ByteArray)) rfl pi_3,zbs (u:=(⟨#[52]⟩:ByteArray)) rfl pi_4]
 exact zc9 (p:=(12,[0,3,4,6,8,9])) (by decide +kernel) (by decide +kernel)
theorem zqk:zaa 4 [0,2] (⟨#[112,111,108,121,32,51,32,52]⟩:ByteArray)=((12,[0,3,4,6,8,9]),mkS [120,46,46,120,120,46,120,46,120,120,46,46]) :=
 za1 (ws:=[(⟨#[112,111,108,121]⟩:ByteArray),(⟨#[51]⟩:ByteArray),(⟨#[52]⟩:ByteArray)]) (by decide) (by decide) (by decide +kernel) (by decide +kernel) z4j rfl
theorem z4k:cmdV 12 [0,3,4,6,8,9] [(⟨#[50,43,50,43,51]⟩:ByteArray)] 12=(false,mkS [120,46,120,46,120,46,46],some (7,[0,2,4])):=by
 have hp:zcb (⟨#[50,43,50,43,51]⟩:ByteArray)=some [2,2,3]:=by
  unfold zcb pbyV fmtB
  rw [zb2,za5]
  decide +kernel
 have hv:brhV [2,2,3]=some (7,[0,2,4]):=by
  unfold brhV frsV
  rw [if_pos (by decide +kernel),if_pos (zao.2 (zc8 (by decide +kernel)))]
  decide +kernel
 show becR false (brhV ((zcb (⟨#[50,43,50,43,51]⟩:ByteArray)).getD []))=_
 rw [hp]
 exact zc9 (p:=(7,[0,2,4])) hv (by decide +kernel)
theorem zql:zaa 12 [0,3,4,6,8,9] (⟨#[98,97,114,32,50,43,50,43,51]⟩:ByteArray)=((7,[0,2,4]),mkS [120,46,120,46,120,46,46]) :=
 za1 (ws:=[(⟨#[98,97,114]⟩:ByteArray),(⟨#[50,43,50,43,51]⟩:ByteArray)]) (by decide) (by decide) (by decide +kernel) (by decide +kernel) z4k rfl
theorem z4l:cmdV 7 [0,2,4] [] 21=(false,mkS [82,46,82,46,82,46,46],none):=by
 have e:zaq 7 [0,2,4] natF=[82,46,82,46,82,46,46]:=by decide +kernel
 show (false,mkS (zaq 7 [0,2,4] natF),none)=_
 rw [e]
theorem zqm:zaa 7 [0,2,4] (⟨#[115,116,105,99,107]⟩:ByteArray)=((7,[0,2,4]),mkS [82,46,82,46,82,46,46]) :=
 za1 (ws:=[(⟨#[115,116,105,99,107]⟩:ByteArray)]) (by decide) (by decide) (by decide +kernel) (by decide +kernel) z4l rfl
theorem z4m:cmdV 7 [0,2,4] [(⟨#[48,44,50]⟩:ByteArray)] 22=(false,mkS [112,101,114,105,111,100,32,52,32,101,110,116,114,105,101,115,32,48,44,49],none):=by
 have e:lliV [0,2]=[112,101,114,105,111,100,32,52,32,101,110,116,114,105,101,115,32,48,44,49]:=by
  unfold lliV zax
  rw [za5]
  decide +kernel
 show (!(zbb _ 0).isSome,mkS (lliV ((zbb _ 0).getD [])),none)=_
 rw [zfr (u:=(⟨#[48,44,50]⟩:ByteArray)) rfl nu_a]
 show (false,mkS (lliV [0,2]),none)=_
 rw [e]
theorem zqn:zaa 7 [0,2,4] (⟨#[112,97,116,116,101,114,110,32,48,44,50]⟩:ByteArray)=((7,[0,2,4]),mkS [112,101,114,105,111,100,32,52,32,101,110,116,114,105,101,115,32,48,44,49]) :=
 za1 (ws:=[(⟨#[112,97,116,116,101,114,110]⟩:ByteArray),(⟨#[48,44,50]⟩:ByteArray)]) (by decide) (by decide) (by decide +kernel) (by decide +kernel) z4m rfl
theorem z4n:cmdV 7 [0,2,4] [(⟨#[48,44,49,44,51]⟩:ByteArray)] 22=(false,mkS [102,97,105,108,115,32,50],none):=by
 have e:lliV [0,1,3]=[102,97,105,108,115,32,50]:=by
  unfold lliV zax
  rw [za5]
  decide +kernel
 show (!(zbb _ 0).isSome,mkS (lliV ((zbb _ 0).getD [])),none)=_
 rw [zfr (u:=(⟨#[48,44,49,44,51]⟩:ByteArray)) rfl nu_b]
 show (false,mkS (lliV [0,1,3]),none)=_
 rw [e]
theorem zqo:zaa 7 [0,2,4] (⟨#[112,97,116,116,101,114,110,32,48,44,49,44,51]⟩:ByteArray)=((7,[0,2,4]),mkS [102,97,105,108,115,32,50]) :=
 za1 (ws:=[(⟨#[112,97,116,116,101,114,110]⟩:ByteArray),(⟨#[48,44,49,44,51]⟩:ByteArray)]) (by decide) (by decide) (by decide +kernel) (by decide +kernel) z4n rfl
theorem z4o:cmdV 7 [0,2,4] [(⟨#[48,44,49,44,51]⟩:ByteArray)] 23=(false,mkS [54,32,97,97,98,97,98,98],none):=by
 have e:cvlV [0,1,3]=[54,32,97,97,98,97,98,98]:=by
  unfold cvlV
  rw [za5]
  decide +kernel
 show (!(zbb _ 0).isSome,mkS (cvlV ((zbb _ 0).getD [])),none)=_
 rw [zfr (u:=(⟨#[48,44,49,44,51]⟩:ByteArray)) rfl nu_b]
 show (false,mkS (cvlV [0,1,3]),none)=_
 rw [e]
theorem zqp:zaa 7 [0,2,4] (⟨#[99,111,118,101,114,32,48,44,49,44,51]⟩:ByteArray)=((7,[0,2,4]),mkS [54,32,97,97,98,97,98,98]) :=
 za1 (ws:=[(⟨#[99,111,118,101,114]⟩:ByteArray),(⟨#[48,44,49,44,51]⟩:ByteArray)]) (by decide) (by decide) (by decide +kernel) (by decide +kernel) z4o rfl
theorem z4p:cmdV 7 [0,2,4] [(⟨#[48,44,49,44,52]⟩:ByteArray)] 24=(false,mkS [49,53],none):=by
 have e:itoL (twoV [0,1,4])=[49,53]:=by
  rw [za5]
  decide +kernel
 show (!(zbb _ 0).isSome,mkS (itoL (twoV ((zbb _ 0).getD []))),none)=_
 rw [zfr (u:=(⟨#[48,44,49,44,52]⟩:ByteArray)) rfl nu_c]
 show (false,mkS (itoL (twoV [0,1,4])),none)=_
 rw [e]
theorem zqq:zaa 7 [0,2,4] (⟨#[116,119,111,32,48,44,49,44,52]⟩:ByteArray)=((7,[0,2,4]),mkS [49,53]) :=
 za1 (ws:=[(⟨#[116,119,111]⟩:ByteArray),(⟨#[48,44,49,44,52]⟩:ByteArray)]) (by decide) (by decide) (by decide +kernel) (by decide +kernel) z4p rfl
theorem z4q:cmdV 7 [0,2,4] [(⟨#[56]⟩:ByteArray),(⟨#[51]⟩:ByteArray)] 25=(false,mkS [55],none):=by
 have e:itoL (nklV 8 3)=[55]:=by
  rw [za5]
  decide +kernel
 show (!(zaf _ 0).isSome || !(zaf _ 1).isSome,mkS (itoL (nklV ((zaf _ 0).getD 0) ((zaf _ 1).getD 0))),none)=_
 rw [zbs (u:=(⟨#[56]⟩:ByteArray)) rfl pi_8,zbs (u:=(⟨#[51]⟩:ByteArray)) rfl pi_3]
 show (false,mkS (itoL (nklV 8 3)),none)=_
 rw [e]
theorem zqr:zaa 7 [0,2,4] (⟨#[99,111,117,110,116,32,56,32,51]⟩:ByteArray)=((7,[0,2,4]),mkS [55]) :=
 za1 (ws:=[(⟨#[99,111,117,110,116]⟩:ByteArray),(⟨#[56]⟩:ByteArray),(⟨#[51]⟩:ByteArray)]) (by decide) (by decide) (by decide +kernel) (by decide +kernel) z4q rfl
theorem z4r:cmdV 7 [0,2,4] [(⟨#[97,91,98,99,93,50,100]⟩:ByteArray)] 26=(false,mkS [97,98,99,98,99,100],none):=by
 have e:plaV (⟨#[97,91,98,99,93,50,100]⟩:ByteArray)=[97,98,99,98,99,100]:=by decide +kernel
 show (false,plaT (⟨#[97,91,98,99,93,50,100]⟩:ByteArray),none)=_
 unfold plaT
 rw [e]
 rfl
theorem zqs:zaa 7 [0,2,4] (⟨#[112,108,97,121,32,97,91,98,99,93,50,100]⟩:ByteArray)=((7,[0,2,4]),mkS [97,98,99,98,99,100]) :=
 za1 (ws:=[(⟨#[112,108,97,121]⟩:ByteArray),(⟨#[97,91,98,99,93,50,100]⟩:ByteArray)]) (by decide) (by decide) (by decide +kernel) (by decide +kernel) z4r rfl
theorem z4s:cmdV 7 [0,2,4] [(⟨#[49,48]⟩:ByteArray),(⟨#[51,44,49,53,44,50,54]⟩:ByteArray)] 27=(false,mkS [48,44,49,48,44,51,48],none):=by
 have e:zax [0,10,30]=[48,44,49,48,44,51,48]:=by
  unfold zax
  rw [za5]
  decide +kernel
 have hq:qntV [3,15,26] 10=some [0,10,30]:=by decide +kernel
 show (!(zaf _ 0).isSome || !(zbb _ 1).isSome,qntT ((zbb _ 1).getD []) ((zaf _ 0).getD 0),none)=_
 rw [zbs (u:=(⟨#[49,48]⟩:ByteArray)) rfl z3s,zfr (u:=(⟨#[51,44,49,53,44,50,54]⟩:ByteArray)) rfl nu_d]
 show (false,qntT [3,15,26] 10,none)=_
 unfold qntT
 rw [hq]
 show (false,mkS (zax [0,10,30]),none)=_
 rw [e]
theorem zqt:zaa 7 [0,2,4] (⟨#[113,117,97,110,116,105,122,101,32,49,48,32,51,44,49,53,44,50,54]⟩:ByteArray)=((7,[0,2,4]),mkS [48,44,49,48,44,51,48]) :=
 za1 (ws:=[(⟨#[113,117,97,110,116,105,122,101]⟩:ByteArray),(⟨#[49,48]⟩:ByteArray),(⟨#[51,44,49,53,44,50,54]⟩:ByteArray)]) (by decide) (by decide) (by decide +kernel) (by decide +kernel) z4s rfl
theorem zqu:zaa 7 [0,2,4] (⟨#[119,104,97,116]⟩:ByteArray)=((7,[0,2,4]),mkS [117,110,107,110,111,119,110,32,99,111,109,109,97,110,100]) :=
 z3r (ws:=[(⟨#[119,104,97,116]⟩:ByteArray)]) (by decide) (by decide) (by decide +kernel) (by decide +kernel)
end Go.Proofs.YtjgbidnebnggoaaGreatDoor
