/- Parts of the proof of the card of the law FnConsole. -/
import Derived.Test.YtjpnjchpdkogbaaGreatDoorG21
import Derived.Test.YtjpnjchpdkogbaaGreatDoorG04
import Derived.Test.YtjpnjchpdkogbaaGreatDoorG06
import Derived.Test.YtjpnjchpdkogbaaGreatDoorG02
import Derived.Lib.LaidTab
import Derived.Stop.LaidErr
import Derived.MakeChecks
import Derived.Test.YtjpnjchpdkogbaaGreatDoorG08
import Derived.Lib.TrailingZeros
import Derived.Test.YtjpnjchpdkogbaaGreatDoorG03
import Derived.Maps.AppendAt
import Derived.Deep.AppendLies
set_option linter.unusedVariables false
set_option linter.unusedSimpArgs false
set_option maxRecDepth 100000
set_option maxHeartbeats 2000000
namespace Go.Proofs.YtjpnjchpdkogbaaGreatDoor
open Go.RowKit
theorem zz9 {z:Nat}(h:z % 2=1)(hz:z<16384):(strF 14 z).1<8192:=by
 rw [zoo (f:=13) h]
 have:=(zey 13 (z / 2)).1
 show (strF 13 (z / 2)).1<8192
 omega
theorem z0a {s M:Nat}(h:s &&& M=0)(hM:M % 2=1):(s+M) % 2=1:=by
 by_cases hs:s % 2=1
 ·exfalso
  have e:=Nat.testBit_and s M 0
  rw [h,Nat.testBit_zero,Nat.testBit_zero,Nat.testBit_zero,decide_eq_true hs,decide_eq_true hM] at e
  exact absurd e (by decide)
 ·omega
theorem OwnI.frm3 {w w':World}{base:Nat}{v:Value}{xs:List Int}{S:Nat->Prop}(h:OwnI w base v xs)(hf:Frm S w w')(hS : ∀ c,base<=c -> ¬ S c):OwnI w' base v xs:=by
 refine ⟨h.1,?_⟩
 rcases h.2 with h0 | ⟨g,cap,cur,e,hg,hh,rest⟩
 ·exact .inl h0
 ·have hlt:g<w.heap.size:=(Array.getElem?_eq_some_iff.1 hh).1
  exact .inr ⟨g,cap,cur,e,hg,by rw [hf.block g hlt (hS g hg)];exact hh,rest⟩
def zce (es:List Nat):List Int:=es.map fun (t:Nat)=>(t:Int)
theorem zoq (es:List Nat):(zce es).length=es.length:=by simp [zce]
theorem z0b (es:List Nat)(t:Nat):zce (es++[t])=zce es++[(t:Int)]:=by simp [zce]
theorem zi9 (xs:List Int):(∀ x∈zbj xs,0<=x/\x<24)/\(zbj xs).length<=13:=by
 unfold zbj
 cases hc:za7 xs
 ·exact ⟨fun x hx=>by simp at hx,by simp⟩
 ·rw [if_pos rfl]
  unfold za7 at hc
  rw [Bool.and_eq_true,beq_iff_eq] at hc
  obtain ⟨hpos,hpat⟩:=za6 hc.1
  rcases zi8 (zdn hpat xs.length (Nat.le_refl _)) (zex hpat xs.length hpos (Nat.le_refl _)) with ⟨h,_⟩ | ⟨_,h1,h2,h3,h4,_⟩
  ·have:=hc.2;unfold patM at this;omega
  ·refine ⟨fun x hx=>?_,?_⟩
   ·obtain ⟨t,ht,rfl⟩:=List.mem_map.1 hx
    have:=h4 t ht
    unfold patM at *
    omega
   ·rw [List.length_map];exact h3
def blkT (xs:List Int):Nat:=if patB xs then (blk (patM xs)).2.1 else 0
theorem zor (xs:List Int):blkT xs<=24:=by
 unfold blkT
 cases hp:patB xs
 ·exact Nat.zero_le _
 ·rw [if_pos rfl]
  obtain ⟨hpos,hpat⟩:=za6 hp
  rcases zi8 (zdn hpat xs.length (Nat.le_refl _)) (zex hpat xs.length hpos (Nat.le_refl _)) with ⟨_,h⟩ | ⟨_,_,h,_⟩
  ·exact h
  ·exact h
def z0c (w:World)(t:Int)(es:List Int)(ok:Bool)(e:Ending)(w':World):Prop:=∃ A cap,e = .returned (.tuple #[.int .i64 t,.slice A es.length cap,.bool ok])/\Ints w' w'.heap.size A es/\Below w.heap.size w w'
theorem zja (w:World)(B:Nat):Ints w B none []:=⟨Nat.zero_le _,fun x hx=>by simp at hx,fun h=>by simp at h⟩
theorem zgf (A:Option Addr)(cap:Nat)(xs:List Int)(w:World)(hA:Ints w w.heap.size A xs) :
  Calls Tryz.prog 195 #[.slice A xs.length cap] w (z0c w (blkT xs) (zbj xs) (za7 xs)):=by
 have HPO:=Zh (zdo A cap xs w hA)
 cases hp:patB xs
 ·rw [hp] at HPO
  have HV:=Zh (show blkT xs=0/\zbj xs=[]/\za7 xs=false by unfold blkT zbj za7;rw [hp];exact ⟨rfl,rfl,rfl⟩)
  obtain ⟨e1,e2,e3⟩:=HV.o
  rw [e1,e2,e3]
  clear e1 e2 e3 hA hp HV
  go_enter Tryz.func195,Tryz.ntmps195
  go_wp2_with fail
  refine HPO.o.mono ?_
  rintro e w1 ⟨rfl,rfl⟩
  go_wp2_with fail
  refine bodyPost_ret (v:=.tuple #[.int .i64 0,.slice none 0 0,.bool false]) (by simp [results,Tryz.results195,go_sem]) rfl ⟨none,0,rfl,zja _ _,Below.refl _ _⟩
 rw [hp] at HPO
 have HNL:=Zh (zz6 A cap xs w hA hp)
 obtain ⟨hpos,hpat⟩:=za6 hp
 have hMs:patM xs<8192:=zdn hpat xs.length (Nat.le_refl _)
 have hMo:patM xs % 2=1:=zex hpat xs.length hpos (Nat.le_refl _)
 have hbc:=zi8 hMs hMo
 have HEF:=Zh (zi9 xs)
 obtain ⟨M,hM⟩ : ∃ M,patM xs=M:=⟨_,rfl⟩
 have HV:=Zh (show blkT xs=(blk M).2.1/\zbj xs=(if (blk M).1=2 then zce (blk M).2.2 else [])/\za7 xs=((blk M).1==2) by
  unfold blkT zbj za7 zce
  rw [hp,hM]
  refine ⟨rfl,?_,rfl⟩
  by_cases h2:(blk M).1=2
  ·rw [if_pos h2,h2];rfl
  ·rw [if_neg h2,beq_eq_false_iff_ne.2 h2];rfl)
 rw [hM] at HNL hMs hMo hbc
 have HBC:=Zh hbc
 generalize blkT xs=T at HV ⊢
 generalize zbj xs=L at HV HEF ⊢
 generalize za7 xs=B at HV ⊢
 clear hA hp hpos hpat hM hbc
 go_enter Tryz.func195,Tryz.ntmps195
 go_wp2_with fail
 refine HPO.o.mono ?_
 rintro e w1 ⟨rfl,rfl⟩
 go_wp2_with fail
 refine HNL.o.mono ?_
 rintro e w1 ⟨rfl,hl1,hb1⟩
 have HL1:=Zh hl1
 have HB1:=Zh hb1
 obtain ⟨g,hg⟩ : ∃ g,w.heap.size=g:=⟨_,rfl⟩
 rw [hg] at HL1 ⊢
 clear hl1 hb1
 go_wp2_with fail
 have hg1:g+1<=w1.heap.size:=HL1.o.1
 go_loopg [6] 13 (fun f v wr=>∃ (s t:Nat) (es:List Nat),es.length+f=13/\t+14*f<=182/\runB f M s t es=blk M/\s<8192/\OwnI wr (g+1) v (zce es)/\Lin3 wr g t s M/\Below w.heap.size w wr/\g+1<=wr.heap.size)
 case atStart=>exact ⟨0,0,[],rfl,by omega,rfl,by omega,OwnI.nil _ _,HL1.o,HB1.o,hg1⟩
 case round =>
  obtain ⟨s,t,es,hel,ht,hrun,hs,hown,hlin,hbel,hgs⟩:=hrel
  obtain ⟨wo,rfl⟩ : ∃ wo:World,wo=wr:=⟨_,rfl⟩
  cases gk with
  | zero =>
   exfalso
   have e0:(0:Nat)=(blk M).1:=congrArg Prod.fst hrun
   rcases HBC.o with h | h <;> omega
  | succ f =>
   have HOW:=Zh hown
   have HLI:=Zh hlin
   have HBE:=Zh hbel
   have HRU:=Zh hrun
   obtain ⟨A5,c5,rfl⟩:=hown.form
   obtain ⟨_,c0,c1,c2,f0,f1⟩:=hlin
   have hcl:(zce es).length<=13:=by rw [zoq];omega
   have HSN:=Zh (z0b es t)
   have HCL:=Zh (zoq es)
   generalize zce es=ys at HOW hcl HSN HCL
   have hle:(ys.length:Int)<=8192:=by omega
   clear hown hbel hrun f0 f1
   go_wp2_with (at_builtin;refine za4 rfl (.tmp 15) (.tmp 20) rfl (g+1) _ ys rfl (HOW.o.alloc _) wo.heap.size t (by rfl) (zag _ _ _) (by omega) (by simp only [World.size_alloc];omega) ?_;intro v2 w2 hown2 hb2)
   obtain ⟨ys',hys'⟩ : ∃ l,ys++[(t:Int)]=l:=⟨_,rfl⟩
   rw [hys'] at hown2 HSN
   have HO2:=Zh hown2
   have HB2:=Zh ((HBE.o.alloc HBE.o.size (.cells #[.int .i64 t] 3)).trans (hb2.mono (by omega)))
   have HL2:=Zh ((HLI.o.frm (Frm.pure ((Below.refl _ _).alloc (Nat.le_refl _) (.cells #[.int .i64 t] 3)) (fun _=>False)) (fun h=>h)).below hb2 (Nat.lt_succ_self _))
   have hg2:g+1<=w2.heap.size:=by have:=hb2.size;simp only [World.size_alloc] at this;omega
   obtain ⟨A6,c6,rfl⟩:=hown2.form
   clear hown2 hb2 c0 c1 c2 hys'
   go_wp2_with fail
   by_cases hsm:s &&& M=0
   ·have hzo:=z0a hsm hMo
    obtain ⟨s',hs'⟩ : ∃ z,(strF 14 (s+M)).1=z:=⟨_,rfl⟩
    obtain ⟨n,hn⟩ : ∃ z,(strF 14 (s+M)).2=z:=⟨_,rfl⟩
    have hst:strF 14 (s+M)=(s',n):=Prod.ext hs' hn
    have hsl:=zz9 hzo (by omega)
    have hnl:=(zey 14 (s+M)).2
    rw [hs'] at hsl
    rw [hn] at hnl
    have HLY:=Zh (zz8 g t s M s' n w2 HL2.o hs hMs hsm (by omega) hst)
    refine HLY.o.mono ?_
    rintro e w3 ⟨rfl,hl3,hf3⟩
    obtain ⟨u,hu⟩ : ∃ u,t+n=u:=⟨_,rfl⟩
    rw [hu] at hl3
    have HL3:=Zh hl3
    have HO3:=Zh (HO2.o.frm3 hf3 (fun c hc e=>by omega))
    have HB3:=Zh (HB2.o.trans (hf3.below (B:=w.heap.size) (fun c hc=>by omega) (by omega)))
    have hg3:g+1<=w3.heap.size:=Nat.le_trans hg2 hf3.size
    obtain ⟨_,c0,c1,c2,f0,f1⟩:=hl3
    clear hf3 f0 f1
    by_cases hz:s'=0
    ·have HRR:=Zh (zz0 (f:=f) (t:=t) (es:=es) hsm (by rw [hst,hz]:strF 14 (s+M)=(0,n)))
     subst hz
     have hr:=HRU.o.symm.trans HRR.o
     obtain ⟨e1,e2,e3⟩:=HV.o
     rw [hr] at e1 e2 e3
     have a2:L=zce (es++[t]):=e2
     have a3:B=true:=e3
     have a1:T=u:=e1.trans hu
     rw [HSN.o] at a2
     clear e1 e2 e3
     subst a1 a2 a3
     have HI3:=Zh (HO3.o.ints (fun x hx=>by have:=HEF.o.1 x hx;unfold Fits;omega))
     clear hst hs' hn hsm hzo hr hu hsl hnl
     go_wp2_with fail
     refine bodyPost_ret (v:=.tuple #[.int .i64 T,.slice A6 L.length c6,.bool true]) (by simp [results,Tryz.results195,go_sem]) rfl ⟨A6,c6,rfl,HI3.o,HB3.o⟩
    ·have HRR:=Zh (zz1 (f:=f) (t:=t) (es:=es) hsm hst hz)
     have hzn:((s':Int)==0)=false:=beq_eq_false_iff_ne.2 (by omega)
     have hzn2 : ¬ (s':Int)=0:=by omega
     have HU:=Zh hu
     clear hst hs' hn hsm hzo hz hu
     go_wp2_with fail
     go_roundg f
     case measure=>exact Nat.lt_succ_self _
     case rel=>exact ⟨s',u,es++[t],by rw [List.length_append];show es.length+1+f=13;omega,by have:=HU.o;omega,by rw [<- HU.o];exact HRR.o.symm.trans HRU.o,hsl,by rw [HSN.o];exact HO3.o,HL3.o,HB3.o,hg3⟩
   ·have HLY:=Zh (zz7 g t s M w2 HL2.o hs hMs hsm)
    have hr:=HRU.o.symm.trans (zzz (f:=f) (t:=t) (es:=es) hsm)
    obtain ⟨e1,e2,e3⟩:=HV.o
    rw [hr] at e1 e2 e3
    have a2:L=[]:=e2
    have a3:B=false:=e3
    have a1:T=t:=e1
    clear e1 e2 e3
    subst a1 a2 a3
    clear hsm hr
    refine HLY.o.mono ?_
    rintro e w3 ⟨rfl,hb3⟩
    have HB3:=Zh (HB2.o.trans (hb3.mono HB2.o.size))
    obtain ⟨_,c0,c1,c2,f0,f1⟩:=HL2.o.below hb3 (by omega)
    clear hb3 f0 f1
    go_wp2_with fail
    refine bodyPost_ret (v:=.tuple #[.int .i64 T,.slice none 0 0,.bool false]) (by simp [results,Tryz.results195,go_sem]) rfl ⟨none,0,rfl,zja _ _,HB3.o⟩
theorem zos (xs:List Int):zcy xs=if za7 xs then blkT xs else 0:=by
 unfold zcy blkT
 cases hc:za7 xs
 ·rfl
 ·have:patB xs=true:=by unfold za7 at hc;rw [Bool.and_eq_true] at hc;exact hc.1
  rw [this];rfl
theorem zot (xs:List Int):zcn xs=if za7 xs then -1 else if patB xs then (blkT xs:Int) else -1:=by
 unfold zcn blkT
 cases hc:za7 xs <;> cases hp:patB xs <;> rfl
theorem z0d (A:Option Addr)(cap:Nat)(xs:List Int)(w:World)(hA:Ints w w.heap.size A xs) :
  Calls Tryz.prog 132 #[.slice A xs.length cap] w fun e w'=>e = .returned (.bool (za7 xs))/\Below w.heap.size w w':=by
 have HB:=Zh (zgf A cap xs w hA)
 generalize za7 xs=b at HB ⊢
 clear hA
 go_enter Tryz.func132,Tryz.ntmps132
 go_wp2_with fail
 refine HB.o.mono ?_
 rintro e w1 ⟨A1,c1,rfl,hi1,hb1⟩
 go_wp2_with fail
 go_ret
 exact ⟨rfl,hb1⟩
theorem z0e (A:Option Addr)(cap:Nat)(xs:List Int)(w:World)(hA:Ints w w.heap.size A xs) :
  Calls Tryz.prog 133 #[.slice A xs.length cap] w fun e w'=>e = .returned (.int .i64 (zcy xs))/\Below w.heap.size w w':=by
 have HB:=Zh (zgf A cap xs w hA)
 rw [zos]
 cases hc:za7 xs <;> rw [hc] at HB <;> clear hA hc
 ·go_enter Tryz.func133,Tryz.ntmps133
  go_wp2_with fail
  refine HB.o.mono ?_
  rintro e w1 ⟨A1,c1,rfl,hi1,hb1⟩
  go_wp2_with fail
  go_ret
  exact ⟨rfl,hb1⟩
 ·go_enter Tryz.func133,Tryz.ntmps133
  go_wp2_with fail
  refine HB.o.mono ?_
  rintro e w1 ⟨A1,c1,rfl,hi1,hb1⟩
  go_wp2_with fail
  go_ret
  exact ⟨rfl,hb1⟩
theorem z0f (A:Option Addr)(cap:Nat)(xs:List Int)(w:World)(hA:Ints w w.heap.size A xs) :
  Calls Tryz.prog 134 #[.slice A xs.length cap] w (zfl w (zbj xs)):=by
 have HB:=Zh (zgf A cap xs w hA)
 cases hc:za7 xs
 ·have he:zbj xs=[]:=by unfold zbj;rw [hc];rfl
  rw [hc] at HB
  rw [he]
  clear hA hc he
  go_enter Tryz.func134,Tryz.ntmps134
  go_wp2_with fail
  refine HB.o.mono ?_
  rintro e w1 ⟨A1,c1,rfl,hi1,hb1⟩
  go_wp2_with fail
  go_ret
  exact ⟨none,0,rfl,zja _ _,hb1⟩
 ·rw [hc] at HB
  generalize zbj xs=L at HB ⊢
  clear hA hc
  go_enter Tryz.func134,Tryz.ntmps134
  go_wp2_with fail
  refine HB.o.mono ?_
  rintro e w1 ⟨A1,c1,rfl,hi1,hb1⟩
  have HI:=Zh hi1
  clear hi1
  go_wp2_with fail
  go_ret
  exact ⟨A1,c1,rfl,HI.o,hb1⟩
theorem z0g (A:Option Addr)(cap:Nat)(xs:List Int)(w:World)(hA:Ints w w.heap.size A xs) :
  Calls Tryz.prog 135 #[.slice A xs.length cap] w fun e w'=>e = .returned (.int .i64 (zcn xs))/\Below w.heap.size w w':=by
 have HB:=Zh (zgf A cap xs w hA)
 have HP:=Zh (fun V h=>zdo A cap xs V h)
 have HA:=Zh hA
 rw [zot]
 cases hc:za7 xs
 ·cases hp:patB xs <;> rw [hc] at HB <;> rw [hp] at HP <;> clear hA hc hp
  ·go_enter Tryz.func135,Tryz.ntmps135
   go_wp2_with fail
   refine HB.o.mono ?_
   rintro e w1 ⟨A1,c1,rfl,hi1,hb1⟩
   go_wp2_with fail
   refine (HP.o _ (HA.o.lift hb1)).mono ?_
   rintro e w2 ⟨rfl,rfl⟩
   go_wp2_with fail
   go_ret
   exact ⟨rfl,hb1⟩
  ·go_enter Tryz.func135,Tryz.ntmps135
   go_wp2_with fail
   refine HB.o.mono ?_
   rintro e w1 ⟨A1,c1,rfl,hi1,hb1⟩
   go_wp2_with fail
   refine (HP.o _ (HA.o.lift hb1)).mono ?_
   rintro e w2 ⟨rfl,rfl⟩
   go_wp2_with fail
   go_ret
   exact ⟨rfl,hb1⟩
 ·rw [hc] at HB
  clear hA hc
  go_enter Tryz.func135,Tryz.ntmps135
  go_wp2_with fail
  refine HB.o.mono ?_
  rintro e w1 ⟨A1,c1,rfl,hi1,hb1⟩
  go_wp2_with fail
  go_ret
  exact ⟨rfl,hb1⟩
theorem zou {W:World} : ∀ (laid:List (String × DataW Unit)) (i:Nat),laidMet Tryz.prog laid W->laid[i]? = some ("internal/strconv.uint64pow10", Lib.tabData .u64 Lib.pow10Tab)->Pow W
 | [],i,_,h=>by simp at h
 | x::r,0,h,hi=>by
  obtain rfl:x=_:=by simpa using hi
  exact Lib.tabIs_of_head (g:=7) (t:=237) (e:=180) (n:=20) (by kernel_rfl) (by kernel_rfl) Tryz.underlying237 Tryz.underlying180 (by kernel_rfl) (by kernel_rfl) h
 | x::r,i+1,h,hi=>zou r i h.tail (by simpa using hi)
theorem z0h {W:World}{laid:List (String × DataW Unit)}(i:Nat)(h:laidMetH Tryz.prog laid W)(hp:(laid.all fun x=>x.2.handleName?.isNone)=true)(hi:laid[i]? = some ("internal/strconv.uint64pow10", Lib.tabData .u64 Lib.pow10Tab)):Pow W:=by
 rw [MakeChecks.laidMetH_plain _ _ _ hp] at h
 exact zou laid i h hi
theorem zov (xs:List Int):zcy xs<=24:=by
 rw [zos]
 have:=zor xs
 split
 ·exact this
 ·exact Nat.zero_le _
theorem zow (xs:List Int) : -1<=zcn xs/\zcn xs<=24:=by
 rw [zot]
 have:=zor xs
 split
 ·omega
 ·split <;> omega
def lliV (xs:List Int):Txt :=
 if patB xs then (if za7 xs then [112,101,114,105,111,100,32]++itoL (zcy xs)++[32,101,110,116,114,105,101,115,32]++za0 (zbj xs) else [102,97,105,108,115,32]++itoL (zcn xs))
 else [110,111,110,101]
theorem zox {xs:List Int}(h : ∀ x∈xs,Fits x)(hl:xs.length<=24):(za0 xs).length<=504:=by
 unfold za0
 split
 ·simp
 ·have hjl:=zb4 [44] 20 (xs.map itoL) (zci h)
  rw [List.length_map] at hjl
  have:xs.length*(20+1)<=24*21:=Nat.mul_le_mul hl (Nat.le_refl _)
  exact Nat.le_trans hjl this
theorem z0i (A:Option Addr)(cap:Nat)(xs:List Int)(w:World)(hA:Ints w w.heap.size A xs)(hP:Pow w) :
  Calls Tryz.prog 71 #[.slice A xs.length cap] w fun e w'=>e = .returned (.string (mkS (lliV xs)))/\Below w.heap.size w w':=by
 have HA:=Zh hA
 have HPO:=Zh (fun V h=>zdo A cap xs V h)
 have HCG:=Zh (fun V h=>z0d A cap xs V h)
 cases hp:patB xs
 ·have HV:=Zh (show lliV xs=[110,111,110,101] by unfold lliV;rw [hp];rfl)
  rw [hp] at HPO
  generalize lliV xs=v at HV ⊢
  clear hA hp
  go_enter Tryz.func71,Tryz.ntmps71
  go_wp2_with fail
  refine (HPO.o _ HA.o).mono ?_
  rintro e w1 ⟨rfl,rfl⟩
  go_wp2_with fail
  go_ret
  exact ⟨zbw (by rw [HV.o];rfl),Below.refl _ _⟩
 rw [hp] at HPO
 cases hc:za7 xs
 ·rw [hc] at HCG
  have HFT:=Zh (fun V h=>z0g A cap xs V h)
  have hff:Fits (zcn xs):=by have:=zow xs;unfold Fits;omega
  have HV:=Zh (show lliV xs=[102,97,105,108,115,32]++itoL (zcn xs) by unfold lliV;rw [hp,hc];rfl)
  obtain ⟨t,ht⟩ : ∃ t,zcn xs=t:=⟨_,rfl⟩
  rw [ht] at HFT HV hff
  have HFI:=Zh (fun V (hb:Below w.heap.size w V)=>zbq t hff V (hP.below hb))
  have hsz:(mkS (itoL t)).size<=20:=by rw [za2];exact zbe t hff
  have HS:=Zh (za9 (itoL t))
  generalize mkS (itoL t)=S at HFI hsz HS
  have HRES:=Zh (show (⟨#[102,97,105,108,115,32]⟩:ByteArray)++S=mkS (lliV xs) by
   rw [HV.o]
   exact Str.eq (Str.app (show Str ⟨#[102,97,105,108,115,32]⟩ [102,97,105,108,115,32] from rfl) HS.o))
  generalize mkS (lliV xs)=R at HRES ⊢
  clear hA hp hc ht hff HV
  go_enter Tryz.func71,Tryz.ntmps71
  go_wp2_with fail
  refine (HPO.o _ HA.o).mono ?_
  rintro e w1 ⟨rfl,rfl⟩
  go_wp2_with fail
  refine (HCG.o _ HA.o).mono ?_
  rintro e w1 ⟨rfl,hb⟩
  have HB1:=Zh hb
  clear hb
  go_wp2_with fail
  refine (HFT.o _ (HA.o.lift HB1.o)).mono ?_
  rintro e w2 ⟨rfl,hb⟩
  have HB2:=Zh (HB1.o.trans (hb.mono HB1.o.size))
  clear hb
  go_wp2_with fail
  refine (HFI.o _ HB2.o).mono ?_
  rintro e w3 ⟨rfl,hb⟩
  have HB3:=Zh (HB2.o.trans (hb.mono HB2.o.size))
  clear hb
  go_wp2_with fail
  go_ret
  exact ⟨zbw HRES.o,HB3.o⟩
 ·rw [hc] at HCG
  have HLP:=Zh (fun V h=>z0e A cap xs V h)
  have HPE:=Zh (fun V h=>z0f A cap xs V h)
  have hff:Fits (zcy xs:Int):=by have:=zov xs;unfold Fits;omega
  have hen:=zi9 xs
  have HV:=Zh (show lliV xs=[112,101,114,105,111,100,32]++itoL (zcy xs)++[32,101,110,116,114,105,101,115,32]++za0 (zbj xs) by unfold lliV;rw [hp,hc];rfl)
  obtain ⟨t,ht⟩ : ∃ t:Int,(zcy xs:Int)=t:=⟨_,rfl⟩
  obtain ⟨L,hL⟩ : ∃ L,zbj xs=L:=⟨_,rfl⟩
  rw [ht] at HLP HV hff
  rw [hL] at HPE HV hen
  have HFI:=Zh (fun V (hb:Below w.heap.size w V)=>zbq t hff V (hP.below hb))
  have HFN:=Zh (fun A c V (hi:Ints V V.heap.size A L) (hb:Below w.heap.size w V)=>zfr A c L V hi (by omega) (hP.below hb))
  have hsz:(mkS (itoL t)).size<=20:=by rw [za2];exact zbe t hff
  have hsn:(mkS (za0 L)).size<=504:=by rw [za2];exact zox (fun x hx=>by have:=hen.1 x hx;unfold Fits;omega) (by omega)
  have HS:=Zh (za9 (itoL t))
  have HN:=Zh (za9 (za0 L))
  generalize mkS (itoL t)=S at HFI hsz HS
  generalize mkS (za0 L)=U at HFN hsn HN
  have HRES:=Zh (show (⟨#[112,101,114,105,111,100,32]⟩:ByteArray)++S++⟨#[32,101,110,116,114,105,101,115,32]⟩++U=mkS (lliV xs) by
   rw [HV.o]
   exact Str.eq (Str.app (Str.app (Str.app (show Str ⟨#[112,101,114,105,111,100,32]⟩ [112,101,114,105,111,100,32] from rfl) HS.o) (show Str ⟨#[32,101,110,116,114,105,101,115,32]⟩ [32,101,110,116,114,105,101,115,32] from rfl)) HN.o))
  have hz1:((⟨#[112,101,114,105,111,100,32]⟩:ByteArray)++S).size<=27:=by rw [ByteArray.size_append];show 7+S.size<=27;omega
  have hz2:((⟨#[112,101,114,105,111,100,32]⟩:ByteArray)++S++⟨#[32,101,110,116,114,105,101,115,32]⟩).size<=36:=by rw [ByteArray.size_append];show _+9<=36;omega
  generalize mkS (lliV xs)=R at HRES ⊢
  clear hA hp hc ht hL hff hen HV
  go_enter Tryz.func71,Tryz.ntmps71
  go_wp2_with fail
  refine (HPO.o _ HA.o).mono ?_
  rintro e w1 ⟨rfl,rfl⟩
  go_wp2_with fail
  refine (HCG.o _ HA.o).mono ?_
  rintro e w1 ⟨rfl,hb⟩
  have HB1:=Zh hb
  clear hb
  go_wp2_with fail
  refine (HLP.o _ (HA.o.lift HB1.o)).mono ?_
  rintro e w2 ⟨rfl,hb⟩
  have HB2:=Zh (HB1.o.trans (hb.mono HB1.o.size))
  clear hb
  go_wp2_with fail
  refine (HFI.o _ HB2.o).mono ?_
  rintro e w3 ⟨rfl,hb⟩
  have HB3:=Zh (HB2.o.trans (hb.mono HB2.o.size))
  clear hb
  go_wp2_with fail
  refine (HPE.o _ (HA.o.lift HB3.o)).mono ?_
  rintro e w4 ⟨A4,c4,rfl,hi4,hb⟩
  have HB4:=Zh (HB3.o.trans (hb.mono HB3.o.size))
  have HI4:=Zh hi4
  clear hb hi4
  go_wp2_with fail
  refine (HFN.o _ _ _ HI4.o HB4.o).mono ?_
  rintro e w5 ⟨rfl,hb⟩
  have HB5:=Zh (HB4.o.trans (hb.mono HB4.o.size))
  clear hb
  go_wp2_with fail
  go_ret
  exact ⟨zbw HRES.o,HB5.o⟩
def mirP (xs:List Int)(q:Nat):List Int:=(List.range q).map fun j=>xs.getD (xs.length-1) 0-xs.getD (xs.length-1-j) 0
def mirL (xs:List Int):List Int:=mirP xs xs.length
theorem z0j (xs:List Int)(q:Nat):mirP xs (q+1)=mirP xs q++[xs.getD (xs.length-1) 0-xs.getD (xs.length-1-q) 0]:=by
 unfold mirP
 rw [List.range_succ,List.map_append]
 rfl
theorem zoy (xs:List Int)(q:Nat):(mirP xs q).length=q:=by unfold mirP;simp
theorem zez (xs:List Int):(mirL xs).length=xs.length:=zoy _ _
theorem zgg (xs:List Int){j:Nat}(hj:j<xs.length):(mirL xs).getD j 0=xs.getD (xs.length-1) 0-xs.getD (xs.length-1-j) 0:=by
 unfold mirL mirP
 rw [List.getD_eq_getElem?_getD,List.getElem?_map,List.getElem?_range hj]
 rfl
theorem zea {xs:List Int}(h : ∀ j,j<xs.length->zar xs j=true) : ∀ j i,i<j->j<xs.length->xs.getD i 0<xs.getD j 0
 | 0,i,hi,_=>absurd hi (by omega)
 | j+1,i,hi,hj=>by
  have h1:=zi7 (by omega) (h (j+1) hj)
  rw [Nat.add_sub_cancel] at h1
  by_cases e:i=j
  ·rw [e];exact h1
  ·have:=zea h j i (by omega) (by omega)
   omega
theorem zgh {xs:List Int}(h:patB xs=true):xs.length<=13:=by
 obtain ⟨_,h1⟩:=za6 h
 have hg : ∀ j,j<xs.length->(j:Int)<=xs.getD j 0:=fun j=>by
  induction j with
  | zero=>intro hj;have:=zbi (h1 0 hj);omega
  | succ j ih =>
   intro hj
   have:=ih (by omega)
   have:=zea h1 (j+1) j (by omega) hj
   omega
 apply Nat.le_of_not_lt
 intro hl
 have h2:=hg (xs.length-1) (by omega)
 have h3:=zbi (h1 (xs.length-1) (by omega))
 omega
theorem zgi {xs:List Int}(h:patB xs=true):patB (mirL xs)=true:=by
 obtain ⟨h0,h1⟩:=za6 h
 have h2 : ∀ j,j<(mirL xs).length->zar (mirL xs) j=true:=fun j hj=>by
  rw [zez] at hj
  have a1:=zbi (h1 (xs.length-1) (by omega))
  have a2:=zbi (h1 (xs.length-1-j) (by omega))
  have a3:xs.getD (xs.length-1-j) 0<=xs.getD (xs.length-1) 0:=by
   by_cases e:j=0
   ·subst e;exact Int.le_refl _
   ·have:=zea h1 (xs.length-1) (xs.length-1-j) (by omega) (by omega);omega
  unfold zar
  rw [Bool.and_eq_true]
  refine ⟨zan.2 (by rw [zgg xs hj];omega),?_⟩
  by_cases e:j=0
  ·subst e
   rw [if_pos rfl,decide_eq_true_eq,zgg xs hj,Nat.sub_zero]
   omega
  ·rw [if_neg e,decide_eq_true_eq,zgg xs hj,zgg xs (show j-1<xs.length by omega)]
   have:=zea h1 (xs.length-1-(j-1)) (xs.length-1-j) (by omega) (by omega)
   omega
 rw [zon h2,zez]
 exact decide_eq_true h0
theorem zoz {xs:List Int}(h : ∀ j,j<xs.length->zar xs j=true)(i:Nat) : ∀ k,k<=xs.length->((mkN xs k).testBit i=true ↔ ∃ j,j<k/\xs.getD j 0=(i:Int))
 | 0,_=>by simp [mkN]
 | k+1,hk=>by
  have ih:=zoz h i k (by omega)
  have h1:=zbi (h k (by omega))
  rw [<- zge h k (by omega),Nat.testBit_or,Bool.or_eq_true,ih,Nat.testBit_two_pow,decide_eq_true_eq]
  constructor
  ·rintro (⟨j,hj,e⟩ | e)
   ·exact ⟨j,by omega,e⟩
   ·exact ⟨k,by omega,by omega⟩
  ·rintro ⟨j,hj,e⟩
   by_cases c:j=k
   ·subst c;exact .inr (by omega)
   ·exact .inl ⟨j,by omega,e⟩
theorem zjb {xs:List Int}(h:patB xs=true)(i:Nat):(patM xs).testBit i=true ↔ ∃ j,j<xs.length/\xs.getD j 0=(i:Int):=zoz (za6 h).2 i _ (Nat.le_refl _)
theorem zo0 {xs:List Int}(h:patB xs=true):patM xs % 2=1:=zex (za6 h).2 _ (za6 h).1 (Nat.le_refl _)
theorem zo1 : ∀ (k:Nat) (xs ys:List Int),xs.length=k->xs.Pairwise (fun a b=>a<b)->ys.Pairwise (fun a b=>a<b)->(∀ x,x∈xs ↔ x∈ys)->xs=ys
 | 0,xs,ys,hk,_,_,hm=>by
  have:xs=[]:=List.length_eq_zero_iff.1 hk
  subst this
  cases ys with
  | nil=>rfl
  | cons y ys=>exact absurd ((hm y).2 (by simp)) (by simp)
 | k+1,xs,ys,hk,hx,hy,hm=>by
  cases xs with
  | nil=>simp at hk
  | cons x xs =>
   cases ys with
   | nil=>exact absurd ((hm x).1 (by simp)) (by simp)
   | cons y ys =>
    rw [List.pairwise_cons] at hx hy
    have e:x=y:=by
     rcases List.mem_cons.1 ((hm x).1 (by simp)) with h1 | h1
     ·exact h1
     ·rcases List.mem_cons.1 ((hm y).2 (by simp)) with h2 | h2
      ·exact h2.symm
      ·have:=hx.1 y h2;have:=hy.1 x h1;omega
    subst e
    rw [zo1 k xs ys (by simpa using hk) hx.2 hy.2 fun z=>?_]
    constructor
    ·intro hz
     rcases List.mem_cons.1 ((hm z).1 (by simp [hz])) with h1 | h1
     ·have:=hx.1 z hz;omega
     ·exact h1
    ·intro hz
     rcases List.mem_cons.1 ((hm z).2 (by simp [hz])) with h1 | h1
     ·have:=hy.1 z hz;omega
     ·exact h1
theorem zo2 {xs:List Int}(h:patB xs=true):xs.Pairwise (fun a b=>a<b):=by
 rw [List.pairwise_iff_getElem]
 intro i j hi hj hij
 have:=zea (za6 h).2 j i hij hj
 rwa [List.getD_eq_getElem?_getD,List.getElem?_eq_getElem hi,List.getD_eq_getElem?_getD,List.getElem?_eq_getElem hj] at this
theorem zo3 {xs:List Int}(h:patB xs=true)(x:Int):x∈xs ↔ 0<=x/\(patM xs).testBit x.toNat=true:=by
 constructor
 ·intro hx
  obtain ⟨j,hj,e⟩:=List.mem_iff_getElem.1 hx
  have hg:xs.getD j 0=x:=by rw [List.getD_eq_getElem?_getD,List.getElem?_eq_getElem hj];exact e
  have:=zbi ((za6 h).2 j hj)
  exact ⟨by omega,(zjb h _).2 ⟨j,hj,by omega⟩⟩
 ·rintro ⟨h0,hb⟩
  obtain ⟨j,hj,e⟩:=(zjb h _).1 hb
  rw [Int.toNat_of_nonneg h0,List.getD_eq_getElem?_getD,List.getElem?_eq_getElem hj] at e
  exact e ▸ List.getElem_mem hj
theorem z0k {xs ys:List Int}(hx:patB xs=true)(hy:patB ys=true):patM xs=patM ys ↔ xs=ys:=by
 constructor
 ·intro e
  exact zo1 _ xs ys rfl (zo2 hx) (zo2 hy) fun x=>by rw [zo3 hx,zo3 hy,e]
 ·rintro rfl;rfl
def stN:Nat->Nat->Nat
 | 0,_=>0
 | d+1,s=>if s % 2=1 then stN d (s / 2)+1 else 0
theorem zgj : ∀ d s,stN d s<=d
 | 0,_=>Nat.le_refl _
 | d+1,s=>by unfold stN;split;(have:=zgj d (s / 2);omega);omega
theorem zo4 : ∀ d s j,j<stN d s->s.testBit j=true
 | 0,s,j,h=>absurd h (by simp [stN])
 | d+1,s,j,h=>by
  unfold stN at h
  by_cases c:s % 2=1
  ·rw [if_pos c] at h
   cases j with
   | zero=>rw [Nat.testBit_zero];exact decide_eq_true c
   | succ j=>rw [Nat.testBit_succ];exact zo4 d (s / 2) j (by omega)
  ·rw [if_neg c] at h;omega
theorem zjc : ∀ d s,stN d s<d->s.testBit (stN d s)=false
 | 0,_,h=>absurd h (by omega)
 | d+1,s,h=>by
  unfold stN at h ⊢
  by_cases c:s % 2=1
  ·rw [if_pos c] at h ⊢
   rw [Nat.testBit_succ]
   exact zjc d (s / 2) (by omega)
  ·rw [if_neg c,Nat.testBit_zero]
   exact decide_eq_false c
theorem z0l {d s:Nat}(h:s % 2=1)(hd:1<=d):1<=stN d s:=by
 obtain ⟨d,rfl⟩ : ∃ e,d=e+1:=⟨d-1,by omega⟩
 unfold stN
 rw [if_pos h]
 omega
def TS (T t s:Nat):Prop:=∀ j,T.testBit j=(decide (j<t) || s.testBit (j-t))
theorem TS.zero (s:Nat):TS s 0 s:=fun j=>by simp
theorem TS.strip {T t s d:Nat}(h:TS T t s):TS T (t+stN d s) (s / 2 ^ stN d s):=fun j=>by
 rw [h j,Nat.testBit_div_two_pow]
 by_cases c1:j<t
 ·simp [c1,show j<t+stN d s by omega]
 ·by_cases c2:j<t+stN d s
  ·rw [zo4 d s (j-t) (by omega)];simp [c2]
  ·simp only [c1,c2,decide_false,Bool.false_or]
   congr 1
   omega
theorem TS.put {T t s m:Nat}(h:TS T t s):TS (T ||| m*2 ^ t) t (s ||| m):=fun j=>by
 rw [Nat.testBit_or,h j,Nat.testBit_or,Nat.testBit_mul_two_pow]
 by_cases c:j<t
 ·simp [c]
 ·simp [c,show t<=j by omega]
theorem TS.free {T t s m:Nat}(h:TS T t s):m*2 ^ t &&& T=0 ↔ s &&& m=0:=by
 constructor
 ·intro e
  apply Nat.eq_of_testBit_eq
  intro i
  have:=congrArg (fun x=>x.testBit (i+t)) e
  simp only [Nat.testBit_and,Nat.testBit_mul_two_pow,Nat.zero_testBit,h (i+t)] at this
  rw [Nat.testBit_and,Nat.zero_testBit,Bool.and_comm]
  simpa [show ¬ i+t<t by omega] using this
 ·intro e
  apply Nat.eq_of_testBit_eq
  intro i
  rw [Nat.testBit_and,Nat.testBit_mul_two_pow,Nat.zero_testBit,h i]
  by_cases c:i<t
  ·simp [c,show ¬ t<=i by omega]
  ·have:=congrArg (fun x=>x.testBit (i-t)) e
   simp only [Nat.testBit_and,Nat.zero_testBit] at this
   rw [Bool.and_comm] at this
   simp [c,show t<=i by omega]
   simpa using this
theorem zjd {m t n:Nat}(ht:t<=n):m*2 ^ t<2 ^ n ↔ m / 2 ^ (n-t)=0:=by
 obtain ⟨d,rfl⟩ : ∃ d,n=t+d:=⟨n-t,by omega⟩
 rw [Nat.add_sub_cancel_left,Nat.pow_add,Nat.mul_comm m,Nat.div_eq_zero_iff,or_iff_right (by have:=Nat.two_pow_pos d;omega)]
 exact Nat.mul_lt_mul_left (Nat.two_pow_pos t)
theorem TS.lt {T t s n:Nat}(h:TS T t s)(ht:t<=n)(hs:s<2 ^ (n-t)):T<2 ^ n:=by
 apply Nat.lt_pow_two_of_testBit
 intro i hi
 rw [h i]
 simp only [show ¬ i<t by omega,decide_false,Bool.false_or]
 exact Nat.testBit_lt_two_pow (Nat.lt_of_lt_of_le hs (Nat.pow_le_pow_right (by decide) (by omega)))
theorem zo5 {n t s k:Nat}(hk:t+k<=n)(hs:s<2 ^ (n-t)):s / 2 ^ k<2 ^ (n-(t+k)):=by
 rw [Nat.div_lt_iff_lt_mul (Nat.two_pow_pos k),<- Nat.pow_add]
 rwa [show n-(t+k)+k=n-t by omega]
theorem zje {s m d:Nat}(hs:s<2 ^ d)(hm:m / 2 ^ d=0):s ||| m<2 ^ d:=by
 refine Nat.or_lt_two_pow hs ?_
 rcases Nat.div_eq_zero_iff.1 hm with h | h
 ·have:=Nat.two_pow_pos d;omega
 ·exact h
def covL (n a b:Nat):Nat->Nat->Nat->List (List Nat)
 | 0,_,_=>[]
 | f+1,t,s =>
  if t+stN (n-t) s=n then [[]] else
   (if s / 2 ^ stN (n-t) s &&& a=0/\a / 2 ^ (n-(t+stN (n-t) s))=0 then (covL n a b f (t+stN (n-t) s) (s / 2 ^ stN (n-t) s ||| a)).map (List.cons (2*(t+stN (n-t) s))) else []) ++
   (if b≠a/\s / 2 ^ stN (n-t) s &&& b=0/\b / 2 ^ (n-(t+stN (n-t) s))=0 then (covL n a b f (t+stN (n-t) s) (s / 2 ^ stN (n-t) s ||| b)).map (List.cons (2*(t+stN (n-t) s)+1)) else [])
theorem zo6 {n a b f t s:Nat}(h:t+stN (n-t) s=n):covL n a b (f+1) t s=[[]]:=by
 unfold covL;rw [if_pos h]
theorem zjf {n a b f t s t' s':Nat}(ht:t+stN (n-t) s=t')(hs:s / 2 ^ stN (n-t) s=s')(h:t'≠n):covL n a b (f+1) t s =
   (if s' &&& a=0/\a / 2 ^ (n-t')=0 then (covL n a b f t' (s' ||| a)).map (List.cons (2*t')) else []) ++
   (if b≠a/\s' &&& b=0/\b / 2 ^ (n-t')=0 then (covL n a b f t' (s' ||| b)).map (List.cons (2*t'+1)) else []):=by
 subst ht hs
 rw [covL,if_neg h]
theorem zo7 (n a b:Nat) : ∀ f t s,(covL n a b f t s).length<=2 ^ f
 | 0,_,_=>by simp [covL]
 | f+1,t,s=>by
  unfold covL
  split
  ·have:=Nat.two_pow_pos (f+1);simp;omega
  ·rw [List.length_append,Nat.pow_succ]
   have h1 : ∀ (c:Prop) [Decidable c] (t s:Nat) (x:Nat),(if c then (covL n a b f t s).map (List.cons x) else []).length<=2 ^ f:=fun c _ t s x=>by
    split
    ·rw [List.length_map];exact zo7 n a b f t s
    ·simp
   have:=h1 (s / 2 ^ stN (n-t) s &&& a=0/\a / 2 ^ (n-(t+stN (n-t) s))=0) (t+stN (n-t) s) (s / 2 ^ stN (n-t) s ||| a) (2*(t+stN (n-t) s))
   have:=h1 (b≠a/\s / 2 ^ stN (n-t) s &&& b=0/\b / 2 ^ (n-(t+stN (n-t) s))=0) (t+stN (n-t) s) (s / 2 ^ stN (n-t) s ||| b) (2*(t+stN (n-t) s)+1)
   omega
def CovP (n a b:Nat):Nat->List Nat->Prop
 | T,[]=>T=2 ^ n-1
 | T,c::cs=>(c % 2=1->b≠a)/\(if c % 2=1 then b else a)*2 ^ (c / 2) &&& T=0/\(if c % 2=1 then b else a)*2 ^ (c / 2)<2 ^ n/\(∀ j,j<c / 2->T.testBit j=true)/\T.testBit (c / 2)=false/\CovP n a b (T ||| (if c % 2=1 then b else a)*2 ^ (c / 2)) cs
theorem TS.full {T n s:Nat}(h:TS T n s)(hs:s<2 ^ (n-n)):T=2 ^ n-1:=by
 rw [Nat.sub_self,Nat.pow_zero] at hs
 have:s=0:=by omega
 subst this
 apply Nat.eq_of_testBit_eq
 intro i
 rw [h i,Nat.testBit_two_pow_sub_one]
 simp
theorem zjg {n a b:Nat} : ∀ f t s T,t<=n->s<2 ^ (n-t)->TS T t s -> ∀ cs∈covL n a b f t s,CovP n a b T cs
 | 0,_,_,_,_,_,_,cs,h=>by simp [covL] at h
 | f+1,t,s,T,ht,hs,hT,cs,h=>by
  have hk:=zgj (n-t) s
  have hT':=hT.strip (d:=n-t)
  have hs':=zo5 (k:=stN (n-t) s) (show t+stN (n-t) s<=n by omega) hs
  have hz:=zjc (n-t) s
  obtain ⟨t',ht'⟩ : ∃ t',t+stN (n-t) s=t':=⟨_,rfl⟩
  obtain ⟨s',hs2⟩ : ∃ s',s / 2 ^ stN (n-t) s=s':=⟨_,rfl⟩
  rw [ht',hs2] at hT' hs'
  by_cases e:t'=n
  ·rw [zo6 (ht'.trans e),List.mem_singleton] at h
   subst h
   subst e
   exact hT'.full hs'
  ·have hb:T.testBit t'=false:=by
    rw [hT t',<- ht']
    simp only [show ¬ t+stN (n-t) s<t by omega,decide_false,Bool.false_or,Nat.add_sub_cancel_left]
    exact hz (by omega)
   have hbj : ∀ j,j<t'->T.testBit j=true:=fun j hj=>by rw [hT' j];simp [hj]
   rw [zjf ht' hs2 e,List.mem_append] at h
   have he2:(2*t') % 2=0:=by omega
   have he3:(2*t') / 2=t':=by omega
   have ho2:(2*t'+1) % 2=1:=by omega
   have ho3:(2*t'+1) / 2=t':=by omega
   rcases h with h | h
   ·split at h
    ·rename_i hc
     obtain ⟨ds,hd,rfl⟩:=List.mem_map.1 h
     refine ⟨fun x=>by omega,?_⟩
     rw [he2,he3,if_neg (by decide)]
     exact ⟨hT'.free.2 hc.1,(zjd (by omega)).2 hc.2,hbj,hb,zjg f t' (s' ||| a) _ (by omega) (zje hs' hc.2) hT'.put ds hd⟩
    ·simp at h
   ·split at h
    ·rename_i hc
     obtain ⟨ds,hd,rfl⟩:=List.mem_map.1 h
     refine ⟨fun _=>hc.1,?_⟩
     rw [ho2,ho3,if_pos rfl]
     exact ⟨hT'.free.2 hc.2.1,(zjd (by omega)).2 hc.2.2,hbj,hb,zjg f t' (s' ||| b) _ (by omega) (zje hs' hc.2.2) hT'.put ds hd⟩
    ·simp at h
def covN (xs:List Int)(n:Nat):List (List Nat):=covL n (patM xs) (patM (mirL xs)) (n+1) 0 0
def lstC (xs:List Int):Nat->Nat->Nat
 | 0,_=>0
 | d+1,n=>if covN xs n=[] then lstC xs d (n+1) else n
def zap (xs:List Int):Nat:=lstC xs 24 1
theorem zo8 : ∀ m f x:Nat,(∀ j,j<m->x.testBit j=false)->x.testBit m=true->m<f->Lib.ctzFrom f x=m
 | 0,f,x,_,h,hf=>by
  obtain ⟨f,rfl⟩ : ∃ e,f=e+1:=⟨f-1,by omega⟩
  rw [Nat.testBit_zero,decide_eq_true_eq] at h
  unfold Lib.ctzFrom
  rw [if_pos h]
 | m+1,f,x,h0,h,hf=>by
  obtain ⟨f,rfl⟩ : ∃ e,f=e+1:=⟨f-1,by omega⟩
  have h1:=h0 0 (by omega)
  rw [Nat.testBit_zero,decide_eq_false_iff_not] at h1
  unfold Lib.ctzFrom
  rw [if_neg h1,zo8 m f (x / 2) (fun j hj=>by rw [<- Nat.testBit_succ];exact h0 (j+1) (by omega)) (by rw [<- Nat.testBit_succ];exact h) (by omega)]
  omega
theorem z0m {T m:Nat}(hT:T<2 ^ 24)(h1 : ∀ j,j<m->T.testBit j=true)(h2:T.testBit m=false)(hm:m<64):Lib.ctz 64 (2 ^ 64-1-T)=m:=by
 have hb : ∀ i,(2 ^ 64-1-T).testBit i=(decide (i<64) && !T.testBit i):=fun i=>by
  rw [show 2 ^ 64-1-T=2 ^ 64-(T+1) by omega,Nat.testBit_two_pow_sub_succ (by omega)]
 unfold Lib.ctz
 rw [if_neg (by omega)]
 refine zo8 m 64 _ (fun j hj=>?_) ?_ hm
 ·rw [hb,h1 j hj];simp
 ·rw [hb,h2];simp [hm]
def shp (xs:List Int)(c:Nat):List Int:=if c % 2=1 then mirL xs else xs
theorem zcz (xs:List Int)(c:Nat):(shp xs c).length=xs.length:=by unfold shp;split;exact zez xs;rfl
theorem zdp {xs:List Int}(h:patB xs=true)(c:Nat):patB (shp xs c)=true:=by unfold shp;split;exact zgi h;exact h
theorem zo9 (xs:List Int)(c:Nat):(if c % 2=1 then patM (mirL xs) else patM xs)=patM (shp xs c):=by unfold shp;split <;> rfl
def zaz (xs:List Int)(c:Nat):List Int:=(shp xs c).map fun x=>((c / 2:Nat):Int)+x
theorem zgk (xs:List Int)(c:Nat):(zaz xs c).length=xs.length:=by unfold zaz;rw [List.length_map,zcz]
theorem zc8 (xs:List Int)(c:Nat){j:Nat}(hj:j<xs.length):(zaz xs c).getD j 0=((c / 2:Nat):Int)+(shp xs c).getD j 0:=by
 have h:j<(shp xs c).length:=by rw [zcz];exact hj
 unfold zaz
 rw [List.getD_eq_getElem?_getD,List.getElem?_map,List.getElem?_eq_getElem h,List.getD_eq_getElem?_getD,List.getElem?_eq_getElem h]
 rfl
theorem z0n (a b p:Nat):(a ||| b)*2 ^ p=a*2 ^ p ||| b*2 ^ p:=by
 rw [<- Nat.shiftLeft_eq,<- Nat.shiftLeft_eq,<- Nat.shiftLeft_eq,Nat.shiftLeft_or_distrib]
theorem z0o {xs:List Int}(h:patB xs=true)(c:Nat){j:Nat}(hj:j<xs.length) :
  mkN (shp xs c) j*2 ^ (c / 2) ||| 2 ^ ((zaz xs c).getD j 0).toNat=mkN (shp xs c) (j+1)*2 ^ (c / 2):=by
 have h1:=za6 (zdp h c)
 have h2:=zbi (h1.2 j (by rw [zcz];exact hj))
 rw [zc8 xs c hj,show (((c / 2:Nat):Int)+(shp xs c).getD j 0).toNat=((shp xs c).getD j 0).toNat+c / 2 by omega,Nat.pow_add,<- z0n,zge h1.2 j (by rw [zcz];exact hj)]
theorem z0p {xs:List Int}(h:patB xs=true){c:Nat}(hc:c<50){j:Nat}(hj:j<=xs.length):mkN (shp xs c) j*2 ^ (c / 2)<2 ^ 38:=by
 have h1:=zdn (za6 (zdp h c)).2 j (by rw [zcz];exact hj)
 have h2:2 ^ (c / 2)<=2 ^ 24:=Nat.pow_le_pow_right (by decide) (by omega)
 exact Nat.lt_of_le_of_lt (Nat.mul_le_mul (Nat.le_of_lt h1) h2) (by decide)
theorem zeb {xs:List Int}(h:patB xs=true)(c:Nat){j:Nat}(hj:j<xs.length):((c / 2:Nat):Int)<=(zaz xs c).getD j 0/\(zaz xs c).getD j 0<=((c / 2:Nat):Int)+12:=by
 have h2:=zbi ((za6 (zdp h c)).2 j (by rw [zcz];exact hj))
 rw [zc8 xs c hj]
 omega
theorem zpa {xs:List Int}(h:patB xs=true){c:Nat}(hc:c<100) : ∀ x∈zaz xs c,Fits x:=fun x hx=>by
 obtain ⟨j,hj,e⟩:=List.mem_iff_getElem.1 hx
 have:=zeb h c (j:=j) (by rw [zgk] at hj;exact hj)
 rw [List.getD_eq_getElem?_getD,List.getElem?_eq_getElem hj,Option.getD_some,e] at this
 unfold Fits
 omega
def putJ (f:Nat->Int) (L:List Int) (i:Int):Nat->Nat->Int
 | 0=>f
 | j+1=>fun t=>if (t:Int)=L.getD j 0 then i else putJ f L i j t
theorem zjh (f:Nat->Int) (L:List Int) (i:Int) (t:Nat) : ∀ j,(putJ f L i j t=i /\ ∃ q,q<j/\L.getD q 0=(t:Int))\/(putJ f L i j t=f t /\ ∀ q,q<j->L.getD q 0≠(t:Int))
 | 0=>.inr ⟨rfl,fun q h=>absurd h (by omega)⟩
 | j+1=>by
  unfold putJ
  by_cases c:(t:Int)=L.getD j 0
  ·rw [if_pos c];exact .inl ⟨rfl,j,by omega,c.symm⟩
  ·rw [if_neg c]
   rcases zjh f L i t j with ⟨h,q,h1,h2⟩ | ⟨h,h1⟩
   ·exact .inl ⟨h,q,by omega,h2⟩
   ·refine .inr ⟨h,fun q hq=>?_⟩
    by_cases e:q=j
    ·subst e;exact fun e=>c e.symm
    ·exact h1 q (by omega)
def takI (xs:List Int) (cs:List Nat):Nat->Nat->Int
 | 0=>fun _=>-1
 | i+1=>putJ (takI xs cs i) (zaz xs (cs.getD i 0)) i xs.length
def zgl (n m:Nat)(f:Nat->Int)(T:Nat):Prop:=∀ t,t<n->(T.testBit t=false/\f t = -1)\/(T.testBit t=true/\0<=f t/\f t<(m:Int))
theorem z0q (n m:Nat):zgl n m (fun _=>-1) 0:=fun t _=>.inl ⟨Nat.zero_testBit t,rfl⟩
theorem zji {xs:List Int}(h:patB xs=true)(c t:Nat):(patM (shp xs c)*2 ^ (c / 2)).testBit t=true ↔ ∃ q,q<xs.length/\(zaz xs c).getD q 0=(t:Int):=by
 rw [Nat.testBit_mul_two_pow,Bool.and_eq_true,decide_eq_true_eq,zjb (zdp h c),zcz]
 constructor
 ·rintro ⟨h1,q,hq,e⟩
  exact ⟨q,hq,by rw [zc8 xs c hq,e];omega⟩
 ·rintro ⟨q,hq,e⟩
  have:=zeb h c hq
  rw [zc8 xs c hq] at e this
  exact ⟨by omega,q,hq,by omega⟩
theorem zpb {xs:List Int}{n T c i:Nat}{cs:List Nat}{f:Nat->Int}(hp:patB xs=true)(h:CovP n (patM xs) (patM (mirL xs)) T (c::cs))(hR:zgl n i f T) :
  (c % 2=1->mirL xs≠xs)/\c / 2<n/\(∀ j,j<xs.length->0<=(zaz xs c).getD j 0/\(zaz xs c).getD j 0<n/\putJ f (zaz xs c) i j ((zaz xs c).getD j 0).toNat = -1) /\
   zgl n (i+1) (putJ f (zaz xs c) i xs.length) (T ||| patM (shp xs c)*2 ^ (c / 2))/\(∀ j,j<=c / 2->(T ||| patM (shp xs c)*2 ^ (c / 2)).testBit j=true)/\(∀ j,j<c / 2->T.testBit j=true)/\T.testBit (c / 2)=false/\CovP n (patM xs) (patM (mirL xs)) (T ||| patM (shp xs c)*2 ^ (c / 2)) cs:=by
 obtain ⟨h1,h2,h3,h4,h5,h6⟩:=h
 rw [zo9] at h2 h3 h6
 have hm : ∀ j,j<xs.length->(patM (shp xs c)*2 ^ (c / 2)).testBit ((zaz xs c).getD j 0).toNat=true:=fun j hj=>by
  have:=zeb hp c hj
  exact (zji hp c _).2 ⟨j,hj,by omega⟩
 have hlt : ∀ t,(patM (shp xs c)*2 ^ (c / 2)).testBit t=true->t<n:=fun t ht=>by
  apply Nat.lt_of_not_le
  intro hle
  have:=Nat.testBit_lt_two_pow (Nat.lt_of_lt_of_le h3 (Nat.pow_le_pow_right (by decide) hle))
  rw [this] at ht
  cases ht
 have hdj : ∀ t,(patM (shp xs c)*2 ^ (c / 2)).testBit t=true->T.testBit t=false:=fun t ht=>by
  have:=congrArg (fun x=>x.testBit t) h2
  simp only [Nat.testBit_and,Nat.zero_testBit,ht,Bool.true_and] at this
  exact this
 have hx0:=(za6 hp).1
 have hbc:(patM (shp xs c)*2 ^ (c / 2)).testBit (c / 2)=true:=by
  rw [Nat.testBit_mul_two_pow]
  simp only [Nat.le_refl,decide_true,Bool.true_and,Nat.sub_self,Nat.testBit_zero]
  exact decide_eq_true (zo0 (zdp hp c))
 refine ⟨fun e1 e2=>h1 e1 (by rw [e2]),hlt _ hbc,fun j hj=>?_,fun t ht=>?_,fun j hj=>?_,h4,h5,h6⟩
 ·have hb:=hm j hj
  have hin:=zeb hp c hj
  have hl:=hlt _ hb
  refine ⟨by omega,by omega,?_⟩
  rcases zjh f (zaz xs c) i ((zaz xs c).getD j 0).toNat j with ⟨_,q,hq,e⟩ | ⟨e,_⟩
  ·have h7:=zea (za6 (zdp hp c)).2 j q hq (by rw [zcz];exact hj)
   rw [zc8 xs c hj] at hin
   rw [zc8 xs c (show q<xs.length by omega),zc8 xs c hj] at e
   omega
  ·rw [e]
   rcases hR _ hl with ⟨_,e2⟩ | ⟨e2,_⟩
   ·exact e2
   ·rw [hdj _ hb] at e2;cases e2
 ·rw [Nat.testBit_or]
  rcases zjh f (zaz xs c) i t xs.length with ⟨e,q,hq,e2⟩ | ⟨e,e2⟩
  ·rw [(zji hp c t).2 ⟨q,hq,e2⟩,e]
   exact .inr ⟨by simp,by omega,by omega⟩
  ·rw [show (patM (shp xs c)*2 ^ (c / 2)).testBit t=false from Bool.eq_false_iff.2 fun hh=>by
    obtain ⟨q,hq,e3⟩:=(zji hp c t).1 hh
    exact e2 q hq e3,Bool.or_false,e]
   rcases hR t ht with h7 | ⟨h7,h8,h9⟩
   ·exact .inl h7
   ·exact .inr ⟨h7,h8,by omega⟩
 ·rw [Nat.testBit_or]
  by_cases e:j=c / 2
  ·subst e;rw [hbc,Bool.or_true]
  ·rw [h4 j (by omega),Bool.true_or]
theorem z0r {n a b T c m:Nat}{cs:List Nat}(h:CovP n a b T (c::cs))(hm : ∀ j,j<=m->T.testBit j=true):m<c / 2:=by
 obtain ⟨_,_,_,_,h5,_⟩:=h
 apply Nat.lt_of_not_le
 intro hle
 rw [hm _ hle] at h5
 cases h5
theorem zpc {n a b:Nat} : ∀ f t s,∀ cs∈covL n a b f t s,cs.length+1<=f
 | 0,_,_,cs,h=>by simp [covL] at h
 | f+1,t,s,cs,h=>by
  unfold covL at h
  split at h
  ·rw [List.mem_singleton] at h;subst h;simp
  ·rw [List.mem_append] at h
   rcases h with h | h
   all_goals
    split at h
    ·obtain ⟨ds,hd,rfl⟩:=List.mem_map.1 h
     have:=zpc f _ _ ds hd
     simpa using this
    ·simp at h
def covS (xs:List Int)(n:Nat)(cs:List Nat):List UInt8:=(List.range n).map fun t=>UInt8.ofNat (97+(takI xs cs cs.length t).toNat)
theorem zpd (xs:List Int)(n:Nat)(cs:List Nat):(covS xs n cs).length=n:=by unfold covS;simp
theorem zjj {xs:List Int}{n:Nat}(hp:patB xs=true){cs:List Nat}(h:cs∈covN xs n) : ∀ i,i<=cs.length -> ∃ T,zgl n i (takI xs cs i) T/\CovP n (patM xs) (patM (mirL xs)) T (cs.drop i)/\(0<i -> ∀ j,j<=cs.getD (i-1) 0 / 2->T.testBit j=true)
 | 0,_=>⟨0,z0q n 0,zjg (n+1) 0 0 0 (by omega) (Nat.two_pow_pos _) (TS.zero 0) cs h,fun h=>absurd h (by omega)⟩
 | i+1,hi=>by
  obtain ⟨T,h1,h2,_⟩:=zjj hp h i (by omega)
  have hd:cs.drop i=cs.getD i 0::cs.drop (i+1):=by
   rw [List.drop_eq_getElem_cons (show i<cs.length by omega),List.getD_eq_getElem?_getD,List.getElem?_eq_getElem (show i<cs.length by omega)]
   rfl
  rw [hd] at h2
  obtain ⟨_,_,_,h6,h7,_,_,h8⟩:=zpb hp h2 h1
  exact ⟨_,h6,h8,fun _=>h7⟩
theorem z0s {xs:List Int}{n:Nat}(hp:patB xs=true){cs:List Nat}(h:cs∈covN xs n) : ∀ t,t<n->0<=takI xs cs cs.length t/\takI xs cs cs.length t<(cs.length:Int):=fun t ht=>by
 obtain ⟨T,h1,h2,_⟩:=zjj hp h cs.length (Nat.le_refl _)
 rw [List.drop_length] at h2
 have h3:T=2 ^ n-1:=h2
 rcases h1 t ht with ⟨h4,_⟩ | ⟨_,h4⟩
 ·rw [h3,Nat.testBit_two_pow_sub_one] at h4;simp [ht] at h4
 ·exact h4
theorem z0t {xs:List Int}{n:Nat}{cs:List Nat}(h:cs∈covN xs n):cs.length<=n:=by
 have:=zpc _ _ _ cs h;omega
theorem z0u {xs:List Int}{n:Nat}(hp:patB xs=true){cs:List Nat}(h:cs∈covN xs n){i:Nat}(hi:i<cs.length) :
  (cs.getD i 0 % 2=1->mirL xs≠xs)/\cs.getD i 0 / 2<n/\(0<i->cs.getD (i-1) 0<cs.getD i 0) /\
   ∀ j,j<xs.length->0<=(zaz xs (cs.getD i 0)).getD j 0/\(zaz xs (cs.getD i 0)).getD j 0<n/\putJ (takI xs cs i) (zaz xs (cs.getD i 0)) i j ((zaz xs (cs.getD i 0)).getD j 0).toNat = -1:=by
 obtain ⟨T,h1,h2,h3⟩:=zjj hp h i (by omega)
 have hd:cs.drop i=cs.getD i 0::cs.drop (i+1):=by
  rw [List.drop_eq_getElem_cons hi,List.getD_eq_getElem?_getD,List.getElem?_eq_getElem hi]
  rfl
 rw [hd] at h2
 obtain ⟨h4,h5,h6,_⟩:=zpb hp h2 h1
 exact ⟨h4,h5,fun h0=>by have:=z0r h2 (h3 h0);omega,h6⟩
theorem zpe (xs:List Int) : ∀ d n,(lstC xs d n=0 /\ ∀ m,n<=m->m<n+d->covN xs m=[])\/(n<=lstC xs d n/\lstC xs d n<n+d/\covN xs (lstC xs d n)≠[])
 | 0,n=>.inl ⟨rfl,fun m h1 h2=>absurd h2 (by omega)⟩
 | d+1,n=>by
  unfold lstC
  by_cases c:covN xs n=[]
  ·rw [if_pos c]
   rcases zpe xs d (n+1) with ⟨h1,h2⟩ | ⟨h1,h2,h3⟩
   ·refine .inl ⟨h1,fun m h3 h4=>?_⟩
    by_cases e:m=n
    ·subst e;exact c
    ·exact h2 m (by omega) (by omega)
   ·exact .inr ⟨by omega,by omega,h3⟩
  ·rw [if_neg c]
   exact .inr ⟨by omega,by omega,c⟩
def ze0 (w w':World)(v v':Value)(n:Nat):Prop:=(v'.ownBlock=some w.heap.size /\ ∀ k,k<w.heap.size->w'.heap[k]? = w.heap[k]?) \/ ∃ g cap,v = .slice (some ⟨g,0,none⟩) n cap/\v' = .slice (some ⟨g,0,none⟩) (n+1) cap
theorem z0v (w:World)(t ty:TypeId)(ht:Tryz.prog.underlying t=some (.slice 3))(base:Nat)(v:Value)(xs:List Int)(hown:OwnI w base v xs)(b off c:Nat)(y:Int)(hcell:w.cell? ⟨b,off,none⟩=some (.int .i64 y))
  (hlen:xs.length<=1048576)(hbase:base<=w.heap.size) :
  ∃ v' w',(Builtin.append_ #[t,t] ty #[v,.slice (some ⟨b,off,none⟩) 1 c]).run Tryz.prog w = .ok v' w'/\OwnI w' base v' (xs++[y])/\w.grownBy w' v.ownBlock/\ze0 w w' v v' xs.length:=by
 obtain ⟨i,hi,hz,hsz,hby⟩:=info_parts Tryz.infoInt
 have hnews : ∀ j u,[Value.int .i64 y][j]? = some u->w.cell? ((⟨b,off,none⟩:Addr).add j)=some u:=fun j u hj=>by
  match j,hj with
  | 0,hj =>
   simp at hj
   subst hj
   exact hcell
 have h1 : ∀ u∈[Value.int .i64 y],u.oneCell'=true:=fun u hu=>by
  rw [List.mem_singleton] at hu;subst hu;rfl
 obtain ⟨v',w',hr,h2,h3,h4,h5⟩:=run_append_own_at (P:=Tryz.prog) w base t ty 3 i _ 1 8 ht hi hz hsz hby rfl (by omega) v xs.length _ hown ⟨b,off,none⟩ 1 c [.int .i64 y] rfl hnews h1 (by unfold maxLen;omega) (by omega) hbase
 refine ⟨v',w',hr,?_,h3,?_⟩
 ·unfold OwnI;simpa using h2
 ·rcases hown.2 with ⟨hv,h0⟩ | ⟨g,cap,cur,hv,hbg,hg,hnc,hcm,hcs,htake⟩
  ·left
   refine ⟨?_,fun k hk=>h3.block k hk (by rw [hv];simp [Value.ownBlock])⟩
   rcases h5 with h5 | h5
   ·rcases h2.2 with ⟨hv',h0'⟩ | ⟨g',cap',cur',hv',_⟩
    ·omega
    ·rw [hv,hv'] at h5
     cases h5
   ·exact h5
  ·by_cases hroom:xs.length+1<=cap
   ·have hr2:=run_append_room (P:=Tryz.prog) w t ty 3 i ht hi g xs.length cap cur hg ⟨b,off,none⟩ 1 c [.int .i64 y] (by rw [hsz];rfl) hnews h1 hroom (by rw [hsz,hcs];simpa using hroom)
    rw [<- hv,hr] at hr2
    injection hr2 with hr2 _
    exact .inr ⟨g,cap,hv,hr2⟩
   ·have holds : ∀ j u,(xs.map (Value.int .i64))[j]? = some u->w.cell? ((⟨g,0,none⟩:Addr).add j)=some u:=World.ownsRow.cells hown (g:=g) (by rw [hv];rfl)
    have hr2:=run_append_grow (P:=Tryz.prog) w t ty 3 i _ ht hi hz ⟨g,0,none⟩ xs.length cap (xs.map (Value.int .i64)) (by rw [hsz];simp) holds ⟨b,off,none⟩ 1 c [.int .i64 y] (by rw [hsz];rfl) hnews (by omega) (by omega) (growslice_fits (by omega) (by rw [hby];omega))
    rw [<- hv,hr] at hr2
    injection hr2 with hr2 hr3
    exact .inl ⟨by rw [hr2];rfl,fun k hk=>by rw [hr3];exact Go.heap_alloc_old w.drew _ hk⟩
theorem z0w {w:World}{ops:Array Oper}{o:Oper}{a:Act}{K:Act->World->Prop}{Q:Exit->Act->World->Prop}{E:Prop}(hgd:o.guard=none)(s x:Operand)
  (ho:o.op = .call { callee:=.builtin .append,args:=#[s,x],argTypes:=#[25,25] })
  (base:Nat) (v:Value) (xs:List Int) (hs:a.eval s=v) (hown:OwnI w base v xs) (b off c:Nat) (y:Int) (hx:a.eval x = .slice (some ⟨b,off,none⟩) 1 c)
  (hcell:w.cell? ⟨b,off,none⟩=some (.int .i64 y)) (hlen:xs.length<=1048576) (hbase:base<=w.heap.size)
  (h : ∀ v' w',OwnI w' base v' (xs++[y])->w.grownBy w' v.ownBlock->ze0 w w' v v' xs.length->K (a.put o.dst v') w'):if Region.wanted o (yielded ops a.tmps)=true then Oper.wp Tryz.prog o a w K Q else E:=by
 have hw:Region.wanted o (yielded ops a.tmps)=true:=by simp [Region.wanted,hgd]
 rw [if_pos hw]
 obtain ⟨v',w',hr,h2,h3,h4⟩:=z0v w _ o.type Tryz.underlying25 base v xs hown b off c y hcell hlen hbase
 unfold Oper.wp execOp
 simp only [ho,resolve,invoke,builtin,Sem.run_bind,Sem.run_pure,Result.andThen_ok,List.map_toArray,List.map_cons,List.map_nil,hs,hx,hr]
 exact h v' w' h2 h3 h4
theorem OwnI.back {w w1 w2 w':World}{base:Nat}{v v':Value}{xs:List Int}{y:Int}(h:OwnI w base v xs)(hr:ze0 w1 w2 v v' xs.length)(h':OwnI w' base v' (xs++[y]))
  (hne:v'.ownBlock=some w1.heap.size->(∀ k,k<w1.heap.size->w2.heap[k]? = w1.heap[k]?) -> ∀ k,v.ownBlock=some k->w'.heap[k]? = w.heap[k]?):OwnI w' base v xs:=by
 rcases hr with ⟨hr,hr0⟩ | ⟨g,cap,hv,hv'⟩
 ·refine ⟨h.1,?_⟩
  rcases h.2 with h0 | ⟨g,cap,cur,e,hb,hh,rest⟩
  ·exact .inl h0
  ·exact .inr ⟨g,cap,cur,e,hb,by rw [hne hr hr0 g (by rw [e];rfl)];exact hh,rest⟩
 ·refine ⟨h.1,.inr ?_⟩
  rcases h'.2 with ⟨e,_⟩ | ⟨g2,cap2,cur2,e,hb2,hh2,hn2,hm2,hs2,ht2⟩
  ·rw [hv'] at e;cases e
  ·rw [hv'] at e
   injection e with e1 e2 e3
   injection e1 with e1
   injection e1 with e1
   subst e1 e3
   refine ⟨g,cap,cur2,hv,hb2,hh2,?_,hm2,hs2,?_⟩
   ·simp at hn2;omega
   ·have:=congrArg (List.take (xs.length*1)) ht2
    rw [List.take_take,show min (xs.length*1) ((xs++[y]).length*1)=xs.length*1 by simp] at this
    rw [this,List.map_append,List.take_append_of_le_length (by simp),List.take_of_length_le (by simp)]
theorem OwnI.frmC {S:Nat->Prop}{w w':World}{base:Nat}{v:Value}{xs:List Int}(h:OwnI w base v xs)(hf:Frm S w w')(hS : ∀ k,v.ownBlock=some k -> ¬ S k):OwnI w' base v xs:=by
 refine ⟨h.1,?_⟩
 rcases h.2 with h0 | ⟨g,cap,cur,e,hb,hh,rest⟩
 ·exact .inl h0
 ·have hlt:g<w.heap.size:=(Array.getElem?_eq_some_iff.1 hh).1
  exact .inr ⟨g,cap,cur,e,hb,by rw [hf.block g hlt (hS g (by rw [e];rfl))];exact hh,rest⟩
end Go.Proofs.YtjpnjchpdkogbaaGreatDoor

