/- Parts of the proof of the card of the law FnConsole. -/
import Derived.Test.YtjpnjchpdkogbaaGreatDoorG27
import Derived.Test.YtjpnjchpdkogbaaGreatDoorG26
import Derived.Test.YtjpnjchpdkogbaaGreatDoorG17
import Derived.Test.YtjpnjchpdkogbaaGreatDoorG06
import Derived.Test.YtjpnjchpdkogbaaGreatDoorG19
set_option linter.unusedVariables false
set_option linter.unusedSimpArgs false
set_option maxRecDepth 100000
set_option maxHeartbeats 2000000
namespace Go.Proofs.YtjpnjchpdkogbaaGreatDoor
open Go.RowKit
theorem z2x {xs:List Int}(h:patB xs=true):mkN xs xs.length≠0:=by
 obtain ⟨hp,_⟩:=za6 h
 obtain ⟨k,hk⟩ : ∃ k,xs.length=k+1:=⟨xs.length-1,by omega⟩
 rw [hk]
 show mkN xs k+2 ^ _≠0
 have:=Nat.two_pow_pos (xs.getD k 0).toNat
 omega
theorem z2y (A:Option Addr)(cap:Nat)(xs:List Int)(n:Nat)(w:World)(hA:Ints w w.heap.size A xs)(hn1:1<=n)(hn2:n<=40) :
  Calls Tryz.prog 140 #[.slice A xs.length cap,.int .i64 n] w fun e w'=>(∃ B l c,e = .returned (.tuple #[.slice B l c,.bool (etB xs n)]))/\Below w.heap.size w w':=by
 have HPO:=Zh (zdo A cap xs w hA)
 have HET:=Zh (show etB xs n=(patB xs && decide ((dvT (mkN xs xs.length) 64 0 (2 ^ n-1)).2=0)) from rfl)
 generalize etB xs n=E at *
 have hin:inB (n:Int) 1 40=true:=za1 ⟨by omega,by omega⟩
 cases hp:patB xs
 ·rw [hp] at HPO HET
  have HE:=Zh (show E=false from HET.o)
  clear hA hp
  go_enter Tryz.func140,Tryz.ntmps140
  go_wp2_with fail
  refine HPO.o.mono ?_
  rintro e w1 ⟨rfl,rfl⟩
  go_wp2_with fail
  go_ret2
  rw [HE.o]
  exact ⟨⟨_,_,_,rfl⟩,Below.refl _ _⟩
 ·rw [hp] at HPO HET
  have hM0:=z2x hp
  have hMs:=zdn (za6 hp).2 xs.length (Nat.le_refl _)
  have HMO:=Zh (z2t A cap xs w.drew hA hp)
  generalize mkN xs xs.length=M at *
  have hpow:2 ^ n<=2 ^ 40:=Nat.pow_le_pow_right (by omega) hn2
  have hpow1:1<=2 ^ n:=Nat.two_pow_pos n
  have HDV:=Zh (fun V=>z2w (2 ^ n-1) M V (by omega) hMs hM0)
  have hshl:wrap64 (2 ^ n)=((2 ^ n:Nat):Int):=by
   rw [show ((2:Int) ^ n)=((2 ^ n:Nat):Int) by simp]
   generalize 2 ^ n=x at hpow
   unfold wrap64
   omega
  have hshl2:IntKind.i64.wrap (2 ^ n)=((2 ^ n:Nat):Int):=by
   rw [show ((2:Int) ^ n)=((2 ^ n:Nat):Int) by simp]
   generalize 2 ^ n=x at hpow
   exact i64w (by omega)
  obtain ⟨P,hP⟩ : ∃ P,2 ^ n=P:=⟨_,rfl⟩
  rw [hP] at hshl hshl2 hpow hpow1 HDV HET
  have hwm:IntKind.i64.wrap ((P:Int)-1)=((P-1:Nat):Int):=by rw [show (P:Int)-1=((P-1:Nat):Int) by omega];exact i64w (by omega)
  have hn0:(0:Int)<=(n:Int):=Int.natCast_nonneg _
  obtain ⟨D,hD⟩ : ∃ D,dvT M 64 0 (P-1)=D:=⟨_,rfl⟩
  rw [hD] at HDV HET
  obtain ⟨q,r⟩:=D
  have HLO:=Zh (fun V (h:q<2 ^ 41)=>z2u q V h)
  clear hA hp hP hD hM0 hMs hpow hpow1
  go_enter Tryz.func140,Tryz.ntmps140
  go_wp2_with (first | (go_at_call 22;refine (zac _ _ _ _).mono ?_;rintro e w' ⟨rfl,rfl⟩) | (go_at_call 131;refine HPO.o.mono ?_;rintro e w1 ⟨rfl,rfl⟩))
  (refine wp_region_held_drew (S:=(fun w'=>True)) (by kernel_rfl) ?_ (fun hHeld=>?_);(focus ((try dsimp only);(try exact trivial))))
  ((refine Zk 0 ?_;(try simp only [Act.put,Zz]));(refine Zk 1 ?_;(try simp only [Act.put,Zz]));(refine Zk 2 ?_;(try simp only [Act.put,Zz]));(refine Zk 3 ?_;(try simp only [Act.put,Zz])))
  (refine wpAnyH_ready (rs:=[4]) (by kernel_rfl) (by simp) ?_;refine AllReadyH.cons rfl (fun K hK=>?_) AllReadyH.nil;go_simp)
  go_at_call 205
  refine HMO.o.mono ?_
  rintro e w1 ⟨rfl,rfl⟩
  go_wp2_with fail
  (refine hK.out _ _ ?_ fun hHeld2=>?_;(focus ((try dsimp only);(try exact trivial)));(clear hK K);(try simp only [Act.put,Zz]))
  (refine wpAnyH_ready (rs:=[5]) (by kernel_rfl) (by simp) ?_;refine AllReadyH.cons rfl (fun K hK=>?_) AllReadyH.nil;go_simp)
  go_at_call 204
  refine (HDV.o _).mono ?_
  rintro e w1 ⟨rfl,hq41,rfl⟩
  go_wp2_with fail
  (refine hK.out _ _ ?_ fun hHeld2=>?_;(focus ((try dsimp only);(try exact trivial)));(clear hK K);(try simp only [Act.put,Zz]))
  ((refine Zk 6 ?_;(try simp only [Act.put,Zz]));(refine Zk 7 ?_;(try simp only [Act.put,Zz]));(refine Zk 8 ?_;(try simp only [Act.put,Zz]));(refine Zk 9 ?_;(try simp only [Act.put,Zz]));(refine Zk 10 ?_;(try simp only [Act.put,Zz])))
  refine wpAnyH_done (by kernel_rfl) ?_ _
  by_cases hr:r=0
  ·subst hr
   have HE:=Zh (show E=true from HET.o)
   go_wp2_with fail
   refine (HLO.o _ hq41).mono ?_
   rintro e w2 ⟨⟨B,l,c,rfl⟩,hb⟩
   go_wp2_with fail
   go_ret2
   rw [HE.o]
   exact ⟨⟨_,_,_,rfl⟩,⟨hb.os,hb.tape,hb.output,hb.size,hb.block⟩⟩
  ·have HE:=Zh (show E=false by rw [HET.o];show (true && decide (r=0))=false;rw [decide_eq_false hr];rfl)
   have hr1:((r:Int) != 0)=true:=bne_iff_ne.2 (by omega)
   have hr2:((r:Int)==0)=false:=beq_eq_false_iff_ne.2 (by omega)
   have hr3:((r:Int)=0)=False:=eq_false (by omega)
   go_wp2_with fail
   go_ret2
   rw [HE.o]
   exact ⟨⟨_,_,_,rfl⟩,⟨rfl,rfl,rfl,Nat.le_refl _,fun _ _=>rfl⟩⟩
theorem z2z (A:Option Addr)(cap:Nat)(xs:List Int)(w:World)(hA:Ints w w.heap.size A xs) :
  Calls Tryz.prog 76 #[.slice A xs.length cap] w fun e w'=>e = .returned (.int .i64 (twoV xs))/\Below w.heap.size w w':=by
 have HA:=Zh hA
 have HV:=Zh (show twF xs 40 1=twoV xs from rfl)
 generalize twoV xs=Z at *
 clear hA
 go_enter Tryz.func76,Tryz.ntmps76
 go_wp2_with fail
 go_loopw [3] (fun i wr=>∃ k:Nat,k<=40/\i = .int .i64 ((k+1:Nat):Int)/\twF xs (40-k) (k+1)=Z/\Below w.heap.size w wr) (fun i _=>41-(intOf i).toNat)
 case atStart=>exact ⟨0,Nat.zero_le _,rfl,HV.o,Below.refl _ _⟩
 case round =>
  obtain ⟨k,hk,rfl,htw,hb⟩:=hrel
  obtain ⟨wo,rfl⟩ : ∃ wo:World,wo=wr:=⟨_,rfl⟩
  have HB:=Zh hb
  by_cases hlt:k<40
  ·have HEN:=Zh (z2y A cap xs (k+1) wo (HA.o.lift hb) (by omega) (by omega))
   have HTS:=Zh (show twF xs (40-k) (k+1)=if etB xs (k+1) then ((k+1:Nat):Int) else twF xs (40-(k+1)) (k+1+1) by rw [show 40-k=(40-(k+1))+1 by omega];rfl)
   have hle:((k+1:Nat):Int)<=40:=by omega
   have hw:IntKind.i64.wrap (((k+1:Nat):Int)+1)=((k+1+1:Nat):Int):=by rw [i64w (by omega)];omega
   obtain ⟨K,hK⟩ : ∃ K,k+1=K:=⟨_,rfl⟩
   rw [hK] at HEN HTS hle hw htw ⊢
   have HT:=Zh htw
   have HK:=Zh hK
   clear htw hb hK
   cases he:etB xs K
   ·rw [he] at HEN HTS
    go_wp2_with fail
    refine HEN.o.mono ?_
    rintro e w2 ⟨⟨B,l,c,rfl⟩,hb⟩
    have HB2:=Zh (HB.o.trans (hb.mono HB.o.size))
    clear hb
    go_wp2_with fail
    go_roundw
    case rel=>exact ⟨k+1,by omega,by rw [HK.o];go_num,by rw [HK.o,<- HT.o,HTS.o,<- HK.o];rfl,HB2.o⟩
    case measure=>simp [intOf];omega
   ·rw [he] at HEN HTS
    go_wp2_with fail
    refine HEN.o.mono ?_
    rintro e w2 ⟨⟨B,l,c,rfl⟩,hb⟩
    go_wp2_with fail
    go_ret
    rw [<- HT.o,HTS.o]
    exact ⟨rfl,HB.o.trans (hb.mono HB.o.size)⟩
  ·have hke:k=40:=by omega
   subst hke
   go_wp2_with fail
   go_ret
   exact ⟨by rw [<- htw];rfl,HB.o⟩
def Env (B:Nat)(W:World):Prop:=∀ V,Below B W V->Errs V/\Pow V/\MaxL V/\DeB V
theorem Env.step {B:Nat}{W V:World}(h:Env B W)(hb:Below B W V):Env B V:=fun U hu=>h U (hb.trans hu)
def Lft (w':World)(g N k ca:Nat)(A:Option Addr)(W:Value)(r:CmdR):Prop :=
 match r.2.2 with
 | none=>Con w' g N (.slice A k ca) W r.1
 | some (M,xs)=>RhOk M xs /\ ∃ A' c',Con w' g M (.slice A' xs.length c') W r.1/\Ints w' w'.heap.size A' xs /\ ∀ k o,A'=some ⟨k,o,none⟩->0<xs.length->g<k
structure CmdPre (V:World) (N:Nat) (bs:List Int) (A:Option Addr) (ca:Nat) (us:List ByteArray) (gw off cap g b B:Nat):Prop where
 con:Con V g N (.slice A bs.length ca) (.slice (some ⟨gw,off,none⟩) us.length cap) false
 ints:Ints V V.heap.size A bs
 hcap:bs.length<=ca
 ok:RhOk N bs
 wds:Wds V gw off us
 siz : ∀ u∈us,u.size<=1048576
 gwg:gw≠g
 bg:b≠g
 bl:b<V.heap.size
 bx:V.cell? ⟨b,0,none⟩=some (.pointer (some ⟨g,0,none⟩))
 Bg:B<=g
 Bs:B<=V.heap.size
 env:Env B V
 ne : ∀ k o,A=some ⟨k,o,none⟩->0<bs.length->k≠g
def zas (i:Nat):Prop:=∀ (N:Nat) (bs:List Int) (A:Option Addr) (ca:Nat) (us:List ByteArray) (gw off cap g b B:Nat) (V:World),CmdPre V N bs A ca us gw off cap g b B->us.length=arT i ->
 Calls Tryz.prog (cloF i) (cloA b g i) V fun e w'=>e = .returned (.string (cmdV N bs us i).2.1)/\Lft w' g N bs.length ca A (.slice (some ⟨gw,off,none⟩) us.length cap) (cmdV N bs us i)/\Frm (zaa g) V w'
theorem Bec.lft {w':World}{g N k ca:Nat}{A:Option Addr}{W:Value}{bad:Bool}{o:Option (Nat × List Int)}(h:Bec w' g N (.slice A k ca) W bad o)(hok : ∀ N bs,o=some (N,bs)->RhOk N bs):Lft w' g N k ca A W (becR bad o):=by
 cases o with
 | none=>exact h
 | some p=>obtain ⟨M,xs⟩:=p;exact ⟨hok M xs rfl,h⟩
theorem RetRh2.toO {w w':World}{s:ByteArray}{e:Ending}(h:RetRh2 w (prhN s) (prhL s) (prhB s) e w'):RetRhO w (btsV s) e w':=by
 unfold RetRhO btsV
 cases hb:prhB s with
 | false =>
  rw [hb] at h
  have h1:prhN s=0:=by unfold prhN;rw [hb];rfl
  have h2:prhL s=[]:=by unfold prhL;rw [hb];rfl
  rw [h1,h2] at h
  exact h
 | true =>
  rw [hb] at h
  have h1:((prhN s).toNat:Int)=prhN s:=by unfold prhN;rw [hb,if_pos rfl];rfl
  rw [if_pos rfl]
  show RetRh2 w ((prhN s).toNat:Int) (prhL s) true e w'
  rw [h1]
  exact h
theorem RetP3.toOI {w w':World}{N:Nat}{bs:List Int}{e:Ending}(h:RetP3 w N (parV N bs) e w'):zmq w (parO N bs) e w':=by
 obtain ⟨h1,h2⟩:=h
 unfold parO
 cases hp:parV N bs with
 | none =>
  rw [hp] at h1
  exact ⟨none,0,h1,⟨show Ints w' w'.heap.size none [] from ⟨Nat.zero_le _,(fun x hx=>nomatch hx),fun hn=>absurd hn (Nat.lt_irrefl 0)⟩,(fun k q e=>nomatch e)⟩,h2⟩
 | some y =>
  rw [hp] at h1
  obtain ⟨A,c,h3,h4,h5⟩:=h1
  exact ⟨A,c,h3,⟨h4,h5⟩,h2⟩
section
variable {V:World} {N:Nat} {bs:List Int} {A:Option Addr} {ca:Nat} {us:List ByteArray} {gw off cap g b B:Nat}
theorem CmdPre.envs (p:CmdPre V N bs A ca us gw off cap g b B){V':World}(hf:Frm (zaa g) V V'):Errs V'/\Pow V'/\MaxL V'/\DeB V' :=
 p.env V' (hf.below (fun c hc=>by have:=p.Bg;show B<=c;rw [show c=g from hc];exact this) p.Bs)
theorem CmdPre.env0 (p:CmdPre V N bs A ca us gw off cap g b B):Errs V/\Pow V/\MaxL V/\DeB V:=p.envs (Frm.refl _ _)
theorem CmdPre.intsF (p:CmdPre V N bs A ca us gw off cap g b B){V':World}(hf:Frm (zaa g) V V'):Ints V' V'.heap.size A bs:=by
 refine ⟨p.ints.1,p.ints.2.1,fun hn=>?_⟩
 obtain ⟨k,o,e,hk,hc⟩:=p.ints.2.2 hn
 refine ⟨k,o,e,Nat.lt_of_lt_of_le hk hf.size,fun i hi=>?_⟩
 rw [hf.cell hk (fun h=>p.ne k o e hn h)]
 exact hc i hi
end
theorem zgs (S:Nat->Prop)(V:World):Frm S V V.drew:=⟨rfl,rfl,rfl,Nat.le_refl _,fun _ _ _=>rfl⟩
theorem zqd {N:Nat}{bs:List Int}(h:RhOk N bs):Fits (N:Int):=by have:=h.2.1;unfold Fits;omega
theorem z23:zas 0:=by
 intro N bs A ca us gw off cap g b B V p har
 have har:us.length=1:=har
 have hl:us.length<=1048577:=by omega
 show Calls Tryz.prog 25 #[.pointer (some ⟨b,0,none⟩)] V _
 refine (z2j b g gw off cap N _ false us (btsV (us.getD 0 ⟨#[]⟩)) V p.con p.wds (by omega) p.bl p.bg p.bx (fun _ _ h=>zgr h) ?_).mono ?_
 ·exact (zv1 _ V.drew (by
   have:=p.siz (us.getD 0 ⟨#[]⟩) (by rw [List.getD_eq_getElem?_getD,List.getElem?_eq_getElem (by omega:0<us.length)];exact List.getElem_mem _)
   unfold maxLen;omega)).mono fun _ _ h=>h.toO
 ·rintro e w' ⟨rfl,h1,h2⟩
  exact ⟨rfl,h1.lft (fun _ _ h=>zgr h),h2⟩
theorem z26:zas 1:=by
 intro N bs A ca us gw off cap g b B V p har
 have har:us.length=2:=har
 have hl:us.length<=1048577:=by omega
 show Calls Tryz.prog 27 #[.pointer (some ⟨b,0,none⟩)] V _
 refine (z2m b g gw off cap N _ false us (evrV ((zae us 0).getD 0) ((zae us 1).getD 0)) V p.con p.wds (by omega) p.siz hl (fun V' h=>(p.envs h).1) (fun V' h=>(p.envs h).2.1) p.gwg p.bl p.bg p.bx (fun _ _ h=>zgp h) (fun V' _=>zv8 _ _ V')).mono ?_
 rintro e w' ⟨rfl,h1,h2⟩
 exact ⟨rfl,h1.lft (fun _ _ h=>zgp h),h2⟩
theorem z29:zas 2:=by
 intro N bs A ca us gw off cap g b B V p har
 have har:us.length=3:=har
 have hl:us.length<=1048577:=by omega
 show Calls Tryz.prog 30 #[.pointer (some ⟨b,0,none⟩)] V _
 refine (z2o b g gw off cap N _ false us (genV ((zae us 0).getD 0) ((zae us 1).getD 0) ((zae us 2).getD 0)) V p.con p.wds (by omega) p.siz hl (fun V' h=>(p.envs h).1) (fun V' h=>(p.envs h).2.1) p.gwg p.bl p.bg p.bx (fun _ _ h=>zgq h) (fun V' _=>zv3 _ _ _ V')).mono ?_
 rintro e w' ⟨rfl,h1,h2⟩
 exact ⟨rfl,h1.lft (fun _ _ h=>zgq h),h2⟩
theorem z3a:zas 3:=by
 intro N bs A ca us gw off cap g b B V p har
 have har:us.length=1:=har
 have hl:us.length<=1048577:=by omega
 show Calls Tryz.prog 32 #[.pointer (some ⟨b,0,none⟩)] V _
 refine (z2p b g gw off cap bs.length ca N A false us (rotV N bs ((zae us 0).getD 0)) V p.con p.wds (by omega) p.siz hl p.env0.1 p.env0.2.1 p.bl p.bg p.bx (fun _ _ h=>zju p.ok h) (fun V' h=>zv5 N A ca bs _ V' (p.intsF h) p.ok)).mono ?_
 rintro e w' ⟨rfl,h1,h2⟩
 exact ⟨rfl,h1.lft (fun _ _ h=>zju p.ok h),h2⟩
theorem z3b:zas 4:=by
 intro N bs A ca us gw off cap g b B V p har
 have har:us.length=0:=har
 have hl:us.length<=1048577:=by omega
 show Calls Tryz.prog 34 #[.pointer (some ⟨b,0,none⟩)] V _
 have hk:RhOk N (mirV N bs):=zbl (by have:=p.ok.1;omega) (by have:=p.ok.2.1;omega)
 have hko : ∀ M xs,(some (N,mirV N bs):Option (Nat × List Int))=some (M,xs)->RhOk M xs:=fun M xs h=>by injection h with h;injection h with h1 h2;subst h1 h2;exact hk
 refine (zu5 b g N A bs.length ca _ false (some (N,mirV N bs)) V p.con p.bl p.bg p.bx hko (ztu N A ca bs V.drew (p.intsF (zgs _ V)) p.ok)).mono ?_
 rintro e w' ⟨rfl,h1,h2⟩
 exact ⟨rfl,h1.lft hko,h2⟩
theorem z3c:zas 5:=by
 intro N bs A ca us gw off cap g b B V p har
 have har:us.length=0:=har
 have hl:us.length<=1048577:=by omega
 show Calls Tryz.prog 36 #[.pointer (some ⟨b,0,none⟩)] V _
 have hk:RhOk N (othL N bs N):=zfo p.ok
 have hko : ∀ M xs,(some (N,othL N bs N):Option (Nat × List Int))=some (M,xs)->RhOk M xs:=fun M xs h=>by injection h with h;injection h with h1 h2;subst h1 h2;exact hk
 refine (zu6 b g N A bs.length ca _ false (some (N,othL N bs N)) V p.con p.bl p.bg p.bx hko (ztt N A ca bs V.drew (p.intsF (zgs _ V)) p.ok)).mono ?_
 rintro e w' ⟨rfl,h1,h2⟩
 exact ⟨rfl,h1.lft hko,h2⟩
theorem z3d:zas 9:=by
 intro N bs A ca us gw off cap g b B V p har
 have har:us.length=0:=har
 have hl:us.length<=1048577:=by omega
 show Calls Tryz.prog 44 #[.pointer (some ⟨b,0,none⟩)] V _
 refine (zu7 b g N A bs.length ca _ false (parO N bs) V p.con p.bl p.bg p.bx (fun _ _ h=>zjx p.ok h) ((zn0 N A ca bs V.drew (p.intsF (zgs _ V)) p.ok).mono fun _ _ h=>h.toOI)).mono ?_
 rintro e w' ⟨rfl,h1,h2⟩
 exact ⟨rfl,h1.lft (fun _ _ h=>zjx p.ok h),h2⟩
theorem z3e:zas 11:=by
 intro N bs A ca us gw off cap g b B V p har
 have har:us.length=2:=har
 have hl:us.length<=1048577:=by omega
 show Calls Tryz.prog 48 #[.pointer (some ⟨b,0,none⟩)] V _
 refine (z2n b g gw off cap N _ false us (polV ((zae us 0).getD 0) ((zae us 1).getD 0)) V p.con p.wds (by omega) p.siz hl (fun V' h=>(p.envs h).1) (fun V' h=>(p.envs h).2.1) p.gwg p.bl p.bg p.bx (fun _ _ h=>zjv h) (fun V' _=>z1u _ _ V')).mono ?_
 rintro e w' ⟨rfl,h1,h2⟩
 exact ⟨rfl,h1.lft (fun _ _ h=>zjv h),h2⟩
theorem z3f:zas 12:=by
 intro N bs A ca us gw off cap g b B V p har
 have har:us.length=1:=har
 have hl:us.length<=1048577:=by omega
 show Calls Tryz.prog 50 #[.pointer (some ⟨g,0,none⟩)] V _
 refine (zvu g gw off cap N _ false us V p.con p.wds (by omega) p.siz p.env0.1 p.env0.2.1 p.env0.2.2.1 (fun _ _ h=>zjw h)).mono ?_
 rintro e w' ⟨rfl,h1,h2⟩
 exact ⟨rfl,h1.lft (fun _ _ h=>zjw h),h2⟩
theorem z3g:zas 13:=by
 intro N bs A ca us gw off cap g b B V p har
 have har:us.length=0:=har
 have hl:us.length<=1048577:=by omega
 show Calls Tryz.prog 51 #[.pointer (some ⟨b,0,none⟩)] V _
 refine (z19 b g N A bs.length ca _ false (mkS (zaj N bs (fun _=>120))) V p.con p.bx (zl9 N A ca bs V p.ints p.ok)).mono ?_
 rintro e w' ⟨rfl,h1,h2⟩
 exact ⟨rfl,h1,h2⟩
theorem z3h:zas 14:=by
 intro N bs A ca us gw off cap g b B V p har
 have har:us.length=0:=har
 have hl:us.length<=1048577:=by omega
 show Calls Tryz.prog 53 #[.pointer (some ⟨b,0,none⟩)] V _
 refine (z2a b g N A bs.length ca _ false (mkS (linL N bs)) V p.con p.bx (zub N A ca bs V p.ints p.ok p.hcap p.env0.2.1 p.env0.2.2.1)).mono ?_
 rintro e w' ⟨rfl,h1,h2⟩
 exact ⟨rfl,h1,h2⟩
theorem z3i:zas 15:=by
 intro N bs A ca us gw off cap g b B V p har
 have har:us.length=0:=har
 have hl:us.length<=1048577:=by omega
 show Calls Tryz.prog 55 #[.pointer (some ⟨b,0,none⟩)] V _
 refine (z2b b g N A bs.length ca _ false (mkS (evlL N bs)) V p.con p.bx (zw2 N A ca bs V p.ints p.ok p.env0.2.1)).mono ?_
 rintro e w' ⟨rfl,h1,h2⟩
 exact ⟨rfl,h1,h2⟩
theorem z3j:zas 16:=by
 intro N bs A ca us gw off cap g b B V p har
 have har:us.length=0:=har
 have hl:us.length<=1048577:=by omega
 show Calls Tryz.prog 57 #[.pointer (some ⟨b,0,none⟩)] V _
 refine (z2c b g N A bs.length ca _ false (mkS (tilL N bs)) V p.con p.bx (zyk N A ca bs V p.ints p.ok p.env0.2.1)).mono ?_
 rintro e w' ⟨rfl,h1,h2⟩
 exact ⟨rfl,h1,h2⟩
theorem z3k:zas 17:=by
 intro N bs A ca us gw off cap g b B V p har
 have har:us.length=0:=har
 have hl:us.length<=1048577:=by omega
 show Calls Tryz.prog 59 #[.pointer (some ⟨b,0,none⟩)] V _
 refine (z2d b g N A bs.length ca _ false (mkS (metV N bs)) V p.con p.bx (zy1 N A ca bs V p.ints p.ok p.env0.2.1 p.env0.2.2.1)).mono ?_
 rintro e w' ⟨rfl,h1,h2⟩
 exact ⟨rfl,h1,h2⟩
theorem z3l:zas 18:=by
 intro N bs A ca us gw off cap g b B V p har
 have har:us.length=0:=har
 have hl:us.length<=1048577:=by omega
 show Calls Tryz.prog 61 #[.pointer (some ⟨b,0,none⟩)] V _
 refine (z2e b g N A bs.length ca _ false (mkS (cllL N bs)) V p.con p.bx (zza N A ca bs V p.ints p.ok p.env0.2.1)).mono ?_
 rintro e w' ⟨rfl,h1,h2⟩
 exact ⟨rfl,h1,h2⟩
theorem z3m:zas 19:=by
 intro N bs A ca us gw off cap g b B V p har
 have har:us.length=1:=har
 have hl:us.length<=1048577:=by omega
 show Calls Tryz.prog 63 #[.pointer (some ⟨b,0,none⟩)] V _
 refine (z2k b g gw off cap bs.length ca N A false us (zdm N bs ((zae us 0).getD 0)) (mkS (itoL (zdm N bs ((zae us 0).getD 0)))) V p.con p.wds (by omega) p.siz hl p.env0.1 p.env0.2.1 p.bl p.bg p.bx (fun V' h=>zzf N A ca bs _ V' (zqd p.ok) (p.intsF h)) (fun V' h=>zbq _ (zp9 _ _ _) V' (p.envs h).2.1)).mono ?_
 rintro e w' ⟨rfl,h1,h2⟩
 exact ⟨rfl,h1,h2⟩
theorem z3n:zas 20:=by
 intro N bs A ca us gw off cap g b B V p har
 have har:us.length=1:=har
 have hl:us.length<=1048577:=by omega
 show Calls Tryz.prog 66 #[.pointer (some ⟨b,0,none⟩)] V _
 refine (z2l b g gw off cap bs.length ca N A false us (cntW N bs ((zae us 0).getD 0)) (mkS (itoL (cntW N bs ((zae us 0).getD 0)))) V p.con p.wds (by omega) p.siz hl p.env0.1 p.env0.2.1 p.bl p.bg p.bx (fun V' h=>zzv N A ca bs _ V' (zqd p.ok) (p.intsF h)) (fun V' h=>zbq _ (zqa p.ok _) V' (p.envs h).2.1)).mono ?_
 rintro e w' ⟨rfl,h1,h2⟩
 exact ⟨rfl,h1,h2⟩
theorem z3o:zas 21:=by
 intro N bs A ca us gw off cap g b B V p har
 have har:us.length=0:=har
 have hl:us.length<=1048577:=by omega
 show Calls Tryz.prog 68 #[.pointer (some ⟨b,0,none⟩)] V _
 refine (z2f b g N A bs.length ca _ false (mkS (zaj N bs natF)) V p.con p.bx (zzw N A ca bs V p.ints p.ok)).mono ?_
 rintro e w' ⟨rfl,h1,h2⟩
 exact ⟨rfl,h1,h2⟩
theorem z3p:zas 22:=by
 intro N bs A ca us gw off cap g b B V p har
 have har:us.length=1:=har
 have hl:us.length<=1048577:=by omega
 show Calls Tryz.prog 70 #[.pointer (some ⟨b,0,none⟩)] V _
 refine (z2g b g gw off cap N _ false us (mkS (lliV ((zb6 us 0).getD []))) V p.con p.wds (by omega) p.siz hl p.env0.1 p.env0.2.1 p.bx (fun V' A' c' h ho hf=>z0i A' c' _ V' (ho.ints hf) (p.envs h).2.1)).mono ?_
 rintro e w' ⟨rfl,h1,h2⟩
 exact ⟨rfl,h1,h2⟩
theorem z3q:zas 23:=by
 intro N bs A ca us gw off cap g b B V p har
 have har:us.length=1:=har
 have hl:us.length<=1048577:=by omega
 show Calls Tryz.prog 73 #[.pointer (some ⟨b,0,none⟩)] V _
 refine (z2h b g gw off cap N _ false us (mkS (cvlV ((zb6 us 0).getD []))) V p.con p.wds (by omega) p.siz hl p.env0.1 p.env0.2.1 p.bx (fun V' A' c' h ho hf=>z1j A' c' _ V' (ho.ints hf) (p.envs h).2.2.2 (p.envs h).2.1)).mono ?_
 rintro e w' ⟨rfl,h1,h2⟩
 exact ⟨rfl,h1,h2⟩
theorem z3r:zas 24:=by
 intro N bs A ca us gw off cap g b B V p har
 have har:us.length=1:=har
 have hl:us.length<=1048577:=by omega
 show Calls Tryz.prog 75 #[.pointer (some ⟨b,0,none⟩)] V _
 refine (z2i b g gw off cap N _ false us (twoV ((zb6 us 0).getD [])) (mkS (itoL (twoV ((zb6 us 0).getD [])))) V p.con p.wds (by omega) p.siz hl p.env0.1 p.env0.2.1 p.bx (fun V' A' c' h ho hf=>z2z A' c' _ V' (ho.ints hf)) (fun V' h=>zbq _ (zqc _) V' (p.envs h).2.1)).mono ?_
 rintro e w' ⟨rfl,h1,h2⟩
 exact ⟨rfl,h1,h2⟩
theorem z3s:zas 25:=by
 intro N bs A ca us gw off cap g b B V p har
 have har:us.length=2:=har
 have hl:us.length<=1048577:=by omega
 show Calls Tryz.prog 77 #[.pointer (some ⟨b,0,none⟩)] V _
 refine (zvt b g gw off cap N _ false us (nklV ((zae us 0).getD 0) ((zae us 1).getD 0)) (mkS (itoL (nklV ((zae us 0).getD 0) ((zae us 1).getD 0)))) V p.con p.wds (by omega) p.siz hl (fun V' h=>(p.envs h).1) (fun V' h=>(p.envs h).2.1) p.gwg p.bl p.bg p.bx (fun V' _=>zwc _ _ V') (fun V' h=>zbq _ (zqb _ _) V' (p.envs h).2.1)).mono ?_
 rintro e w' ⟨rfl,h1,h2⟩
 exact ⟨rfl,h1,h2⟩
theorem z3t:zas 26:=by
 intro N bs A ca us gw off cap g b B V p har
 have har:us.length=1:=har
 have hl:us.length<=1048577:=by omega
 show Calls Tryz.prog 79 #[.pointer (some ⟨g,0,none⟩)] V _
 refine (zvv g gw off cap N _ false us V p.con p.wds (by omega) p.siz).mono ?_
 rintro e w' ⟨rfl,h1,h2⟩
 exact ⟨rfl,h1,h2⟩
theorem z3u:zas 27:=by
 intro N bs A ca us gw off cap g b B V p har
 have har:us.length=2:=har
 have hl:us.length<=1048577:=by omega
 show Calls Tryz.prog 80 #[.pointer (some ⟨g,0,none⟩)] V _
 refine (zvx g gw off cap N _ false us V p.con p.wds (by omega) p.siz hl (fun V' h=>(p.envs h).1) (fun V' h=>(p.envs h).2.1) p.gwg).mono ?_
 rintro e w' ⟨rfl,h1,h2⟩
 exact ⟨rfl,h1,h2⟩
theorem z3v (u:Int)(n:Nat)(w:World)(hn:n<=24) :
  Calls Tryz.prog 102 #[.int .i64 u,.int .i64 n] w fun e w'=>e = .returned (.bool (decide (1<=u) && uniP n u.toNat))/\Below w.heap.size w w':=by
 have hw1:IntKind.i64.wrap ((n:Int)-1)=(n:Int)-1:=i64w (by omega)
 cases hI:inB u 1 (max ((n:Int)-1) 1)
 ·have HV:=Zh (show (decide (1<=u) && uniP n u.toNat)=false by
   cases hu:(decide (1<=u) && uniP n u.toNat) with
   | false=>rfl
   | true =>
    rw [Bool.and_eq_true,decide_eq_true_eq] at hu
    have h2:=hu.2
    unfold uniP at h2
    rw [Bool.and_eq_true,decide_eq_true_eq] at h2
    have:inB u 1 (max ((n:Int)-1) 1)=true:=za1 (by omega)
    rw [this] at hI
    cases hI)
  go_enter Tryz.func102,Tryz.ntmps102
  go_wp2_with (go_at_call 22;refine (zac _ _ _ _).mono ?_;rintro e w' ⟨rfl,rfl⟩)
  go_ret
  exact ⟨zaq HV.o.symm,Below.refl _ _⟩
 ·have hi:=zan.1 hI
  obtain ⟨k,rfl⟩:=Int.eq_ofNat_of_zero_le (show 0<=u by omega)
  rw [decide_eq_true (by omega:(1:Int)<=(k:Int)),Bool.true_and,Int.toNat_natCast]
  exact zof k n w (by omega) (by omega)
theorem z3w (N:Nat)(A:Option Addr)(cap:Nat)(bs:List Int)(k:Int)(w:World)(hA:Ints w w.heap.size A bs)(hok:RhOk N bs) :
  Calls Tryz.prog 39 #[.agg #[.int .i64 N,.slice A bs.length cap],.int .i64 k] w (RetRhO w (strV N bs k)):=by
 have hn2:N<=24:=by have:=hok.2.1;omega
 have hRO:=fun V h=>zav N A cap bs V (by unfold Fits;omega) h
 rw [zao.2 hok] at hRO
 have HRO:=Zh hRO
 have HU:=Zh (fun V=>z3v k N V hn2)
 have hal0:=(Below.refl w.heap.size w).alloc (Nat.le_refl _) (.cells #[.int .i64 N,.slice A bs.length cap] 27)
 have hal2:=hal0.alloc hal0.size (.cells #[.int .i64 0,.slice none 0 0] 27)
 have HC0:=Zh ((Cells2.new w (.int .i64 N) (.slice A bs.length cap) 27).alloc (.cells #[.int .i64 0,.slice none 0 0] 27))
 have HZ0:=Zh (Cells2.new_at (w.alloc (.cells #[.int .i64 N,.slice A bs.length cap] 27)) (.int .i64 0) (.slice none 0 0) 27 (w.heap.size+1) (by simp))
 have HB0:=Zh hal2
 have HI0:=Zh (hA.lift hal2)
 have HOK:=Zh hok
 clear hA hal0 hal2 hRO hok
 obtain ⟨c0,c1,_,_,_⟩:=HC0.o
 obtain ⟨z0,z1,_,_,_⟩:=HZ0.o
 cases hin:(decide (1<=k) && uniP N k.toNat)
 ·rw [show strV N bs k=none by unfold strV;rw [hin];rfl]
  rw [hin] at HU
  clear hin
  go_enter Tryz.func39,Tryz.ntmps39
  go_wp2_with fail
  refine (HRO.o _ HI0.o).mono ?_
  rintro e w1 ⟨rfl,hb⟩
  have HB1:=Zh (HB0.o.trans (hb.mono HB0.o.size))
  have HC1:=Zh (HC0.o.below hb HC0.o.2.2.2.2)
  have HZ1:=Zh (HZ0.o.below hb HZ0.o.2.2.2.2)
  clear hb c0 c1 z0 z1
  obtain ⟨c0,c1,_,_,_⟩:=HC1.o
  go_wp2_with fail
  refine (HU.o _).mono ?_
  rintro e w2 ⟨rfl,hb⟩
  have HB2:=Zh (HB1.o.trans (hb.mono HB1.o.size))
  have HZ2:=Zh (HZ1.o.below hb HZ1.o.2.2.2.2)
  clear hb c0 c1
  obtain ⟨z0,z1,_,_,_⟩:=HZ2.o
  go_wp2_with fail
  refine bodyPost_ret (v:=.tuple #[.agg #[.int .i64 0,.slice none 0 0],.bool false]) (by simp [results,Tryz.results39,go_sem,z0,z1]) rfl ?_
  exact RetRhO.none_ ((HB2.o.setCell (p:=⟨w.heap.size+1,0,none⟩) (by show w.heap.size<=w.heap.size+1;omega) _).setCell (p:=⟨w.heap.size+1,1,none⟩) (by show w.heap.size<=w.heap.size+1;omega) _)
 ·rw [show strV N bs k=some (N,affL N k.toNat 0 bs) by unfold strV;rw [hin];rfl]
  rw [hin] at HU
  rw [Bool.and_eq_true,decide_eq_true_eq] at hin
  obtain ⟨K,rfl⟩:=Int.eq_ofNat_of_zero_le (show 0<=k by omega)
  have h2:=hin.2
  rw [Int.toNat_natCast] at h2 ⊢
  unfold uniP at h2
  rw [Bool.and_eq_true,decide_eq_true_eq] at h2
  have hK:K<=1000:=by omega
  have HM:=Zh (fun V h=>zlo N A cap bs K V h HOK.o hK)
  clear hin h2
  show Calls _ _ _ _ (RetRh2 w N (affL N K 0 bs) true)
  generalize affL N K 0 bs=R at HM ⊢
  go_enter Tryz.func39,Tryz.ntmps39
  go_wp2_with fail
  refine (HRO.o _ HI0.o).mono ?_
  rintro e w1 ⟨rfl,hb⟩
  have HB1:=Zh (HB0.o.trans (hb.mono HB0.o.size))
  have HC1:=Zh (HC0.o.below hb HC0.o.2.2.2.2)
  have HZ1:=Zh (HZ0.o.below hb HZ0.o.2.2.2.2)
  have HI1:=Zh (HI0.o.lift hb)
  clear hb c0 c1 z0 z1
  obtain ⟨c0,c1,_,_,_⟩:=HC1.o
  go_wp2_with fail
  refine (HU.o _).mono ?_
  rintro e w2 ⟨rfl,hb⟩
  have HB2:=Zh (HB1.o.trans (hb.mono HB1.o.size))
  have HC2:=Zh (HC1.o.below hb HC1.o.2.2.2.2)
  have HZ2:=Zh (HZ1.o.below hb HZ1.o.2.2.2.2)
  have HI2:=Zh (HI1.o.lift hb)
  clear hb c0 c1
  obtain ⟨c0,c1,_,_,_⟩:=HC2.o
  go_wp2_with fail
  refine (HM.o _ HI2.o).mono ?_
  rintro e w3 ⟨A2,c2,rfl,hr,hb⟩
  have HB3:=Zh (HB2.o.trans (hb.mono HB2.o.size))
  have HZ3:=Zh (HZ2.o.below hb HZ2.o.2.2.2.2)
  have HR3:=Zh hr
  have hlt:w.heap.size+1<w2.heap.size:=HZ2.o.2.2.2.2
  clear hb hr c0 c1
  obtain ⟨z0,z1,y0,y1,_⟩:=HZ3.o
  have HZ4:=Zh ((HZ3.o.set0 (.int .i64 N)).set1 (.slice A2 R.length c2))
  obtain ⟨x0,x1,_,_,_⟩:=HZ4.o
  have HF3:=Zh ((HB3.o.setCell (p:=⟨w.heap.size+1,0,none⟩) (by show w.heap.size<=w.heap.size+1;omega) (.int .i64 N)).setCell (p:=⟨w.heap.size+1,1,none⟩) (by show w.heap.size<=w.heap.size+1;omega) (.slice A2 R.length c2))
  go_wp2_with fail
  refine bodyPost_ret (v:=.tuple #[.agg #[.int .i64 N,.slice A2 R.length c2],.bool true]) (by simp [results,Tryz.results39,go_sem,x0,x1]) rfl ?_
  exact ⟨_,_,rfl,((HR3.o.far (p:=⟨w.heap.size+1,0,none⟩) hlt _).far (p:=⟨w.heap.size+1,1,none⟩) hlt _).mono (by omega),HF3.o⟩
theorem zgt {xs:List Txt}(h : ∀ x∈xs,x.length<=504)(hl:xs.length<=10):(zaf xs [32]).length<=10000:=by
 have h1:=zb4 [32] 504 xs h
 have h2:xs.length*(504+[(32:UInt8)].length)<=10*505:=Nat.mul_le_mul hl (Nat.le_refl _)
 omega
theorem z3x {N:Nat}{bs:List Int}(hok:RhOk N bs):(linL N bs).length<=10000:=by
 have hn2:N<=24:=by have:=hok.2.1;omega
 have hpf:Fits (perV N bs:Int):=by have:=(zcr hok).2.1;unfold Fits;omega
 have hvl:(vecV N bs).length<=24:=by rw [zh6];omega
 have h1:=zl6 (zfv hok) hvl
 have h2:=zl5 N bs
 have h3:=zbe _ hpf
 have h4:(zaj N bs (fun _=>120)).length<=504:=by rw [zb5];omega
 refine zgt ?_ (by simp)
 intro x hx
 simp only [List.mem_cons,List.not_mem_nil,or_false] at hx
 rcases hx with rfl | rfl | rfl | rfl | rfl | rfl | rfl <;> first | omega | simp
theorem z3y {N:Nat}{bs:List Int}(hok:RhOk N bs):(evlL N bs).length<=10000:=by
 have hn1:1<=N:=by have:=hok.1;omega
 have hn2:N<=24:=by have:=hok.2.1;omega
 have hbl:bs.length<=N:=by have:=hok.len;omega
 have hyo:RhOk N (fewX N bs):=(zah (zc3 hn1 hn2 hbl) _).1
 have hyl:bs.length=(fewX N bs).length:=by
  unfold fewX
  rw [(zah (zc3 hn1 hn2 hbl) _).2,zek]
 have hpf:Fits (farV N bs (fewX N bs)):=by
  have:=zlq hok hyo hyl
  have:=zlg N bs (fewX N bs)
  unfold Fits;omega
 have h3:=zbe _ hpf
 have h4:(zaj N (zbd N bs) (fun _=>120)).length<=504:=by rw [zb5];omega
 have h5:(evW (evnB (zat N bs))).length<=504:=by unfold evW;split <;> simp
 refine zgt ?_ (by simp)
 intro x hx
 simp only [List.mem_cons,List.not_mem_nil,or_false] at hx
 rcases hx with rfl | rfl | rfl | rfl | rfl <;> first | omega | simp
theorem z3z {N:Nat}{bs:List Int}(hok:RhOk N bs):(tilL N bs).length<=10000:=by
 have hn1:1<=N:=by have:=hok.1;omega
 have hn2:N<=24:=by have:=hok.2.1;omega
 obtain ⟨hvl,hvf⟩:=zn2 bs hn1 hn2
 have hnl:=zn1 hvf hvl
 have hpl:=zn3 (bs:=bs) hn2
 refine zgt ?_ (by simp)
 intro x hx
 simp only [List.mem_cons,List.not_mem_nil,or_false] at hx
 rcases hx with rfl | rfl | rfl | rfl <;> first | omega | simp
theorem z30 {N:Nat}{bs:List Int}(hok:RhOk N bs):(metV N bs).length<=10000:=by
 have hn2:N<=24:=by have:=hok.2.1;omega
 have hbl:(bs.length:Int)<=N:=hok.len
 rw [zoc hok]
 split
 ·simp
 ·rename_i h
  have h0:1<=(mtrL N).length:=by
   cases hm:mtrL N with
   | nil=>exact absurd hm h
   | cons _ _=>simp
  have hm:=(zi2 hn2 (zn7 (bs:=bs) h0 (Nat.le_refl _))).1
  have h1:=zob hm
  have h2:=zmj hm N bs
  have h3:=zbe (zbf N bs (bstM N bs (mtrL N).length)) (by unfold Fits;omega)
  rw [List.length_append,List.length_append]
  simp only [List.length_cons,List.length_nil]
  omega
theorem z32 {N:Nat}{bs:List Int}(hok:RhOk N bs):(cllL N bs).length<=10000:=by
 have hn2:N<=24:=by have:=hok.2.1;omega
 have hpf:Fits ((orbV N bs:Nat):Int):=by
  have:=(zcr hok).2.1
  unfold orbV Fits;split <;> omega
 have h3:=zbe _ hpf
 have h4:(zaj N (frmV N bs) (fun _=>120)).length<=504:=by rw [zb5];omega
 have h5:(zaj N (clsV N bs) (fun _=>120)).length<=504:=by rw [zb5];omega
 refine zgt ?_ (by simp)
 intro x hx
 simp only [List.mem_cons,List.not_mem_nil,or_false] at hx
 rcases hx with rfl | rfl | rfl | rfl | rfl <;> first | omega | simp
theorem z33 (xs:List Int):(lliV xs).length<=10000:=by
 unfold lliV
 split
 ·split
  ·have h1:=zbe (zcy xs:Int) (by have:=zov xs;unfold Fits;omega)
   have hlf:=zi9 xs
   have h2:=zox (xs:=zbj xs) (fun x hx=>by have:=hlf.1 x hx;unfold Fits;omega) (by omega)
   simp only [List.length_append,List.length_cons,List.length_nil]
   omega
  ·have h1:=zbe (zcn xs) (by have:=zow xs;unfold Fits;omega)
   simp only [List.length_append,List.length_cons,List.length_nil]
   omega
 ·simp
theorem z34 (xs:List Int):(cvlV xs).length<=10000:=by
 have hle:=zpu xs
 have h1:=zbe (zap xs:Int) (by unfold Fits;omega)
 unfold cvlV
 split
 ·split
  ·simp only [List.length_append,List.length_cons,List.length_nil,zpd]
   omega
  ·omega
 ·simp
theorem zgu {n:Int}(h:Fits n):(itoL n).length<=10000:=by have:=zbe n h;omega
theorem zjz {N:Nat}{bs:List Int}(F:Nat->UInt8)(hok:RhOk N bs):(zaj N bs F).length<=10000:=by
 have hn2:N<=24:=by have:=hok.2.1;omega
 rw [zb5];omega
theorem z35 (u:ByteArray):(plaT u).size<=10000:=by
 unfold plaT
 split
 ·decide
 ·rw [za2]
  unfold plaV
  cases hs:zck u with
  | none=>simp
  | some r =>
   obtain ⟨p,d⟩:=r
   have:=zm2 hs
   show (letL u p).length<=_
   rw [zim];omega
theorem z36 (xs:List Int)(g:Int):(qntT xs g).size<=10000:=by
 unfold qntT qntV
 cases hq:qokB xs g with
 | false=>show noneS.size<=_;decide
 | true =>
  show (mkS (za0 (qnL xs g xs.length))).size<=_
  unfold qokB tmsB at hq
  simp only [Bool.and_eq_true,decide_eq_true_eq] at hq
  obtain ⟨⟨hl,ha,_⟩,hg⟩:=hq
  have hg:=zan.1 hg
  have hx : ∀ x∈xs,0<=x/\x<=100000:=fun x hx=>zan.1 (List.all_eq_true.1 ha x hx)
  have hf : ∀ y∈qnL xs g xs.length,Fits y:=fun y hy=>by
   unfold qnL mpL at hy
   rw [List.mem_map] at hy
   obtain ⟨x,hx2,rfl⟩:=hy
   have:=zii (hx x (List.mem_of_mem_take hx2)) hg
   unfold Fits
   omega
  have hll:(qnL xs g xs.length).length<=32:=Nat.le_trans (zd0 _ _ _) hl
  rw [za2]
  unfold za0
  split
  ·simp
  ·have hjl:=zb4 [44] 20 ((qnL xs g xs.length).map itoL) (zci hf)
   rw [List.length_map] at hjl
   have:(qnL xs g xs.length).length*(20+[(44:UInt8)].length)<=32*21:=Nat.mul_le_mul hll (Nat.le_refl _)
   omega
theorem z38 {N:Nat}{xs:List Int}(h1:1<=N)(h2:N<=24)(hp:xs.Pairwise (fun a b=>a<b))(hr : ∀ x∈xs,0<=x/\x<N):RhOk N xs:=by
 refine ⟨by omega,by omega,fun i hi=>hr _ (by rw [List.getD_eq_getElem?_getD,List.getElem?_eq_getElem hi];exact List.getElem_mem hi),fun i hi=>?_⟩
 have:=List.pairwise_iff_getElem.1 hp i (i+1) (by omega) hi (by omega)
 rw [List.getD_eq_getElem?_getD,List.getD_eq_getElem?_getD,List.getElem?_eq_getElem hi,List.getElem?_eq_getElem (by omega:i<_)]
 exact this
theorem zgv (N:Nat)(bs:List Int)(k:Nat):rptL N bs (k+1)=rptL N bs k++bs.map fun p=>((k*N:Nat):Int)+p:=by
 unfold rptL
 rw [List.range_succ,List.flatMap_append]
 simp
theorem zj0 {N:Nat}{bs:List Int}(h : ∀ x∈bs,0<=x/\x<(N:Int)) : ∀ k,∀ x∈rptL N bs k,0<=x/\x<((k*N:Nat):Int)
 | 0,x,hx=>by unfold rptL at hx;simp at hx
 | k+1,x,hx=>by
  rw [zgv,List.mem_append] at hx
  have he:((k+1)*N:Nat)=k*N+N:=Nat.succ_mul _ _
  rw [he]
  rcases hx with hx | hx
  ·have:=zj0 h k x hx
   omega
  ·obtain ⟨p,hp,rfl⟩:=List.mem_map.1 hx
   have:=h p hp
   omega
theorem zqe {N:Nat}{bs:List Int}(h : ∀ x∈bs,0<=x/\x<(N:Int))(hp:bs.Pairwise (fun a b=>a<b)) : ∀ k,(rptL N bs k).Pairwise (fun a b=>a<b)
 | 0=>by unfold rptL;simp
 | k+1=>by
  rw [zgv,List.pairwise_append]
  refine ⟨zqe h hp k,?_,fun a ha b hb=>?_⟩
  ·rw [List.pairwise_map]
   exact hp.imp fun h=>by omega
  ·have:=zj0 h k a ha
   obtain ⟨p,hp,rfl⟩:=List.mem_map.1 hb
   have:=h p hp
   omega
theorem zqf (N:Nat) (bs:List Int) : ∀ k,(rptL N bs k).length=k*bs.length
 | 0=>by unfold rptL;simp
 | k+1=>by rw [zgv,List.length_append,zqf N bs k,List.length_map,Nat.succ_mul]
theorem zj1 {M:Nat}{xs:List Int}{k:Int}{N:Nat}{bs:List Int}(hok:RhOk M xs)(h:rptV M xs k=some (N,bs)):RhOk N bs:=by
 unfold rptV at h
 cases hc:inB k 1 ((24 / M:Nat):Int) with
 | false=>rw [hc] at h;cases h
 | true =>
  rw [hc] at h
  injection h with h
  injection h with h1 h2
  subst h1 h2
  have hi:=zan.1 hc
  obtain ⟨K,rfl⟩:=Int.eq_ofNat_of_zero_le (show 0<=k by omega)
  rw [Int.toNat_natCast]
  have hM:1<=M:=by have:=hok.1;omega
  have hk:K*M<=24:=Nat.le_trans (Nat.mul_le_mul_right M (by omega:K<=24 / M)) (Nat.div_mul_le_self 24 M)
  have hk1:1<=K*M:=Nat.mul_pos (by omega) hM
  exact z38 hk1 hk (zqe (zba hok) (zc2 hok) K) (zj0 (zba hok) K)
theorem zj2 {M:Nat}{xs:List Int}{k:Int}{N:Nat}{bs:List Int}(hok:RhOk M xs)(h:strV M xs k=some (N,bs)):RhOk N bs:=by
 unfold strV at h
 cases hc:(decide (1<=k) && uniP M k.toNat) with
 | false=>rw [hc] at h;cases h
 | true =>
  rw [hc] at h
  injection h with h
  injection h with h1 h2
  subst h1 h2
  exact zbl (by have:=hok.1;omega) (by have:=hok.2.1;omega)
theorem zj3 {M:Nat}{xs:List Int}{k:Int}{N:Nat}{bs:List Int}(hok:RhOk M xs)(h:phaV M xs k=some (N,bs)):RhOk N bs:=by
 unfold phaV at h
 cases hc:inB k (-1000) 1000 with
 | false=>rw [hc] at h;cases h
 | true =>
  rw [hc] at h
  injection h with h
  injection h with h1 h2
  subst h1 h2
  exact zp2 (by have:=hok.1;omega) (by have:=hok.2.1;omega)
theorem zqg {M:Nat} : ∀ (l:List UInt8) (xs:List Int),RhOk M xs->RhOk M (wrdL M l xs)
 | [],xs,h=>h
 | c::r,xs,h=>by
  unfold wrdL
  refine zqg r _ ?_
  split
  ·exact (zah h 1).1
  ·split
   ·exact zbl (by have:=h.1;omega) (by have:=h.2.1;omega)
   ·exact zfo h
theorem zj4 {M:Nat}{xs:List Int}{s:ByteArray}{N:Nat}{bs:List Int}(hok:RhOk M xs)(h:wrdV M xs s=some (N,bs)):RhOk N bs:=by
 unfold wrdV at h
 split at h
 ·injection h with h
  injection h with h1 h2
  subst h1 h2
  exact zqg _ _ (zah hok 0).1
 ·cases h
def CmdG (r:CmdR):Prop:=r.2.1.size<=10000 /\ ∀ N bs,r.2.2=some (N,bs)->RhOk N bs
theorem zb1 {bad:Bool}{o:Option (Nat × List Int)}(h : ∀ N bs,o=some (N,bs)->RhOk N bs):CmdG (becR bad o):=by
 refine ⟨?_,h⟩
 show (becT o).size<=_
 unfold becT
 cases o with
 | none=>decide
 | some p =>
  obtain ⟨N,bs⟩:=p
  show (mkS (zaj N bs _)).size<=_
  rw [za2]
  exact zjz _ (h N bs rfl)
theorem txtG {bad:Bool}{l:Txt}(h:l.length<=10000):CmdG (bad,mkS l,none):=⟨by show (mkS l).size<=_;rw [za2];exact h,fun _ _ h=>nomatch h⟩
theorem z39 {N:Nat}{bs:List Int}(hok:RhOk N bs)(us:List ByteArray) : ∀ i,CmdG (cmdV N bs us i)
 | 0=>zb1 (fun _ _ h=>zgr h)
 | 1=>zb1 (fun _ _ h=>zgp h)
 | 2=>zb1 (fun _ _ h=>zgq h)
 | 3=>zb1 (fun _ _ h=>zju hok h)
 | 4=>zb1 (fun M xs h=>by
  injection h with h;injection h with h1 h2;subst h1 h2
  exact zbl (by have:=hok.1;omega) (by have:=hok.2.1;omega))
 | 5=>zb1 (fun M xs h=>by
  injection h with h;injection h with h1 h2;subst h1 h2
  exact zfo hok)
 | 6=>zb1 (fun _ _ h=>zj2 hok h)
 | 7=>zb1 (fun _ _ h=>zj1 hok h)
 | 8=>zb1 (fun _ _ h=>zj3 hok h)
 | 9=>zb1 (fun _ _ h=>zjx hok h)
 | 10=>zb1 (fun _ _ h=>zj4 hok h)
 | 11=>zb1 (fun _ _ h=>zjv h)
 | 12=>zb1 (fun _ _ h=>zjw h)
 | 13=>txtG (zjz _ hok)
 | 14=>txtG (z3x hok)
 | 15=>txtG (z3y hok)
 | 16=>txtG (z3z hok)
 | 17=>txtG (z30 hok)
 | 18=>txtG (z32 hok)
 | 19=>txtG (zgu (zp9 _ _ _))
 | 20=>txtG (zgu (zqa hok _))
 | 21=>txtG (zjz _ hok)
 | 22=>txtG (z33 _)
 | 23=>txtG (z34 _)
 | 24=>txtG (zgu (zqc _))
 | 25=>txtG (zgu (zqb _ _))
 | 26=>⟨z35 _,fun _ _ h=>nomatch h⟩
 | _+27=>⟨z36 _ _,fun _ _ h=>nomatch h⟩
theorem zgw {N:Nat}{bs:List Int}(hok:RhOk N bs)(u:ByteArray):(zau N bs u).2.size<=10000/\RhOk (zau N bs u).1.1 (zau N bs u).1.2:=by
 unfold zau
 split
 ·exact ⟨by show (⟨#[]⟩:ByteArray).size<=_;decide,hok⟩
 ·split
  ·exact ⟨by show unkS.size<=_;decide,hok⟩
  ·rename_i i _
   split
   ·exact ⟨by show unkS.size<=_;decide,hok⟩
   ·have h:=z39 hok ((splT 32 u).drop 1) i
    refine ⟨h.1,?_⟩
    cases ho:(cmdV N bs ((splT 32 u).drop 1) i).2.2 with
    | none=>exact hok
    | some p=>exact h.2 p.1 p.2 ho
theorem z4a (N:Nat)(A:Option Addr)(cap:Nat)(bs:List Int)(k:Int)(w:World)(hA:Ints w w.heap.size A bs)(hok:RhOk N bs) :
  Calls Tryz.prog 41 #[.agg #[.int .i64 N,.slice A bs.length cap],.int .i64 k] w (RetRhO w (rptV N bs k)):=by
 have hn1:1<=N:=by have:=hok.1;omega
 have hn2:N<=24:=by have:=hok.2.1;omega
 have hRO:=fun V h=>zav N A cap bs V (by unfold Fits;omega) h
 rw [zao.2 hok] at hRO
 have HRO:=Zh hRO
 have hal0:=(Below.refl w.heap.size w).alloc (Nat.le_refl _) (.cells #[.int .i64 N,.slice A bs.length cap] 27)
 have hal2:=hal0.alloc hal0.size (.cells #[.int .i64 0,.slice none 0 0] 27)
 have HC0:=Zh ((Cells2.new w (.int .i64 N) (.slice A bs.length cap) 27).alloc (.cells #[.int .i64 0,.slice none 0 0] 27))
 have HZ0:=Zh (Cells2.new_at (w.alloc (.cells #[.int .i64 N,.slice A bs.length cap] 27)) (.int .i64 0) (.slice none 0 0) 27 (w.heap.size+1) (by simp))
 have HB0:=Zh hal2
 have HI0:=Zh (hA.lift hal2)
 have HIN:=Zh hA
 have HOK:=Zh hok
 clear hA hal0 hal2 hRO hok
 obtain ⟨c0,c1,_,_,_⟩:=HC0.o
 obtain ⟨z0,z1,_,_,_⟩:=HZ0.o
 have hdv:Int.tdiv 24 (N:Int)=((24 / N:Nat):Int):=by rw [Int.tdiv_eq_ediv_of_nonneg (by omega),Int.natCast_ediv];rfl
 obtain ⟨Q,hQ⟩ : ∃ Q,24 / N=Q:=⟨_,rfl⟩
 have hQ24:Q<=24:=by rw [<- hQ];exact Nat.div_le_self _ _
 have hQN:Q*N<=24:=by rw [<- hQ];exact Nat.div_mul_le_self 24 N
 have HV:=Zh (show rptV N bs k=if inB k 1 (Q:Int) then some (k.toNat*N,rptL N bs k.toNat) else none by unfold rptV;rw [hQ])
 rw [hQ] at hdv
 have hwq:IntKind.i64.wrap (Q:Int)=(Q:Int):=i64w (by omega)
 have hg0:((N:Int)=0)=False:=eq_false (by omega)
 have hg1:(N=0)=False:=eq_false (by omega)
 have hg2:((N:Int)==0)=false:=beq_eq_false_iff_ne.2 (by omega)
 clear hQ
 cases hin:inB k 1 (Q:Int)
 ·rw [hin] at HV
  rw [HV.o]
  have hkk:k<1\/(¬ k<1/\(Q:Int)<k):=by
   have h : ¬ (1<=k/\k<=Q):=fun h=>by rw [za1 h] at hin;cases hin
   omega
  clear hin
  rcases hkk with hk | ⟨hk0,hk⟩
  all_goals
   go_enter Tryz.func41,Tryz.ntmps41
   go_wp2_with fail
   refine (HRO.o _ HI0.o).mono ?_
   rintro e w1 ⟨rfl,hb⟩
   have HB1:=Zh (HB0.o.trans (hb.mono HB0.o.size))
   have HC1:=Zh (HC0.o.below hb HC0.o.2.2.2.2)
   have HZ1:=Zh (HZ0.o.below hb HZ0.o.2.2.2.2)
   clear hb c0 c1 z0 z1
   obtain ⟨c0,c1,_,_,_⟩:=HC1.o
   obtain ⟨z0,z1,_,_,_⟩:=HZ1.o
   go_wp2_with fail
   refine bodyPost_ret (v:=.tuple #[.agg #[.int .i64 0,.slice none 0 0],.bool false]) (by simp [results,Tryz.results41,go_sem,z0,z1]) rfl ?_
   exact RetRhO.none_ ((HB1.o.setCell (p:=⟨w.heap.size+1,0,none⟩) (by show w.heap.size<=w.heap.size+1;omega) _).setCell (p:=⟨w.heap.size+1,1,none⟩) (by show w.heap.size<=w.heap.size+1;omega) _)
 ·have hi:=zan.1 hin
  obtain ⟨K,rfl⟩:=Int.eq_ofNat_of_zero_le (show 0<=k by omega)
  rw [hin,Int.toNat_natCast] at HV
  rw [HV.o]
  have hk1 : ¬ (K:Int)<1:=by omega
  have hk2 : ¬ (Q:Int)<(K:Int):=by omega
  have hk3 : ¬ Q<K:=by omega
  have hk4:decide (Q<K)=false:=decide_eq_false hk3
  have hKN:K*N<=24:=Nat.le_trans (Nat.mul_le_mul_right N (by omega:K<=Q)) hQN
  have hK24:K<=24:=by omega
  have hwk:IntKind.i64.wrap ((K:Int)*(N:Int))=((K*N:Nat):Int):=by rw [<- Int.natCast_mul];exact i64w (by omega)
  have HSU:=Zh (fun j=>zgv N bs j)
  have HLE:=Zh (fun j=>zqf N bs j)
  have hbl:bs.length<=24:=by have:=ze1 HOK.o;omega
  show Calls _ _ _ _ (RetRh2 w ((K*N:Nat):Int) (rptL N bs K) true)
  have HRG:=Zh (zba HOK.o)
  clear hin hi HV hQN
  go_enter Tryz.func41,Tryz.ntmps41
  go_wp2_with fail
  refine (HRO.o _ HI0.o).mono ?_
  rintro e w1 ⟨rfl,hb⟩
  have HB1:=Zh (HB0.o.trans (hb.mono HB0.o.size))
  have HC1:=Zh (HC0.o.below hb HC0.o.2.2.2.2)
  have HZ1:=Zh (HZ0.o.below hb HZ0.o.2.2.2.2)
  clear hb c0 c1 z0 z1
  obtain ⟨c0,c1,_,_,_⟩:=HC1.o
  go_wp2_with fail
  clear c0 c1
  go_loopw [6,26] (fun so si wr=>∃ (j:Nat),j<=K/\si = .int .i64 j/\OwnI wr (w.heap.size+2) so (rptL N bs j)/\Cells2 wr w.heap.size (.int .i64 N) (.slice A bs.length cap)/\Cells2 wr (w.heap.size+1) (.int .i64 0) (.slice none 0 0)/\Below w.heap.size w wr) (fun _ si _=>K-(intOf si).toNat)
  case atStart=>exact ⟨0,Nat.zero_le _,rfl,OwnI.nil _ _,HC1.o,HZ1.o,HB1.o⟩
  case round =>
   obtain ⟨j,hj,rfl,hown,hc,hz,hb⟩:=hrel
   obtain ⟨wo,rfl⟩ : ∃ wo:World,wo=wr:=⟨_,rfl⟩
   have HOW:=Zh hown
   have HC:=Zh hc
   have HZ:=Zh hz
   have HB:=Zh hb
   obtain ⟨A1,c1,rfl⟩:=hown.form
   obtain ⟨c0,cc1,_,_,_⟩:=HC.o
   clear hown hc hz hb HB0 HC0 HZ0 HI0 HB1 HC1 HZ1
   by_cases hlt:j<K
   ·have hji:(j:Int)<(K:Int):=by omega
    have hjn:j*N<=24:=Nat.le_trans (Nat.mul_le_mul_right N (by omega:j<=K)) hKN
    have hwj:IntKind.i64.wrap ((j:Int)*(N:Int))=((j*N:Nat):Int):=by rw [<- Int.natCast_mul];exact i64w (by omega)
    obtain ⟨M,hM⟩ : ∃ M,j*N=M:=⟨_,rfl⟩
    have HSJ:=Zh (HSU.o j)
    have hll:=HLE.o j
    have hjl:j*bs.length<=24*24:=Nat.mul_le_mul (by omega) hbl
    rw [hM] at hwj hjn
    rw [hM] at HSJ
    generalize hR:rptL N bs j=R at *
    have HRJ:=Zh hR
    clear hR hM
    go_wp2_with fail
    clear c0 cc1
    go_loopw [6,32] (fun so si wr=>∃ (i:Nat),i<=bs.length/\si = .int .i64 i/\OwnI wr (w.heap.size+2) so (R++(bs.take i).map fun p=>(M:Int)+p)/\Cells2 wr w.heap.size (.int .i64 N) (.slice A bs.length cap)/\Cells2 wr (w.heap.size+1) (.int .i64 0) (.slice none 0 0)/\Below w.heap.size w wr) (fun _ si _=>bs.length-(intOf si).toNat)
    case atStart=>exact ⟨0,Nat.zero_le _,rfl,by simpa using HOW.o,HC.o,HZ.o,HB.o⟩
    case round =>
     obtain ⟨i,hi,rfl,hown,hc,hz,hb⟩:=hrel
     obtain ⟨wi,rfl⟩ : ∃ wi:World,wi=wr:=⟨_,rfl⟩
     obtain ⟨A3,c3,rfl⟩:=hown.form
     have HOX:=Zh hown
     have HCX:=Zh hc
     have HZX:=Zh hz
     have HBX:=Zh hb
     obtain ⟨c0,cc1,_,_,_⟩:=HCX.o
     clear hown hc hz hb
     by_cases hli:i<bs.length
     ·obtain ⟨bb,off,rfl,hbB,hbc⟩:=HIN.o.2.2 (by omega)
      have hck:=hbc i hli
      rw [<- HBX.o.cell (p:=⟨bb,off+i,none⟩) hbB] at hck
      have htk:(bs.take (i+1)).map (fun p=>(M:Int)+p)=(bs.take i).map (fun p=>(M:Int)+p)++[(M:Int)+bs.getD i 0]:=by
       rw [List.take_succ_eq_append_getElem hli,List.map_append,List.getD_eq_getElem?_getD,List.getElem?_eq_getElem hli];rfl
      have hrg:=HRG.o (bs.getD i 0) (by rw [List.getD_eq_getElem?_getD,List.getElem?_eq_getElem hli];exact List.getElem_mem hli)
      obtain ⟨x,hx⟩ : ∃ x,bs.getD i 0=x:=⟨_,rfl⟩
      rw [hx] at hck htk hrg
      obtain ⟨F,hF⟩ : ∃ F,(M:Int)+x=F:=⟨_,rfl⟩
      have hwx:IntKind.i64.wrap ((M:Int)+x)=F:=by rw [i64w (by omega)];exact hF
      rw [hF] at htk
      have HTK:=Zh (show R++(bs.take (i+1)).map (fun p=>(M:Int)+p)=(R++(bs.take i).map (fun p=>(M:Int)+p))++[F] by rw [htk,List.append_assoc])
      have hL:(R++(bs.take i).map (fun p=>(M:Int)+p)).length<=1000:=by
       rw [List.length_append,List.length_map,List.length_take];omega
      have hli2:(i:Int)<(bs.length:Int):=by omega
      clear htk hx hF hbc hrg
      generalize R++(bs.take i).map (fun p=>(M:Int)+p)=L at *
      have hzi:w.heap.size+2<=(wi.alloc (.cells #[.int .i64 F] 3)).heap.size:=by rw [World.size_alloc];have:=HZX.o.2.2.2.2;omega
      go_wp2_with (at_builtin;refine za4 rfl _ _ rfl (w.heap.size+2) _ L rfl (HOX.o.alloc _) _ F rfl (zag _ _ _) (by omega) hzi ?_;intro v' w4 hown4 hb4;obtain ⟨A4,c4,rfl⟩:=hown4.form)
      have hl4:(L++[F]).length=L.length+1:=by simp
      have HO4:=Zh hown4
      have HC4:=Zh ((HCX.o.alloc (.cells #[.int .i64 F] 3)).below hb4 (by omega))
      have HZ4:=Zh ((HZX.o.alloc (.cells #[.int .i64 F] 3)).below hb4 (by omega))
      have HB4:=Zh ((HBX.o.alloc HBX.o.size (.cells #[.int .i64 F] 3)).trans (hb4.mono (by omega)))
      clear hown4 hb4
      go_roundw
      case rel =>
       refine ⟨i+1,by omega,by go_num,?_,HC4.o,HZ4.o,HB4.o⟩
       rw [HTK.o,<- hl4]
       exact HO4.o
      case measure=>simp [intOf];omega
     ·have hie:i=bs.length:=by omega
      subst hie
      have HOY:=Zh (show OwnI wi (w.heap.size+2) (.slice A3 (R++(bs.take bs.length).map fun p=>(M:Int)+p).length c3) (rptL N bs (j+1)) by
       have h:=HOX.o
       rw [HSJ.o]
       rw [List.take_length] at h ⊢
       exact h)
      go_wp2_with fail
      go_roundw
      case rel=>exact ⟨j+1,by omega,by go_num,HOY.o,HCX.o,HZX.o,HBX.o⟩
      case measure=>simp [intOf];omega
   ·have hje:j=K:=by omega
    subst hje
    obtain ⟨z0,z1,y0,y1,_⟩:=HZ.o
    have HZ5:=Zh ((HZ.o.set0 (.int .i64 ((j*N:Nat):Int))).set1 (.slice A1 (rptL N bs j).length c1))
    obtain ⟨x0,x1,_,_,_⟩:=HZ5.o
    have HF5:=Zh ((HB.o.setCell (p:=⟨w.heap.size+1,0,none⟩) (by show w.heap.size<=w.heap.size+1;omega) (.int .i64 ((j*N:Nat):Int))).setCell (p:=⟨w.heap.size+1,1,none⟩) (by show w.heap.size<=w.heap.size+1;omega) (.slice A1 (rptL N bs j).length c1))
    generalize (j*N:Nat)=JN at *
    go_wp2_with fail
    refine bodyPost_ret (v:=.tuple #[.agg #[.int .i64 (JN:Int),.slice A1 (rptL N bs j).length c1],.bool true]) (by simp [results,Tryz.results41,go_sem,x0,x1]) rfl ?_
    exact ⟨_,_,rfl,(OwnI.rw_ ((HOW.o.far (p:=⟨w.heap.size+1,0,none⟩) (by simp) _).far (p:=⟨w.heap.size+1,1,none⟩) (by simp) _) (by rw [HLE.o];have:j*bs.length<=24*24:=Nat.mul_le_mul (by omega) hbl;omega)).mono (by omega),HF5.o⟩
end Go.Proofs.YtjpnjchpdkogbaaGreatDoor
