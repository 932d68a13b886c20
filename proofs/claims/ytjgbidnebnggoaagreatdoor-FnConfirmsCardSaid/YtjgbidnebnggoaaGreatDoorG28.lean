/- Parts of the proof of the card of the law FnConfirms. -/
import Derived.Test.YtjgbidnebnggoaaGreatDoorG25
import Derived.Test.YtjgbidnebnggoaaGreatDoorG21
import Derived.Test.YtjgbidnebnggoaaGreatDoorG27
import Derived.Sort.EveryDepth
import Derived.Test.YtjgbidnebnggoaaGreatDoorG26
import Derived.Test.YtjgbidnebnggoaaGreatDoorG17
set_option linter.unusedVariables false
set_option linter.unusedSimpArgs false
set_option maxRecDepth 100000
set_option maxHeartbeats 2000000
namespace Go.Proofs.YtjgbidnebnggoaaGreatDoor
open Go.RowKit Go.Shelf
theorem z5b (A:Option Addr)(cap:Nat)(xs:List Int)(w:World)(hA:Ints w w.heap.size A xs)(hp:patB xs=true) :
  Calls Tryz.prog 205 #[.slice A xs.length cap] w fun e w'=>e = .returned (.int .i64 (mkN xs xs.length:Nat))/\w=w':=by
 obtain ⟨hpos,hpat⟩:=zbf hp
 obtain ⟨hlen,hfit,hcells⟩:=hA
 unfold maxLen at hlen
 have HC:=Zh hcells
 have HP:=Zh hpat
 clear hfit hcells hpat hp
 go_enter Tryz.func205,Tryz.ntmps205
 go_wp2
 go_loop [3,8] (fun m i=>∃ k:Nat,k<=xs.length/\m = .int .i64 (mkN xs k)/\i = .int .i64 k) (fun _ i=>xs.length-(intOf i).toNat)
 case atStart=>exact ⟨0,Nat.zero_le _,rfl,rfl⟩
 case round =>
  obtain ⟨k,hk,rfl,rfl⟩:=hrel
  by_cases hlt:k<xs.length
  ·obtain ⟨b,off,rfl,hB,hc⟩:=HC.o (by omega)
   have hcell:=hc k hlt
   have hin:=zbr (HP.o k hlt)
   have hin40:inB (xs.getD k 0) 0 40=true:=zbc ⟨by omega,by omega⟩
   have hor0:=zg1 HP.o k hlt
   have hmlt:=zg0 HP.o k hlt
   have hsm:=zdy HP.o k (by omega)
   obtain ⟨v,hv⟩:=Int.eq_ofNat_of_zero_le hin.1
   rw [hv] at hcell hor0 hin hin40 hmlt
   have hdiv:((mkN xs k:Nat):Int) / 2 ^ v=0:=by
    have h9:mkN xs k / 2 ^ v=0:=Nat.div_eq_of_lt hmlt
    rw [show ((2:Int) ^ v)=((2 ^ v:Nat):Int) by simp,<- Int.natCast_ediv,h9];rfl
   have hand:bits .and .i64 (((mkN xs k:Nat):Int) / 2 ^ v) 1=0:=by rw [hdiv];rfl
   have hor:=zkw (mkN xs k) v (by omega) (by omega)
   rw [show mkN xs k ||| 2 ^ v=mkN xs (k+1) from hor0] at hor
   obtain ⟨m',hm'⟩ : ∃ x,mkN xs (k+1)=x:=⟨_,rfl⟩
   rw [hm'] at hor
   have HM:=Zh hm'
   generalize mkN xs k=m at hor hand hdiv ⊢
   have hv16:v<16:=by omega
   have hv0:(0:Int)<=(v:Int):=Int.natCast_nonneg _
   clear hc hv hin hor0 hsm hm' hmlt
   go_wp2_with (go_at_call 24;refine (zah _ _ _ _).mono ?_;rintro e w' ⟨rfl,rfl⟩)
   go_round
   case rel=>exact ⟨k+1,by omega,by rw [HM.o],by go_num⟩
   case measure=>simp [intOf];omega
  ·have hke:k=xs.length:=by omega
   subst hke
   go_wp2_with (go_at_call 24;refine (zah _ _ _ _).mono ?_;rintro e w' ⟨rfl,rfl⟩)
   go_ret
   exact ⟨rfl,rfl⟩
theorem z5c (q:Nat)(w:World)(hq:q<2 ^ 41) :
  Calls Tryz.prog 206 #[.int .i64 q] w fun e w'=>(∃ A l c,e = .returned (.slice A l c))/\Below w.heap.size w w':=by
 have hin:inB (q:Int) 0 2199023255551=true:=zbc ⟨by omega,by omega⟩
 go_enter Tryz.func206,Tryz.ntmps206
 go_wp2_with (go_at_call 24;refine (zah _ _ _ _).mono ?_;rintro e w' ⟨rfl,rfl⟩)
 go_loopw [3,8] (fun so i wr=>∃ (k:Nat) (L:List Int),k<=41/\i = .int .i64 k/\L.length<=k/\OwnI wr w.heap.size so L/\Below w.heap.size w wr) (fun _ i _=>41-(intOf i).toNat)
 case atStart=>exact ⟨0,[],Nat.zero_le _,rfl,Nat.le_refl _,OwnI.nil _ _,Below.refl _ _⟩
 case round =>
  obtain ⟨k,L,hk,rfl,hL,hown,hbel⟩:=hrel
  obtain ⟨wo,rfl⟩ : ∃ wo:World,wo=wr:=⟨_,rfl⟩
  have HO:=Zh hown
  have HB:=Zh hbel
  obtain ⟨A1,c1,rfl⟩:=hown.form
  clear hown hbel
  by_cases hlt:k<41
  ·have hlti:(k:Int)<41:=by omega
   have hk0:(0:Int)<=(k:Int):=Int.natCast_nonneg _
   have hpow:((q:Int) / 2 ^ k)=((q / 2 ^ k:Nat):Int):=by rw [show ((2:Int) ^ k)=((2 ^ k:Nat):Int) by simp,<- Int.natCast_ediv]
   have hle:q / 2 ^ k<=q:=Nat.div_le_self _ _
   have hand:=zcx (q / 2 ^ k) 1 (by omega) (by omega)
   rw [<- hpow,Nat.and_one_is_mod] at hand
   clear hpow hle
   rcases Nat.mod_two_eq_zero_or_one (q / 2 ^ k) with h2 | h2
   ·rw [h2] at hand
    have hand:bits .and .i64 ((q:Int) / 2 ^ k) 1=0:=hand
    clear h2
    go_wp2_with fail
    go_roundw
    case rel=>exact ⟨k+1,L,by omega,by go_num,by omega,HO.o,HB.o⟩
    case measure=>simp [intOf];omega
   ·rw [h2] at hand
    have hand:bits .and .i64 ((q:Int) / 2 ^ k) 1=1:=hand
    clear h2
    go_wp2_with (at_builtin;refine zbh rfl (.tmp 16) (.tmp 18) rfl w.heap.size _ L rfl (HO.o.alloc _) _ k rfl (zam _ _ _) (by omega) (by have:=HB.o.size;simp;omega) ?_;intro v2 w2 hown2 hb2)
    have HO2:=Zh hown2
    have HB2:=Zh ((HB.o.alloc HB.o.size _).trans hb2)
    clear hown2 hb2
    go_wp2_with fail
    go_roundw
    case rel=>exact ⟨k+1,L++[(k:Int)],by omega,by go_num,by simp;omega,HO2.o,HB2.o⟩
    case measure=>simp [intOf];omega
  ·have hke:k=41:=by omega
   subst hke
   go_wp2_with fail
   go_ret
   exact ⟨⟨_,_,_,rfl⟩,HB.o⟩
theorem z5d (x:Nat)(w:World)(hx:x<2 ^ 63) :
  Calls Tryz.prog 242 #[.int .u64 x] w fun e w'=>e = .returned (.int .i64 (Lib.bitLen x))/\w'=w:=by
 have h:=calls_of_every_depth fun D=>AnyS.bits_LenIn Tryz.lays125 D (x:Int) w (by omega) (by omega)
 rwa [Int.toNat_natCast] at h
theorem z5e (a b:Nat)(w:World)(ha:a<2 ^ 41)(hb:b<8192)(hb0:b≠0) :
  Calls Tryz.prog 204 #[.int .i64 a,.int .i64 b] w fun e w'=>e = .returned (.tuple #[.int .i64 (dvT b 64 0 a).1,.int .i64 (dvT b 64 0 a).2])/\(dvT b 64 0 a).1<2 ^ 41/\w=w':=by
 have hwb:IntKind.u64.wrap (b:Int)=(b:Int):=by rw [IntKind.wrap_u64];omega
 have HLN:=Zh (fun (x:Nat) V (h:x<2 ^ 63)=>z5d x V h)
 have hlb:=Lib.bitLen_le b 13 (by omega) (by omega)
 obtain ⟨FQ,hFQ⟩ : ∃ F,dvT b 64 0 a=F:=⟨_,rfl⟩
 have HST:=Zh hFQ
 rw [hFQ]
 have hla:=Lib.bitLen_le a 41 (by omega) ha
 obtain ⟨lb,hlbe⟩ : ∃ l,Lib.bitLen b=l:=⟨_,rfl⟩
 rw [hlbe] at hlb
 have HLB:=Zh hlbe
 clear hFQ hlbe
 go_enter Tryz.func204,Tryz.ntmps204
 go_wp2_with (go_at_call 242;refine (HLN.o b _ (by omega)).mono ?_;rintro e w1 ⟨rfl,rfl⟩;rw [HLB.o])
 go_loop [0,6] (fun av qv=>∃ (f q x:Nat),av = .int .i64 x/\qv = .int .i64 q/\x<2 ^ 41/\q<2 ^ 41/\Lib.bitLen x<=f/\dvT b f q x=FQ) (fun av _=>Lib.bitLen (intOf av).toNat)
 case atStart=>exact ⟨64,0,a,rfl,rfl,ha,by decide,by omega,HST.o⟩
 case round =>
  obtain ⟨f,q,x,rfl,rfl,hx,hq,hf,hdv⟩:=hrel
  have HD:=Zh hdv
  have hwx:IntKind.u64.wrap (x:Int)=(x:Int):=by rw [IntKind.wrap_u64];omega
  obtain ⟨lx,hlx⟩ : ∃ l,Lib.bitLen x=l:=⟨_,rfl⟩
  have HLX:=Zh hlx
  rw [hlx] at hf
  have hlx41:lx<=41:=by rw [<- hlx];exact Lib.bitLen_le x 41 (by omega) hx
  clear hdv
  by_cases hc:lb<=lx
  ·have hge:decide ((lb:Int)<=(lx:Int))=true:=decide_eq_true (by omega)
   have hgei:(lb:Int)<=(lx:Int):=by omega
   by_cases h0:x=0
   ·subst h0
    have HE:=Zh (zpl (b:=b) (a:=0) (by simp) f q)
    clear hlx
    go_wp2_with (go_at_call 242;refine (HLN.o 0 _ (by omega)).mono ?_;rintro e w1 ⟨rfl,rfl⟩;rw [HLX.o])
    go_ret2
    rw [<- HD.o,HE.o]
    exact ⟨rfl,hq,rfl⟩
   ·obtain ⟨L,hL,hsb,hxr⟩:=z2q h0 hb0 (by omega) (by omega) (by rw [HLB.o,HLX.o];exact hc)
    rw [HLX.o,HLB.o] at hsb hxr
    rw [HLX.o] at hL
    obtain ⟨f',rfl⟩ : ∃ f',f=f'+1:=⟨f-1,by omega⟩
    have hgo:=z2p (b:=b) (a:=x) (by rw [HLB.o,HLX.o];exact hc) h0 f' q
    rw [HLX.o,HLB.o] at hgo
    have HGO:=Zh (hgo.symm.trans HD.o)
    obtain ⟨s,hs⟩ : ∃ s,lx-lb=s:=⟨_,rfl⟩
    rw [hs] at hsb hxr HGO
    have hs41:s<41:=by
     rcases Nat.eq_zero_or_pos lb with h9 | h9
     ·exfalso
      have h8:=zg9 64 b (by omega) (by omega)
      rw [HLB.o,h9,Nat.pow_zero] at h8
      omega
     ·omega
    have hws:IntKind.i64.wrap ((lx:Int)-(lb:Int))=(s:Int):=by rw [show (lx:Int)-(lb:Int)=(s:Int) by omega];exact i64w (by omega)
    have hs0:(0:Int)<=(s:Int):=Int.natCast_nonneg _
    have hL41:2 ^ (L+1)<=2 ^ 41:=Nat.pow_le_pow_right (by omega) (by omega)
    have hzlt:b*2 ^ s<2 ^ 41:=Nat.lt_of_lt_of_le hsb hL41
    have h2s:2 ^ s<2 ^ 41:=Nat.pow_lt_pow_right (by decide) hs41
    have hor:=z2s q s hq hs41
    have hq2:q ||| 2 ^ s<2 ^ 41:=Nat.or_lt_two_pow hq h2s
    have hshb:wrap64 ((b:Int)*2 ^ s)=((b*2 ^ s:Nat):Int):=by
     rw [show (b:Int)*2 ^ s=((b*2 ^ s:Nat):Int) by push_cast;rfl]
     clear hsb hxr HGO
     generalize b*2 ^ s=z at hzlt
     unfold wrap64
     omega
    have hxo:=z2r x (b*2 ^ s) (Nat.lt_of_lt_of_le hx (by decide)) (Nat.lt_of_lt_of_le hzlt (by decide))
    rw [<- hshb] at hxo
    have hxr2:x ^^^ b*2 ^ s<2 ^ 41:=Nat.lt_of_lt_of_le hxr (Nat.pow_le_pow_right (by decide) (by omega))
    have hbl:=Lib.bitLen_le (x ^^^ b*2 ^ s) L (by omega) hxr
    have hne:((x:Int) != 0)=true:=by rw [bne_iff_ne];omega
    have hne2 : ¬ (x:Int)=0:=by omega
    have hne3:((x:Int)=0)=False:=eq_false hne2
    generalize x ^^^ b*2 ^ s=x' at *
    generalize q ||| 2 ^ s=q' at *
    have HLL:=Zh hL
    clear hlx hsb hxr hgo hs h2s hshb hzlt hL41 hL
    go_wp2_with (go_at_call 242;refine (HLN.o x _ (by omega)).mono ?_;rintro e w1 ⟨rfl,rfl⟩;rw [HLX.o])
    go_round
    case rel=>exact ⟨f',q',x',rfl,rfl,hxr2,hq2,by have:=HLL.o;omega,HGO.o⟩
    case measure=>simp [intOf,hxo,hws];rw [HLX.o,HLL.o];omega
  ·have hge:decide ((lb:Int)<=(lx:Int))=false:=decide_eq_false (by omega)
   have hgei : ¬ (lb:Int)<=(lx:Int):=by omega
   have HE:=Zh (zpl (b:=b) (a:=x) (by rw [HLB.o,HLX.o];exact fun h=>hc h.1) f q)
   clear hlx
   go_wp2_with (go_at_call 242;refine (HLN.o x _ (by omega)).mono ?_;rintro e w1 ⟨rfl,rfl⟩;rw [HLX.o])
   go_ret2
   rw [<- HD.o,HE.o]
   exact ⟨rfl,hq,rfl⟩
end Go.Proofs.YtjgbidnebnggoaaGreatDoor
namespace Go.Proofs.YtjgbidnebnggoaaGreatDoor
open Go.RowKit
theorem z5f {xs:List Int}(h:patB xs=true):mkN xs xs.length≠0:=by
 obtain ⟨hp,_⟩:=zbf h
 obtain ⟨k,hk⟩ : ∃ k,xs.length=k+1:=⟨xs.length-1,by omega⟩
 rw [hk]
 show mkN xs k+2 ^ _≠0
 have:=Nat.two_pow_pos (xs.getD k 0).toNat
 omega
theorem z5g (A:Option Addr)(cap:Nat)(xs:List Int)(n:Nat)(w:World)(hA:Ints w w.heap.size A xs)(hn1:1<=n)(hn2:n<=40) :
  Calls Tryz.prog 138 #[.slice A xs.length cap,.int .i64 n] w fun e w'=>(∃ B l c,e = .returned (.tuple #[.slice B l c,.bool (etB xs n)]))/\Below w.heap.size w w':=by
 have HPO:=Zh (zdz A cap xs w hA)
 have HET:=Zh (show etB xs n=(patB xs && decide ((dvT (mkN xs xs.length) 64 0 (2 ^ n-1)).2=0)) from rfl)
 generalize etB xs n=E at *
 have hin:inB (n:Int) 1 40=true:=zbc ⟨by omega,by omega⟩
 cases hp:patB xs
 ·rw [hp] at HPO HET
  have HE:=Zh (show E=false from HET.o)
  clear hA hp
  go_enter Tryz.func138,Tryz.ntmps138
  go_wp2_with fail
  refine HPO.o.mono ?_
  rintro e w1 ⟨rfl,rfl⟩
  go_wp2_with fail
  go_ret2
  rw [HE.o]
  exact ⟨⟨_,_,_,rfl⟩,Below.refl _ _⟩
 ·rw [hp] at HPO HET
  have hM0:=z5f hp
  have hMs:=zdy (zbf hp).2 xs.length (Nat.le_refl _)
  have HMO:=Zh (z5b A cap xs w.drew hA hp)
  generalize mkN xs xs.length=M at *
  have hpow:2 ^ n<=2 ^ 40:=Nat.pow_le_pow_right (by omega) hn2
  have hpow1:1<=2 ^ n:=Nat.two_pow_pos n
  have HDV:=Zh (fun V=>z5e (2 ^ n-1) M V (by omega) hMs hM0)
  have hshl:wrap64 (2 ^ n)=((2 ^ n:Nat):Int):=by
   rw [show ((2:Int) ^ n)=((2 ^ n:Nat):Int) by simp]
   generalize 2 ^ n=x at hpow
   unfold wrap64
   omega
  have hshl2:IntKind.i64.wrap (2 ^ n)=((2 ^ n:Nat):Int):=by
   rw [show ((2:Int) ^ n)=((2 ^ n:Nat):Int) by simp]
   generalize 2 ^ n=x at hpow
   exact i64w (by omega)
  obtain ⟨P,hP⟩ : ∃ P,2 ^ n=P:=⟨_,rfl⟩
  rw [hP] at hshl hshl2 hpow hpow1 HDV HET
  have hwm:IntKind.i64.wrap ((P:Int)-1)=((P-1:Nat):Int):=by rw [show (P:Int)-1=((P-1:Nat):Int) by omega];exact i64w (by omega)
  have hn0:(0:Int)<=(n:Int):=Int.natCast_nonneg _
  obtain ⟨D,hD⟩ : ∃ D,dvT M 64 0 (P-1)=D:=⟨_,rfl⟩
  rw [hD] at HDV HET
  obtain ⟨q,r⟩:=D
  have HLO:=Zh (fun V (h:q<2 ^ 41)=>z5c q V h)
  clear hA hp hP hD hM0 hMs hpow hpow1
  go_enter Tryz.func138,Tryz.ntmps138
  go_wp2_with (first | (go_at_call 24;refine (zah _ _ _ _).mono ?_;rintro e w' ⟨rfl,rfl⟩) | (go_at_call 129;refine HPO.o.mono ?_;rintro e w1 ⟨rfl,rfl⟩))
  (refine wp_region_held_drew (S:=(fun w'=>True)) (by kernel_rfl) ?_ (fun hHeld=>?_);(focus ((try dsimp only);(try exact trivial))))
  ((refine Zk 0 ?_;(try simp only [Act.put,Zz]));(refine Zk 1 ?_;(try simp only [Act.put,Zz]));(refine Zk 2 ?_;(try simp only [Act.put,Zz]));(refine Zk 3 ?_;(try simp only [Act.put,Zz])))
  (refine wpAnyH_ready (rs:=[4]) (by kernel_rfl) (by simp) ?_;refine AllReadyH.cons rfl (fun K hK=>?_) AllReadyH.nil;go_simp)
  go_at_call 205
  refine HMO.o.mono ?_
  rintro e w1 ⟨rfl,rfl⟩
  go_wp2_with fail
  (refine hK.out _ _ ?_ fun hHeld2=>?_;(focus ((try dsimp only);(try exact trivial)));(clear hK K);(try simp only [Act.put,Zz]))
  (refine wpAnyH_ready (rs:=[5]) (by kernel_rfl) (by simp) ?_;refine AllReadyH.cons rfl (fun K hK=>?_) AllReadyH.nil;go_simp)
  go_at_call 204
  refine (HDV.o _).mono ?_
  rintro e w1 ⟨rfl,hq41,rfl⟩
  go_wp2_with fail
  (refine hK.out _ _ ?_ fun hHeld2=>?_;(focus ((try dsimp only);(try exact trivial)));(clear hK K);(try simp only [Act.put,Zz]))
  ((refine Zk 6 ?_;(try simp only [Act.put,Zz]));(refine Zk 7 ?_;(try simp only [Act.put,Zz]));(refine Zk 8 ?_;(try simp only [Act.put,Zz]));(refine Zk 9 ?_;(try simp only [Act.put,Zz]));(refine Zk 10 ?_;(try simp only [Act.put,Zz])))
  refine wpAnyH_done (by kernel_rfl) ?_ _
  by_cases hr:r=0
  ·subst hr
   have HE:=Zh (show E=true from HET.o)
   go_wp2_with fail
   refine (HLO.o _ hq41).mono ?_
   rintro e w2 ⟨⟨B,l,c,rfl⟩,hb⟩
   go_wp2_with fail
   go_ret2
   rw [HE.o]
   exact ⟨⟨_,_,_,rfl⟩,⟨hb.os,hb.tape,hb.output,hb.size,hb.block⟩⟩
  ·have HE:=Zh (show E=false by rw [HET.o];show (true && decide (r=0))=false;rw [decide_eq_false hr];rfl)
   have hr1:((r:Int) != 0)=true:=bne_iff_ne.2 (by omega)
   have hr2:((r:Int)==0)=false:=beq_eq_false_iff_ne.2 (by omega)
   have hr3:((r:Int)=0)=False:=eq_false (by omega)
   go_wp2_with fail
   go_ret2
   rw [HE.o]
   exact ⟨⟨_,_,_,rfl⟩,⟨rfl,rfl,rfl,Nat.le_refl _,fun _ _=>rfl⟩⟩
theorem z5h (A:Option Addr)(cap:Nat)(xs:List Int)(w:World)(hA:Ints w w.heap.size A xs) :
  Calls Tryz.prog 76 #[.slice A xs.length cap] w fun e w'=>e = .returned (.int .i64 (twoV xs))/\Below w.heap.size w w':=by
 have HA:=Zh hA
 have HV:=Zh (show twF xs 40 1=twoV xs from rfl)
 generalize twoV xs=Z at *
 clear hA
 go_enter Tryz.func76,Tryz.ntmps76
 go_wp2_with fail
 go_loopw [3] (fun i wr=>∃ k:Nat,k<=40/\i = .int .i64 ((k+1:Nat):Int)/\twF xs (40-k) (k+1)=Z/\Below w.heap.size w wr) (fun i _=>41-(intOf i).toNat)
 case atStart=>exact ⟨0,Nat.zero_le _,rfl,HV.o,Below.refl _ _⟩
 case round =>
  obtain ⟨k,hk,rfl,htw,hb⟩:=hrel
  obtain ⟨wo,rfl⟩ : ∃ wo:World,wo=wr:=⟨_,rfl⟩
  have HB:=Zh hb
  by_cases hlt:k<40
  ·have HEN:=Zh (z5g A cap xs (k+1) wo (HA.o.lift hb) (by omega) (by omega))
   have HTS:=Zh (show twF xs (40-k) (k+1)=if etB xs (k+1) then ((k+1:Nat):Int) else twF xs (40-(k+1)) (k+1+1) by rw [show 40-k=(40-(k+1))+1 by omega];rfl)
   have hle:((k+1:Nat):Int)<=40:=by omega
   have hw:IntKind.i64.wrap (((k+1:Nat):Int)+1)=((k+1+1:Nat):Int):=by rw [i64w (by omega)];omega
   obtain ⟨K,hK⟩ : ∃ K,k+1=K:=⟨_,rfl⟩
   rw [hK] at HEN HTS hle hw htw ⊢
   have HT:=Zh htw
   have HK:=Zh hK
   clear htw hb hK
   cases he:etB xs K
   ·rw [he] at HEN HTS
    go_wp2_with fail
    refine HEN.o.mono ?_
    rintro e w2 ⟨⟨B,l,c,rfl⟩,hb⟩
    have HB2:=Zh (HB.o.trans (hb.mono HB.o.size))
    clear hb
    go_wp2_with fail
    go_roundw
    case rel=>exact ⟨k+1,by omega,by rw [HK.o];go_num,by rw [HK.o,<- HT.o,HTS.o,<- HK.o];rfl,HB2.o⟩
    case measure=>simp [intOf];omega
   ·rw [he] at HEN HTS
    go_wp2_with fail
    refine HEN.o.mono ?_
    rintro e w2 ⟨⟨B,l,c,rfl⟩,hb⟩
    go_wp2_with fail
    go_ret
    rw [<- HT.o,HTS.o]
    exact ⟨rfl,HB.o.trans (hb.mono HB.o.size)⟩
  ·have hke:k=40:=by omega
   subst hke
   go_wp2_with fail
   go_ret
   exact ⟨by rw [<- htw];rfl,HB.o⟩
end Go.Proofs.YtjgbidnebnggoaaGreatDoor
namespace Go.Proofs.YtjgbidnebnggoaaGreatDoor
open Go.RowKit
def Env (B:Nat)(W:World):Prop:=∀ V,Below B W V->Errs V/\Pow V/\MaxL V/\DeB V
theorem Env.step {B:Nat}{W V:World}(h:Env B W)(hb:Below B W V):Env B V:=fun U hu=>h U (hb.trans hu)
def Lft (w':World)(g N k ca:Nat)(A:Option Addr)(W:Value)(r:CmdR):Prop :=
 match r.2.2 with
 | none=>Con w' g N (.slice A k ca) W r.1
 | some (M,xs)=>RhOk M xs /\ ∃ A' c',Con w' g M (.slice A' xs.length c') W r.1/\Ints w' w'.heap.size A' xs /\ ∀ k o,A'=some ⟨k,o,none⟩->0<xs.length->g<k
structure CmdPre (V:World) (N:Nat) (bs:List Int) (A:Option Addr) (ca:Nat) (us:List ByteArray) (gw off cap g b B:Nat):Prop where
 con:Con V g N (.slice A bs.length ca) (.slice (some ⟨gw,off,none⟩) us.length cap) false
 ints:Ints V V.heap.size A bs
 hcap:bs.length<=ca
 ok:RhOk N bs
 wds:Wds V gw off us
 siz : ∀ u∈us,u.size<=1048576
 gwg:gw≠g
 bg:b≠g
 bl:b<V.heap.size
 bx:V.cell? ⟨b,0,none⟩=some (.pointer (some ⟨g,0,none⟩))
 Bg:B<=g
 Bs:B<=V.heap.size
 env:Env B V
 ne : ∀ k o,A=some ⟨k,o,none⟩->0<bs.length->k≠g
def za6 (i:Nat):Prop:=∀ (N:Nat) (bs:List Int) (A:Option Addr) (ca:Nat) (us:List ByteArray) (gw off cap g b B:Nat) (V:World),CmdPre V N bs A ca us gw off cap g b B->us.length=arT i ->
 Calls Tryz.prog (cloF i) (cloA b g i) V fun e w'=>e = .returned (.string (cmdV N bs us i).2.1)/\Lft w' g N bs.length ca A (.slice (some ⟨gw,off,none⟩) us.length cap) (cmdV N bs us i)/\Frm (zad g) V w'
theorem Bec.lft {w':World}{g N k ca:Nat}{A:Option Addr}{W:Value}{bad:Bool}{o:Option (Nat × List Int)}(h:Bec w' g N (.slice A k ca) W bad o)(hok : ∀ N bs,o=some (N,bs)->RhOk N bs):Lft w' g N k ca A W (becR bad o):=by
 cases o with
 | none=>exact h
 | some p=>obtain ⟨M,xs⟩:=p;exact ⟨hok M xs rfl,h⟩
theorem RetRh2.toO {w w':World}{s:ByteArray}{e:Ending}(h:RetRh2 w (prhN s) (prhL s) (prhB s) e w'):RetRhO w (btsV s) e w':=by
 unfold RetRhO btsV
 cases hb:prhB s with
 | false =>
  rw [hb] at h
  have h1:prhN s=0:=by unfold prhN;rw [hb];rfl
  have h2:prhL s=[]:=by unfold prhL;rw [hb];rfl
  rw [h1,h2] at h
  exact h
 | true =>
  rw [hb] at h
  have h1:((prhN s).toNat:Int)=prhN s:=by unfold prhN;rw [hb,if_pos rfl];rfl
  rw [if_pos rfl]
  show RetRh2 w ((prhN s).toNat:Int) (prhL s) true e w'
  rw [h1]
  exact h
theorem RetP3.toOI {w w':World}{N:Nat}{bs:List Int}{e:Ending}(h:RetP3 w N (parV N bs) e w'):zmp w (parO N bs) e w':=by
 obtain ⟨h1,h2⟩:=h
 unfold parO
 cases hp:parV N bs with
 | none =>
  rw [hp] at h1
  exact ⟨none,0,h1,⟨show Ints w' w'.heap.size none [] from ⟨Nat.zero_le _,(fun x hx=>nomatch hx),fun hn=>absurd hn (Nat.lt_irrefl 0)⟩,(fun k q e=>nomatch e)⟩,h2⟩
 | some y =>
  rw [hp] at h1
  obtain ⟨A,c,h3,h4,h5⟩:=h1
  exact ⟨A,c,h3,⟨h4,h5⟩,h2⟩
section
variable {V:World} {N:Nat} {bs:List Int} {A:Option Addr} {ca:Nat} {us:List ByteArray} {gw off cap g b B:Nat}
theorem CmdPre.envs (p:CmdPre V N bs A ca us gw off cap g b B){V':World}(hf:Frm (zad g) V V'):Errs V'/\Pow V'/\MaxL V'/\DeB V' :=
 p.env V' (hf.below (fun c hc=>by have:=p.Bg;show B<=c;rw [show c=g from hc];exact this) p.Bs)
theorem CmdPre.env0 (p:CmdPre V N bs A ca us gw off cap g b B):Errs V/\Pow V/\MaxL V/\DeB V:=p.envs (Frm.refl _ _)
theorem CmdPre.intsF (p:CmdPre V N bs A ca us gw off cap g b B){V':World}(hf:Frm (zad g) V V'):Ints V' V'.heap.size A bs:=by
 refine ⟨p.ints.1,p.ints.2.1,fun hn=>?_⟩
 obtain ⟨k,o,e,hk,hc⟩:=p.ints.2.2 hn
 refine ⟨k,o,e,Nat.lt_of_lt_of_le hk hf.size,fun i hi=>?_⟩
 rw [hf.cell hk (fun h=>p.ne k o e hn h)]
 exact hc i hi
end
theorem zkb (S:Nat->Prop)(V:World):Frm S V V.drew:=⟨rfl,rfl,rfl,Nat.le_refl _,fun _ _ _=>rfl⟩
theorem zqv {N:Nat}{bs:List Int}(h:RhOk N bs):Fits (N:Int):=by have:=h.2.1;unfold Fits;omega
theorem z5i:za6 0:=by
 intro N bs A ca us gw off cap g b B V p har
 have har:us.length=1:=har
 have hl:us.length<=1048577:=by omega
 show Calls Tryz.prog 26 #[.pointer (some ⟨b,0,none⟩)] V _
 refine (z43 b g gw off cap N _ false us (btsV (us.getD 0 ⟨#[]⟩)) V p.con p.wds (by omega) p.bl p.bg p.bx (fun _ _ h=>zp1 h) ?_).mono ?_
 ·exact (zwu _ V.drew (by
   have:=p.siz (us.getD 0 ⟨#[]⟩) (by rw [List.getD_eq_getElem?_getD,List.getElem?_eq_getElem (by omega:0<us.length)];exact List.getElem_mem _)
   unfold maxLen;omega)).mono fun _ _ h=>h.toO
 ·rintro e w' ⟨rfl,h1,h2⟩
  exact ⟨rfl,h1.lft (fun _ _ h=>zp1 h),h2⟩
theorem z5j:za6 1:=by
 intro N bs A ca us gw off cap g b B V p har
 have har:us.length=2:=har
 have hl:us.length<=1048577:=by omega
 show Calls Tryz.prog 28 #[.pointer (some ⟨b,0,none⟩)] V _
 refine (z47 b g gw off cap N _ false us (evrV ((zaf us 0).getD 0) ((zaf us 1).getD 0)) V p.con p.wds (by omega) p.siz hl (fun V' h=>(p.envs h).1) (fun V' h=>(p.envs h).2.1) p.gwg p.bl p.bg p.bx (fun _ _ h=>zpw h) (fun V' _=>zw1 _ _ V')).mono ?_
 rintro e w' ⟨rfl,h1,h2⟩
 exact ⟨rfl,h1.lft (fun _ _ h=>zpw h),h2⟩
theorem z5k:za6 2:=by
 intro N bs A ca us gw off cap g b B V p har
 have har:us.length=3:=har
 have hl:us.length<=1048577:=by omega
 show Calls Tryz.prog 31 #[.pointer (some ⟨b,0,none⟩)] V _
 refine (z49 b g gw off cap N _ false us (genV ((zaf us 0).getD 0) ((zaf us 1).getD 0) ((zaf us 2).getD 0)) V p.con p.wds (by omega) p.siz hl (fun V' h=>(p.envs h).1) (fun V' h=>(p.envs h).2.1) p.gwg p.bl p.bg p.bx (fun _ _ h=>zpx h) (fun V' _=>zww _ _ _ V')).mono ?_
 rintro e w' ⟨rfl,h1,h2⟩
 exact ⟨rfl,h1.lft (fun _ _ h=>zpx h),h2⟩
theorem z5l:za6 3:=by
 intro N bs A ca us gw off cap g b B V p har
 have har:us.length=1:=har
 have hl:us.length<=1048577:=by omega
 show Calls Tryz.prog 33 #[.pointer (some ⟨b,0,none⟩)] V _
 refine (z5a b g gw off cap bs.length ca N A false us (rotV N bs ((zaf us 0).getD 0)) V p.con p.wds (by omega) p.siz hl p.env0.1 p.env0.2.1 p.bl p.bg p.bx (fun _ _ h=>zpy p.ok h) (fun V' h=>zwy N A ca bs _ V' (p.intsF h) p.ok)).mono ?_
 rintro e w' ⟨rfl,h1,h2⟩
 exact ⟨rfl,h1.lft (fun _ _ h=>zpy p.ok h),h2⟩
theorem z5m:za6 4:=by
 intro N bs A ca us gw off cap g b B V p har
 have har:us.length=0:=har
 have hl:us.length<=1048577:=by omega
 show Calls Tryz.prog 35 #[.pointer (some ⟨b,0,none⟩)] V _
 have hk:RhOk N (mirV N bs):=zcf (by have:=p.ok.1;omega) (by have:=p.ok.2.1;omega)
 have hko : ∀ M xs,(some (N,mirV N bs):Option (Nat × List Int))=some (M,xs)->RhOk M xs:=fun M xs h=>by injection h with h;injection h with h1 h2;subst h1 h2;exact hk
 refine (zvw b g N A bs.length ca _ false (some (N,mirV N bs)) V p.con p.bl p.bg p.bx hko (zuk N A ca bs V.drew (p.intsF (zkb _ V)) p.ok)).mono ?_
 rintro e w' ⟨rfl,h1,h2⟩
 exact ⟨rfl,h1.lft hko,h2⟩
theorem z5n:za6 5:=by
 intro N bs A ca us gw off cap g b B V p har
 have har:us.length=0:=har
 have hl:us.length<=1048577:=by omega
 show Calls Tryz.prog 37 #[.pointer (some ⟨b,0,none⟩)] V _
 have hk:RhOk N (othL N bs N):=zt7 p.ok
 have hko : ∀ M xs,(some (N,othL N bs N):Option (Nat × List Int))=some (M,xs)->RhOk M xs:=fun M xs h=>by injection h with h;injection h with h1 h2;subst h1 h2;exact hk
 refine (zvx b g N A bs.length ca _ false (some (N,othL N bs N)) V p.con p.bl p.bg p.bx hko (zuj N A ca bs V.drew (p.intsF (zkb _ V)) p.ok)).mono ?_
 rintro e w' ⟨rfl,h1,h2⟩
 exact ⟨rfl,h1.lft hko,h2⟩
theorem z5o:za6 9:=by
 intro N bs A ca us gw off cap g b B V p har
 have har:us.length=0:=har
 have hl:us.length<=1048577:=by omega
 show Calls Tryz.prog 45 #[.pointer (some ⟨b,0,none⟩)] V _
 refine (zvy b g N A bs.length ca _ false (parO N bs) V p.con p.bl p.bg p.bx (fun _ _ h=>zp2 p.ok h) ((znz N A ca bs V.drew (p.intsF (zkb _ V)) p.ok).mono fun _ _ h=>h.toOI)).mono ?_
 rintro e w' ⟨rfl,h1,h2⟩
 exact ⟨rfl,h1.lft (fun _ _ h=>zp2 p.ok h),h2⟩
theorem z5p:za6 11:=by
 intro N bs A ca us gw off cap g b B V p har
 have har:us.length=2:=har
 have hl:us.length<=1048577:=by omega
 show Calls Tryz.prog 49 #[.pointer (some ⟨b,0,none⟩)] V _
 refine (z48 b g gw off cap N _ false us (polV ((zaf us 0).getD 0) ((zaf us 1).getD 0)) V p.con p.wds (by omega) p.siz hl (fun V' h=>(p.envs h).1) (fun V' h=>(p.envs h).2.1) p.gwg p.bl p.bg p.bx (fun _ _ h=>zpz h) (fun V' _=>z23 _ _ V')).mono ?_
 rintro e w' ⟨rfl,h1,h2⟩
 exact ⟨rfl,h1.lft (fun _ _ h=>zpz h),h2⟩
theorem z5q:za6 12:=by
 intro N bs A ca us gw off cap g b B V p har
 have har:us.length=1:=har
 have hl:us.length<=1048577:=by omega
 show Calls Tryz.prog 51 #[.pointer (some ⟨g,0,none⟩)] V _
 refine (zwm g gw off cap N _ false us V p.con p.wds (by omega) p.siz p.env0.1 p.env0.2.1 p.env0.2.2.1 (fun _ _ h=>zp0 h)).mono ?_
 rintro e w' ⟨rfl,h1,h2⟩
 exact ⟨rfl,h1.lft (fun _ _ h=>zp0 h),h2⟩
theorem z5r:za6 13:=by
 intro N bs A ca us gw off cap g b B V p har
 have har:us.length=0:=har
 have hl:us.length<=1048577:=by omega
 show Calls Tryz.prog 52 #[.pointer (some ⟨b,0,none⟩)] V _
 refine (z4t b g N A bs.length ca _ false (mkS (zaq N bs (fun _=>120))) V p.con p.bx (zl9 N A ca bs V p.ints p.ok)).mono ?_
 rintro e w' ⟨rfl,h1,h2⟩
 exact ⟨rfl,h1,h2⟩
theorem z5s:za6 14:=by
 intro N bs A ca us gw off cap g b B V p har
 have har:us.length=0:=har
 have hl:us.length<=1048577:=by omega
 show Calls Tryz.prog 54 #[.pointer (some ⟨b,0,none⟩)] V _
 refine (z4u b g N A bs.length ca _ false (mkS (linL N bs)) V p.con p.bx (zu2 N A ca bs V p.ints p.ok p.hcap p.env0.2.1 p.env0.2.2.1)).mono ?_
 rintro e w' ⟨rfl,h1,h2⟩
 exact ⟨rfl,h1,h2⟩
theorem z5t:za6 15:=by
 intro N bs A ca us gw off cap g b B V p har
 have har:us.length=0:=har
 have hl:us.length<=1048577:=by omega
 show Calls Tryz.prog 56 #[.pointer (some ⟨b,0,none⟩)] V _
 refine (z4v b g N A bs.length ca _ false (mkS (evlL N bs)) V p.con p.bx (zxv N A ca bs V p.ints p.ok p.env0.2.1)).mono ?_
 rintro e w' ⟨rfl,h1,h2⟩
 exact ⟨rfl,h1,h2⟩
theorem z5u:za6 16:=by
 intro N bs A ca us gw off cap g b B V p har
 have har:us.length=0:=har
 have hl:us.length<=1048577:=by omega
 show Calls Tryz.prog 58 #[.pointer (some ⟨b,0,none⟩)] V _
 refine (z4w b g N A bs.length ca _ false (mkS (tilL N bs)) V p.con p.bx (zzg N A ca bs V p.ints p.ok p.env0.2.1)).mono ?_
 rintro e w' ⟨rfl,h1,h2⟩
 exact ⟨rfl,h1,h2⟩
theorem z5v:za6 17:=by
 intro N bs A ca us gw off cap g b B V p har
 have har:us.length=0:=har
 have hl:us.length<=1048577:=by omega
 show Calls Tryz.prog 60 #[.pointer (some ⟨b,0,none⟩)] V _
 refine (z4x b g N A bs.length ca _ false (mkS (metV N bs)) V p.con p.bx (zzz N A ca bs V p.ints p.ok p.env0.2.1 p.env0.2.2.1)).mono ?_
 rintro e w' ⟨rfl,h1,h2⟩
 exact ⟨rfl,h1,h2⟩
theorem z5w:za6 18:=by
 intro N bs A ca us gw off cap g b B V p har
 have har:us.length=0:=har
 have hl:us.length<=1048577:=by omega
 show Calls Tryz.prog 62 #[.pointer (some ⟨b,0,none⟩)] V _
 refine (z4y b g N A bs.length ca _ false (mkS (cllL N bs)) V p.con p.bx (zz9 N A ca bs V p.ints p.ok p.env0.2.1)).mono ?_
 rintro e w' ⟨rfl,h1,h2⟩
 exact ⟨rfl,h1,h2⟩
theorem z5x:za6 19:=by
 intro N bs A ca us gw off cap g b B V p har
 have har:us.length=1:=har
 have hl:us.length<=1048577:=by omega
 show Calls Tryz.prog 64 #[.pointer (some ⟨b,0,none⟩)] V _
 refine (z44 b g gw off cap bs.length ca N A false us (za4 N bs ((zaf us 0).getD 0)) (mkS (itoL (za4 N bs ((zaf us 0).getD 0)))) V p.con p.wds (by omega) p.siz hl p.env0.1 p.env0.2.1 p.bl p.bg p.bx (fun V' h=>z0e N A ca bs _ V' (zqv p.ok) (p.intsF h)) (fun V' h=>zbt _ (z3g _ _ _) V' (p.envs h).2.1)).mono ?_
 rintro e w' ⟨rfl,h1,h2⟩
 exact ⟨rfl,h1,h2⟩
theorem z5y:za6 20:=by
 intro N bs A ca us gw off cap g b B V p har
 have har:us.length=1:=har
 have hl:us.length<=1048577:=by omega
 show Calls Tryz.prog 66 #[.pointer (some ⟨b,0,none⟩)] V _
 refine (z45 b g gw off cap bs.length ca N A false us (cntW N bs ((zaf us 0).getD 0)) (mkS (itoL (cntW N bs ((zaf us 0).getD 0)))) V p.con p.wds (by omega) p.siz hl p.env0.1 p.env0.2.1 p.bl p.bg p.bx (fun V' h=>z0u N A ca bs _ V' (zqv p.ok) (p.intsF h)) (fun V' h=>zbt _ (z3h p.ok _) V' (p.envs h).2.1)).mono ?_
 rintro e w' ⟨rfl,h1,h2⟩
 exact ⟨rfl,h1,h2⟩
theorem z5z:za6 21:=by
 intro N bs A ca us gw off cap g b B V p har
 have har:us.length=0:=har
 have hl:us.length<=1048577:=by omega
 show Calls Tryz.prog 68 #[.pointer (some ⟨b,0,none⟩)] V _
 refine (z4z b g N A bs.length ca _ false (mkS (zaq N bs natF)) V p.con p.bx (z0v N A ca bs V p.ints p.ok)).mono ?_
 rintro e w' ⟨rfl,h1,h2⟩
 exact ⟨rfl,h1,h2⟩
theorem zqw:za6 22:=by
 intro N bs A ca us gw off cap g b B V p har
 have har:us.length=1:=har
 have hl:us.length<=1048577:=by omega
 show Calls Tryz.prog 70 #[.pointer (some ⟨b,0,none⟩)] V _
 refine (z40 b g gw off cap N _ false us (mkS (lliV ((zbb us 0).getD []))) V p.con p.wds (by omega) p.siz hl p.env0.1 p.env0.2.1 p.bx (fun V' A' c' h ho hf=>z1k A' c' _ V' (ho.ints hf) (p.envs h).2.1)).mono ?_
 rintro e w' ⟨rfl,h1,h2⟩
 exact ⟨rfl,h1,h2⟩
theorem z50:za6 23:=by
 intro N bs A ca us gw off cap g b B V p har
 have har:us.length=1:=har
 have hl:us.length<=1048577:=by omega
 show Calls Tryz.prog 73 #[.pointer (some ⟨b,0,none⟩)] V _
 refine (z41 b g gw off cap N _ false us (mkS (cvlV ((zbb us 0).getD []))) V p.con p.wds (by omega) p.siz hl p.env0.1 p.env0.2.1 p.bx (fun V' A' c' h ho hf=>z2n A' c' _ V' (ho.ints hf) (p.envs h).2.2.2 (p.envs h).2.1)).mono ?_
 rintro e w' ⟨rfl,h1,h2⟩
 exact ⟨rfl,h1,h2⟩
theorem z52:za6 24:=by
 intro N bs A ca us gw off cap g b B V p har
 have har:us.length=1:=har
 have hl:us.length<=1048577:=by omega
 show Calls Tryz.prog 75 #[.pointer (some ⟨b,0,none⟩)] V _
 refine (z42 b g gw off cap N _ false us (twoV ((zbb us 0).getD [])) (mkS (itoL (twoV ((zbb us 0).getD [])))) V p.con p.wds (by omega) p.siz hl p.env0.1 p.env0.2.1 p.bx (fun V' A' c' h ho hf=>z5h A' c' _ V' (ho.ints hf)) (fun V' h=>zbt _ (z3j _) V' (p.envs h).2.1)).mono ?_
 rintro e w' ⟨rfl,h1,h2⟩
 exact ⟨rfl,h1,h2⟩
theorem z55:za6 25:=by
 intro N bs A ca us gw off cap g b B V p har
 have har:us.length=2:=har
 have hl:us.length<=1048577:=by omega
 show Calls Tryz.prog 77 #[.pointer (some ⟨b,0,none⟩)] V _
 refine (zwl b g gw off cap N _ false us (nklV ((zaf us 0).getD 0) ((zaf us 1).getD 0)) (mkS (itoL (nklV ((zaf us 0).getD 0) ((zaf us 1).getD 0)))) V p.con p.wds (by omega) p.siz hl (fun V' h=>(p.envs h).1) (fun V' h=>(p.envs h).2.1) p.gwg p.bl p.bg p.bx (fun V' _=>zw5 _ _ V') (fun V' h=>zbt _ (z3i _ _) V' (p.envs h).2.1)).mono ?_
 rintro e w' ⟨rfl,h1,h2⟩
 exact ⟨rfl,h1,h2⟩
theorem z56:za6 26:=by
 intro N bs A ca us gw off cap g b B V p har
 have har:us.length=1:=har
 have hl:us.length<=1048577:=by omega
 show Calls Tryz.prog 79 #[.pointer (some ⟨g,0,none⟩)] V _
 refine (zwn g gw off cap N _ false us V p.con p.wds (by omega) p.siz).mono ?_
 rintro e w' ⟨rfl,h1,h2⟩
 exact ⟨rfl,h1,h2⟩
theorem z57:za6 27:=by
 intro N bs A ca us gw off cap g b B V p har
 have har:us.length=2:=har
 have hl:us.length<=1048577:=by omega
 show Calls Tryz.prog 80 #[.pointer (some ⟨g,0,none⟩)] V _
 refine (zwp g gw off cap N _ false us V p.con p.wds (by omega) p.siz hl (fun V' h=>(p.envs h).1) (fun V' h=>(p.envs h).2.1) p.gwg).mono ?_
 rintro e w' ⟨rfl,h1,h2⟩
 exact ⟨rfl,h1,h2⟩
end Go.Proofs.YtjgbidnebnggoaaGreatDoor
