/- Parts of the proof of the card of the law FnConsole. -/
import Derived.Test.YtjpnjchpdkogbaaGreatDoorG07
import Derived.Test.YtjpnjchpdkogbaaGreatDoorG10
import Derived.Test.YtjpnjchpdkogbaaGreatDoorG01
import Derived.Test.YtjpnjchpdkogbaaGreatDoorG03
import Derived.Test.YtjpnjchpdkogbaaGreatDoorG06
import Derived.Test.YtjpnjchpdkogbaaGreatDoorG04
import Derived.Deep.AppendLies
import Derived.Test.YtjpnjchpdkogbaaGreatDoorG05
set_option linter.unusedVariables false
set_option linter.unusedSimpArgs false
set_option maxRecDepth 100000
set_option maxHeartbeats 4000000
namespace Go.Proofs.YtjpnjchpdkogbaaGreatDoor
open Go.RowKit
def evrV (k n:Int):Option (Nat × List Int):=if inB n 1 24 && inB k 0 n then some (n.toNat,evB n.toNat k.toNat) else none
theorem zv6 (k n:Int)(w:World)(hi:(inB n 1 24 && inB k 0 n)=false) :
  Calls Tryz.prog 95 #[.int .i64 k,.int .i64 n,.int .i64 0] w (RetRhO w none):=by
 have HZ0:=Zh (Cells2.new w (.int .i64 0) (.slice none 0 0) 27)
 have HB0:=Zh ((Below.refl w.heap.size w).alloc (Nat.le_refl _) (.cells #[.int .i64 0,.slice none 0 0] 27))
 have HE:=Zh ((HZ0.o.set0 (.int .i64 0)).set1 (.slice none 0 0))
 obtain ⟨x0,x1,x2,x3,_⟩:=HZ0.o
 obtain ⟨y0,y1,_,_,_⟩:=HE.o
 cases h1:inB n 1 24
 ·go_enter Tryz.func95,Tryz.ntmps95
  go_wp2_with (go_at_call 22;refine (zac _ _ _ _).mono ?_;rintro e w' ⟨rfl,rfl⟩)
  refine bodyPost_ret (v:=.tuple #[.agg #[.int .i64 0,.slice none 0 0],.bool false]) (by simp [results,Tryz.results95,go_sem,y0,y1]) rfl ?_
  exact RetRhO.none_ HB0.o
 ·have h2:inB k 0 n=false:=by rw [h1] at hi;exact hi
  go_enter Tryz.func95,Tryz.ntmps95
  go_wp2_with (go_at_call 22;refine (zac _ _ _ _).mono ?_;rintro e w' ⟨rfl,rfl⟩)
  refine bodyPost_ret (v:=.tuple #[.agg #[.int .i64 0,.slice none 0 0],.bool false]) (by simp [results,Tryz.results95,go_sem,y0,y1]) rfl ?_
  exact RetRhO.none_ HB0.o
theorem zv7 (k n:Int)(w:World) :
  Calls Tryz.prog 95 #[.int .i64 k,.int .i64 n,.int .i64 0] w (RetRhO w (evrV k n)):=by
 cases hi:(inB n 1 24 && inB k 0 n)
 ·rw [show evrV k n=none by unfold evrV;rw [hi];rfl]
  exact zv6 k n w hi
 ·rw [show evrV k n=some (n.toNat,evB n.toNat k.toNat) by unfold evrV;rw [hi];rfl]
  rw [Bool.and_eq_true] at hi
  have i1:=zan.1 hi.1
  have i2:=zan.1 hi.2
  obtain ⟨N,rfl⟩:=Int.eq_ofNat_of_zero_le (show 0<=n by omega)
  obtain ⟨K,rfl⟩:=Int.eq_ofNat_of_zero_le (show 0<=k by omega)
  exact ztr N K w (by omega) (by omega) (by omega)
theorem zv8 (k n:Int)(w:World) :
  Calls Tryz.prog 28 #[.int .i64 k,.int .i64 n] w (RetRhO w (evrV k n)):=by
 have HS:=Zh (fun V=>zv7 k n V)
 have HC:=Zh (Cells2.new w (.int .i64 0) (.slice none 0 0) 27)
 have HB:=Zh ((Below.refl w.heap.size w).alloc (Nat.le_refl _) (.cells #[.int .i64 0,.slice none 0 0] 27))
 unfold RetRhO at HS ⊢
 generalize (((evrV k n).map (·.1)).getD 0:Nat)=M at HS ⊢
 generalize ((evrV k n).map (·.2)).getD []=L at HS ⊢
 generalize (evrV k n).isSome=q at HS ⊢
 go_enter Tryz.func28,Tryz.ntmps28
 go_wp2_with fail
 refine (HS.o _).mono ?_
 rintro e w1 ⟨A1,c1,rfl,hrw,hb⟩
 obtain ⟨f0,f1,f2,f3,f4⟩:=HC.o.below hb HC.o.2.2.2.2
 have HB1:=Zh (HB.o.trans (hb.mono HB.o.size))
 have HRW:=Zh hrw
 clear hb hrw
 go_wp2_with fail
 refine bodyPost_ret (v:=.tuple #[.agg #[.int .i64 M,.slice A1 L.length c1],.bool q]) (by simp [results,Tryz.results28,go_sem,f0,f1]) rfl ?_
 exact ⟨A1,c1,rfl,(((HRW.o.far (p:=⟨w.heap.size,0,none⟩) (by simp) _).far (p:=⟨w.heap.size,1,none⟩) (by simp) _)).mono HB.o.size,(HB1.o.setCell (Nat.le_refl _) _).setCell (Nat.le_refl _) _⟩
end Go.Proofs.YtjpnjchpdkogbaaGreatDoor
namespace Go.Proofs.YtjpnjchpdkogbaaGreatDoor
open Go.RowKit
theorem zv9 (a b:Nat):Nat.gcd b (a % b)=Nat.gcd a b:=by
 rw [Nat.gcd_comm b (a % b),<- Nat.gcd_rec,Nat.gcd_comm]
theorem zin (a b:Nat)(w:World)(ha:a<=1000000000000000)(hb:b<=1000000000000000) :
  Calls Tryz.prog 160 #[.int .i64 a,.int .i64 b] w fun e w'=>e = .returned (.int .i64 (Nat.gcd a b:Nat))/\Below w.heap.size w w':=by
 go_enter Tryz.func160,Tryz.ntmps160
 go_wp2
 go_loopw [0,1] (fun x y wr=>∃ c d:Nat,c<=1000000000000000/\d<=1000000000000000/\x = .int .i64 c/\y = .int .i64 d/\Nat.gcd c d=Nat.gcd a b/\Below w.heap.size w wr) (fun _ y _=>(intOf y).toNat)
 case atStart=>exact ⟨a,b,ha,hb,rfl,rfl,rfl,Below.refl _ _⟩
 case round =>
  obtain ⟨c,d,hc,hd,rfl,rfl,hg,hbel⟩:=hrel
  have HG:=Zh hg
  clear hg
  by_cases h0:0<d
  ·have hm:c % d<d:=Nat.mod_lt _ h0
   have HS:=Zh (zv9 c d)
   have hm0:(0:Int)<=(c:Int) % (d:Int):=Int.emod_nonneg _ (by omega)
   have hne:((d:Int) != 0)=true:=by rw [bne_iff_ne];omega
   go_wp2
   go_quiet (fail)
   go_wp2
   go_roundw
   case rel=>exact ⟨d,c % d,by omega,by omega,rfl,by rw [Int.natCast_emod],HS.o.trans HG.o,Below.drewN_ hbel _⟩
   case measure =>
    have hm1:(c:Int) % (d:Int)<(d:Int):=Int.emod_lt_of_pos _ (by omega)
    simp [intOf];omega
  ·have hd0:d=0:=by omega
   subst hd0
   have HE:=Zh (show Nat.gcd a b=c by rw [<- HG.o];exact Nat.gcd_zero_right c)
   go_wp2
   go_ret
   exact ⟨zbv (by rw [HE.o]),hbel⟩
end Go.Proofs.YtjpnjchpdkogbaaGreatDoor
namespace Go.Proofs.YtjpnjchpdkogbaaGreatDoor
open Go.RowKit
def chF (n:Nat):Nat->Nat
 | 0=>1
 | i+1=>chF n i*(n-i) / (i+1)
theorem zm7 : ∀ n,n<25 -> ∀ i,i<25->chF n i<=2704156:=by decide +kernel
def nkT (n k t:Nat):Nat:=if k % (n / Nat.gcd n t)=0 then (if Nat.gcd n t<k / (n / Nat.gcd n t) then 0 else chF (Nat.gcd n t) (k / (n / Nat.gcd n t))) else 0
def nkS (n k:Nat):Nat->Nat
 | 0=>0
 | t+1=>nkS n k t+nkT n k t
def nklV (n k:Int):Int:=if inB n 1 24 && inB k 0 n then ((nkS n.toNat k.toNat n.toNat / n.toNat:Nat):Int) else -1
theorem zwa (n k:Nat)(w:World)(hn:n<=24)(hk:k<=24) :
  Calls Tryz.prog 207 #[.int .i64 n,.int .i64 k] w fun e w'=>e = .returned (.int .i64 ((if n<k then 0 else chF n k:Nat):Int))/\w=w':=by
 by_cases hkn:n<k
 ·rw [if_pos hkn]
  have hki:(n:Int)<(k:Int):=by omega
  go_enter Tryz.func207,Tryz.ntmps207
  go_wp2_with fail
  go_ret
  exact ⟨rfl,rfl⟩
 ·rw [if_neg hkn]
  have hki : ¬ ((n:Int)<(k:Int)):=by omega
  have HLE:=Zh (fun i (hi:i<25)=>zm7 n (by omega) i hi)
  go_enter Tryz.func207,Tryz.ntmps207
  go_wp2_with fail
  go_loop [5,11] (fun o i=>∃ j:Nat,j<=k/\i = .int .i64 j/\o = .int .i64 (chF n j)) (fun _ i=>k-(intOf i).toNat)
  case atStart=>exact ⟨0,Nat.zero_le _,rfl,rfl⟩
  case round =>
   obtain ⟨j,hj,rfl,rfl⟩:=hrel
   by_cases hlt:j<k
   ·have h1:=HLE.o j (by omega)
    have hS:chF n (j+1)=chF n j*(n-j) / (j+1):=rfl
    have HS:=Zh hS
    obtain ⟨c,hc⟩ : ∃ c,chF n j=c:=⟨_,rfl⟩
    obtain ⟨d,hd⟩ : ∃ d,n-j=d:=⟨_,rfl⟩
    obtain ⟨e1,he1⟩ : ∃ e1,j+1=e1:=⟨_,rfl⟩
    rw [hc,hd,he1] at HS
    rw [hc] at h1 ⊢
    have hcd:c*d<=2704156*24:=Nat.mul_le_mul h1 (by omega)
    obtain ⟨p,hp⟩ : ∃ p,c*d=p:=⟨_,rfl⟩
    rw [hp] at hcd HS
    have hpi:(c:Int)*(d:Int)=(p:Int):=by rw [<- hp];simp
    have hw1:IntKind.i64.wrap ((n:Int)-(j:Int))=(d:Int):=by rw [show (n:Int)-(j:Int)=(d:Int) by omega];exact i64w (by omega)
    have hw2:IntKind.i64.wrap ((c:Int)*(d:Int))=(p:Int):=by rw [hpi];exact i64w (by omega)
    have hw3:IntKind.i64.wrap ((j:Int)+1)=(e1:Int):=by rw [show (j:Int)+1=(e1:Int) by omega];exact i64w (by omega)
    have hqb:p / e1<=p:=Nat.div_le_self _ _
    have hq0:(p:Int).tdiv (e1:Int)=((p / e1:Nat):Int):=by rw [Int.tdiv_eq_ediv_of_nonneg (by omega)];exact (Int.natCast_ediv p e1).symm
    obtain ⟨r,hr⟩ : ∃ r,p / e1=r:=⟨_,rfl⟩
    rw [hr] at hqb HS hq0
    have hq:(p:Int).tdiv (e1:Int)=(r:Int):=hq0
    have hw4:IntKind.i64.wrap (r:Int)=(r:Int):=i64w (by omega)
    have hnz:((e1:Int)=0)=False:=eq_false (by omega)
    have hnz2:(e1=0)=False:=eq_false (by omega)
    have hji:(j:Int)<(k:Int):=by omega
    have HE1:=Zh he1
    clear hc hd he1 hp hS hpi hr hq0
    go_wp2_with fail
    go_round
    case rel=>exact ⟨j+1,hlt,by rw [HE1.o],by rw [HE1.o,HS.o]⟩
    case measure=>simp [intOf];have:=HE1.o;omega
   ·have hje:j=k:=by omega
    have hji : ¬ ((j:Int)<(k:Int)):=by omega
    have HJ:=Zh (show chF n j=chF n k by rw [hje])
    clear hje
    go_wp2_with fail
    go_ret
    exact ⟨zbv (by rw [HJ.o]),rfl⟩
theorem zm8 (n k t:Nat)(hn:n<25)(hk:k<25)(ht:t<n):nkT n k t<=2704156:=by
 unfold nkT
 split
 ·split
  ·exact Nat.zero_le _
  ·refine zm7 _ ?_ _ ?_
   ·exact Nat.lt_of_le_of_lt (Nat.le_of_dvd (by omega) (Nat.gcd_dvd_left n t)) hn
   ·exact Nat.lt_of_le_of_lt (Nat.div_le_self _ _) hk
 ·exact Nat.zero_le _
theorem zio (n k:Nat)(hn:n<25)(hk:k<25) : ∀ t,t<=n->nkS n k t<=t*2704156
 | 0,_=>Nat.zero_le _
 | t+1,h=>by
  have:=zio n k hn hk t (by omega)
  have:=zm8 n k t hn hk (by omega)
  unfold nkS
  omega
theorem zwb (n k:Nat)(w:World)(hn1:1<=n)(hn:n<=24)(hk:k<=24) :
  Calls Tryz.prog 141 #[.int .i64 n,.int .i64 k] w fun e w'=>e = .returned (.int .i64 ((nkS n k n / n:Nat):Int))/\Below w.heap.size w w':=by
 have HGC:=Zh (fun t V (ht:t<=24)=>zin n t V (by omega) (by omega))
 have HCH:=Zh (fun a b V h1 h2=>zwa a b V h1 h2)
 have HTL:=Zh (fun t ht=>zm8 n k t (by omega) (by omega) ht)
 have HSL:=Zh (fun t ht=>zio n k (by omega) (by omega) t ht)
 go_enter Tryz.func141,Tryz.ntmps141
 go_wp2_with fail
 go_loopw [5,10] (fun s i wr=>∃ t:Nat,t<=n/\i = .int .i64 t/\s = .int .i64 (nkS n k t)/\Below w.heap.size w wr) (fun _ i _=>n-(intOf i).toNat)
 case atStart=>exact ⟨0,Nat.zero_le _,rfl,rfl,Below.refl _ _⟩
 case round =>
  obtain ⟨t,ht,rfl,rfl,hbel⟩:=hrel
  have HB:=Zh hbel
  clear hbel
  by_cases hlt:t<n
  ·have HS:=Zh (show nkS n k (t+1)=nkS n k t+nkT n k t from rfl)
   have h1:=HSL.o t ht
   have h2:=HTL.o t hlt
   have hti:(t:Int)<(n:Int):=by omega
   have hwt:IntKind.i64.wrap ((t:Int)+1)=(t:Int)+1:=i64w (by omega)
   have hgp:0<Nat.gcd n t:=Nat.gcd_pos_of_pos_left _ (by omega)
   have hgl:Nat.gcd n t<=n:=Nat.le_of_dvd (by omega) (Nat.gcd_dvd_left n t)
   have HT:=Zh (show nkT n k t=if k % (n / Nat.gcd n t)=0 then (if Nat.gcd n t<k / (n / Nat.gcd n t) then 0 else chF (Nat.gcd n t) (k / (n / Nat.gcd n t))) else 0 from rfl)
   have HG:=Zh (HGC.o t wr (by omega))
   obtain ⟨S,hS⟩ : ∃ S,nkS n k t=S:=⟨_,rfl⟩
   obtain ⟨T,hT⟩ : ∃ T,nkT n k t=T:=⟨_,rfl⟩
   obtain ⟨g,hg⟩ : ∃ g,Nat.gcd n t=g:=⟨_,rfl⟩
   rw [hg] at hgp hgl HT HG
   rw [hT] at HT h2 HS
   rw [hS] at h1 HS ⊢
   have hlp:0<n / g:=Nat.div_pos hgl hgp
   have hll:n / g<=n:=Nat.div_le_self _ _
   have hq1:(n:Int).tdiv (g:Int)=((n / g:Nat):Int):=by rw [Int.tdiv_eq_ediv_of_nonneg (by omega)];exact (Int.natCast_ediv n g).symm
   obtain ⟨l,hl⟩ : ∃ l,n / g=l:=⟨_,rfl⟩
   rw [hl] at hlp hll hq1 HT
   have hw1:IntKind.i64.wrap (l:Int)=(l:Int):=i64w (by omega)
   have hr1:(k:Int).tmod (l:Int)=((k % l:Nat):Int):=by rw [Int.tmod_eq_emod_of_nonneg (by omega)];exact (Int.natCast_emod k l).symm
   have hq2:(k:Int).tdiv (l:Int)=((k / l:Nat):Int):=by rw [Int.tdiv_eq_ediv_of_nonneg (by omega)];exact (Int.natCast_ediv k l).symm
   have hrl:k % l<=k:=Nat.mod_le _ _
   have hql:k / l<=k:=Nat.div_le_self _ _
   obtain ⟨r,hr⟩ : ∃ r,k % l=r:=⟨_,rfl⟩
   obtain ⟨q,hq⟩ : ∃ q,k / l=q:=⟨_,rfl⟩
   rw [hr] at hr1 hrl HT
   rw [hq] at hq2 hql HT
   have hw2:IntKind.i64.wrap (r:Int)=(r:Int):=i64w (by omega)
   have hw3:IntKind.i64.wrap (q:Int)=(q:Int):=i64w (by omega)
   have hgz:((g:Int)=0)=False:=eq_false (by omega)
   have hgz2:(g=0)=False:=eq_false (by omega)
   have hlz:((l:Int)=0)=False:=eq_false (by omega)
   have hlz2:(l=0)=False:=eq_false (by omega)
   have hw4:IntKind.i64.wrap ((S:Int)+(T:Int))=(S:Int)+(T:Int):=i64w (by omega)
   have HX:=Zh (HCH.o g q)
   clear hS hT hg hl hr hq h1 h2
   by_cases hz:r=0
   ·have hrz:((r:Int)==0)=true:=by rw [hz];rfl
    have HTE:=Zh (show (if g<q then 0 else chF g q)=T from by rw [HT.o,if_pos hz])
    rw [HTE.o] at HX
    clear hz
    go_wp2_with fail
    refine HG.o.mono ?_
    rintro e w1 ⟨rfl,hb⟩
    have HB:=Zh (HB.o.trans (hb.mono HB.o.size))
    clear hb
    go_wp2_with fail
    refine (HX.o _ (by omega) (by omega)).mono ?_
    rintro e w' ⟨rfl,hw'⟩
    obtain rfl:=hw'
    go_wp2_with fail
    go_roundw
    case rel=>exact ⟨t+1,hlt,by go_num,by rw [HS.o];go_num,HB.o⟩
    case measure=>simp [intOf];omega
   ·have hrz:((r:Int)==0)=false:=beq_eq_false_iff_ne.2 (by omega)
    have HTE:=Zh (show T=0 from by rw [HT.o,if_neg hz])
    clear hz
    go_wp2_with fail
    refine HG.o.mono ?_
    rintro e w1 ⟨rfl,hb⟩
    have HB:=Zh (HB.o.trans (hb.mono HB.o.size))
    clear hb
    go_wp2_with fail
    go_roundw
    case rel=>exact ⟨t+1,hlt,by go_num,by rw [HS.o,HTE.o,Nat.add_zero],HB.o⟩
    case measure=>simp [intOf];omega
  ·have hte:t=n:=by omega
   have hti : ¬ ((t:Int)<(n:Int)):=by omega
   have h1:=HSL.o t ht
   rw [hte] at h1
   have hq1:((nkS n k n:Nat):Int).tdiv (n:Int)=((nkS n k n / n:Nat):Int):=by rw [Int.tdiv_eq_ediv_of_nonneg (by omega)];exact (Int.natCast_ediv _ n).symm
   have hql:nkS n k n / n<=nkS n k n:=Nat.div_le_self _ _
   obtain ⟨q,hq⟩ : ∃ q,nkS n k n / n=q:=⟨_,rfl⟩
   rw [hq] at hq1 hql
   have HQ:=Zh hq
   rw [show nkS n k t=nkS n k n by rw [hte]]
   obtain ⟨S,hS⟩ : ∃ S,nkS n k n=S:=⟨_,rfl⟩
   rw [hS] at hq1 hql h1 ⊢
   have hw1:IntKind.i64.wrap (q:Int)=(q:Int):=i64w (by omega)
   have hnz:((n:Int)=0)=False:=eq_false (by omega)
   have hnz2:(n=0)=False:=eq_false (by omega)
   clear hte hq hS
   go_wp2_with fail
   go_ret
   exact ⟨zbv (by rw [<- HQ.o];simp),HB.o⟩
theorem zwc (n k:Int)(w:World) :
  Calls Tryz.prog 78 #[.int .i64 n,.int .i64 k] w fun e w'=>e = .returned (.int .i64 (nklV n k))/\Below w.heap.size w w':=by
 cases h1:inB n 1 24
 ·have HV:=Zh (show nklV n k = -1 by unfold nklV;rw [h1];rfl)
  rw [HV.o]
  go_enter Tryz.func78,Tryz.ntmps78
  go_wp2_with (go_at_call 22;refine (zac _ _ _ _).mono ?_;rintro e w' ⟨rfl,rfl⟩)
  go_ret
  exact ⟨rfl,Below.refl _ _⟩
 ·cases h2:inB k 0 n
  ·have HV:=Zh (show nklV n k = -1 by unfold nklV;rw [h1,h2];rfl)
   rw [HV.o]
   go_enter Tryz.func78,Tryz.ntmps78
   go_wp2_with (go_at_call 22;refine (zac _ _ _ _).mono ?_;rintro e w' ⟨rfl,rfl⟩)
   go_ret
   exact ⟨rfl,Below.refl _ _⟩
  ·have i1:=zan.1 h1
   have i2:=zan.1 h2
   obtain ⟨N,rfl⟩:=Int.eq_ofNat_of_zero_le (show 0<=n by omega)
   obtain ⟨K,rfl⟩:=Int.eq_ofNat_of_zero_le (show 0<=k by omega)
   have HV:=Zh (show nklV N K=((nkS N K N / N:Nat):Int) by unfold nklV;rw [h1,h2];rfl)
   rw [HV.o]
   have HNK:=Zh (fun V=>zwb N K V (by omega) (by omega) (by omega))
   generalize nkS N K N / N=q at *
   go_enter Tryz.func78,Tryz.ntmps78
   go_wp2_with (go_at_call 22;refine (zac _ _ _ _).mono ?_;rintro e w' ⟨rfl,rfl⟩)
   refine (HNK.o _).mono ?_
   rintro e w1 ⟨rfl,hb⟩
   have HB:=Zh hb
   clear hb
   go_wp2_with fail
   go_ret
   exact ⟨rfl,HB.o⟩
end Go.Proofs.YtjpnjchpdkogbaaGreatDoor
namespace Go.Proofs.YtjpnjchpdkogbaaGreatDoor
open Go.RowKit
def lstV (f:Int->Int) (lo:Int):Nat->Int
 | 0=>-1
 | j+1=>zbs f lo j
theorem zwd {f:Int->Int}(hf : ∀ s,0<=f s){lo:Int}(j:Nat):lstV f lo (j+1)=if lstV f lo j<0\/f (lo+j)<lstV f lo j then f (lo+j) else lstV f lo j:=by
 cases j with
 | zero =>
  rw [if_pos (Or.inl (show lstV f lo 0<0 by show (-1:Int)<0;decide))]
  show f lo=_
  simp
 | succ j =>
  have hge : ∀ m,0<=zbs f lo m:=fun m=>by
   obtain ⟨_,s,_,_,e⟩:=zdw f lo m
   rw [e];exact hf s
  have e1:lstV f lo (j+1+1)=zbs f lo (j+1):=rfl
  have e2:lstV f lo (j+1)=zbs f lo j:=rfl
  have e3:zbs f lo (j+1)=if f (lo+((j+1:Nat):Int))<zbs f lo j then f (lo+((j+1:Nat):Int)) else zbs f lo j:=rfl
  rw [e1,e2,e3]
  have:=hge j
  by_cases h:f (lo+((j+1:Nat):Int))<zbs f lo j
  ·rw [if_pos h,if_pos (Or.inr h)]
  ·rw [if_neg h,if_neg (by omega)]
theorem zwe (f:Int->Int)(hf : ∀ s,0<=f s)(lo:Int)(j:Nat) : -1<=lstV f lo j:=by
 cases j with
 | zero=>exact Int.le_refl _
 | succ j =>
  obtain ⟨_,s,_,_,e⟩:=zdw f lo j
  show -1<=zbs f lo j
  rw [e];have:=hf s;omega
theorem zwf (d:Int):(if d < -d then -d else d)=absI d:=by unfold absI;split <;> split <;> omega
theorem zwg {n:Int}{b:List Int}{t:Int}{m:Nat}{c:Int}(hm:t % (b.length:Int)=m)(hc:t / (b.length:Int)=c):extB n b t=b.getD m 0+c*n:=by
 unfold extB
 rw [hm,hc,Int.toNat_natCast]
theorem zwh (t k:Int)(hk:0<k):(t-t % k).tdiv k=t / k:=by
 have:=Int.emod_add_mul_ediv t k
 rw [show t-t % k=k*(t / k) by omega]
 exact Int.mul_tdiv_cancel_left _ (by omega)
def sumP (n:Int)(a b:List Int)(s:Int)(i:Nat):Int:=sigN (fun i=>absI (extB n a i-extB n b (i+s))) i
theorem zm9 (n:Int)(a b:List Int)(s:Int)(i:Nat):sumP n a b s (i+1)=sumP n a b s i+absI (extB n a i-extB n b (i+s)):=rfl
theorem zwi (x y:Int):absI (x-y)=absI (y-x):=by unfold absI;split <;> split <;> omega
section
variable {N:Nat} {a b:List Int}
theorem zna (ha:RhOk N a)(hb:RhOk N b)(hl:a.length=b.length){i:Nat}(hi:i<a.length){s:Int}(hs : -(a.length:Int)<=s/\s<=a.length) :
  ∃ (m:Nat) (c:Int),((i:Int)+s) % (a.length:Int)=m/\m<b.length/\((i:Int)+s) / (a.length:Int)=c /\ -2<=c/\c<=2/\((i:Int)+s-m).tdiv a.length=c/\extB N b (i+s)=b.getD m 0+c*N:=by
 have hk:(0:Int)<a.length:=by omega
 have h0:=Int.emod_nonneg ((i:Int)+s) (show (a.length:Int)≠0 by omega)
 have h1:=Int.emod_lt_of_pos ((i:Int)+s) hk
 obtain ⟨m,hm⟩:=Int.eq_ofNat_of_zero_le h0
 have hq:=Int.emod_add_mul_ediv ((i:Int)+s) a.length
 refine ⟨m,_,hm,by omega,rfl,?_,?_,?_,?_⟩
 ·refine Int.le_ediv_of_mul_le hk (by omega)
 ·have:=Int.ediv_lt_of_lt_mul (a:=(i:Int)+s) (b:=3) hk (by omega);omega
 ·rw [<- hm];exact zwh _ _ hk
 ·exact zwg (by rw [<- hl];exact hm) (by rw [<- hl])
theorem znb (ha:RhOk N a)(hb:RhOk N b)(hl:a.length=b.length){s:Int}(hs : -(a.length:Int)<=s/\s<=a.length) : ∀ i,i<=a.length->0<=sumP N a b s i/\sumP N a b s i<=i*100
 | 0,_=>⟨Int.le_refl _,by simp [sumP,sigN]⟩
 | i+1,h=>by
  have ih:=znb ha hb hl hs i (by omega)
  obtain ⟨m,c,_,hm,_,hc1,hc2,_,e⟩:=zna ha hb hl (i:=i) (by omega) hs
  have r:=zct ha i (by omega)
  have q:=hb.2.2.1 m hm
  have:=ha.1
  have:=ha.2.1
  rw [zm9,e]
  have hcn : -48<=c*N/\c*N<=48:=by
   rcases (show c = -2\/c = -1\/c=0\/c=1\/c=2 by omega) with rfl | rfl | rfl | rfl | rfl <;> omega
  unfold absI
  split <;> omega
end
theorem zwj (N:Nat)(A B:Option Addr)(ca cb:Nat)(a b:List Int)(w:World)(hA:Ints w w.heap.size A a)(hB:Ints w w.heap.size B b)(ha:RhOk N a)(hb:RhOk N b)(hl:a.length=b.length) :
  Calls Tryz.prog 174 #[.agg #[.int .i64 N,.slice A a.length ca],.agg #[.int .i64 N,.slice B b.length cb]] w fun e w'=>e = .returned (.int .i64 (farV N a b))/\Below w.heap.size w w':=by
 have hn1:1<=N:=by have:=ha.1;omega
 have hn2:N<=24:=by have:=ha.2.1;omega
 have hal:a.length<=24:=by have:=zcs ha;omega
 have hbl:b.length<=24:=by omega
 have HOA:=Zh ha
 have HOB:=Zh hb
 have HL:=Zh hl
 have hal0:=(Below.refl w.heap.size w).alloc (Nat.le_refl _) (.cells #[.int .i64 N,.slice A a.length ca] 27)
 have hal1:=hal0.alloc hal0.size (.cells #[.int .i64 N,.slice B b.length cb] 27)
 have HC0:=Zh ((Cells2.new w (.int .i64 N) (.slice A a.length ca) 27).alloc (.cells #[.int .i64 N,.slice B b.length cb] 27))
 have HD0:=Zh (Cells2.new_at (w.alloc (.cells #[.int .i64 N,.slice A a.length ca] 27)) (.int .i64 N) (.slice B b.length cb) 27 (w.heap.size+1) (by simp))
 have HB0:=Zh hal1
 have HIA:=Zh (hA.lift hal1)
 have HIB:=Zh (hB.lift hal1)
 clear hA hB hal0 hal1 ha hb hl
 obtain ⟨c0,c1,_,_,_⟩:=HC0.o
 obtain ⟨d0,d1,_,_,_⟩:=HD0.o
 have hneg:IntKind.i64.wrap (-(a.length:Int)) = -(a.length:Int):=i64w (by omega)
 go_enter Tryz.func174,Tryz.ntmps174
 go_wp2_with fail
 generalize (w.alloc (.cells #[.int .i64 N,.slice A a.length ca] 27)).alloc (.cells #[.int .i64 N,.slice B b.length cb] 27)=w0 at *
 obtain ⟨q,hq⟩ : ∃ q,w.heap.size=q:=⟨_,rfl⟩
 have HQ:=Zh hq
 rw [hq] at HC0 HD0 HB0 ⊢
 clear hq c0 c1 d0 d1
 have HFN:=Zh (zlf N a b)
 go_loopw [6,7] (fun le tu wr=>∃ j:Nat,j<=2*a.length+1/\tu = .int .i64 (-(a.length:Int)+j)/\le = .int .i64 (lstV (farS N a b) (-(a.length:Int)) j)/\Below w0.heap.size w0 wr) (fun _ tu _=>((a.length:Int)+1-intOf tu).toNat)
 case atStart=>exact ⟨0,by omega,by simp,rfl,Below.refl _ _⟩
 case round =>
  obtain ⟨j,hj,rfl,rfl,hbel⟩:=hrel
  obtain ⟨wo,rfl⟩ : ∃ wo:World,wo=wr:=⟨_,rfl⟩
  have HBE:=Zh hbel
  clear hbel hneg
  by_cases hlt:j<=2*a.length
  ·have HLS:=Zh (zwd HFN.o (lo:=-(a.length:Int)) j)
   have hlo:=zwe (farS N a b) HFN.o (-(a.length:Int)) j
   obtain ⟨lj,hlj⟩ : ∃ x,lstV (farS N a b) (-(a.length:Int)) j=x:=⟨_,rfl⟩
   rw [hlj] at HLS hlo ⊢
   obtain ⟨s,hs⟩ : ∃ s,-(a.length:Int)+j=s:=⟨_,rfl⟩
   rw [hs] at HLS ⊢
   have HS:=Zh hs
   have HLJ:=Zh hlj
   have hs1 : -(a.length:Int)<=s:=by omega
   have hs2:s<=(a.length:Int):=by omega
   have HSU:=Zh (show farS N a b s=sumP N a b s a.length from rfl)
   have hws:IntKind.i64.wrap (s+1)=s+1:=i64w (by omega)
   clear hlj hs
   obtain ⟨c0,c1,_,_,_⟩:=HC0.o.below HBE.o HC0.o.2.2.2.2
   go_wp2_with fail
   go_loopw [8,27] (fun su ii wr=>∃ i:Nat,i<=a.length/\ii = .int .i64 i/\su = .int .i64 (sumP N a b s i)/\Below w0.heap.size w0 wr) (fun _ ii _=>a.length-(intOf ii).toNat)
   case atStart=>exact ⟨0,Nat.zero_le _,rfl,rfl,HBE.o⟩
   case round =>
    obtain ⟨i,hi,rfl,rfl,hbel⟩:=hrel
    obtain ⟨wi,rfl⟩ : ∃ wo:World,wo=wr:=⟨_,rfl⟩
    have HBI:=Zh hbel
    clear hbel c0 c1
    obtain ⟨c0,c1,_,_,_⟩:=HC0.o.below HBI.o HC0.o.2.2.2.2
    obtain ⟨d0,d1,_,_,_⟩:=HD0.o.below HBI.o HD0.o.2.2.2.2
    have hbd:=znb HOA.o HOB.o HL.o ⟨hs1,hs2⟩ i hi
    by_cases hil:i<a.length
    ·have hili:(i:Int)<(a.length:Int):=by omega
     have hi0:(0:Int)<=(i:Int):=Int.natCast_nonneg _
     have HSS:=Zh (zm9 N a b s i)
     obtain ⟨m,c,hm,hmb,hc,hc1,hc2,htd,hex⟩:=zna HOA.o HOB.o HL.o hil ⟨hs1,hs2⟩
     have hA1:=HIA.o.lift HBI.o
     have hB1:=HIB.o.lift HBI.o
     obtain ⟨bA,oA,hAe,hAB,hac⟩:=hA1.2.2 (by omega)
     obtain ⟨bB,oB,hBe,hBB,hbc⟩:=hB1.2.2 (by omega)
     have hcell:=hac i hil
     have hcell2:=hbc m hmb
     have hpr:=HOA.o.2.2.1 i hil
     have hqr:=HOB.o.2.2.1 m hmb
     rw [zfe N a i hil,hex] at HSS
     obtain ⟨p,hp⟩ : ∃ p,a.getD i 0=p:=⟨_,rfl⟩
     obtain ⟨y,hy⟩ : ∃ y,b.getD m 0=y:=⟨_,rfl⟩
     rw [hp] at hcell hpr HSS
     rw [hy] at hcell2 hqr HSS
     have hcn : -48<=c*(N:Int)/\c*(N:Int)<=48:=by
      rcases (show c = -2\/c = -1\/c=0\/c=1\/c=2 by omega) with rfl | rfl | rfl | rfl | rfl <;> omega
     subst hAe hBe
     have HRM:=Zh (fun V=>zhf ((i:Int)+s) a.length V (by omega) (by omega))
     rw [hm] at HRM
     obtain ⟨S,hS⟩ : ∃ S,sumP N a b s i=S:=⟨_,rfl⟩
     rw [hS] at HSS hbd ⊢
     have w1:IntKind.i64.wrap ((i:Int)+s)=(i:Int)+s:=i64w (by omega)
     have w2:IntKind.i64.wrap ((i:Int)+s-(m:Int))=(i:Int)+s-(m:Int):=i64w (by omega)
     have w3:IntKind.i64.wrap c=c:=i64w (by omega)
     have w4:IntKind.i64.wrap (c*(N:Int))=c*(N:Int):=i64w (by omega)
     have w5:IntKind.i64.wrap (y+c*(N:Int))=y+c*(N:Int):=i64w (by omega)
     have w6:IntKind.i64.wrap (y+c*(N:Int)-p)=y+c*(N:Int)-p:=i64w (by omega)
     have w7:IntKind.i64.wrap (-(y+c*(N:Int)-p)) = -(y+c*(N:Int)-p):=i64w (by omega)
     have hk0:((a.length:Int)=0)=False:=eq_false (by omega)
     have hmi:(0:Int)<=(m:Int)/\(m:Int)<(b.length:Int):=by omega
     obtain ⟨hm0,hm1⟩:=hmi
     clear hac hbc hp hy hS hm hc hex hA1 hB1
     go_wp2_with (go_at_call 154;refine (HRM.o _).mono ?_;rintro e w' ⟨rfl,rfl⟩)
     go_quiet ((go_at_call 154;exact Calls.quiet_of_left (HRM.o _)))
     go_wp2_with fail
     go_roundw
     case rel=>exact ⟨i+1,by omega,by go_num,by
      rw [HSS.o,<- zwi,<- zwf]
      congr 1
      omega,Below.drewN_ HBI.o _⟩
     case measure=>simp [intOf];omega
    ·have hie:i=a.length:=by omega
     subst hie
     rw [<- HSU.o] at hbd ⊢
     obtain ⟨F,hF⟩ : ∃ F,farS N a b s=F:=⟨_,rfl⟩
     rw [hF] at HLS hbd ⊢
     have HFE:=Zh hF
     clear hF
     by_cases h1:lj<0
     ·rw [if_pos (Or.inl h1)] at HLS
      go_wp2_with fail
      go_roundw
      case rel=>exact ⟨j+1,by omega,by rw [<- HS.o];go_num,by rw [HLS.o],HBI.o⟩
      case measure=>simp [intOf];omega
     ·by_cases h2:F<lj
      ·rw [if_pos (Or.inr h2)] at HLS
       go_wp2_with fail
       go_roundw
       case rel=>exact ⟨j+1,by omega,by rw [<- HS.o];go_num,by rw [HLS.o],HBI.o⟩
       case measure=>simp [intOf];omega
      ·rw [if_neg (by omega)] at HLS
       go_wp2_with fail
       go_roundw
       case rel=>exact ⟨j+1,by omega,by rw [<- HS.o];go_num,by rw [HLS.o],HBI.o⟩
       case measure=>simp [intOf];omega
  ·have hje:j=2*a.length+1:=by omega
   subst hje
   have HV:=Zh (show lstV (farS N a b) (-(a.length:Int)) (2*a.length+1)=farV N a b from rfl)
   rw [HV.o]
   obtain ⟨V,hV⟩ : ∃ V,farV N a b=V:=⟨_,rfl⟩
   have HVV:=Zh hV
   rw [hV]
   clear hV
   go_wp2_with fail
   go_ret
   exact ⟨zbv HVV.o.symm,by rw [HQ.o];exact HB0.o.trans (HBE.o.mono (Nat.le_of_lt HC0.o.2.2.2.2))⟩
end Go.Proofs.YtjpnjchpdkogbaaGreatDoor
namespace Go.Proofs.YtjpnjchpdkogbaaGreatDoor
open Go.RowKit
structure RV where
 n:Int
 xs:List Int
 A:Option Addr
 c:Nat
 b:Nat
instance:Inhabited RV:=⟨⟨0,[],none,0,0⟩⟩
def RV.slc (r:RV):Value:=.slice r.A r.xs.length r.c
def RV.cells (r:RV):List Value:=[.int .i64 r.n,r.slc]
def zcv:List RV->List Value
 | []=>[]
 | r::rs=>.int .i64 r.n::r.slc::zcv rs
theorem znc : ∀ rs ss,zcv (rs++ss)=zcv rs++zcv ss
 | [],ss=>rfl
 | r::rs,ss=>by simp [zcv,znc rs ss]
theorem ziq : ∀ (rs:List RV) (i:Nat) (h:i<rs.length),(zcv rs)[i*2]? = some (.int .i64 rs[i].n)/\(zcv rs)[i*2+1]? = some rs[i].slc
 | r::rs,0,_=>⟨rfl,rfl⟩
 | r::rs,i+1,h=>by
  have:=ziq rs i (by simpa using h)
  rw [show (i+1)*2=i*2+1+1 by omega]
  simpa [zcv] using this
def RV.Lies (r:RV)(w:World)(base:Nat):Prop :=
 r.xs.length<=1048576/\base<=r.b/\r.b<w.heap.size/\(0<r.xs.length->r.A=some ⟨r.b,0,none⟩/\TabV w r.b r.xs.length (fun t=>.int .i64 (r.xs.getD t 0)))
theorem RV.Lies.frm {r:RV}{w w':World}{base:Nat}{S:Nat->Prop}(h:r.Lies w base)(hf:Frm S w w')(hS : ¬ S r.b):r.Lies w' base :=
 ⟨h.1,h.2.1,Nat.lt_of_lt_of_le h.2.2.1 hf.size,fun hn=>⟨(h.2.2.2 hn).1,(h.2.2.2 hn).2.frm hf hS⟩⟩
theorem RV.Lies.mono {r:RV}{w:World}{base base':Nat}(h:r.Lies w base)(hb:base'<=base):r.Lies w base':=⟨h.1,by have:=h.2.1;omega,h.2.2⟩
theorem RV.Lies.ints {r:RV}{w:World}{base:Nat}(h:r.Lies w base)(hf : ∀ x∈r.xs,Fits x):Ints w w.heap.size r.A r.xs:=by
 refine ⟨by have:=h.1;unfold maxLen;omega,hf,fun hn=>?_⟩
 obtain ⟨e,ht⟩:=h.2.2.2 hn
 exact ⟨r.b,0,e,ht.1,fun i hi=>by rw [Nat.zero_add];exact (ht.2 i hi).1⟩
theorem RW.rv {w:World}{base:Nat}{A:Option Addr}{xs:List Int}(h:RW w base A xs)(hb:base<w.heap.size)(n:Int)(c:Nat) : ∃ b,(RV.mk n xs A c b).Lies w base:=by
 by_cases hn:0<xs.length
 ·obtain ⟨b,e,hge,ht⟩:=h.2 hn
  exact ⟨b,h.1,hge,ht.1,fun _=>⟨e,ht.tabV⟩⟩
 ·exact ⟨base,h.1,Nat.le_refl _,hb,fun h'=>absurd h' hn⟩
end Go.Proofs.YtjpnjchpdkogbaaGreatDoor
namespace Go.Proofs.YtjpnjchpdkogbaaGreatDoor
open Go.RowKit
theorem RW.rvOf {w:World}{base:Nat}{A:Option Addr}{xs:List Int}(h:RW w base A xs)(q:Nat)(hq:q<w.heap.size)(hb:q<=base)(n:Int)(c:Nat) : ∃ b,(RV.mk n xs A c b).Lies w q/\(b=q\/base<=b):=by
 by_cases hn:0<xs.length
 ·obtain ⟨b,e,hge,ht⟩:=h.2 hn
  exact ⟨b,⟨h.1,by show q<=b;omega,ht.1,fun _=>⟨e,ht.tabV⟩⟩,.inr hge⟩
 ·exact ⟨q,⟨h.1,Nat.le_refl _,hq,fun h'=>absurd h' hn⟩,.inl rfl⟩
theorem RV.Lies.rw' {r:RV}{w:World}{base:Nat}(h:r.Lies w base):RW w base r.A r.xs :=
 ⟨h.1,fun hn=>⟨r.b,(h.2.2.2 hn).1,h.2.1,(h.2.2.2 hn).2⟩⟩
theorem Cells2.frmY {w w':World}{g:Nat}{u v:Value}{S:Nat->Prop}(h:Cells2 w g u v)(hf:Frm S w w')(hS : ¬ S g):Cells2 w' g u v :=
 ⟨(hf.cell h.2.2.2.2 hS).trans h.1,(hf.cell h.2.2.2.2 hS).trans h.2.1,(hf.frozen h.2.2.2.2 hS).trans h.2.2.1,(hf.frozen h.2.2.2.2 hS).trans h.2.2.2.1,Nat.lt_of_lt_of_le h.2.2.2.2 hf.size⟩
theorem zcl {N:Nat}{bs:List Int}(hok:RhOk N bs) : ∀ x∈bs,Fits x:=fun x hx=>by
 have h1:=zba hok x hx
 have h2:=hok.2.1
 unfold Fits;omega
def znd (w:World)(n:Int)(xs:List Int)(d:Int)(e:Ending)(w':World):Prop:=∃ A cap,e = .returned (.tuple #[.agg #[.int .i64 n,.slice A xs.length cap],.int .i64 d])/\RW w' w.heap.size A xs/\Below w.heap.size w w'
def fewF (N:Nat)(a:List Int)(k:Nat):Int:=farV N a (rotL N (evB N a.length) (k:Int))
theorem zwk (N:Nat)(A:Option Addr)(ca:Nat)(a:List Int)(w:World)(hA:Ints w w.heap.size A a)(ha:RhOk N a) :
  Calls Tryz.prog 119 #[.agg #[.int .i64 N,.slice A a.length ca]] w (znd w N (fewX N a) (farV N a (fewX N a))):=by
 have hn1:1<=N:=by have:=ha.1;omega
 have hn2:N<=24:=by have:=ha.2.1;omega
 have hal:a.length<=N:=zcs ha
 have hfn:Fits (N:Int):=by unfold Fits;omega
 have heok:=zc3 hn1 hn2 hal
 have hel:=zek N a.length
 have hr:rhB N a=true:=zao.2 ha
 have HRO:=Zh (fun V h=>hr ▸ zav N A ca a V hfn h)
 have HEV:=Zh (fun V=>zlv N a.length V hn1 hn2 hal)
 have HXL:=Zh (fun (k:Nat)=>(show RhOk N (rotL N (evB N a.length) (k:Int))/\(rotL N (evB N a.length) (k:Int)).length=a.length from ⟨(zah heok k).1,(zah heok k).2.trans hel⟩))
 have HX0:=Zh (show rotL N (evB N a.length) ((0:Nat):Int)=evB N a.length from (zdt heok 0).2 (fun t ht=>by rw [show (t:Int)-0=t by omega,Int.emod_eq_of_lt (by omega) (by omega)]))
 have HRT:=Zh (fun (k:Nat) (hk:k<=1000) (A1:Option Addr) (c1:Nat) V h=>zdf N A1 c1 (evB N a.length) k V h heok hk)
 have HDI:=Zh (fun (k:Nat) (B:Option Addr) (cb:Nat) V h1 h2=>show Calls Tryz.prog 174 #[.agg #[.int .i64 N,.slice A a.length ca],.agg #[.int .i64 N,.slice B (rotL N (evB N a.length) (k:Int)).length cb]] V (fun e w'=>e = .returned (.int .i64 (fewF N a k))/\Below V.heap.size V w') from zwj N A B ca cb a (rotL N (evB N a.length) (k:Int)) V h1 h2 ha (zah heok k).1 ((zah heok k).2.trans hel).symm)
 have HK:=Zh (show zay (fewF N a) N=fewK N a from rfl)
 have HKM:=Zh (fun m (hm:1<=m)=>zhr (fewF N a) m hm)
 have HEF:=Zh (zcl heok)
 have HEL:=Zh hel
 have HA:=Zh hA
 have hal0:=(Below.refl w.heap.size w).alloc (Nat.le_refl _) (.cells #[.int .i64 N,.slice A a.length ca] 27)
 have hal1:=hal0.alloc hal0.size (.cells #[.int .i64 0,.slice none 0 0] 27)
 have HC0:=Zh ((Cells2.new w (.int .i64 N) (.slice A a.length ca) 27).alloc (.cells #[.int .i64 0,.slice none 0 0] 27))
 have HZ0:=Zh (Cells2.new_at (w.alloc (.cells #[.int .i64 N,.slice A a.length ca] 27)) (.int .i64 0) (.slice none 0 0) 27 (w.heap.size+1) (by simp))
 have HB0:=Zh hal1
 have HI0:=Zh (hA.lift hal1)
 clear hA ha heok hel hr hal0 hal1 hfn
 obtain ⟨c0,c1,_,_,_⟩:=HC0.o
 go_enter Tryz.func119,Tryz.ntmps119
 go_wp2_with fail
 refine (HRO.o _ HI0.o).mono ?_
 rintro e w1 ⟨rfl,hb⟩
 have HB1:=Zh (HB0.o.trans (hb.mono HB0.o.size))
 have HC1:=Zh (HC0.o.below hb HC0.o.2.2.2.2)
 have HZ1:=Zh (HZ0.o.below hb HZ0.o.2.2.2.2)
 clear hb c0 c1
 obtain ⟨c0,c1,_,_,_⟩:=HC1.o
 go_wp2_with fail
 refine (HEV.o _).mono ?_
 rintro e w2 ⟨Ae,ce,rfl,hrw,hb⟩
 obtain ⟨q,hq⟩ : ∃ q,w.heap.size=q:=⟨_,rfl⟩
 have HQ:=Zh hq
 rw [hq] at HB1 HC1 HZ1 HA ⊢
 clear hq
 have hq1:q+2<=w1.heap.size:=by have:=HZ1.o.2.2.2.2;omega
 have hz2:=hb.size
 obtain ⟨be,hLe,hbe⟩:=hrw.rvOf q (by omega) (by omega) (N:Int) ce
 have hbl:be<w2.heap.size:=hLe.2.2.1
 have HB2:=Zh (HB1.o.trans (hb.mono (by omega)))
 have HC2:=Zh (HC1.o.below hb HC1.o.2.2.2.2)
 have HZ2:=Zh (HZ1.o.below hb HZ1.o.2.2.2.2)
 have hal2:=(Below.refl w2.heap.size w2).alloc (Nat.le_refl _) (.cells #[.int .i64 N,.slice Ae (evB N a.length).length ce] 27)
 have hal3:=hal2.alloc hal2.size (.cells #[.int .i64 N,.slice Ae (evB N a.length).length ce] 27)
 have HE2:=Zh (Cells2.new w2 (.int .i64 N) (.slice Ae (evB N a.length).length ce) 27)
 have HE3:=Zh (HE2.o.alloc (.cells #[.int .i64 N,.slice Ae (evB N a.length).length ce] 27))
 have HG3:=Zh (Cells2.new_at (w2.alloc (.cells #[.int .i64 N,.slice Ae (evB N a.length).length ce] 27)) (.int .i64 N) (.slice Ae (evB N a.length).length ce) 27 (w2.heap.size+1) (by simp))
 have HL3:=Zh (hLe.frm (Frm.pure hal3 (fun _=>False)) (fun h=>h))
 have HC3:=Zh (HC2.o.below hal3 HC2.o.2.2.2.2)
 have HZ3:=Zh (HZ2.o.below hal3 HZ2.o.2.2.2.2)
 have HB3:=Zh (HB2.o.trans (hal3.mono (by omega)))
 clear hb hrw hLe hal2 hal3 c0 c1
 obtain ⟨e0,e1,_,_,_⟩:=HE2.o
 obtain ⟨c0,c1,_,_,_⟩:=HC3.o
 go_wp2_with fail
 generalize (w2.alloc (.cells #[.int .i64 N,.slice Ae (evB N a.length).length ce] 27)).alloc (.cells #[.int .i64 N,.slice Ae (evB N a.length).length ce] 27)=w3 at *
 obtain ⟨ge,hge⟩ : ∃ g,w2.heap.size=g:=⟨_,rfl⟩
 rw [hge] at HE2 HE3 HG3 hz2 hbl ⊢
 obtain ⟨E,hE⟩ : ∃ E,evB N a.length=E:=⟨_,rfl⟩
 rw [hE] at HEV HXL HX0 HRT HDI HEF HEL HE3 HG3 HL3 ⊢
 have HEE:=Zh hE
 have hgq:q+2<=ge:=by omega
 clear hge hE HE2 e0 e1 c0 c1
 go_loopw [25] (fun i wr=>∃ (j:Nat) (r:RV),j<=N/\i = .int .i64 j/\r.n=N/\r.xs=rotL N E (zay (fewF N a) j:Nat)/\r.Lies wr q/\(r.b≠q+1/\r.b≠ge+1)/\Cells2 wr (ge+1) (.int .i64 N) r.slc/\Cells2 wr ge (.int .i64 N) (.slice Ae E.length ce)/\(⟨N,E,Ae,ce,be⟩:RV).Lies wr q/\Cells2 wr q (.int .i64 N) (.slice A a.length ca)/\Cells2 wr (q+1) (.int .i64 0) (.slice none 0 0)/\Below q w wr) (fun i _=>N-(intOf i).toNat)
 case atStart=>exact ⟨0,⟨N,E,Ae,ce,be⟩,Nat.zero_le _,rfl,rfl,HX0.o.symm,HL3.o,⟨by show be≠q+1;omega,by show be≠ge+1;omega⟩,HG3.o,HE3.o,HL3.o,HC3.o,HZ3.o,HB3.o⟩
 case round =>
  obtain ⟨j,r,hj,rfl,hrn,hrx,hrl,hrb,hbest,hec,hel,hac,hzc,hbel⟩:=hrel
  obtain ⟨wo,rfl⟩ : ∃ wo:World,wo=wr:=⟨_,rfl⟩
  have HBS:=Zh hbest
  have HEC:=Zh hec
  have HELs:=Zh hel
  have HAC:=Zh hac
  have HZC:=Zh hzc
  have HBE:=Zh hbel
  have HRL:=Zh hrl
  have hgs:=hbest.2.2.2.2
  obtain ⟨n',X,AX,cX,bX⟩:=r
  change n'=(N:Int) at hrn
  subst hrn
  change X=_ at hrx
  have HRX:=Zh hrx
  dsimp only at hrb
  obtain ⟨c0,c1,_,_,_⟩:=hac
  obtain ⟨e0,e1,_,_,_⟩:=hec
  clear hbest hel hzc hbel hrl hrx
  by_cases hlt:j<N
  ·have hI:=HELs.o.ints HEF.o
   have HIE:=Zh (show Ints wo wo.heap.size Ae E from hI)
   have HRJ:=Zh (HRT.o j (by omega) Ae ce)
   have HXJ:=Zh (HXL.o j)
   have HDJ:=Zh (HDI.o j)
   have HDB:=Zh (HDI.o (zay (fewF N a) j))
   rw [<- HRX.o] at HDB
   have HBK:=Zh (show zay (fewF N a) (j+1)=if fewF N a j<fewF N a (zay (fewF N a) j) then j else zay (fewF N a) j from rfl)
   obtain ⟨Y,hY⟩ : ∃ Y,rotL N E (j:Int)=Y:=⟨_,rfl⟩
   have HYY:=Zh hY
   rw [hY] at HRJ HXJ HDJ
   obtain ⟨F1,hF1⟩ : ∃ F,fewF N a j=F:=⟨_,rfl⟩
   obtain ⟨F2,hF2⟩ : ∃ F,fewF N a (zay (fewF N a) j)=F:=⟨_,rfl⟩
   rw [hF1] at HDJ HBK
   rw [hF2] at HDB HBK
   have hji:(j:Int)<(N:Int):=by omega
   clear hI hY hF1 hF2
   go_wp2_with fail
   refine (HRJ.o _ HIE.o).mono ?_
   rintro e w5 ⟨A5,c5,rfl,hrw,hb⟩
   have hz5:=hb.size
   obtain ⟨b5,hL5,hb5⟩:=hrw.rvOf q (by omega) (by omega) (N:Int) c5
   have hal:=(Below.refl w5.heap.size w5).alloc (Nat.le_refl _) (.cells #[.int .i64 N,.slice A5 Y.length c5] 27)
   have HF6:=Zh ((Frm.pure hb (fun _=>False)).trans (Frm.pure hal (fun _=>False)))
   have HB6:=Zh ((HBE.o.trans (hb.mono (by omega))).trans (hal.mono (by omega)))
   have HL6:=Zh (hL5.frm (Frm.pure hal (fun _=>False)) (fun h=>h))
   have HN6:=Zh (Cells2.new w5 (.int .i64 N) (.slice A5 Y.length c5) 27)
   have hbY:b5≠q+1/\b5≠ge+1:=by omega
   clear hb hrw hL5 hal e0 e1 c0 c1
   have HBS6:=Zh (HBS.o.frmY HF6.o (fun h=>h))
   have HAC6:=Zh (HAC.o.frmY HF6.o (fun h=>h))
   have HRL6:=Zh (HRL.o.frm HF6.o (fun h=>h))
   obtain ⟨c0,c1,_,_,_⟩:=HAC6.o
   obtain ⟨n0,n1,_,_,_⟩:=HN6.o
   obtain ⟨g0,g1,_,_,_⟩:=HBS6.o
   unfold RV.slc at g1
   dsimp only at g1
   go_wp2_with fail
   generalize w5.alloc (.cells #[.int .i64 N,.slice A5 Y.length c5] 27)=w6 at *
   obtain ⟨nx,hnx⟩ : ∃ x,w5.heap.size=x:=⟨_,rfl⟩
   rw [hnx] at HN6 n0 n1 hz5 ⊢
   clear hnx
   (refine wp_region_held_drew (S:=(fun w'=>w'.cell? ⟨q,0,none⟩=some (.int .i64 N)/\w'.cell? ⟨q,1,none⟩=some (.slice A a.length ca)/\w'.cell? ⟨nx,0,none⟩=some (.int .i64 N)/\w'.cell? ⟨nx,1,none⟩=some (.slice A5 Y.length c5)/\w'.cell? ⟨ge+1,0,none⟩=some (.int .i64 N)/\w'.cell? ⟨ge+1,1,none⟩=some (.slice AX X.length cX))) (by kernel_rfl) ?_ (fun hHeld=>?_);(focus ((try dsimp only);exact ⟨c0,c1,n0,n1,g0,g1⟩)))
   have HF7:=Zh (HF6.o.drew)
   have HG7:=Zh ((Frm.refl (fun _=>False) w6).drew)
   have HB7:=Zh (Below.drew5_ HB6.o)
   have hq6:q<=w6.drew.heap.size:=by have:=HN6.o.2.2.2.2;show q<=w6.heap.size;omega
   generalize w6.drew=w7 at *
   have HIA7:=Zh ((HA.o.below HB7.o).mono hq6)
   have HIY7:=Zh ((HL6.o.frm HG7.o (fun h=>h)).ints (zcl HXJ.o.1))
   have HIX7:=Zh ((HRL6.o.frm HG7.o (fun h=>h)).ints (show ∀ x∈X,Fits x by rw [HRX.o];exact zcl (HXL.o _).1))
   (refine Zk 0 ?_;(try simp only [Act.put,Zz]))
   (refine Zk 1 ?_;(try simp only [Act.put,Zz]))
   (refine Zk 3 ?_;(try simp only [Act.put,Zz]))
   (refine Zk 4 ?_;(try simp only [Act.put,Zz]))
   (refine wpAnyH_ready (rs:=[2]) (by kernel_rfl) (by simp) ?_;refine AllReadyH.cons rfl (fun K hK=>?_) AllReadyH.nil;go_simp)
   go_at_call 174
   refine (HDJ.o _ _ _ HIA7.o HIY7.o).mono ?_
   rintro e w8 ⟨rfl,hb⟩
   have HG8:=Zh (HG7.o.trans (Frm.pure hb (fun _=>False)))
   have HIA8:=Zh (HIA7.o.lift hb)
   have HIX8:=Zh (HIX7.o.lift hb)
   have HB8:=Zh (HB7.o.trans (hb.mono hq6))
   have hq8:=Nat.le_trans hq6 hb.size
   clear hb c0 c1 n0 n1 g0 g1
   have HAC8:=Zh (HAC6.o.frmY HG8.o (fun h=>h))
   have HN8:=Zh (HN6.o.frmY HG8.o (fun h=>h))
   have HBS8:=Zh (HBS6.o.frmY HG8.o (fun h=>h))
   obtain ⟨c0,c1,_,_,_⟩:=HAC8.o
   obtain ⟨n0,n1,_,_,_⟩:=HN8.o
   obtain ⟨g0,g1,_,_,_⟩:=HBS8.o
   unfold RV.slc at g1
   dsimp only at g1
   go_wp2_with fail
   (refine hK.out _ _ ?_ fun hHeld2=>?_;(focus ((try dsimp only);exact ⟨c0,c1,n0,n1,g0,g1⟩));(clear hK K);(try simp only [Act.put,Zz]))
   (refine wpAnyH_ready (rs:=[5]) (by kernel_rfl) (by simp) ?_;refine AllReadyH.cons rfl (fun K hK=>?_) AllReadyH.nil;go_simp)
   go_at_call 174
   refine (HDB.o _ _ _ HIA8.o HIX8.o).mono ?_
   rintro e w9 ⟨rfl,hb⟩
   have HG9:=Zh (HG8.o.trans (Frm.pure hb (fun _=>False)))
   have HB9:=Zh (HB8.o.trans (hb.mono hq8))
   clear hb c0 c1 n0 n1 g0 g1
   have HAC9:=Zh (HAC6.o.frmY HG9.o (fun h=>h))
   have HN9:=Zh (HN6.o.frmY HG9.o (fun h=>h))
   have HBS9:=Zh (HBS6.o.frmY HG9.o (fun h=>h))
   have HEC9:=Zh ((HEC.o.frmY HF6.o (fun h=>h)).frmY HG9.o (fun h=>h))
   have HEL9:=Zh ((HELs.o.frm HF6.o (fun h=>h)).frm HG9.o (fun h=>h))
   have HZC9:=Zh ((HZC.o.frmY HF6.o (fun h=>h)).frmY HG9.o (fun h=>h))
   have HL9:=Zh (HL6.o.frm HG9.o (fun h=>h))
   have HRL9:=Zh (HRL6.o.frm HG9.o (fun h=>h))
   obtain ⟨c0,c1,_,_,_⟩:=HAC9.o
   obtain ⟨n0,n1,_,_,_⟩:=HN9.o
   obtain ⟨g0,g1,gf0,gf1,_⟩:=HBS9.o
   unfold RV.slc at g1
   dsimp only at g1
   go_wp2_with fail
   (refine hK.out _ _ ?_ fun hHeld2=>?_;(focus ((try dsimp only);exact ⟨c0,c1,n0,n1,g0,g1⟩));(clear hK K);(try simp only [Act.put,Zz]))
   (refine Zk 6 ?_;(try simp only [Act.put,Zz]))
   refine wpAnyH_done (by kernel_rfl) ?_ _
   by_cases hlt2:F1<F2
   ·rw [if_pos hlt2] at HBK
    have HS9:=Zh ((HBS9.o.set0 (.int .i64 N)).set1 (.slice A5 Y.length c5))
    have HFS:=Zh ((Frm.setCell (S:=fun c=>c=ge+1) (p:=⟨ge+1,0,none⟩) (Frm.refl _ w9) rfl (.int .i64 N)).setCell (p:=⟨ge+1,1,none⟩) rfl (.slice A5 Y.length c5))
    go_wp2_with fail
    go_roundw
    case rel=>exact ⟨j+1,⟨N,Y,A5,c5,b5⟩,by omega,by go_num,rfl,by rw [HBK.o];exact HYY.o.symm,HL9.o.frm HFS.o (show ¬ b5=ge+1 from hbY.2),hbY,HS9.o,HEC9.o.frmY HFS.o (show ¬ ge=ge+1 by omega),HEL9.o.frm HFS.o (show ¬ be=ge+1 by omega),HAC9.o.frmY HFS.o (show ¬ q=ge+1 by omega),HZC9.o.frmY HFS.o (show ¬ q+1=ge+1 by omega),HB9.o.trans (HFS.o.below (B:=q) (fun c h=>by have h:c=ge+1:=h;omega) (by have:=HAC9.o.2.2.2.2;omega))⟩
    case measure=>simp [intOf];omega
   ·rw [if_neg hlt2] at HBK
    go_wp2_with fail
    go_roundw
    case rel=>exact ⟨j+1,⟨N,X,AX,cX,bX⟩,by omega,by go_num,rfl,by rw [HBK.o];exact HRX.o,HRL9.o,hrb,HBS9.o,HEC9.o,HEL9.o,HAC9.o,HZC9.o,HB9.o⟩
    case measure=>simp [intOf];omega
  ·have hjN:j=N:=by omega
   subst hjN
   have HVX:=Zh (show fewX j a=X by
    have h1:=HRX.o
    rw [HK.o] at h1
    rw [h1,<- HEE.o]
    rfl)
   have HDB:=Zh (HDI.o (zay (fewF j a) j))
   rw [<- HRX.o] at HDB
   have HVF:=Zh (show fewF j a (zay (fewF j a) j)=farV j a (fewX j a) by
    unfold fewX
    rw [HK.o]
    rfl)
   rw [HVF.o] at HDB
   obtain ⟨F,hF⟩ : ∃ F,farV j a (fewX j a)=F:=⟨_,rfl⟩
   have HFF:=Zh hF
   rw [hF] at HDB
   obtain ⟨g0,g1,_,_,_⟩:=HBS.o
   unfold RV.slc at g1
   dsimp only at g1
   clear hF e0 e1
   go_wp2_with fail
   (refine wp_region_held_drew (S:=(fun w'=>w'.cell? ⟨q,0,none⟩=some (.int .i64 j)/\w'.cell? ⟨q,1,none⟩=some (.slice A a.length ca)/\w'.cell? ⟨ge+1,0,none⟩=some (.int .i64 j)/\w'.cell? ⟨ge+1,1,none⟩=some (.slice AX X.length cX))) (by kernel_rfl) ?_ (fun hHeld=>?_);(focus ((try dsimp only);exact ⟨c0,c1,g0,g1⟩)))
   have HG7:=Zh ((Frm.refl (fun _=>False) wo).drew)
   have HB7:=Zh (Below.drew5_ HBE.o)
   have hq6:q+2<=wo.drew.heap.size:=by have:=HZC.o.2.2.2.2;show q+2<=wo.heap.size;omega
   generalize wo.drew=w7 at *
   have HIA7:=Zh ((HA.o.below HB7.o).mono (show q<=w7.heap.size by omega))
   have HIX7:=Zh ((HRL.o.frm HG7.o (fun h=>h)).ints (show ∀ x∈X,Fits x by rw [HRX.o];exact zcl (HXL.o _).1))
   (refine Zk 0 ?_;(try simp only [Act.put,Zz]))
   (refine Zk 1 ?_;(try simp only [Act.put,Zz]))
   (refine Zk 2 ?_;(try simp only [Act.put,Zz]))
   (refine wpAnyH_ready (rs:=[3]) (by kernel_rfl) (by simp) ?_;refine AllReadyH.cons rfl (fun K hK=>?_) AllReadyH.nil;go_simp)
   go_at_call 174
   refine (HDB.o _ _ _ HIA7.o HIX7.o).mono ?_
   rintro e w8 ⟨rfl,hb⟩
   have HG8:=Zh (HG7.o.trans (Frm.pure hb (fun _=>False)))
   have HB8:=Zh (HB7.o.trans (hb.mono (by omega)))
   have hq8:=Nat.le_trans hq6 hb.size
   clear hb c0 c1 g0 g1
   have HAC8:=Zh (HAC.o.frmY HG8.o (fun h=>h))
   have HBS8:=Zh (HBS.o.frmY HG8.o (fun h=>h))
   have HZC8:=Zh (HZC.o.frmY HG8.o (fun h=>h))
   have HRL8:=Zh (HRL.o.frm HG8.o (fun h=>h))
   obtain ⟨c0,c1,_,_,_⟩:=HAC8.o
   obtain ⟨g0,g1,_,_,_⟩:=HBS8.o
   obtain ⟨z0,z1,zf0,zf1,_⟩:=HZC8.o
   unfold RV.slc at g1
   dsimp only at g1
   go_wp2_with fail
   (refine hK.out _ _ ?_ fun hHeld2=>?_;(focus ((try dsimp only);exact ⟨c0,c1,g0,g1⟩));(clear hK K);(try simp only [Act.put,Zz]))
   (refine wpAnyH_ready (rs:=[4]) (by kernel_rfl) (by simp) ?_;refine AllReadyH.cons rfl (fun K hK=>?_) AllReadyH.nil;go_simp)
   have HS9:=Zh ((HZC8.o.set0 (.int .i64 j)).set1 (.slice AX X.length cX))
   have HFS:=Zh ((Frm.setCell (S:=fun c=>c=q+1) (p:=⟨q+1,0,none⟩) (Frm.refl _ w8) rfl (.int .i64 j)).setCell (p:=⟨q+1,1,none⟩) rfl (.slice AX X.length cX))
   have HAC9:=Zh (HAC8.o.frmY HFS.o (show ¬ q=q+1 by omega))
   have HBS9:=Zh (HBS8.o.frmY HFS.o (show ¬ ge+1=q+1 by omega))
   have HRL9:=Zh (HRL8.o.frm HFS.o (show ¬ bX=q+1 from hrb.1))
   have HB9:=Zh (HB8.o.trans (HFS.o.below (B:=q) (fun c h=>by have h:c=q+1:=h;omega) (by omega)))
   clear c0 c1 g0 g1 z0 z1
   obtain ⟨c0,c1,_,_,_⟩:=HAC9.o
   obtain ⟨g0,g1,_,_,_⟩:=HBS9.o
   obtain ⟨z0,z1,_,_,_⟩:=HS9.o
   unfold RV.slc at g1
   dsimp only at g1
   (refine hK.out _ _ ?_ fun hHeld2=>?_;(focus ((try dsimp only);exact ⟨c0,c1,g0,g1⟩));(clear hK K);(try simp only [Act.put,Zz]))
   (refine Zk 5 ?_;(try simp only [Act.put,Zz]))
   refine wpAnyH_done (by kernel_rfl) ?_ _
   go_wp2_with fail
   refine bodyPost_ret (v:=.tuple #[.agg #[.int .i64 j,.slice AX X.length cX],.int .i64 F]) (by simp [results,Tryz.results119,go_sem,z0,z1]) rfl ?_
   rw [HFF.o,HVX.o]
   exact ⟨AX,cX,rfl,by rw [HQ.o];exact HRL9.o.rw',by rw [HQ.o];exact HB9.o⟩
end Go.Proofs.YtjpnjchpdkogbaaGreatDoor
namespace Go.Proofs.YtjpnjchpdkogbaaGreatDoor
open Go.RowKit
end Go.Proofs.YtjpnjchpdkogbaaGreatDoor
namespace Go.Proofs.YtjpnjchpdkogbaaGreatDoor
def nibs (c:Nat):Nat->Nat
 | 0=>0
 | k+1=>c+16*nibs c k
def pop1 (k x:Nat):Nat:=(x / 2 &&& nibs 5 k)+(x &&& nibs 5 k)
def pop2 (k y:Nat):Nat:=(y / 4 &&& nibs 3 k)+(y &&& nibs 3 k)
def nib1 (n:Nat):Nat:=(n / 2 &&& 5)+(n &&& 5)
def nib2 (p:Nat):Nat:=(p / 4 &&& 3)+(p &&& 3)
theorem zd4 (a c m:Nat)(hc:c<16):a &&& (c+16*m)=(a % 16 &&& c)+16*(a / 16 &&& m):=by
 have h1:=@Nat.and_mod_two_pow a (c+16*m) 4
 have h2:=@Nat.and_div_two_pow a (c+16*m) 4
 rw [show (2:Nat) ^ 4=16 from rfl] at h1 h2
 rw [show (c+16*m) % 16=c by omega] at h1
 rw [show (c+16*m) / 16=m by omega] at h2
 have:=Nat.div_add_mod (a &&& (c+16*m)) 16
 rw [h1,h2] at this
 omega
theorem and5 : ∀ n<16,∀ e<2,(n / 2+8*e) &&& 5=n / 2 &&& 5:=by decide
theorem and3 : ∀ n<16,∀ e<4,(n / 4+4*e) &&& 3=n / 4 &&& 3:=by decide
theorem zwl (k x:Nat):pop1 (k+1) x=nib1 (x % 16)+16*pop1 k (x / 16):=by
 unfold pop1 nib1
 rw [show nibs 5 (k+1)=5+16*nibs 5 k from rfl,zd4 (x / 2) 5 _ (by decide),zd4 x 5 _ (by decide)]
 rw [show x / 2 % 16=x % 16 / 2+8*(x / 16 % 2) by omega,and5 _ (by omega) _ (by omega),show x / 2 / 16=x / 16 / 2 by omega]
 omega
theorem zwm (k p Y:Nat)(hp:p<16):pop2 (k+1) (p+16*Y)=nib2 p+16*pop2 k Y:=by
 unfold pop2 nib2
 rw [show nibs 3 (k+1)=3+16*nibs 3 k from rfl,zd4 ((p+16*Y) / 4) 3 _ (by decide),zd4 (p+16*Y) 3 _ (by decide)]
 rw [show (p+16*Y) / 4 % 16=p / 4+4*(Y % 4) by omega,and3 _ hp _ (by omega),show (p+16*Y) / 4 / 16=Y / 4 by omega,show (p+16*Y) % 16=p by omega,show (p+16*Y) / 16=Y by omega]
 omega
theorem zwn : ∀ n<16,nib1 n<16:=by decide
def popZ (k x:Nat):Nat:=pop2 k (pop1 k x)
def popN (n:Nat):Nat:=n % 2+n / 2 % 2+n / 4 % 2+n / 8 % 2
theorem zwo : ∀ n<16,nib2 (nib1 n)=popN n:=by decide
theorem zd5 (k x:Nat):popZ (k+1) x=popN (x % 16)+16*popZ k (x / 16):=by
 unfold popZ
 rw [zwl,zwm _ _ _ (zwn _ (by omega)),zwo _ (by omega)]
theorem zd6 (n:Nat):popN n<=4:=by unfold popN;omega
def popE (u:Nat):Nat:=(let v:=u+u / 256;let v2:=v+v / 65536;v2+v2 / 4294967296)
theorem zwp (a b c:Nat)(ha:a<=8)(hb:b<=8)(hc:c<=8):popE (a+256*b+65536*c) % 128=a+b+c:=by
 unfold popE
 simp only []
 have e1:(a+256*b+65536*c) / 256=b+256*c:=by omega
 rw [e1]
 have e2:(a+256*b+65536*c+(b+256*c)) / 65536=c:=by omega
 rw [e2]
 have e3:(a+256*b+65536*c+(b+256*c)+c) / 4294967296=0:=by omega
 rw [e3]
 omega
theorem zir : ∀ n<16,n &&& 15=n:=by decide
theorem zwq (n0 n1 n2 n3 n4 n5 M:Nat)(h0:n0<=4)(h1:n1<=4)(h2:n2<=4)(h3:n3<=4)(h4:n4<=4)(h5:n5<=4)(z:Nat)(hz:z=n0+16*(n1+16*(n2+16*(n3+16*(n4+16*n5))))) :
  (z / 16+z) &&& (15+16*(0+16*(15+16*(0+16*(15+16*(0+16*M))))))=(n0+n1)+256*(n2+n3)+65536*(n4+n5):=by
 have e:z / 16+z=(n0+n1)+16*((n1+n2)+16*((n2+n3)+16*((n3+n4)+16*((n4+n5)+16*n5)))):=by omega
 rw [e]
 have st : ∀ (s r c m:Nat),s<16->c<16->(s+16*r) &&& (c+16*m)=(s &&& c)+16*(r &&& m):=fun s r c m hs hc=>by
  rw [zd4 _ c m hc,show (s+16*r) % 16=s by omega,show (s+16*r) / 16=r by omega]
 rw [st _ _ _ _ (by omega) (by omega),st _ _ _ _ (by omega) (by omega),st _ _ _ _ (by omega) (by omega),st _ _ _ _ (by omega) (by omega),st _ _ _ _ (by omega) (by omega)]
 rw [zir _ (by omega),zir _ (by omega),zir _ (by omega),Nat.and_zero,Nat.and_zero]
 have hl:n5 &&& (0+16*M)=0:=by
  have:=zd4 n5 0 M (by decide)
  rw [show n5 / 16=0 by omega,Nat.zero_and,Nat.and_zero] at this
  exact this
 rw [hl]
 omega
def zcd (x:Nat):Nat->Nat
 | 0=>0
 | m+1=>zcd x m+(if x.testBit m=true then 1 else 0)
end Go.Proofs.YtjpnjchpdkogbaaGreatDoor
