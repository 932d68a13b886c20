/- Parts of the proof of the card of the law FnConsole. -/
import Derived.Test.YtjpnjchpdkogbaaGreatDoorG04
import Derived.Test.YtjpnjchpdkogbaaGreatDoorOwn
import Derived.Test.YtjpnjchpdkogbaaGreatDoorG05
import Derived.Test.YtjpnjchpdkogbaaGreatDoorG03
import Derived.Deep.RegionLaw
import Derived.Test.YtjpnjchpdkogbaaGreatDoorG06
set_option linter.unusedVariables false
set_option linter.unusedSimpArgs false
set_option maxRecDepth 100000
set_option maxHeartbeats 2000000
namespace Go.Proofs.YtjpnjchpdkogbaaGreatDoor
open Go.RowKit
theorem ztj (A:Option Addr)(cap:Nat)(xs:List Int)(x:Int)(w:World)(B:Nat)(hA:Ints w B A xs) :
  Calls Tryz.prog 261 #[.slice A xs.length cap,.int .i64 x] w fun e w'=>(∃ r:Int,e = .returned (.int .i64 r)/\hasB xs x=decide (0<=r))/\w=w':=by
 obtain ⟨hlen,hfit,hcells⟩:=hA
 unfold maxLen at hlen
 have HC:=Zh hcells
 clear hfit hcells
 go_enter Tryz.func261,Tryz.ntmps261
 go_wp2
 go_loop [5,8] (fun _ i=>∃ k:Nat,k<=xs.length/\i = .int .i64 k /\ ∀ j,j<k->xs.getD j 0≠x) (fun _ i=>xs.length-(intOf i).toNat)
 case atStart=>exact ⟨0,Nat.zero_le _,rfl,fun j h=>by omega⟩
 case round =>
  obtain ⟨k,hk,rfl,hno⟩:=hrel
  have HNO:=Zh hno
  clear hno
  by_cases hlt:k<xs.length
  ·obtain ⟨b,off,rfl,hB,hc⟩:=HC.o (by omega)
   have hcell:=hc k hlt
   obtain ⟨y,hy⟩ : ∃ y,xs.getD k 0=y:=⟨_,rfl⟩
   rw [hy] at hcell
   have HY:=Zh hy
   clear hy hc
   by_cases hxy:x=y
   ·have hb:(x==y)=true:=beq_iff_eq.2 hxy
    have HF:=Zh (zru hlt (HY.o.trans hxy.symm))
    clear hxy
    go_wp2
    go_ret
    exact ⟨⟨_,rfl,by rw [HF.o];simp⟩,rfl⟩
   ·have hb:(x==y)=false:=beq_eq_false_iff_ne.2 hxy
    have HX:=Zh hxy
    clear hxy
    go_wp2
    go_round
    case rel =>
     refine ⟨k+1,by omega,by go_num,fun j hj=>?_⟩
     by_cases e:j=k
     ·subst e;rw [HY.o];exact fun h=>HX.o h.symm
     ·exact HNO.o j (by omega)
    case measure=>simp [intOf];omega
  ·have HF:=Zh (zrv (fun i hi=>HNO.o i (by omega)))
   go_wp2
   go_ret
   exact ⟨⟨_,rfl,by rw [HF.o];rfl⟩,rfl⟩
theorem ztk (A:Option Addr)(cap:Nat)(xs:List Int)(x:Int)(w:World)(B:Nat)(hA:Ints w B A xs) :
  Calls Tryz.prog 223 #[.slice A xs.length cap,.int .i64 x] w fun e w'=>e = .returned (.bool (hasB xs x))/\w=w':=by
 have HI:=Zh (ztj A cap xs x w B hA)
 clear hA
 generalize hasB xs x=b at HI ⊢
 go_enter Tryz.func223,Tryz.ntmps223
 go_wp2_with fail
 refine HI.o.mono ?_
 rintro e w' ⟨⟨r,rfl,hr⟩,rfl⟩
 go_wp2
 go_ret
 exact ⟨zaq (by rw [hr]),rfl⟩
theorem ztl (n k:Int)(A:Option Addr)(cap:Nat)(bs:List Int)(w:World)(hA:Ints w w.heap.size A bs)(hn:1<=n)(hn2:n<=1000000000) :
  Calls Tryz.prog 159 #[.agg #[.int .i64 n,.slice A bs.length cap],.int .i64 k] w fun e w'=>e = .returned (.bool (hasB bs (k % n)))/\Below w.heap.size w w':=by
 have HA:=Zh (hA.lift ((Below.refl w.heap.size w).alloc (Nat.le_refl _) (.cells #[.int .i64 n,.slice A bs.length cap] 27)))
 clear hA
 obtain ⟨c0,c1⟩:=box2 (Below.refl (w.heap.size+1) (w.alloc (.cells #[.int .i64 n,.slice A bs.length cap] 27)))
 go_enter Tryz.func159,Tryz.ntmps159
 go_wp2_with fail
 go_quiet (first | (go_at_call 154;exact Calls.quiet_of_left (zhf k n _ hn hn2)) | (go_at_call 223;exact Calls.quiet_of_left (ztk A cap bs _ _ _ (HA.o.drewN_ _))))
 go_wp2_with fail
 go_ret
 exact ⟨rfl,Below.drewN_ ((Below.refl w.heap.size w).alloc (Nat.le_refl _) _) _⟩
def allB (xs:List Int)(lo hi:Int):Bool:=xs.all (fun x=>inB x lo hi)
theorem ztm {xs:List Int}{lo hi:Int}{i:Nat}(hi':i<xs.length)(h:inB (xs.getD i 0) lo hi=false):allB xs lo hi=false:=by
 cases ha:allB xs lo hi
 ·rfl
 ·exfalso
  unfold allB at ha
  rw [List.all_eq_true] at ha
  rw [List.getD_eq_getElem?_getD,List.getElem?_eq_getElem hi'] at h
  rw [show ((some xs[i]).getD 0:Int)=xs[i] from rfl,ha _ (List.getElem_mem hi')] at h
  cases h
theorem ztn {xs:List Int}{lo hi:Int}(h : ∀ i,i<xs.length->inB (xs.getD i 0) lo hi=true):allB xs lo hi=true:=by
 unfold allB
 rw [List.all_eq_true]
 intro x hx
 obtain ⟨i,hi,rfl⟩:=List.getElem_of_mem hx
 have:=h i hi
 rwa [List.getD_eq_getElem?_getD,List.getElem?_eq_getElem hi] at this
theorem zto (x lo hi:Int)(b c:Nat)(w:World)(hb:w.cell? ⟨b,0,none⟩=some (.int .i64 lo))(hc:w.cell? ⟨c,0,none⟩=some (.int .i64 hi)) :
  Calls Tryz.prog 263 #[.int .i64 x,.pointer (some ⟨b,0,none⟩),.pointer (some ⟨c,0,none⟩)] w fun e w'=>e = .returned (.bool (!inB x lo hi))/\Below w.heap.size w w':=by
 go_enter Tryz.func263,Tryz.ntmps263
 go_wp2_with fail
 try go_quiet (first | (go_at_call 22;exact Calls.quiet_of_left (zac x lo hi _)))
 go_wp2_with (go_at_call 22;refine (zac _ _ _ _).mono ?_;rintro e w' ⟨rfl,rfl⟩)
 go_ret
 exact ⟨rfl,by first | exact Below.refl _ _ | exact Below.drewN_ (Below.refl _ _) _⟩
theorem ztp (A:Option Addr)(cap:Nat)(xs:List Int)(lo hi:Int)(b1 b2:Nat)(w:World)(hA:Ints w w.heap.size A xs)(h1:b1<w.heap.size)(h2:b2<w.heap.size)
  (hb:w.cell? ⟨b1,0,none⟩=some (.int .i64 lo))(hc:w.cell? ⟨b2,0,none⟩=some (.int .i64 hi)) :
  Calls Tryz.prog 231 #[.slice A xs.length cap,.func (.func 263) #[] #[.pointer (some ⟨b1,0,none⟩),.pointer (some ⟨b2,0,none⟩)]] w fun e w'=>(∃ r:Int,e = .returned (.int .i64 r)/\(!allB xs lo hi)=decide (0<=r))/\Below w.heap.size w w':=by
 obtain ⟨hlen,hfit,hcells⟩:=hA
 unfold maxLen at hlen
 have HC:=Zh hcells
 have HCL:=Zh (fun (x:Int) (V:World) (hV:Below w.heap.size w V)=>zto x lo hi b1 b2 V ((hV.cell (p:=⟨b1,0,none⟩) h1).trans hb) ((hV.cell (p:=⟨b2,0,none⟩) h2).trans hc))
 clear hfit hcells
 go_enter Tryz.func231,Tryz.ntmps231
 go_wp2
 go_loopw [5,8] (fun _ i wr=>∃ k:Nat,k<=xs.length/\i = .int .i64 k/\Below w.heap.size w wr /\ ∀ j,j<k->inB (xs.getD j 0) lo hi=true) (fun _ i _=>xs.length-(intOf i).toNat)
 case atStart=>exact ⟨0,Nat.zero_le _,rfl,Below.refl _ _,fun j h=>by omega⟩
 case round =>
  obtain ⟨k,hk,rfl,hbel,hno⟩:=hrel
  have HNO:=Zh hno
  clear hno
  by_cases hlt:k<xs.length
  ·obtain ⟨b,off,rfl,hB,hc⟩:=HC.o (by omega)
   have hcell:=hc k hlt
   rw [<- hbel.cell (p:=⟨b,off+k,none⟩) hB] at hcell
   obtain ⟨y,hy⟩ : ∃ y,xs.getD k 0=y:=⟨_,rfl⟩
   rw [hy] at hcell
   have HY:=Zh hy
   clear hy hc
   have HCY:=Zh (HCL.o y wr hbel)
   cases hxy:inB y lo hi
   ·have HF:=Zh (ztm hlt (by rw [HY.o];exact hxy))
    rw [hxy] at HCY
    clear hxy
    go_wp2_with (go_at_call 263;refine HCY.o.mono ?_;rintro e w1 ⟨rfl,hb1⟩)
    go_ret
    exact ⟨⟨_,rfl,by rw [HF.o];simp⟩,hbel.trans (hb1.mono hbel.size)⟩
   ·have HX:=Zh hxy
    rw [hxy] at HCY
    clear hxy
    go_wp2_with (go_at_call 263;refine HCY.o.mono ?_;rintro e w1 ⟨rfl,hb1⟩)
    go_roundw
    case rel =>
     refine ⟨k+1,by omega,by go_num,hbel.trans (hb1.mono hbel.size),fun j hj=>?_⟩
     by_cases e:j=k
     ·subst e;rw [HY.o];exact HX.o
     ·exact HNO.o j (by omega)
    case measure=>simp [intOf];omega
  ·have HF:=Zh (ztn (fun i hi=>HNO.o i (by omega)))
   go_wp2
   go_ret
   exact ⟨⟨_,rfl,by rw [HF.o];rfl⟩,hbel⟩
theorem ztq (A:Option Addr)(cap:Nat)(xs:List Int)(lo hi:Int)(b1 b2:Nat)(w:World)(hA:Ints w w.heap.size A xs)(h1:b1<w.heap.size)(h2:b2<w.heap.size)
  (hb:w.cell? ⟨b1,0,none⟩=some (.int .i64 lo))(hc:w.cell? ⟨b2,0,none⟩=some (.int .i64 hi)) :
  Calls Tryz.prog 262 #[.slice A xs.length cap,.func (.func 263) #[] #[.pointer (some ⟨b1,0,none⟩),.pointer (some ⟨b2,0,none⟩)]] w fun e w'=>e = .returned (.bool (!allB xs lo hi))/\Below w.heap.size w w':=by
 have HI:=Zh (ztp A cap xs lo hi b1 b2 w hA h1 h2 hb hc)
 clear hA hb hc
 generalize allB xs lo hi=b at HI ⊢
 go_enter Tryz.func262,Tryz.ntmps262
 go_wp2_with fail
 refine HI.o.mono ?_
 rintro e w' ⟨⟨r,rfl,hr⟩,hb⟩
 go_wp2
 go_ret
 exact ⟨zaq (by rw [hr]),hb⟩
theorem zfp (A:Option Addr)(cap:Nat)(xs:List Int)(lo hi:Int)(w:World)(hA:Ints w w.heap.size A xs) :
  Calls Tryz.prog 225 #[.slice A xs.length cap,.int .i64 lo,.int .i64 hi] w fun e w'=>e = .returned (.bool (allB xs lo hi))/\Below w.heap.size w w':=by
 have HA:=Zh hA
 clear hA
 have k1:((w.alloc (.cells #[.int .i64 lo] 3)).alloc (.cells #[.int .i64 hi] 3)).cell? ⟨w.heap.size,0,none⟩=some (.int .i64 lo):=by
  rw [(((Below.refl (w.heap.size+1) (w.alloc (.cells #[.int .i64 lo] 3))).alloc (by simp) (.cells #[.int .i64 hi] 3)).cell (p:=⟨w.heap.size,0,none⟩) (by simp))]
  exact zag _ _ _
 have k2:((w.alloc (.cells #[.int .i64 lo] 3)).alloc (.cells #[.int .i64 hi] 3)).cell? ⟨w.heap.size+1,0,none⟩=some (.int .i64 hi):=by
  simp
 have HK:=Zh (And.intro k1 k2)
 clear k1 k2
 go_enter Tryz.func225,Tryz.ntmps225
 go_wp2_with (go_at_call 262;refine (ztq A cap xs lo hi w.heap.size (w.heap.size+1) _ (HA.o.lift (by repeat (first | exact Below.refl _ _ | assumption | (refine Below.alloc ?_ (by first | exact Nat.le_refl _ | (simp;done) | (simp;omega) | omega) _) | (refine Below.drew ?_) | (refine Below.setCell ?_ (by first | exact Nat.le_refl _ | (simp;done) | (simp;omega) | omega) _)))) (by simp;omega) (by simp) HK.o.1 HK.o.2).mono ?_;rintro e w1 ⟨rfl,hb⟩)
 go_ret
 exact ⟨by simp,(((Below.refl w.heap.size w).alloc (Nat.le_refl _) _).alloc (by simp) _).trans (hb.mono (by simp;omega))⟩
def RetRh2c (w:World)(n:Int)(xs:List Int)(ok:Bool)(e:Ending)(w':World):Prop:=∃ A cap,e = .returned (.tuple #[.agg #[.int .i64 n,.slice A xs.length cap],.bool ok])/\xs.length<=cap/\RW w' w.heap.size A xs/\Below w.heap.size w w'
theorem RetRh2c.plain {w w':World}{n:Int}{xs:List Int}{ok:Bool}{e:Ending}(h:RetRh2c w n xs ok e w'):RetRh2 w n xs ok e w':=by
 obtain ⟨A,c,a,_,b⟩:=h
 exact ⟨A,c,a,b⟩
theorem OwnI.capE {w:World}{base:Nat}{A:Option Addr}{cap:Nat}{xs:List Int}(h:OwnI w base (.slice A xs.length cap) xs):xs.length<=cap:=by
 rcases h.2 with ⟨hv,h0⟩ | ⟨g,cap',cur,hv,_,hh,hnc,hm,hsz,hxs⟩
 ·omega
 ·injection hv with _ _ h3;omega
theorem zlu (n k m:Nat)(w:World)(hn1:1<=n)(hn2:n<=24)(hk:k<=n)(hm:m<n)(hkm:k=0->m=0) :
  Calls Tryz.prog 95 #[.int .i64 k,.int .i64 n,.int .i64 m] w (RetRh2c w n (evL k n m k) true):=by
 have hi1:inB (n:Int) 1 24=true:=za1 ⟨by omega,by omega⟩
 have hi2:inB (k:Int) 0 n=true:=za1 ⟨by omega,by omega⟩
 have hi3:inB (m:Int) 0 ((n:Int)-1)=true:=za1 ⟨by omega,by omega⟩
 have hwn:IntKind.i64.wrap ((n:Int)-1)=(n:Int)-1:=i64w (by omega)
 rcases Nat.eq_zero_or_pos k with rfl | hkp
 ·have hm0:=hkm rfl
  subst hm0
  go_enter Tryz.func95,Tryz.ntmps95
  go_wp2_with (go_at_call 22;refine (zac _ _ _ _).mono ?_;rintro e w' ⟨rfl,rfl⟩)
  go_loopw [38] (fun i wr=>i = .int .i64 0/\wr=(w.alloc (.cells #[.int .i64 0,.slice none 0 0] 27)).alloc (.cells #[.int .i64 n,.slice none 0 0] 27)) (fun _ _=>0)
  case atStart=>exact ⟨rfl,rfl⟩
  case round =>
   obtain ⟨rfl,rfl⟩:=hrel
   have HC1:=Zh ((Cells2.new w (.int .i64 0) (.slice none 0 0) 27).alloc (.cells #[.int .i64 n,.slice none 0 0] 27))
   have HBE:=Zh (((Below.refl w.heap.size w).alloc (Nat.le_refl _) (.cells #[.int .i64 0,.slice none 0 0] 27)).alloc (by first | exact Nat.le_refl _ | (simp;done) | (simp;omega) | omega) (.cells #[.int .i64 n,.slice none 0 0] 27))
   obtain ⟨f0,f1,f2,f3,f4⟩:=HC1.o
   go_wp2_with fail
   refine bodyPost_ret (v:=.tuple #[.agg #[.int .i64 n,.slice none 0 0],.bool true]) (by simp [results,Tryz.results95,go_sem,f0,f1]) rfl ?_
   exact ⟨none,0,rfl,Nat.le_refl 0,⟨Nat.zero_le _,fun h=>absurd h (Nat.lt_irrefl 0)⟩,((Below.refl w.heap.size w).alloc (Nat.le_refl _) (.cells #[.int .i64 n,.slice none 0 0] 27)).alloc (by first | exact Nat.le_refl _ | (simp;done) | (simp;omega) | omega) (.cells #[.int .i64 n,.slice none 0 0] 27)⟩
 have hk0:((k:Int)=0)=False:=eq_false (by omega)
 have hk00:(k=0)=False:=eq_false (by omega)
 have hkz:((k:Int)==0)=false:=beq_eq_false_iff_ne.2 (by omega)
 go_enter Tryz.func95,Tryz.ntmps95
 go_wp2_with (go_at_call 22;refine (zac _ _ _ _).mono ?_;rintro e w' ⟨rfl,rfl⟩)
 clear hi1 hi2 hi3 hwn
 go_loopw [38] (fun i wr=>∃ (q:Nat) (v:Value),q<=k/\i = .int .i64 q/\Cells2 wr (w.heap.size+1) (.int .i64 n) v/\OwnI wr (w.heap.size+2) v (evL k n m q)/\(∃ u1 u2,Cells2 wr w.heap.size u1 u2)/\Below w.heap.size w wr/\w.heap.size+2<=wr.heap.size) (fun i _=>k-(intOf i).toNat)
 case atStart =>
  refine ⟨0,.slice none 0 0,Nat.zero_le _,rfl,Cells2.new_at _ _ _ _ _ (by simp),OwnI.nil _ _,⟨_,_,(Cells2.new w _ _ _).alloc _⟩,?_,by simp⟩
  exact ((Below.refl _ _).alloc (Nat.le_refl _) _).alloc (by first | exact Nat.le_refl _ | (simp;done) | (simp;omega) | omega) _
 case round =>
  obtain ⟨q,v,hq,rfl,hc2,hown,⟨u1,u2,hc1⟩,hbel,hsz⟩:=hrel
  obtain ⟨wo,rfl⟩ : ∃ wo:World,wo=wr:=⟨_,rfl⟩
  have HC2:=Zh hc2
  have HC1:=Zh hc1
  have HOW:=Zh hown
  have HBE:=Zh hbel
  obtain ⟨g0,g1,g2,g3,g4⟩:=HC2.o
  obtain ⟨A1,c1,rfl⟩:=hown.form
  rw [zch] at HC2 g1
  clear hc2 hown hbel hc1
  by_cases hlt:q<k
  ·have hqn:q*n<=576:=Nat.le_trans (Nat.mul_le_mul (show q<=24 by omega) hn2) (by decide)
   have HSU:=Zh (zsl k n m q)
   have hp0:(q:Int)*(n:Int)=((q*n:Nat):Int):=by push_cast;rfl
   obtain ⟨P,hP⟩ : ∃ P,q*n=P:=⟨_,rfl⟩
   rw [hP] at hp0 hqn HSU
   obtain ⟨P2,hP2⟩ : ∃ P2,P+m=P2:=⟨_,rfl⟩
   rw [hP2] at HSU
   obtain ⟨D,hD⟩ : ∃ D,P2 / k=D:=⟨_,rfl⟩
   rw [hD] at HSU
   have hDl:D<=2000:=by rw [<- hD];exact Nat.le_trans (Nat.div_le_self _ _) (by omega)
   have hw1:IntKind.i64.wrap ((q:Int)*(n:Int))=P:=by rw [hp0];exact i64w (by omega)
   have hpm:(P:Int)+(m:Int)=(P2:Int):=by omega
   have hw2:IntKind.i64.wrap ((P:Int)+(m:Int))=(P2:Int):=by rw [hpm];exact i64w (by omega)
   have hw2b:IntKind.i64.wrap (P:Int)=(P:Int):=i64w (by omega)
   have hw2c:IntKind.i64.wrap (P2:Int)=(P2:Int):=i64w (by omega)
   have hdv:Int.tdiv (P2:Int) k=(D:Int):=by rw [Int.tdiv_eq_ediv_of_nonneg (by omega),<- hD,Int.natCast_ediv]
   have hw3:IntKind.i64.wrap (D:Int)=D:=i64w (by omega)
   have hll:(evL k n m q).length<=1048576:=by rw [zch];omega
   clear hP hD hP2
   go_wp2_with fail
   have hal:=(Below.refl wo.drew.heap.size wo.drew).alloc (Nat.le_refl _) (.cells #[.int .i64 D] 3)
   have HC3:=Zh ((show Cells2 wo.drew (w.heap.size+1) (.int .i64 n) (.slice A1 q c1) from HC2.o).below hal g4)
   have HC4:=Zh ((show Cells2 wo.drew w.heap.size u1 u2 from HC1.o).below hal (by show w.heap.size<wo.heap.size;omega))
   have HOW3:=Zh ((OwnI.alloc (show OwnI wo.drew (w.heap.size+2) (.slice A1 (evL k n m q).length c1) (evL k n m q) from HOW.o)) (.cells #[.int .i64 D] 3))
   have HBE3:=Zh ((Below.drew5_ HBE.o).trans (hal.mono (show w.heap.size<=wo.heap.size by omega)))
   have HNW:=Zh (zag wo.drew (.int .i64 D) 3)
   have hsd:w.heap.size+2<=wo.drew.heap.size:=hsz
   have hzz:w.heap.size+2<=(wo.drew.alloc (.cells #[.int .i64 D] 3)).heap.size:=by rw [World.size_alloc];omega
   rw [zch] at HOW3
   clear hal
   obtain ⟨r0,r1,r2,r3,_⟩:=HC3.o
   go_region_law (refine zc0 (by rfl) _ _ (by rfl) (w.heap.size+2) _ (evL k n m q) (by rfl) HOW3.o _ D (by rfl) HNW.o hll hzz ?_;intro v' w4 hown4 hb4;obtain ⟨A2,c2,rfl⟩:=hown4.form;obtain ⟨s0,s1,s2,s3,_⟩:=HC3.o.below hb4 (by omega))
   all_goals
    have hl4:(evL k n m q++[(D:Int)]).length=(evL k n m q).length+1:=by simp
    rw [hl4] at hown4
    have hz4:=hb4.size
    have HX:=Zh ((HC3.o.below hb4 (by omega)).set1 (.slice A2 ((evL k n m q).length+1) c2))
    have HY:=Zh ((HC4.o.below hb4 (by omega)).far (p:=⟨w.heap.size+1,1,none⟩) (by simp) (.slice A2 ((evL k n m q).length+1) c2))
    have HOW6:=Zh (hown4.far (p:=⟨w.heap.size+1,1,none⟩) (by simp) (.slice A2 ((evL k n m q).length+1) c2))
    have HBE6:=Zh ((HBE3.o.trans (hb4.mono (by omega))).setCell (p:=⟨w.heap.size+1,1,none⟩) (by simp) (.slice A2 ((evL k n m q).length+1) c2))
    have hz6:w.heap.size+2<=(w4.setCell ⟨w.heap.size+1,1,none⟩ (.slice A2 ((evL k n m q).length+1) c2)).heap.size:=by simp [World.setCell];omega
    clear hown4 hb4 hl4 r0 r1 r2 r3 s0 s1 s2 s3 g0 g1 g2 g3
    go_wp2_with fail
    go_roundw
    case rel=>exact ⟨q+1,_,by omega,by go_num,HX.o,by rw [HSU.o];exact HOW6.o,⟨u1,u2,HY.o⟩,HBE6.o,hz6⟩
    case measure=>simp [intOf];omega
  ·have hqe:q=k:=by omega
   subst hqe
   obtain ⟨f0,f1,f2,f3,f4⟩:=HC1.o
   have hcq:q<=c1:=by have:=OwnI.capE HOW.o;rwa [zch] at this
   rw [zch] at HOW
   go_wp2_with fail
   refine bodyPost_ret (v:=.tuple #[.agg #[.int .i64 n,.slice A1 q c1],.bool true]) (by simp [results,Tryz.results95,go_sem,f0,f1]) rfl ?_
   refine ⟨A1,c1,by rw [zch],by rw [zch];exact hcq,?_,?_⟩
   ·have hr:=((HOW.o.far (p:=⟨w.heap.size,0,none⟩) (by simp) (.int .i64 n)).far (p:=⟨w.heap.size,1,none⟩) (by simp) (.slice A1 q c1))
    have hr2:=OwnI.rw_ (xs:=evL q n m q) (cap:=c1) (A:=A1) (by rw [zch];exact hr) (by rw [zch];omega)
    exact hr2.mono (by omega)
   ·exact (HBE.o.setCell (Nat.le_refl _) _).setCell (Nat.le_refl _) _
theorem ztr (n k:Nat)(w:World)(hn1:1<=n)(hn2:n<=24)(hk:k<=n) :
  Calls Tryz.prog 95 #[.int .i64 k,.int .i64 n,.int .i64 0] w (RetRh2 w n (evB n k) true):=(zlu n k 0 w hn1 hn2 hk (by omega) (fun _=>rfl)).mono fun _ _ h=>h.plain
theorem zts (n k:Nat)(w:World)(hn1:1<=n)(hn2:n<=24)(hk:k<=n) :
  Calls Tryz.prog 28 #[.int .i64 k,.int .i64 n] w (RetRh2c w n (evB n k) true):=by
 have HS:=Zh (fun V=>show Calls Tryz.prog 95 #[.int .i64 k,.int .i64 n,.int .i64 0] V (RetRh2c V n (evB n k) true) from zlu n k 0 V hn1 hn2 hk (by omega) (fun _=>rfl))
 have HC:=Zh (Cells2.new w (.int .i64 0) (.slice none 0 0) 27)
 have HB:=Zh ((Below.refl w.heap.size w).alloc (Nat.le_refl _) (.cells #[.int .i64 0,.slice none 0 0] 27))
 have HL:=Zh (zek n k)
 generalize evB n k=L at HS HL ⊢
 go_enter Tryz.func28,Tryz.ntmps28
 go_wp2_with fail
 refine (HS.o _).mono ?_
 rintro e w1 ⟨A1,c1,rfl,hcp,hrw,hb⟩
 obtain ⟨f0,f1,f2,f3,f4⟩:=HC.o.below hb HC.o.2.2.2.2
 have HB1:=Zh (HB.o.trans (hb.mono HB.o.size))
 have HRW:=Zh hrw
 clear hb hrw
 go_wp2_with fail
 refine bodyPost_ret (v:=.tuple #[.agg #[.int .i64 n,.slice A1 L.length c1],.bool true]) (by simp [results,Tryz.results28,go_sem,f0,f1]) rfl ?_
 exact ⟨A1,c1,rfl,hcp,(((HRW.o.far (p:=⟨w.heap.size,0,none⟩) (by simp) _).far (p:=⟨w.heap.size,1,none⟩) (by simp) _)).mono HB.o.size,(HB1.o.setCell (Nat.le_refl _) _).setCell (Nat.le_refl _) _⟩
theorem zlv (n k:Nat)(w:World)(hn1:1<=n)(hn2:n<=24)(hk:k<=n) :
  Calls Tryz.prog 28 #[.int .i64 k,.int .i64 n] w (RetRh2 w n (evB n k) true):=(zts n k w hn1 hn2 hk).mono fun _ _ h=>h.plain
def Hav (w:World)(N:Nat)(g:Nat)(A:Option Addr)(c:Nat)(xs:List Int):Prop:=Cells2 w g (.int .i64 N) (.slice A xs.length c)/\Ints w w.heap.size A xs
theorem Hav.lift {w w':World}{N g c:Nat}{A:Option Addr}{xs:List Int}(h:Hav w N g A c xs)(hb:Below w.heap.size w w'):Hav w' N g A c xs :=
 ⟨h.1.below hb h.1.2.2.2.2,h.2.lift hb⟩
theorem Hav.drew {w:World}{N g c:Nat}{A:Option Addr}{xs:List Int}(h:Hav w N g A c xs):Hav w.drew N g A c xs:=h
theorem Hav.alloc {w:World}{N g c:Nat}{A:Option Addr}{xs:List Int}(h:Hav w N g A c xs)(o:Obj):Hav (w.alloc o) N g A c xs :=
 h.lift ((Below.refl _ _).alloc (Nat.le_refl _) o)
theorem Hav.boxed {w:World}{A:Option Addr}{xs:List Int}(h:Ints w w.heap.size A xs)(N c:Nat):Hav (w.alloc (.cells #[.int .i64 N,.slice A xs.length c] 27)) N w.heap.size A c xs :=
 ⟨Cells2.new w _ _ _,h.lift ((Below.refl _ _).alloc (Nat.le_refl _) _)⟩
theorem Below.drewH_ {B:Nat}{a w:World}(h:Below B a w):Below B a w.drew:=⟨h.os,h.tape,h.output,h.size,h.block⟩
theorem zlw (N:Nat)(A:Option Addr)(cap:Nat)(a:List Int)(w:World)(hA:Ints w w.heap.size A a)(hn1:1<=N)(hn2:N<=24) :
  Calls Tryz.prog 101 #[.agg #[.int .i64 N,.slice A a.length cap]] w (zbr w N (othL N a N)):=by
 have HH:=Zh (fun (j:Nat) V h=>ztl (N:Int) (j:Int) A cap a V h (by omega) (by omega))
 have HLN:=Zh (fun j=>ztf (N:=N) (a:=a) j)
 have HYE:=Zh (fun j h=>ztd (N:=N) (a:=a) (q:=j) h)
 have HNO:=Zh (fun j h=>zte (N:=N) (a:=a) (q:=j) h)
 have HB0:=Zh ((((Below.refl w.heap.size w).alloc (Nat.le_refl _) (.cells #[.int .i64 N,.slice A (a).length cap] 27)).alloc (by first | exact Nat.le_refl _ | (simp;done) | (simp;omega) | omega) (.cells #[.int .i64 0,.slice none 0 0] 27)).alloc (by first | exact Nat.le_refl _ | (simp;done) | (simp;omega) | omega) (.cells #[.int .i64 N,.slice none 0 0] 27))
 have HVA:=Zh (((Hav.boxed hA N cap).alloc (.cells #[.int .i64 0,.slice none 0 0] 27)).alloc (.cells #[.int .i64 N,.slice none 0 0] 27))
 have HZ:=Zh ((Cells2.new_at (w.alloc (.cells #[.int .i64 N,.slice A (a).length cap] 27)) (.int .i64 0) (.slice none 0 0) 27 (w.heap.size+1) (by simp)).alloc (.cells #[.int .i64 N,.slice none 0 0] 27))
 have HO:=Zh (Cells2.new_at ((w.alloc (.cells #[.int .i64 N,.slice A (a).length cap] 27)).alloc (.cells #[.int .i64 0,.slice none 0 0] 27)) (.int .i64 N) (.slice none 0 0) 27 (w.heap.size+2) (by simp))
 have HAI:=Zh hA
 clear hA
 obtain ⟨⟨p0,p1,_,_,_⟩,_⟩:=HVA.o
 go_enter Tryz.func101,Tryz.ntmps101
 go_wp2_with fail
 generalize ((w.alloc (.cells #[.int .i64 N,.slice A (a).length cap] 27)).alloc (.cells #[.int .i64 0,.slice none 0 0] 27)).alloc (.cells #[.int .i64 N,.slice none 0 0] 27)=W at *
 have hWs:w.heap.size+3<=W.heap.size:=HO.o.2.2.2.2
 have HV0:=HVA
 clear HVA p0 p1
 go_loopw [10] (fun i wr=>∃ (j:Nat) (v:Value),j<=N/\i = .int .i64 j/\Hav wr N w.heap.size A cap a/\(∃ u1 u2,Cells2 wr (w.heap.size+1) u1 u2)/\Cells2 wr (w.heap.size+2) (.int .i64 N) v/\OwnI wr (w.heap.size+3) v (othL N a j)/\Below w.heap.size w wr) (fun i _=>N-(intOf i).toNat)
 case atStart=>exact ⟨0,.slice none 0 0,Nat.zero_le _,rfl,HV0.out,⟨_,_,HZ.o⟩,HO.o,OwnI.nil _ _,HB0.o⟩
 case round =>
  obtain ⟨j,v,hj,rfl,hva,⟨u1,u2,hz⟩,ho,hown,hbel⟩:=hrel
  obtain ⟨wo,rfl⟩ : ∃ wo:World,wo=wr:=⟨_,rfl⟩
  obtain ⟨A1,c1,rfl⟩:=hown.form
  have HBW:=Zh hbel
  have HVA:=Zh hva
  have HZR:=Zh hz
  have HOC:=Zh ho
  have HOW:=Zh hown
  have hll:=HLN.o j
  have hsz:w.heap.size+3<=wo.heap.size:=ho.2.2.2.2
  clear hva hz ho hown hbel HV0 HZ HO
  obtain ⟨⟨p0,p1,_,_,_⟩,_⟩:=HVA.o
  obtain ⟨g0,g1,g2,g3,g4⟩:=HOC.o
  by_cases hlt:j<N
  ·have hji:(j:Int)<(N:Int):=by omega
   have HHJ:=Zh (HH.o j)
   rw [Int.emod_eq_of_lt (by omega) (by omega)] at HHJ
   obtain ⟨r,hr⟩ : ∃ r,hasB a (j:Int)=r:=⟨_,rfl⟩
   have HR:=Zh hr
   rw [hr] at HHJ
   clear hr
   cases r
   ·have HSU:=Zh (HYE.o j HR.o)
    go_wp2_with fail
    have HBX:=HBW
    have HLA:=HOW
    have hlo:=And.intro HOC.o.2.2.2.2 HZR.o.2.2.2.2
    clear HOW HBW
    have HBW:=Zh (Below.refl wo.heap.size wo)
    refine (HHJ.o _ HVA.o.2).mono ?_
    rintro e w1 ⟨rfl,hb⟩
    have hz1:=hb.size
    have HOC:=Zh (HOC.o.below hb hlo.1)
    have HZR:=Zh (HZR.o.below hb hlo.2)
    have HLA:=Zh (HLA.o.grown hb)
    have HBW:=Zh (HBW.o.trans (hb.mono HBW.o.size))
    try have HVA:=Zh (HVA.o.lift hb)
    try have HLA:=Zh (HLA.o.lift hb)
    clear hb
    clear p0 p1 g0 g1 g2 g3
    obtain ⟨⟨p0,p1,_,_,_⟩,_⟩:=HVA.o
    obtain ⟨g0,g1,g2,g3,_⟩:=HOC.o
    have hal:=(Below.refl w1.heap.size w1).alloc (Nat.le_refl _) (.cells #[.int .i64 j] 3)
    have hlo2:w.heap.size+3<=w1.heap.size:=by omega
    have HOC3:=Zh (HOC.o.below hal (by omega))
    have HZR3:=Zh (HZR.o.below hal (by omega))
    have HVA3:=Zh (HVA.o.lift hal)
    have HLA3:=Zh (HLA.o.alloc (.cells #[.int .i64 j] 3))
    have HBE3:=Zh ((HBX.out.trans (HBW.o.mono (by omega))).trans (hal.mono (by omega)))
    have HNW:=Zh (zag w1 (.int .i64 j) 3)
    have hzz:w.heap.size+3<=(w1.alloc (.cells #[.int .i64 j] 3)).heap.size:=by rw [World.size_alloc];omega
    clear hal
    go_wp2_with (at_builtin;refine za4 rfl _ _ rfl (w.heap.size+3) _ (othL N a j) rfl HLA3.o _ _ rfl HNW.o (by omega) hzz ?_;intro v' w4 hown4 hb4;obtain ⟨A2,c2,rfl⟩:=hown4.form;obtain ⟨s0,s1,s2,s3,_⟩:=HOC3.o.below hb4 (by omega))
    all_goals
     have hl4:(othL N a j++[(j:Int)]).length=(othL N a j).length+1:=by simp
     rw [hl4] at hown4
     have hz4:=hb4.size
     have HX:=Zh ((HOC3.o.below hb4 (by omega)).set1 (.slice A2 ((othL N a j).length+1) c2))
     have HY:=Zh ((HZR3.o.below hb4 (by omega)).far (p:=⟨w.heap.size+2,1,none⟩) (by simp) (.slice A2 ((othL N a j).length+1) c2))
     have HP:=Zh ((HVA3.o.1.below hb4 (by omega)).far (p:=⟨w.heap.size+2,1,none⟩) (by simp) (.slice A2 ((othL N a j).length+1) c2))
     have HOW6:=Zh (hown4.far (p:=⟨w.heap.size+2,1,none⟩) (by simp) (.slice A2 ((othL N a j).length+1) c2))
     have HBE6:=Zh ((HBE3.o.trans (hb4.mono (by omega))).setCell (p:=⟨w.heap.size+2,1,none⟩) (by simp) (.slice A2 ((othL N a j).length+1) c2))
     have HIN6:=Zh ((HAI.o.below HBE6.o).mono HBE6.o.size)
     clear hown4 hb4 hl4 s0 s1 s2 s3 g0 g1 g2 g3
     go_roundw
     case rel=>exact ⟨j+1,_,by omega,by go_num,⟨HP.o,HIN6.o⟩,⟨u1,u2,HY.o⟩,HX.o,by rw [HSU.o];exact HOW6.o,HBE6.o⟩
     case measure=>simp [intOf];omega
   ·have HSU:=Zh (HNO.o j HR.o)
    go_wp2_with fail
    have hlo:=And.intro HOC.o.2.2.2.2 HZR.o.2.2.2.2
    refine (HHJ.o _ HVA.o.2).mono ?_
    rintro e w1 ⟨rfl,hb⟩
    have HOC:=Zh (HOC.o.below hb hlo.1)
    have HZR:=Zh (HZR.o.below hb hlo.2)
    have HOW:=Zh (HOW.o.grown hb)
    have HVA:=Zh (HVA.o.lift hb)
    have HBW:=Zh (HBW.o.trans (hb.mono (by omega)))
    clear hb
    go_wp2_with fail
    go_roundw
    case rel=>exact ⟨j+1,_,by omega,by go_num,HVA.o,⟨u1,u2,HZR.o⟩,HOC.o,by rw [HSU.o];exact HOW.o,HBW.o⟩
    case measure=>simp [intOf];omega
  ·have hqe:j=N:=by omega
   subst hqe
   obtain ⟨f0,f1,f2,f3,f4⟩:=HZR.o
   go_wp2_with fail
   refine bodyPost_ret (v:=.agg #[.int .i64 j,.slice A1 (othL j a j).length c1]) (by simp [results,Tryz.results101,go_sem,f0,f1]) rfl ?_
   refine ⟨A1,c1,rfl,?_,?_⟩
   ·have hr:=((HOW.o.far (p:=⟨w.heap.size+1,0,none⟩) (by simp) (.int .i64 j)).far (p:=⟨w.heap.size+1,1,none⟩) (by simp) (.slice A1 (othL j a j).length c1))
    have hr2:=OwnI.rw_ hr (by omega)
    exact hr2.mono (by omega)
   ·exact (HBW.o.setCell (by simp) _).setCell (by simp) _
theorem ztt (N:Nat)(A:Option Addr)(cap:Nat)(bs:List Int)(w:World)(hA:Ints w w.heap.size A bs)(hok:RhOk N bs) :
  Calls Tryz.prog 37 #[.agg #[.int .i64 N,.slice A bs.length cap]] w (RetRh2 w N (othL N bs N) true):=by
 have hn1:1<=N:=by have:=hok.1;omega
 have hn2:N<=24:=by have:=hok.2.1;omega
 have hRO:=fun V h=>zav N A cap bs V (by unfold Fits;omega) h
 rw [zao.2 hok] at hRO
 have HRO:=Zh hRO
 have HM:=Zh (fun V h=>zlw N A cap bs V h hn1 hn2)
 generalize othL N bs N=R at HM ⊢
 have hal0:=(Below.refl w.heap.size w).alloc (Nat.le_refl _) (.cells #[.int .i64 N,.slice A bs.length cap] 27)
 have hal2:=hal0.alloc hal0.size (.cells #[.int .i64 0,.slice none 0 0] 27)
 have HC0:=Zh ((Cells2.new w (.int .i64 N) (.slice A bs.length cap) 27).alloc (.cells #[.int .i64 0,.slice none 0 0] 27))
 have HZ0:=Zh (Cells2.new_at (w.alloc (.cells #[.int .i64 N,.slice A bs.length cap] 27)) (.int .i64 0) (.slice none 0 0) 27 (w.heap.size+1) (by simp))
 have HB0:=Zh hal2
 have HI0:=Zh (hA.lift hal2)
 clear hA hal0 hal2 hRO hok
 obtain ⟨c0,c1,_,_,_⟩:=HC0.o
 obtain ⟨z0,z1,_,_,_⟩:=HZ0.o
 go_enter Tryz.func37,Tryz.ntmps37
 go_wp2_with fail
 refine (HRO.o _ HI0.o).mono ?_
 rintro e w1 ⟨rfl,hb⟩
 have HB1:=Zh (HB0.o.trans (hb.mono HB0.o.size))
 have HC1:=Zh (HC0.o.below hb HC0.o.2.2.2.2)
 have HZ1:=Zh (HZ0.o.below hb HZ0.o.2.2.2.2)
 have HI1:=Zh (HI0.o.lift hb)
 clear hb c0 c1 z0 z1
 obtain ⟨c0,c1,_,_,_⟩:=HC1.o
 obtain ⟨z0,z1,_,_,_⟩:=HZ1.o
 go_wp2_with fail
 refine (HM.o _ HI1.o).mono ?_
 rintro e w2 ⟨A2,c2,rfl,hr,hb⟩
 have HB2:=Zh (HB1.o.trans (hb.mono HB1.o.size))
 have HZ2:=Zh (HZ1.o.below hb HZ1.o.2.2.2.2)
 have HR2:=Zh hr
 have hlt:w.heap.size+1<w1.heap.size:=HZ1.o.2.2.2.2
 clear hb hr c0 c1 z0 z1
 obtain ⟨z0,z1,y0,y1,_⟩:=HZ2.o
 have HZ3:=Zh ((HZ2.o.set0 (.int .i64 N)).set1 (.slice A2 R.length c2))
 obtain ⟨x0,x1,_,_,_⟩:=HZ3.o
 have HF2:=Zh ((HB2.o.setCell (p:=⟨w.heap.size+1,0,none⟩) (by show w.heap.size<=w.heap.size+1;omega) (.int .i64 N)).setCell (p:=⟨w.heap.size+1,1,none⟩) (by show w.heap.size<=w.heap.size+1;omega) (.slice A2 R.length c2))
 go_wp2_with fail
 refine bodyPost_ret (v:=.tuple #[.agg #[.int .i64 N,.slice A2 R.length c2],.bool true]) (by simp [results,Tryz.results37,go_sem,x0,x1]) rfl ?_
 exact ⟨_,_,rfl,((HR2.o.far (p:=⟨w.heap.size+1,0,none⟩) hlt _).far (p:=⟨w.heap.size+1,1,none⟩) hlt _).mono (by omega),HF2.o⟩
theorem ztu (N:Nat)(A:Option Addr)(cap:Nat)(bs:List Int)(w:World)(hA:Ints w w.heap.size A bs)(hok:RhOk N bs) :
  Calls Tryz.prog 35 #[.agg #[.int .i64 N,.slice A bs.length cap]] w (RetRh2 w N (mirV N bs) true):=by
 have hn1:1<=N:=by have:=hok.1;omega
 have hn2:N<=24:=by have:=hok.2.1;omega
 have hRO:=fun V h=>zav N A cap bs V (by unfold Fits;omega) h
 rw [zao.2 hok] at hRO
 have HRO:=Zh hRO
 have HM:=Zh (fun V h=>zfi N A cap bs V h hok)
 generalize mirV N bs=R at HM ⊢
 have hal0:=(Below.refl w.heap.size w).alloc (Nat.le_refl _) (.cells #[.int .i64 N,.slice A bs.length cap] 27)
 have hal2:=hal0.alloc hal0.size (.cells #[.int .i64 0,.slice none 0 0] 27)
 have HC0:=Zh ((Cells2.new w (.int .i64 N) (.slice A bs.length cap) 27).alloc (.cells #[.int .i64 0,.slice none 0 0] 27))
 have HZ0:=Zh (Cells2.new_at (w.alloc (.cells #[.int .i64 N,.slice A bs.length cap] 27)) (.int .i64 0) (.slice none 0 0) 27 (w.heap.size+1) (by simp))
 have HB0:=Zh hal2
 have HI0:=Zh (hA.lift hal2)
 clear hA hal0 hal2 hRO hok
 obtain ⟨c0,c1,_,_,_⟩:=HC0.o
 obtain ⟨z0,z1,_,_,_⟩:=HZ0.o
 go_enter Tryz.func35,Tryz.ntmps35
 go_wp2_with fail
 refine (HRO.o _ HI0.o).mono ?_
 rintro e w1 ⟨rfl,hb⟩
 have HB1:=Zh (HB0.o.trans (hb.mono HB0.o.size))
 have HC1:=Zh (HC0.o.below hb HC0.o.2.2.2.2)
 have HZ1:=Zh (HZ0.o.below hb HZ0.o.2.2.2.2)
 have HI1:=Zh (HI0.o.lift hb)
 clear hb c0 c1 z0 z1
 obtain ⟨c0,c1,_,_,_⟩:=HC1.o
 obtain ⟨z0,z1,_,_,_⟩:=HZ1.o
 go_wp2_with fail
 refine (HM.o _ HI1.o).mono ?_
 rintro e w2 ⟨A2,c2,rfl,hr,hb⟩
 have HB2:=Zh (HB1.o.trans (hb.mono HB1.o.size))
 have HZ2:=Zh (HZ1.o.below hb HZ1.o.2.2.2.2)
 have HR2:=Zh hr
 have hlt:w.heap.size+1<w1.heap.size:=HZ1.o.2.2.2.2
 clear hb hr c0 c1 z0 z1
 obtain ⟨z0,z1,y0,y1,_⟩:=HZ2.o
 have HZ3:=Zh ((HZ2.o.set0 (.int .i64 N)).set1 (.slice A2 R.length c2))
 obtain ⟨x0,x1,_,_,_⟩:=HZ3.o
 have HF2:=Zh ((HB2.o.setCell (p:=⟨w.heap.size+1,0,none⟩) (by show w.heap.size<=w.heap.size+1;omega) (.int .i64 N)).setCell (p:=⟨w.heap.size+1,1,none⟩) (by show w.heap.size<=w.heap.size+1;omega) (.slice A2 R.length c2))
 go_wp2_with fail
 refine bodyPost_ret (v:=.tuple #[.agg #[.int .i64 N,.slice A2 R.length c2],.bool true]) (by simp [results,Tryz.results35,go_sem,x0,x1]) rfl ?_
 exact ⟨_,_,rfl,((HR2.o.far (p:=⟨w.heap.size+1,0,none⟩) hlt _).far (p:=⟨w.heap.size+1,1,none⟩) hlt _).mono (by omega),HF2.o⟩
end Go.Proofs.YtjpnjchpdkogbaaGreatDoor
