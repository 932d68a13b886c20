/- Parts of the proof of the card of the law FnConsole. -/
import Derived.Test.YtjpnjchpdkogbaaGreatDoorG07
import Derived.Test.YtjpnjchpdkogbaaGreatDoorG03
import Derived.Test.YtjpnjchpdkogbaaGreatDoorG06
import Derived.Test.YtjpnjchpdkogbaaGreatDoorG01
import Derived.Test.YtjpnjchpdkogbaaGreatDoorOwn
import Derived.Laws.CopyOwn
import Derived.Test.YtjpnjchpdkogbaaGreatDoorShM
import Derived.Test.YtjpnjchpdkogbaaGreatDoorG04
import Derived.Test.YtjpnjchpdkogbaaGreatDoorStr
import Derived.Deep.AppendLies
set_option linter.unusedVariables false
set_option linter.unusedSimpArgs false
set_option maxRecDepth 100000
set_option maxHeartbeats 2000000
namespace Go.Proofs.YtjpnjchpdkogbaaGreatDoor
open Go.RowKit
def nrI (t g:Int):Int:=(2*t+g-1).tdiv (2*g)*g
theorem zii {t g:Int}(ht:0<=t/\t<=100000)(hg:1<=g/\g<=1000):0<=(2*t+g-1).tdiv (2*g)/\(2*t+g-1).tdiv (2*g)<=201000/\0<=nrI t g/\nrI t g<=201000000:=by
 have e:(2*t+g-1).tdiv (2*g)=(2*t+g-1) / (2*g):=Int.tdiv_eq_ediv_of_nonneg (by omega)
 have h0:0<=(2*t+g-1) / (2*g):=Int.ediv_nonneg (by omega) (by omega)
 have h1:(2*t+g-1) / (2*g)<=2*t+g-1:=Int.ediv_le_self _ (by omega)
 have h2:(2*t+g-1) / (2*g)<=201000:=by omega
 refine ⟨by rw [e];exact h0,by rw [e];exact h2,?_,?_⟩
 ·unfold nrI
  rw [e]
  exact Int.mul_nonneg h0 (by omega)
 ·unfold nrI
  rw [e]
  have:=Int.mul_le_mul h2 hg.2 (by omega) (by omega)
  omega
theorem zva (t g:Int)(w:World)(ht:0<=t/\t<=100000)(hg:1<=g/\g<=1000) :
  Calls Tryz.prog 250 #[.int .i64 t,.int .i64 g] w fun e w'=>e = .returned (.int .i64 (nrI t g))/\w=w':=by
 have hb:=zii ht hg
 have HV:=Zh (show nrI t g=(2*t+g-1).tdiv (2*g)*g from rfl)
 generalize nrI t g=V at *
 have hw1:IntKind.i64.wrap (2*t)=2*t:=i64w (by omega)
 have hw2:IntKind.i64.wrap (2*t+g)=2*t+g:=i64w (by omega)
 have hw3:IntKind.i64.wrap (2*t+g-1)=2*t+g-1:=i64w (by omega)
 have hw4:IntKind.i64.wrap (2*g)=2*g:=i64w (by omega)
 have hnz:((2*g:Int)=0)=False:=eq_false (by omega)
 have hnz2:((g:Int)=0)=False:=eq_false (by omega)
 obtain ⟨a,ha⟩ : ∃ a,2*t+g-1=a:=⟨_,rfl⟩
 obtain ⟨b,hbb⟩ : ∃ b,2*g=b:=⟨_,rfl⟩
 rw [ha] at hw3 hb HV
 rw [hbb] at hw4 hnz hb HV
 obtain ⟨q,hq⟩ : ∃ q,a.tdiv b=q:=⟨_,rfl⟩
 rw [hq] at hb HV
 have hw5:IntKind.i64.wrap q=q:=i64w (by omega)
 have hw6:IntKind.i64.wrap (q*g)=V:=by rw [<- HV.o];exact i64w (by omega)
 clear ht hg
 go_enter Tryz.func250,Tryz.ntmps250
 go_wp2_with fail
 go_ret
 exact ⟨rfl,rfl⟩
def qnL (xs:List Int)(g:Int)(k:Nat):List Int:=mpL (fun t=>nrI t g) xs k
theorem zvb (A:Option Addr)(cap:Nat)(xs:List Int)(g:Int)(w:World)(hA:Ints w w.heap.size A xs)(hx : ∀ x∈xs,0<=x/\x<=100000)(hg:1<=g/\g<=1000)(hl:xs.length<=32) :
  Calls Tryz.prog 211 #[.slice A xs.length cap,.int .i64 g] w fun e w'=>∃ v,e = .returned v/\OwnI w' w.heap.size v (qnL xs g xs.length)/\Below w.heap.size w w':=by
 have HC:=Zh hA.2.2
 have HX:=Zh hx
 clear hA hx
 go_enter Tryz.func211,Tryz.ntmps211
 go_wp2_with fail
 go_loopw [5,10] (fun so i wr=>∃ k:Nat,k<=xs.length/\i = .int .i64 k/\OwnI wr w.heap.size so (qnL xs g k)/\Below w.heap.size w wr) (fun _ i _=>xs.length-(intOf i).toNat)
 case atStart=>exact ⟨0,Nat.zero_le _,rfl,OwnI.nil _ _,Below.refl _ _⟩
 case round =>
  obtain ⟨k,hk,rfl,hown,hbel⟩:=hrel
  obtain ⟨wo,rfl⟩ : ∃ wo:World,wo=wr:=⟨_,rfl⟩
  have hws:=hbel.size
  have HB:=Zh hbel
  have HO:=Zh hown
  obtain ⟨A1,c1,rfl⟩:=hown.form
  have hll:(qnL xs g k).length<=32:=Nat.le_trans (zd0 _ _ _) hl
  clear hbel hown
  by_cases hlt:k<xs.length
  ·obtain ⟨b0,off,rfl,hB,hc⟩:=HC.o (by omega)
   have hck:=hc k hlt
   rw [<- HB.o.cell (p:=⟨b0,off+k,none⟩) hB] at hck
   have hxk:=HX.o (xs.getD k 0) (by rw [List.getD_eq_getElem?_getD,List.getElem?_eq_getElem hlt];exact List.getElem_mem hlt)
   have hS:=zh0 (f:=fun t=>nrI t g) hlt rfl
   obtain ⟨x,hxx⟩ : ∃ x,xs.getD k 0=x:=⟨_,rfl⟩
   rw [hxx] at hck hxk hS
   have HS:=Zh (show qnL xs g (k+1)=qnL xs g k++[nrI x g] from hS)
   have HN:=Zh (fun V=>zva x g V hxk hg)
   generalize nrI x g=y at *
   generalize qnL xs g k=L at *
   clear hS hc hxx
   go_wp2_with (first
    | (at_builtin;refine za4 rfl (.tmp 14) (.tmp 18) rfl w.heap.size _ L rfl (HO.o.alloc _) _ _ rfl (zag _ _ _) (by omega) (by simp;omega) ?_;intro v2 w2 hown2 hb2)
    | (go_at_call 250;refine (HN.o _).mono ?_;rintro e w1 ⟨rfl,rfl⟩))
   have HO2:=Zh hown2
   have HB2:=Zh ((HB.o.alloc hws _).trans hb2)
   clear hown2 hb2
   go_wp2_with fail
   go_roundw
   case rel=>exact ⟨k+1,by omega,by go_num,by rw [HS.o];exact HO2.o,HB2.o⟩
   case measure=>simp [intOf];omega
  ·have hke:k=xs.length:=by omega
   subst hke
   go_wp2_with fail
   go_ret
   exact ⟨_,rfl,HO.o,HB.o⟩
theorem zvc (x:Int)(w:World):Calls Tryz.prog 319 #[.int .i64 x] w fun e w'=>e = .returned (.bool false)/\w'=w:=by
 go_enter Tryz.func319,Tryz.ntmps319
 go_wp2
 go_ret
 exact ⟨by simp,rfl⟩
theorem zms (x y:Int)(w:World):Calls Tryz.prog 300 #[.int .i64 x,.int .i64 y] w fun e w'=>e = .returned (.bool (decide (x<y)))/\w=w':=by
 go_enter Tryz.func300,Tryz.ntmps300
 go_wp2_with (go_at_call 319;refine (zvc _ _).mono ?_;rintro e w' ⟨rfl,rfl⟩)
 go_ret
 exact ⟨by simp,rfl⟩
def srtF (xs:List Int):Nat->Bool
 | 0=>true
 | i+1=>decide (¬ xs.getD (i+1) 0<xs.getD i 0) && srtF xs i
def srtB (xs:List Int):Bool:=srtF xs (xs.length-1)
theorem zvd (A:Option Addr)(cap:Nat)(xs:List Int)(w:World)(B:Nat)(hBw:B<=w.heap.size)(hA:Ints w B A xs) :
  Calls Tryz.prog 290 #[.slice A xs.length cap] w fun e w'=>e = .returned (.bool (srtB xs))/\Below w.heap.size w w':=by
 have hlm:=hA.1
 unfold maxLen at hlm
 have HC:=Zh hA.2.2
 clear hA
 by_cases h0:xs=[]
 ·subst h0
  go_enter Tryz.func290,Tryz.ntmps290
  go_wp2_with fail
  go_loopw [3] (fun i wr=>i = .int .i64 (-1)/\wr=w) (fun _ _=>0)
  case atStart=>exact ⟨rfl,rfl⟩
  case round =>
   obtain ⟨rfl,rfl⟩:=hrel
   go_wp2_with fail
   go_ret
   exact ⟨rfl,Below.refl _ _⟩
 ·have hpos:0<xs.length:=List.length_pos_iff.2 h0
  have hwl:IntKind.i64.wrap ((xs.length:Int)-1)=((xs.length-1:Nat):Int):=by rw [show (xs.length:Int)-1=((xs.length-1:Nat):Int) by omega];exact i64w (by omega)
  have HV:=Zh (show srtB xs=srtF xs (xs.length-1) from rfl)
  generalize srtB xs=V at *
  obtain ⟨m,hm⟩ : ∃ m,xs.length-1=m:=⟨_,rfl⟩
  rw [hm] at hwl HV
  go_enter Tryz.func290,Tryz.ntmps290
  go_wp2_with fail
  go_loopw [3] (fun i wr=>∃ k:Nat,k<=m/\i = .int .i64 k/\V=srtF xs k/\Below w.heap.size w wr) (fun i _=>(intOf i).toNat)
  case atStart=>exact ⟨m,Nat.le_refl _,rfl,HV.o,Below.refl _ _⟩
  case round =>
   obtain ⟨k,hk,rfl,hv,hbel⟩:=hrel
   have HW:=Zh hv
   have HB:=Zh hbel
   clear hv hbel
   match k,hk,HW with
   | 0,hk,HW =>
    go_wp2_with fail
    go_ret
    exact ⟨zaq HW.o.symm,HB.o⟩
   | k+1,hk,HW =>
    obtain ⟨b0,off,rfl,hB,hc⟩:=HC.o (by omega)
    have hc1:=hc (k+1) (by omega)
    have hc0:=hc k (by omega)
    rw [<- HB.o.cell (p:=⟨b0,off+(k+1),none⟩) (show b0<w.heap.size by omega)] at hc1
    rw [<- HB.o.cell (p:=⟨b0,off+k,none⟩) (show b0<w.heap.size by omega)] at hc0
    have hS:srtF xs (k+1)=(decide (¬ xs.getD (k+1) 0<xs.getD k 0) && srtF xs k):=rfl
    obtain ⟨x,hx⟩ : ∃ x,xs.getD (k+1) 0=x:=⟨_,rfl⟩
    obtain ⟨y,hy⟩ : ∃ y,xs.getD k 0=y:=⟨_,rfl⟩
    obtain ⟨j,hj⟩ : ∃ j,k+1=j:=⟨_,rfl⟩
    rw [hx] at hc1 hS
    rw [hy] at hc0 hS
    rw [hj] at hc1 hS HW hk ⊢
    have HS:=Zh hS
    have hjp:(0:Int)<(j:Int):=by omega
    have hj0:(0:Int)<=(j:Int):=by omega
    have hjl:(j:Int)<(xs.length:Int):=by omega
    have hjl2:j<xs.length:=by omega
    have hk0:(0:Int)<=(k:Int):=by omega
    have hkl:(k:Int)<(xs.length:Int):=by omega
    have hkl2:k<xs.length:=by omega
    have hw1:IntKind.i64.wrap ((j:Int)-1)=(k:Int):=by rw [show (j:Int)-1=(k:Int) by omega];exact i64w (by omega)
    clear hS hx hy hc
    by_cases hlt:x<y
    ·have hd:decide (x<y)=true:=decide_eq_true hlt
     rw [decide_eq_false (fun h=>h hlt),Bool.false_and] at HS
     go_wp2_with fail
     go_quiet (first | (go_at_call 300;refine Calls.quiet_of_left (zms _ _ _)))
     go_wp2_with fail
     go_ret
     exact ⟨zaq (by rw [HW.o,HS.o]),Below.drewN_ HB.o _⟩
    ·have hd:decide (x<y)=false:=decide_eq_false hlt
     rw [decide_eq_true hlt,Bool.true_and] at HS
     go_wp2_with fail
     go_quiet (first | (go_at_call 300;refine Calls.quiet_of_left (zms _ _ _)))
     go_wp2_with fail
     go_roundw
     case rel=>exact ⟨k,by omega,rfl,by rw [HW.o,HS.o],Below.drewN_ HB.o _⟩
     case measure=>simp [intOf];omega
def tmsB (xs:List Int):Bool:=decide (xs.length<=32) && (allB xs 0 100000 && srtB xs)
theorem zve (A:Option Addr)(cap:Nat)(xs:List Int)(w:World)(hA:Ints w w.heap.size A xs) :
  Calls Tryz.prog 249 #[.slice A xs.length cap] w fun e w'=>e = .returned (.bool (tmsB xs))/\Below w.heap.size w w':=by
 have HAW:=Zh (zfp A cap xs 0 100000 w hA)
 have HIS:=Zh (fun V (hb:Below w.heap.size w V)=>zvd A cap xs V w.heap.size hb.size (hA.below hb))
 have HV:=Zh (show tmsB xs=(decide (xs.length<=32) && (allB xs 0 100000 && srtB xs)) from rfl)
 generalize tmsB xs=V at *
 generalize srtB xs=sb at *
 generalize allB xs 0 100000=ab at *
 clear hA
 by_cases hl:xs.length<=32
 ·have hli:(xs.length:Int)<=32:=by omega
  rw [decide_eq_true hl,Bool.true_and] at HV
  cases ab
  ·go_enter Tryz.func249,Tryz.ntmps249
   go_wp2_with (go_at_call 225;refine HAW.o.mono ?_;rintro e w1 ⟨rfl,hb1⟩)
   go_ret
   exact ⟨zaq HV.o.symm,hb1⟩
  ·go_enter Tryz.func249,Tryz.ntmps249
   go_wp2_with (first
    | (go_at_call 225;refine HAW.o.mono ?_;rintro e w1 ⟨rfl,hb1⟩)
    | (go_at_call 290;refine (HIS.o _ hb1).mono ?_;rintro e w2 ⟨rfl,hb2⟩))
   go_ret
   exact ⟨zaq (by rw [HV.o];rfl),hb1.trans (hb2.mono hb1.size)⟩
 ·have hli : ¬ (xs.length:Int)<=32:=by omega
  rw [decide_eq_false hl,Bool.false_and] at HV
  go_enter Tryz.func249,Tryz.ntmps249
  go_wp2_with fail
  go_ret
  exact ⟨zaq HV.o.symm,Below.refl _ _⟩
def qokB (xs:List Int)(g:Int):Bool:=tmsB xs && inB g 1 1000
theorem zvf (A:Option Addr)(cap:Nat)(xs:List Int)(g:Int)(w:World)(hA:Ints w w.heap.size A xs) :
  Calls Tryz.prog 210 #[.slice A xs.length cap,.int .i64 g] w fun e w'=>e = .returned (.bool (qokB xs g))/\Below w.heap.size w w':=by
 have HTM:=Zh (zve A cap xs w hA)
 have HV:=Zh (show qokB xs g=(tmsB xs && inB g 1 1000) from rfl)
 generalize qokB xs g=V at *
 generalize tmsB xs=tb at *
 clear hA
 cases tb
 ·go_enter Tryz.func210,Tryz.ntmps210
  go_wp2_with (go_at_call 249;refine HTM.o.mono ?_;rintro e w1 ⟨rfl,hb1⟩)
  go_ret
  exact ⟨zaq HV.o.symm,hb1⟩
 ·go_enter Tryz.func210,Tryz.ntmps210
  go_wp2_with (first
   | (go_at_call 22;refine (zac _ _ _ _).mono ?_;rintro e w' ⟨rfl,rfl⟩)
   | (go_at_call 249;refine HTM.o.mono ?_;rintro e w1 ⟨rfl,hb1⟩))
  go_ret
  exact ⟨zaq (by rw [HV.o];rfl),hb1⟩
theorem OwnI.monoQ {w:World}{base base':Nat}{v:Value}{xs:List Int}(h:OwnI w base v xs)(hb:base'<=base):OwnI w base' v xs :=
 ⟨h.1,h.2.imp id fun ⟨g,cap,cur,e,hg,r⟩=>⟨g,cap,cur,e,Nat.le_trans hb hg,r⟩⟩
def qntV (xs:List Int)(g:Int):Option (List Int):=if qokB xs g then some (qnL xs g xs.length) else none
theorem zvg (A:Option Addr)(cap:Nat)(xs:List Int)(g:Int)(w:World)(hA:Ints w w.heap.size A xs) :
  Calls Tryz.prog 143 #[.slice A xs.length cap,.int .i64 g] w (zg9 w (qntV xs g)):=by
 have HQ:=Zh (zvf A cap xs g w hA)
 cases hq:qokB xs g
 ·have HV:=Zh (show qntV xs g=none by unfold qntV;rw [hq];rfl)
  rw [hq] at HQ
  rw [HV.o]
  clear hA hq
  go_enter Tryz.func143,Tryz.ntmps143
  go_wp2_with (go_at_call 210;refine HQ.o.mono ?_;rintro e w1 ⟨rfl,hb1⟩)
  go_ret2
  exact ⟨_,_,rfl,OwnI.nil _ _,(fun x hx=>nomatch hx),hb1⟩
 ·have HV:=Zh (show qntV xs g=some (qnL xs g xs.length) by unfold qntV;rw [hq];rfl)
  rw [hq] at HQ
  unfold qokB tmsB at hq
  simp only [Bool.and_eq_true,decide_eq_true_eq] at hq
  obtain ⟨⟨hl,ha,_⟩,hg⟩:=hq
  have hg:=zan.1 hg
  have hx : ∀ x∈xs,0<=x/\x<=100000:=fun x hx=>zan.1 (List.all_eq_true.1 ha x hx)
  have HN:=Zh (fun V (hb:Below w.heap.size w V)=>zvb A cap xs g V (hA.lift hb) hx hg hl)
  have HF:=Zh (show ∀ y∈qnL xs g xs.length,Fits y from fun y hy=>by
   unfold qnL mpL at hy
   rw [List.mem_map] at hy
   obtain ⟨x,hx2,rfl⟩:=hy
   have:=zii (hx x (List.mem_of_mem_take hx2)) hg
   unfold Fits
   omega)
  rw [HV.o]
  generalize qnL xs g xs.length=L at *
  clear hA ha hx hg
  go_enter Tryz.func143,Tryz.ntmps143
  go_wp2_with (first
   | (go_at_call 210;refine HQ.o.mono ?_;rintro e w1 ⟨rfl,hb1⟩)
   | (go_at_call 211;refine (HN.o _ hb1).mono ?_;rintro e w2 ⟨v,rfl,hown,hb2⟩;obtain ⟨A2,c2,rfl⟩:=hown.form))
  go_ret2
  exact ⟨_,_,rfl,OwnI.monoQ hown hb1.size,HF.o,hb1.trans (hb2.mono hb1.size)⟩
end Go.Proofs.YtjpnjchpdkogbaaGreatDoor
namespace Go.Proofs.YtjpnjchpdkogbaaGreatDoor
def zca (x:Int):Bool:=decide (97<=x/\x<=122)
def zcb (x:Int):Bool:=decide (50<=x/\x<=57)
theorem zvh {x:Int} : zca x=true ↔ 97<=x/\x<=122:=by unfold zca;simp
theorem zmt {x:Int} : zcb x=true ↔ 50<=x/\x<=57:=by unfold zcb;simp
def rep (g:List Int):Nat->List Int
 | 0=>[]
 | k+1=>rep g k++g
theorem zc5 (g:List Int) : ∀ k,(rep g k).length=k*g.length
 | 0=>by simp [rep]
 | k+1=>by simp [rep,zc5 g k,Nat.add_mul]
theorem zf3 {g:List Int}{x:Int} : ∀ {k},x∈rep g k->x∈g
 | 0,h=>by simp [rep] at h
 | k+1,h=>by
  rcases List.mem_append.1 (show x∈rep g k++g from h) with h | h
  ·exact zf3 h
  ·exact h
abbrev Row3:=Option (List Int × Int × Nat)
def za5 (c:Nat->Int) (L:Nat) (inner:Option (Nat->Row3)):Nat->Nat->List Int->Int->Row3
 | 0,i,acc,dep=>some (acc,dep,i)
 | f+1,i,acc,dep =>
  if L<=i\/c i=93 then some (acc,dep,i)
  else if c i=91 then
   match inner with
   | none=>none
   | some g =>
    match g (i+1) with
    | none=>none
    | some (gp,gd,e)=>if gp=[]\/L<=e+1\/zcb (c (e+1))=false then none else za5 c L inner f (e+2) (acc++rep gp (c (e+1)-48).toNat) (max dep gd)
  else if zca (c i)=true then za5 c L inner f (i+1) (acc++[(i:Int)]) dep
  else none
def rowR (c:Nat->Int) (L:Nat):Nat->Nat->Row3
 | 0,i=>za5 c L none (L-i) i [] 3
 | d+1,i=>za5 c L (some (rowR c L d)) (L-i) i [] (3-(d+1))
def cloS (c:Nat->Int) (b:Nat):Nat->Nat->Int->Int
 | 0,_,_=>-1
 | f+1,i,d =>
  if b<=i then -1
  else if c i=91 then cloS c b f (i+1) (d+1)
  else if c i=93 then (if d-1=0 then i else cloS c b f (i+1) (d-1))
  else cloS c b f (i+1) d
theorem zvi {c:Nat->Int}{b f i:Nat}{k:Int}(h:i<b)(hc:c i=91):cloS c b (f+1) i k=cloS c b f (i+1) (k+1):=by
 rw [cloS,if_neg (by omega),if_pos hc]
theorem zvj {c:Nat->Int}{b f i:Nat}{k:Int}(h:i<b)(hc:c i=93)(hk:k≠1):cloS c b (f+1) i k=cloS c b f (i+1) (k-1):=by
 rw [cloS,if_neg (by omega),if_neg (by omega),if_pos hc,if_neg (by omega)]
theorem zmu {c:Nat->Int}{b f i:Nat}{k:Int}(h:i<b)(h1:c i≠91)(h2:c i≠93):cloS c b (f+1) i k=cloS c b f (i+1) k:=by
 rw [cloS,if_neg (by omega),if_neg h1,if_neg h2]
def zij (c:Nat->Int)(L M:Nat)(g:Nat->Row3):Prop :=
 ∀ i p d e,i<=L->g i=some (p,d,e)->i<=e/\e<=L/\(e<L->c e=93)/\(e=i->p=[])/\p.length<=(e-i)*M/\(∀ x∈p,(0<=x/\x<L)/\zca (c x.toNat)=true) /\
  ∀ b F k,1<=k->e<=b->b<=L->b-i<=F->cloS c b F i k=cloS c b (F-(e-i)) e k
theorem zmv {c:Nat->Int}{L M:Nat}{inner:Option (Nat->Row3)}(hM:1<=M)(hin : ∀ g,inner=some g -> ∃ M',M=9*M'/\zij c L M' g) :
  ∀ (f i:Nat) (acc:List Int) (dep:Int) (p:List Int) (d:Int) (e:Nat),L-i<=f->i<=L->za5 c L inner f i acc dep=some (p,d,e) ->
   (∀ x∈acc,(0<=x/\x<L)/\zca (c x.toNat)=true) ->
   i<=e/\e<=L/\(e<L->c e=93)/\(e=i->p=acc)/\acc.length<=p.length/\p.length<=acc.length+(e-i)*M/\(∀ x∈p,(0<=x/\x<L)/\zca (c x.toNat)=true) /\
   ∀ b F k,1<=k->e<=b->b<=L->b-i<=F->cloS c b F i k=cloS c b (F-(e-i)) e k:=by
 intro f
 induction f with
 | zero =>
  intro i acc dep p d e hf hi h hx
  unfold za5 at h
  injection h with h
  injection h with h1 h
  injection h with h2 h3
  subst h1 h3
  exact ⟨Nat.le_refl _,hi,fun h=>by omega,fun _=>rfl,Nat.le_refl _,by omega,hx,fun b F k _ _ _ _=>by rw [Nat.sub_self,Nat.sub_zero]⟩
 | succ f ih =>
  intro i acc dep p d e hf hi h hx
  unfold za5 at h
  by_cases h1:L<=i\/c i=93
  ·rw [if_pos h1] at h
   injection h with h
   injection h with e1 h
   injection h with e2 e3
   subst e1 e3
   refine ⟨Nat.le_refl _,hi,fun h=>?_,fun _=>rfl,Nat.le_refl _,by omega,hx,fun b F k _ _ _ _=>by rw [Nat.sub_self,Nat.sub_zero]⟩
   rcases h1 with h1 | h1
   ·omega
   ·exact h1
  ·rw [if_neg h1] at h
   have hiL:i<L:=by apply Classical.byContradiction;intro hh;exact h1 (.inl (by omega))
   have h93:c i≠93:=fun hh=>h1 (.inr hh)
   by_cases h2:c i=91
   ·rw [if_pos h2] at h
    cases hinn:inner with
    | none=>rw [hinn] at h;cases h
    | some g =>
     obtain ⟨M',hMM,hpass⟩:=hin g hinn
     rw [hinn] at h
     cases hg:g (i+1) with
     | none=>simp only [hg] at h;cases h
     | some r =>
      obtain ⟨gp,gd,e1⟩:=r
      simp only [hg] at h
      by_cases h3:gp=[]\/L<=e1+1\/zcb (c (e1+1))=false
      ·rw [if_pos h3] at h;cases h
      ·rw [if_neg h3] at h
       have hgp:gp≠[]:=fun hh=>h3 (.inl hh)
       have hdig:zcb (c (e1+1))=true:=by
        cases hd:zcb (c (e1+1))
        ·exact absurd (.inr (.inr hd)) h3
        ·rfl
       have he1L:e1+1<L:=by apply Classical.byContradiction;intro hh;exact h3 (.inr (.inl (by omega)))
       obtain ⟨p1,p2,p3,p4,p5,p6,p7⟩:=hpass (i+1) gp gd e1 (by omega) hg
       rw [<- hinn] at h
       have hd2:=zmt.1 hdig
       obtain ⟨q1,q2,q3,q4,q5,q6,q7,q8⟩:=ih (e1+2) _ _ p d e (by omega) (by omega) h (fun x hx'=>by
        rcases List.mem_append.1 hx' with h | h
        ·exact hx x h
        ·exact p6 x (zf3 h))
       have hc1:c e1=93:=p3 (by omega)
       rw [List.length_append,zc5] at q5 q6
       obtain ⟨kk,hkk⟩ : ∃ kk,(c (e1+1)-48).toNat=kk:=⟨_,rfl⟩
       rw [hkk] at q5 q6
       have hk9:kk<=9:=by omega
       refine ⟨by omega,q2,q3,fun h=>by omega,by omega,?_,q7,?_⟩
       ·have b1:kk*gp.length<=9*((e1-(i+1))*M'):=Nat.mul_le_mul hk9 p5
        have b2:9*((e1-(i+1))*M')=(e1-(i+1))*M:=by rw [hMM,Nat.mul_left_comm]
        have b3:(e1-(i+1))*M+(e-(e1+2))*M<=(e-i)*M:=by rw [<- Nat.add_mul];exact Nat.mul_le_mul_right _ (by omega)
        omega
       ·intro b F k hk heb hbL hF
        obtain ⟨F1,rfl⟩ : ∃ F1,F=F1+1:=⟨F-1,by omega⟩
        rw [zvi (by omega) h2,p7 b F1 (k+1) (by omega) (by omega) hbL (by omega)]
        obtain ⟨F2,hF2⟩ : ∃ F2,F1-(e1-(i+1))=F2+1:=⟨F1-(e1-(i+1))-1,by omega⟩
        rw [hF2,zvj (by omega) hc1 (by omega)]
        obtain ⟨F3,rfl⟩ : ∃ F3,F2=F3+1:=⟨F2-1,by omega⟩
        rw [zmu (by omega) (by omega) (by omega),show k+1-1=k by omega,q8 b F3 k hk heb hbL (by omega)]
        congr 1
        omega
   ·rw [if_neg h2] at h
    by_cases h4:zca (c i)=true
    ·rw [if_pos h4] at h
     have h5:=zvh.1 h4
     obtain ⟨q1,q2,q3,q4,q5,q6,q7,q8⟩:=ih (i+1) _ _ p d e (by omega) (by omega) h (fun x hx'=>by
      rcases List.mem_append.1 hx' with h | h
      ·exact hx x h
      ·simp at h;subst h;exact ⟨⟨by omega,by omega⟩,by simpa using h4⟩)
     rw [List.length_append,List.length_singleton] at q5 q6
     refine ⟨by omega,q2,q3,fun h=>by omega,by omega,?_,q7,?_⟩
     ·have b3:1*M+(e-(i+1))*M<=(e-i)*M:=by rw [<- Nat.add_mul];exact Nat.mul_le_mul_right _ (by omega)
      omega
     ·intro b F k hk heb hbL hF
      obtain ⟨F1,rfl⟩ : ∃ F1,F=F1+1:=⟨F-1,by omega⟩
      rw [zmu (by omega) h2 h93,q8 b F1 k hk heb hbL (by omega)]
      congr 1
      omega
    ·rw [if_neg h4] at h;cases h
theorem zik (c:Nat->Int)(L:Nat) : ∀ d,zij c L (9 ^ d) (rowR c L d)
 | 0=>by
  intro i p d e hi h
  have:=zmv (c:=c) (L:=L) (M:=1) (inner:=none) (by omega) (fun g hg=>by cases hg) (L-i) i [] 3 p d e (by omega) hi h (fun x hx=>by cases hx)
  obtain ⟨q1,q2,q3,q4,q5,q6,q7,q8⟩:=this
  exact ⟨q1,q2,q3,q4,by simpa using q6,q7,q8⟩
 | d'+1=>by
  intro i p d e hi h
  have hp:=zik c L d'
  have:=zmv (c:=c) (L:=L) (M:=9 ^ (d'+1)) (inner:=some (rowR c L d')) (Nat.pos_of_ne_zero (by simp)) (fun g hg=>by injection hg with hg;subst hg;exact ⟨9 ^ d',by rw [Nat.pow_succ,Nat.mul_comm],hp⟩) (L-i) i [] _ p d e (by omega) hi h (fun x hx=>by cases hx)
  obtain ⟨q1,q2,q3,q4,q5,q6,q7,q8⟩:=this
  exact ⟨q1,q2,q3,q4,by simpa using q6,q7,q8⟩
def zdi (c:Nat->Int)(L:Nat):Option (List Int × Int) :=
 match rowR c L 3 0 with
 | none=>none
 | some (p,d,e)=>if e<L\/500<p.length then none else some (p,d)
end Go.Proofs.YtjpnjchpdkogbaaGreatDoor
namespace Go.Proofs.YtjpnjchpdkogbaaGreatDoor
open Go.RowKit Go.Shelf
theorem zvk (x y:Nat)(hx:x<18446744073709551616)(hy:y<18446744073709551616)(w:World) :
  Calls Tryz.prog 193 #[.int .u64 x,.int .u64 y] w fun e w'=>e = .returned (.tuple #[.int .u64 ((x*y / 18446744073709551616:Nat):Int),.int .u64 ((x*y % 18446744073709551616:Nat):Int)])/\w'=w:=Any.bits_Mul Tryz.lays212 x y hx hy w
def RetI (w:World)(xs:List Int)(e:Ending)(w':World):Prop:=∃ A cap,e = .returned (.slice A xs.length cap)/\Ints w' w'.heap.size A xs/\Below w.heap.size w w'
def zbo (xs:List Int)(n N:Nat):List Value:=(List.range N).map (fun j=>.int .i64 (if j<n then xs.getD (j % xs.length) 0 else 0))
def zbx (xs:List Int)(m:Nat):List Value:=(List.range m).map (fun j=>.int .i64 (xs.getD (j % xs.length) 0))
theorem zc6 (xs:List Int)(n N:Nat):(zbo xs n N).length=N:=by simp [zbo]
theorem zc7 (xs:List Int)(m:Nat):(zbx xs m).length=m:=by simp [zbx]
theorem zmw {xs:List Int}(h0:0<xs.length) : ∀ (k j:Nat),j<k*xs.length->(rep xs k).getD j 0=xs.getD (j % xs.length) 0
 | 0,j,h=>by omega
 | k+1,j,h=>by
  unfold rep
  rw [Nat.add_mul,Nat.one_mul] at h
  by_cases hj:j<k*xs.length
  ·rw [List.getD_eq_getElem?_getD,List.getElem?_append_left (by rw [zc5];exact hj),<- List.getD_eq_getElem?_getD]
   exact zmw h0 k j hj
  ·rw [List.getD_eq_getElem?_getD,List.getElem?_append_right (by rw [zc5];omega),<- List.getD_eq_getElem?_getD,zc5]
   have:j % xs.length=j-k*xs.length:=by
    obtain ⟨t,rfl⟩ : ∃ t,j=k*xs.length+t:=⟨j-k*xs.length,by omega⟩
    rw [Nat.add_sub_cancel_left,Nat.mul_comm k,Nat.mul_add_mod,Nat.mod_eq_of_lt (by omega)]
   rw [this]
theorem zmx {xs:List Int}{n m N:Nat}(hd:n % xs.length=0)(hm:n+m<=N):splice (zbo xs n N) n (zbx xs m)=zbo xs (n+m) N:=by
 refine List.ext_getElem (by rw [length_splice _ _ _ (by rw [zc7,zc6];exact hm),zc6,zc6]) fun j h1 h2=>?_
 rw [zc6] at h2
 apply Option.some.inj
 rw [<- List.getElem?_eq_getElem,<- List.getElem?_eq_getElem]
 unfold splice
 have hr:(zbo xs (n+m) N)[j]? = some (.int .i64 (if j<n+m then xs.getD (j % xs.length) 0 else 0)):=by
  simp [zbo,h2]
 rw [hr]
 by_cases hj:j<n
 ·rw [List.getElem?_append_left (by rw [List.length_take,zc6];omega),List.getElem?_take_of_lt hj]
  simp [zbo,h2,hj,show j<n+m by omega]
 ·have hlt:(List.take n (zbo xs n N)).length=n:=by rw [List.length_take,zc6];omega
  rw [List.getElem?_append_right (by omega),hlt]
  by_cases hj2:j<n+m
  ·rw [List.getElem?_append_left (by rw [zc7];omega)]
   have e:(j-n) % xs.length=j % xs.length:=by
    obtain ⟨t,rfl⟩ : ∃ t,j=n+t:=⟨j-n,by omega⟩
    rw [Nat.add_sub_cancel_left]
    obtain ⟨q,hq⟩:=Nat.dvd_of_mod_eq_zero hd
    rw [hq,Nat.mul_add_mod]
   simp [zbx,show j-n<m by omega,hj2,e]
  ·rw [List.getElem?_append_right (by rw [zc7];omega),zc7,List.getElem?_drop]
   have e:n+m+(j-n-m)=j:=by omega
   rw [e]
   simp [zbo,h2,hj,hj2]
theorem zvl (A:Option Addr)(cap:Nat)(xs:List Int)(k:Nat)(w:World)(hA:Ints w w.heap.size A xs)(h0:0<xs.length)(hl:xs.length<=100000)(hk:1<=k)(hk9:k<=9) :
  Calls Tryz.prog 289 #[.slice A xs.length cap,.int .i64 k] w (RetI w (rep xs k)):=by
 obtain ⟨N,hN⟩ : ∃ N,xs.length*k=N:=⟨_,rfl⟩
 have hN1:N<=900000:=by rw [<- hN];exact Nat.mul_le_mul hl hk9
 have hN0:xs.length<=N:=by rw [<- hN];exact Nat.le_mul_of_pos_right _ (by omega)
 have hmul:=fun W:World=>zvk xs.length k (by omega) (by omega) W
 rw [hN,Nat.div_eq_of_lt (by omega),Nat.mod_eq_of_lt (by omega)] at hmul
 have HM:=Zh hmul
 have HN:=Zh hN
 have hfits:=hA.2.1
 have HFI:=Zh hfits
 obtain ⟨b,off,rfl,hB,hcs⟩:=hA.2.2 h0
 have hmk:=fun W:World=>zda N (by omega) W
 have hsz:(Tryz.prog.info? 3).map (·.size)=some 1:=by kernel_rfl
 have hrow:(w.alloc (.cells (madeCells #[.int .i64 0] N) 3)).heap[w.heap.size]? = some (.cells (zbo xs 0 N).toArray 3 (0,0)):=by
  rw [heap_alloc_new]
  congr 2
  apply Array.ext'
  rw [toList_madeCells_one]
  simp only [zbo,Nat.not_lt_zero,if_false]
  rw [List.map_const',List.length_range]
 have hsrc : ∀ j v,(zbx xs xs.length)[j]? = some v->(w.alloc (.cells (madeCells #[.int .i64 0] N) 3)).cell? ((⟨b,off,none⟩:Addr).add j)=some v:=by
  intro j v hv
  have hj:j<xs.length:=by
   have:=(List.getElem?_eq_some_iff.1 hv).1
   rwa [zc7] at this
  have e:(zbx xs xs.length)[j]? = some (.int .i64 (xs.getD j 0)):=by simp [zbx,hj,Nat.mod_eq_of_lt hj]
  rw [e] at hv
  injection hv with hv
  subst hv
  rw [Addr.add_lit,((Below.refl w.heap.size w).alloc (Nat.le_refl _) _).cell (p:=⟨b,off+j,none⟩) hB]
  exact hcs j hj
 have hone : ∀ m,∀ v∈zbx xs m,v.oneCell'=true:=by
  intro m v hv
  unfold zbx at hv
  obtain ⟨t,_,rfl⟩:=List.mem_map.1 hv
  rfl
 have HR:=Zh hrow
 have HSR:=Zh hsrc
 have HON:=Zh hone
 have hpl:=zc7 xs xs.length
 have HPL:=Zh hpl
 have HSZ:=Zh hsz
 clear hmul hN hA hrow hsrc hone hcs hfits hpl hsz
 go_enter Tryz.func289,Tryz.ntmps289
 go_wp2_with (first
  | (go_at_call 193;refine (HM.o _).mono ?_;rintro e w' ⟨rfl,hw⟩;rw [hw];clear hw)
  | (refine wpList_copy_splice (o:=⟨some 33,_,_,_,_,_⟩) rfl _ _ _ _ rfl 3 Tryz.underlying25 HSZ.o _ _ _ _ _ _ rfl rfl w.heap.size 0 (zbo xs 0 N) 3 HR.o (zbx xs xs.length) (by rw [HPL.o];exact (Nat.min_eq_left hN0).symm) (fun _=>⟨rfl,_,rfl,HSR.o⟩) (by rw [HPL.o,zc6];omega) (HON.o _) w.heap.size w ((Below.refl _ _).alloc (Nat.le_refl _) _) (Nat.le_refl _) ?_;intro w2 hg2 hb2))
 have hg0:=hg2.out
 rw [zmx (by rw [Nat.zero_mod]) (by omega),Nat.zero_add] at hg0
 rw [HPL.o]
 have HG0:=Zh hg0
 clear hg2 hg0
 go_loopw [8] (fun s8 wr=>∃ n:Nat,s8 = .int .i64 n/\0<n/\n<=N/\(n<N->n % xs.length=0)/\wr.heap[w.heap.size]? = some (.cells (zbo xs n N).toArray 3 (0,0))/\Below w.heap.size w wr) (fun s8 _=>N-(intOf s8).toNat)
 case atStart=>exact ⟨xs.length,by first | rfl | trivial,h0,hN0,fun _=>Nat.mod_self _,HG0.o,hb2⟩
 case round =>
  obtain ⟨n,rfl,hn0,hnN,hdiv,hrow,hbel⟩:=hrel
  by_cases hlt:n<N
  ·obtain ⟨m,hm⟩ : ∃ m,Nat.min n (N-n)=m:=⟨_,rfl⟩
   have hmn:m<=n:=by rw [<- hm];exact Nat.min_le_left _ _
   have hmN:m<=N-n:=by rw [<- hm];exact Nat.min_le_right _ _
   have hm0:0<m:=by rw [<- hm];exact Nat.lt_min.2 ⟨hn0,by omega⟩
   have hdone:n+m<N->(n+m) % xs.length=0:=by
    intro h
    have:m=n:=by
     rw [<- hm]
     by_cases hh:n<=N-n
     ·exact Nat.min_eq_left hh
     ·have:Nat.min n (N-n)=N-n:=Nat.min_eq_right (by omega)
      omega
    rw [this,Nat.add_mod,hdiv hlt]
    simp
   have hsrc : ∀ j v,(zbx xs m)[j]? = some v->wr.cell? ((⟨w.heap.size,0,none⟩:Addr).add j)=some v:=by
    intro j v hv
    have hj:j<m:=by
     have:=(List.getElem?_eq_some_iff.1 hv).1
     rwa [zc7] at this
    have e:(zbx xs m)[j]? = some (.int .i64 (xs.getD (j % xs.length) 0)):=by simp [zbx,hj]
    rw [e] at hv
    rw [Addr.add_lit,Nat.zero_add,cell_of_row _ _ _ _ _ _ hrow,<- hv]
    simp [zbo,show j<N by omega,show j<n by omega]
   have hsp:=zmx (hdiv hlt) (show n+m<=N by omega)
   have HD:=Zh hdone
   have HS:=Zh hsrc
   have HSP:=Zh hsp
   have HRW:=Zh hrow
   have hpm:=zc7 xs m
   have HPM:=Zh hpm
   have HMM:=Zh hm
   have hwr:IntKind.i64.wrap ((n:Int)+m)=(n:Int)+m:=i64w (by omega)
   clear hdone hsrc hsp hdiv hrow hpm hm
   go_wp2_with fail
   go_region_law (refine step_copy_splice rfl (.tmp 41) (.tmp 44) _ _ rfl 3 Tryz.underlying25 HSZ.o (some ⟨w.heap.size,n,none⟩) (some ⟨w.heap.size,0,none⟩) (N-n) (N-n) n N (by first | (simp [Act.eval,Act.put];done) | (simp [Act.eval,Act.put];omega)) (by first | (simp [Act.eval,Act.put];done) | (simp [Act.eval,Act.put];omega)) w.heap.size n (zbo xs n N) 3 HRW.o (zbx xs m) (by rw [HPM.o,HMM.o]) (fun _=>⟨rfl,_,rfl,HS.o⟩) (by rw [HPM.o,zc6];omega) (HON.o _) w.heap.size w (by first | exact hbel | exact Below.drew hbel) (Nat.le_refl _) ?_;intro w3 hg3 hb3)
   all_goals
    have hg3':=hg3.out
    rw [HSP.o] at hg3'
    have HG3:=Zh hg3'
    clear hg3 hg3'
    try rw [HPM.o]
    go_wp2_with fail
    go_roundw
    case rel=>exact ⟨n+m,by omega,by omega,by omega,HD.o,HG3.o⟩
    case measure=>simp [intOf];omega
  ·have hnN':n=N:=by omega
   subst hnN'
   go_wp2_with fail
   go_ret
   have hrl:(rep xs k).length=n:=by rw [zc5,Nat.mul_comm];exact HN.o
   refine ⟨some ⟨w.heap.size,0,none⟩,n,by rw [hrl];rfl,⟨by rw [hrl];unfold maxLen;omega,fun x hx=>HFI.o x (zf3 hx),fun _=>⟨w.heap.size,0,rfl,?_,fun i hi=>?_⟩⟩,hbel⟩
   ·exact (Array.getElem?_eq_some_iff.1 hrow).1
   ·rw [hrl] at hi
    rw [Nat.zero_add,cell_of_row _ _ _ _ _ _ hrow,zmw h0 k i (by rw [Nat.mul_comm,HN.o];exact hi)]
    simp [zbo,hi]
end Go.Proofs.YtjpnjchpdkogbaaGreatDoor
namespace Go.Proofs.YtjpnjchpdkogbaaGreatDoor
open Go.RowKit
def chr (s:ByteArray)(i:Nat):Int:=if h:i<s.size then ((s[i]'h).toNat:Int) else 0
theorem zil {s:ByteArray}{i:Nat}(h:i<s.size):chr s i=((s[i]'h).toNat:Int):=by unfold chr;rw [dif_pos h]
theorem zmy (s:ByteArray)(i:Nat):0<=chr s i/\chr s i<256:=by
 unfold chr
 split
 ·rename_i h
  have:=(s[i]'h).toNat_lt
  omega
 ·omega
theorem zvm (t:ByteArray)(w:World)(h1:t.size=1)(x:Int)(hx:((t[0]'(by omega)).toNat:Int)=x) :
  Calls Tryz.prog 288 #[.string t] w fun e w'=>e = .returned (.bool (zca x))/\w=w':=by
 have h0:0<t.size:=by omega
 by_cases ha:97<=x <;> by_cases hb:x<=122
 all_goals
  go_enter Tryz.func288,Tryz.ntmps288
  go_wp2
  go_ret
  exact ⟨by unfold zca;simp [ha,hb],rfl⟩
theorem zvn (s:ByteArray)(i:Nat)(h:i<s.size):(s.extract i (i+1))[0]'(by have:=(zgy s i h).size;simp at this ⊢;omega)=s[i]:=by
 have:=(zgy s i h).eq
 simp only [this]
 rfl
theorem zcc (w:World)(B:Nat)(A:Option Addr):Ints w B A []:=⟨Nat.zero_le _,(fun x hx=>(List.not_mem_nil hx).elim),fun h=>absurd h (Nat.lt_irrefl 0)⟩
def zeq (w:World)(r:Row3)(e:Ending)(w':World):Prop :=
 ∃ (A:Option Addr) (cap:Nat) (p:List Int) (dd en:Int) (ok:Bool),e = .returned (.tuple #[.agg #[.slice A p.length cap,.int .i64 dd],.int .i64 en,.bool ok]) /\
  Ints w' w'.heap.size A p/\Below w.heap.size w w'/\(ok=true -> ∃ en':Nat,r=some (p,dd,en')/\en=en')/\(ok=false->r=none/\p=[]/\A=none/\cap=0/\dd=0)/\(∀ k,(Value.slice A p.length cap).ownBlock=some k->w.heap.size<=k)
theorem zmz (s:ByteArray)(hs:s.size<=60)(ins:Int)(M:Nat)(hM:M<=729)(hM1:1<=M)(inner:Option (Nat->Row3))
  (hin:(ins=3/\inner=none)\/(0<=ins/\ins<3 /\ ∃ g,inner=some g/\(∃ M',M=9*M'/\zij (chr s) s.size M' g) /\
   ∀ (at_:Nat)(V:World),at_<=s.size->Calls Tryz.prog 248 #[.string s,.int .i64 at_,.int .i64 (ins+1)] V (zeq V (g at_))))
  (i0:Nat)(hi0:i0<=s.size)(w:World) :
  Calls Tryz.prog 248 #[.string s,.int .i64 i0,.int .i64 ins] w (zeq w (za5 (chr s) s.size inner (s.size-i0) i0 [] ins)):=by
 have hins:0<=ins/\ins<=3:=by rcases hin with h | h <;> omega
 obtain ⟨hins0,hins3⟩:=hins
 have HIN:=Zh hin
 obtain ⟨R,hR⟩ : ∃ R,za5 (chr s) s.size inner (s.size-i0) i0 [] ins=R:=⟨_,rfl⟩
 rw [hR]
 have HR:=Zh hR
 clear hin hR
 go_enter Tryz.func248,Tryz.ntmps248
 go_wp2_with fail
 go_loopw [1,10,11,12] (fun s1 _ _ _ wr=>∃ (f i:Nat) (acc:List Int) (dep:Int) (v:Value),s1 = .int .i64 i/\i<=s.size/\s.size-i<=f/\za5 (chr s) s.size inner f i acc dep=R/\acc.length<=i*M/\(∀ x∈acc,0<=x/\x<s.size) /\
   Cells2 wr (w.heap.size+1) v (.int .i64 dep)/\OwnI wr (w.heap.size+2) v acc/\(∃ u1 u2,Cells2 wr w.heap.size u1 u2)/\Below w.heap.size w wr/\w.heap.size+2<=wr.heap.size) (fun s1 _ _ _ _=>s.size-(intOf s1).toNat)
 case atStart =>
  refine ⟨s.size-i0,i0,[],ins,.slice none 0 0,rfl,hi0,Nat.le_refl _,HR.o,by simp,(fun x hx=>by cases hx),Cells2.new_at _ _ _ _ _ (by simp),OwnI.nil _ _,⟨_,_,(Cells2.new w _ _ _).alloc _⟩,?_,by simp⟩
  exact ((Below.refl _ _).alloc (Nat.le_refl _) _).alloc (by first | exact Nat.le_refl _ | (simp;done) | (simp;omega) | omega) _
 case round =>
  obtain ⟨f,i,acc,dep,v,rfl,hi,hf,hloop,hacc,hel,hc2,hown,⟨u1,u2,hc1⟩,hbel,hsz⟩:=hrel
  have hal:acc.length<=100000:=Nat.le_trans hacc (Nat.le_trans (Nat.mul_le_mul hi hM) (by omega))
  have HLO:=Zh hloop
  have HAC:=Zh hacc
  have HEL:=Zh hel
  have HC2:=Zh hc2
  have HC1:=Zh hc1
  clear hloop hacc hel hc2 hc1
  obtain ⟨A1,c1,rfl⟩:=hown.form
  obtain ⟨g0,g1,g2,g3,g4⟩:=HC2.o
  obtain ⟨f0,f1,f2,f3,f4⟩:=HC1.o
  by_cases hlt:i<s.size
  ·obtain ⟨x,hx⟩ : ∃ x,chr s i=x:=⟨_,rfl⟩
   have hxb:=zmy s i
   rw [hx] at hxb
   obtain ⟨hxb0,hxb1⟩:=hxb
   have hxc:((s[i]'hlt).toNat:Int)=x:=by rw [<- hx,zil hlt]
   have HX:=Zh hx
   clear hx
   obtain ⟨f',rfl⟩ : ∃ f',f=f'+1:=⟨f-1,by omega⟩
   by_cases h93:x=93
   ·have HRES:=Zh (show R=some (acc,dep,i) by rw [<- HLO.o];unfold za5;rw [if_pos (.inr (HX.o.trans h93))])
    have HOW:=Zh hown
    have HBE:=Zh hbel
    clear hown
    subst h93
    go_wp2_with fail
    refine bodyPost_ret (v:=.tuple #[.agg #[.slice A1 acc.length c1,.int .i64 dep],.int .i64 i,.bool true]) (by simp [results,Tryz.results248,go_sem,f0,f1]) rfl ⟨A1,c1,acc,dep,i,true,rfl,?_,?_,(fun _=>⟨i,HRES.o,rfl⟩),(fun h=>by cases h),fun k hk=>by have:=(HOW.o.lt k hk).1;omega⟩
    ·exact (((HOW.o.far (p:=⟨w.heap.size,0,none⟩) (by simp) _).far (p:=⟨w.heap.size,1,none⟩) (by simp) _).ints (fun y hy=>by have:=HEL.o y hy;unfold Fits;omega))
    ·exact (HBE.o.setCell (Nat.le_refl _) _).setCell (Nat.le_refl _) _
   ·by_cases h91:x=91
    ·rcases HIN.o with ⟨h3,hn⟩ | ⟨hin0,hin3,g,hg,⟨M',hMM,hpass⟩,hcall⟩
     ·have HRES:=Zh (show R=none by rw [<- HLO.o];unfold za5;rw [HX.o,if_neg (by omega),if_pos h91,hn])
      have HBE:=Zh hbel
      clear hown
      subst h91
      subst h3
      go_wp2_with fail
      refine bodyPost_ret (v:=.tuple #[.agg #[.slice none 0 0,.int .i64 0],.int .i64 i,.bool false]) (by simp [results,Tryz.results248,go_sem,f0,f1]) rfl ⟨none,0,[],0,i,false,rfl,zcc _ _ _,?_,(fun h=>by cases h),(fun _=>⟨HRES.o,rfl,rfl,rfl,rfl⟩),fun k hk=>by cases hk⟩
      exact (HBE.o.setCell (Nat.le_refl _) _).setCell (Nat.le_refl _) _
     ·have hcl : ∀ V:World,Calls Tryz.prog 248 #[.string s,.int .i64 ((i:Int)+1),.int .i64 (ins+1)] V (zeq V (g (i+1))):=fun V=>by
       have:=hcall (i+1) V (by omega)
       rwa [Int.natCast_add] at this
      have HCL:=Zh hcl
      have HP:=Zh (hpass (i+1))
      have HG:=Zh hg
      have HMM:=Zh hMM
      have HLT1:=Zh (fun k h=>(hown.lt k h).2)
      clear hcall hpass hcl hg hMM HIN
      subst h91
      have hi3:ins≠3:=by omega
      go_wp2_with fail
      refine (HCL.o _).mono ?_
      rintro e w1 ⟨A2,c2,gp,gd,en,ok,rfl,hI2,hb2,hok,hno,_⟩
      have hz1:=hb2.size
      have HD2:=Zh ((HC2.o.below hb2 (by omega)).alloc (.cells #[.slice A2 gp.length c2,.int .i64 gd] 162))
      have HD1:=Zh ((HC1.o.below hb2 (by omega)).alloc (.cells #[.slice A2 gp.length c2,.int .i64 gd] 162))
      have HGB:=Zh (Cells2.new w1 (.slice A2 gp.length c2) (.int .i64 gd) 162)
      have HOW:=Zh ((hown.grown hb2).alloc (.cells #[.slice A2 gp.length c2,.int .i64 gd] 162))
      have HBE:=Zh ((hbel.trans (hb2.mono (by omega))).alloc (by omega) (.cells #[.slice A2 gp.length c2,.int .i64 gd] 162))
      have HI2:=Zh (hI2.alloc (Nat.le_refl _) (.cells #[.slice A2 gp.length c2,.int .i64 gd] 162))
      have hsz2:w.heap.size+2<=(w1.alloc (.cells #[.slice A2 gp.length c2,.int .i64 gd] 162)).heap.size:=by simp;omega
      obtain ⟨k0,k1,k2,k3,k4⟩:=HD1.o
      obtain ⟨l0,l1,l2,l3,l4⟩:=HD2.o
      obtain ⟨m0,m1,m2,m3,m4⟩:=HGB.o
      clear g0 g1 g2 g3 g4 f0 f1 f2 f3 f4 hown hbel hI2 hb2
      have HOK:=Zh hok
      have HNO:=Zh hno
      clear hok hno
      cases ok
      ·have HRES:=Zh (show R=none by rw [<- HLO.o];unfold za5;rw [HX.o,if_neg (by omega),if_pos rfl,HG.o];simp only [(HNO.o rfl).1])
       go_wp2_with fail
       refine bodyPost_ret (v:=.tuple #[.agg #[.slice none 0 0,.int .i64 0],.int .i64 i,.bool false]) (by simp [results,Tryz.results248,go_sem,k0,k1]) rfl ⟨none,0,[],0,i,false,rfl,zcc _ _ _,?_,(fun h=>by cases h),(fun _=>⟨HRES.o,rfl,rfl,rfl,rfl⟩),fun k hk=>by cases hk⟩
       exact (HBE.o.setCell (Nat.le_refl _) _).setCell (Nat.le_refl _) _
      ·obtain ⟨e1,hr,rfl⟩:=HOK.o rfl
       have HRG:=Zh hr
       obtain ⟨p1,p2,p3,p4,p5,p6,p7⟩:=HP.o gp gd e1 (by omega) hr
       have HP5:=Zh p5
       have HP6:=Zh p6
       clear hr p3 p4 p5 p6 p7
       by_cases hgp:gp.length=0
       ·have hgpI:((gp.length:Int)==0)=true:=by simp [hgp]
        have HRES:=Zh (show R=none by rw [<- HLO.o];unfold za5;rw [HX.o,if_neg (by omega),if_pos rfl,HG.o];simp only [HRG.o];rw [if_pos (.inl (List.eq_nil_of_length_eq_zero hgp))])
        clear HP5 HP6 hgp
        go_wp2_with fail
        refine bodyPost_ret (v:=.tuple #[.agg #[.slice none 0 0,.int .i64 0],.int .i64 i,.bool false]) (by simp [results,Tryz.results248,go_sem,k0,k1]) rfl ⟨none,0,[],0,i,false,rfl,zcc _ _ _,?_,(fun h=>by cases h),(fun _=>⟨HRES.o,rfl,rfl,rfl,rfl⟩),fun k hk=>by cases hk⟩
        exact (HBE.o.setCell (Nat.le_refl _) _).setCell (Nat.le_refl _) _
       have hgp':gp≠[]:=fun h=>hgp (by rw [h];rfl)
       have hgpF:((gp.length:Int)==0)=false:=by rw [beq_eq_false_iff_ne];omega
       by_cases hel1:s.size<=e1+1
       ·have HRES:=Zh (show R=none by rw [<- HLO.o];unfold za5;rw [HX.o,if_neg (by omega),if_pos rfl,HG.o];simp only [HRG.o];rw [if_pos (.inr (.inl hel1))])
        clear HP5 HP6
        go_wp2_with fail
        refine bodyPost_ret (v:=.tuple #[.agg #[.slice none 0 0,.int .i64 0],.int .i64 i,.bool false]) (by simp [results,Tryz.results248,go_sem,k0,k1]) rfl ⟨none,0,[],0,i,false,rfl,zcc _ _ _,?_,(fun h=>by cases h),(fun _=>⟨HRES.o,rfl,rfl,rfl,rfl⟩),fun k hk=>by cases hk⟩
        exact (HBE.o.setCell (Nat.le_refl _) _).setCell (Nat.le_refl _) _
       obtain ⟨y,hy⟩ : ∃ y,chr s (e1+1)=y:=⟨_,rfl⟩
       have hyb:=zmy s (e1+1)
       rw [hy] at hyb
       obtain ⟨hyb0,hyb1⟩:=hyb
       have hylt:e1+1<s.size:=by omega
       have hyc:((s[e1+1]'hylt).toNat:Int)=y:=by rw [<- hy,zil hylt]
       have HY:=Zh hy
       clear hy
       by_cases hy0:y<50
       ·have hnd:zcb y=false:=by unfold zcb;rw [decide_eq_false_iff_not];omega
        have HRES:=Zh (show R=none by rw [<- HLO.o];unfold za5;rw [HX.o,if_neg (by omega),if_pos rfl,HG.o];simp only [HRG.o];rw [if_pos (.inr (.inr (by rw [HY.o];exact hnd)))])
        clear HP5 HP6
        go_wp2_with fail
        refine bodyPost_ret (v:=.tuple #[.agg #[.slice none 0 0,.int .i64 0],.int .i64 i,.bool false]) (by simp [results,Tryz.results248,go_sem,k0,k1]) rfl ⟨none,0,[],0,i,false,rfl,zcc _ _ _,?_,(fun h=>by cases h),(fun _=>⟨HRES.o,rfl,rfl,rfl,rfl⟩),fun k hk=>by cases hk⟩
        exact (HBE.o.setCell (Nat.le_refl _) _).setCell (Nat.le_refl _) _
       by_cases hy1:57<y
       ·have hnd:zcb y=false:=by unfold zcb;rw [decide_eq_false_iff_not];omega
        have HRES:=Zh (show R=none by rw [<- HLO.o];unfold za5;rw [HX.o,if_neg (by omega),if_pos rfl,HG.o];simp only [HRG.o];rw [if_pos (.inr (.inr (by rw [HY.o];exact hnd)))])
        clear HP5 HP6
        go_wp2_with fail
        refine bodyPost_ret (v:=.tuple #[.agg #[.slice none 0 0,.int .i64 0],.int .i64 i,.bool false]) (by simp [results,Tryz.results248,go_sem,k0,k1]) rfl ⟨none,0,[],0,i,false,rfl,zcc _ _ _,?_,(fun h=>by cases h),(fun _=>⟨HRES.o,rfl,rfl,rfl,rfl⟩),fun k hk=>by cases hk⟩
        exact (HBE.o.setCell (Nat.le_refl _) _).setCell (Nat.le_refl _) _
       have hdg:zcb y=true:=zmt.2 ⟨by omega,by omega⟩
       have hnext:za5 (chr s) s.size inner f' (e1+2) (acc++rep gp (y-48).toNat) (max dep gd)=R:=by
        rw [<- HLO.o];conv=>rhs;unfold za5
        rw [HX.o,if_neg (by omega),if_pos rfl,HG.o]
        simp only [HRG.o]
        rw [if_neg,HY.o]
        rintro (h | h | h)
        ·exact hgp' h
        ·omega
        ·rw [HY.o,hdg] at h;cases h
       have HNX:=Zh hnext
       obtain ⟨kk,hkk⟩ : ∃ kk:Nat,(y-48).toNat=kk:=⟨_,rfl⟩
       have hkk2:(kk:Int)=y-48:=by omega
       rw [hkk] at HNX
       have hgl:gp.length<=100000:=by
        have h1:=HP5.o
        have h2:(e1-(i+1))*M'<=60*729:=Nat.mul_le_mul (by omega) (by have:=HMM.o;omega)
        omega
       have hrp : ∀ V:World,Ints V V.heap.size A2 gp->Calls Tryz.prog 289 #[.slice A2 gp.length c2,.int .i64 (y-48)] V (RetI V (rep gp kk)):=fun V hV=>by
        have:=zvl A2 c2 gp kk V hV (by omega) hgl (by omega) (by omega)
        rwa [hkk2] at this
       have HRP:=Zh hrp
       have hrl:(rep gp kk).length=kk*gp.length:=zc5 gp kk
       have hrl0:0<(rep gp kk).length:=by rw [hrl];exact Nat.mul_pos (by omega) (by omega)
       have hrl1:(rep gp kk).length<=900000:=by rw [hrl];exact Nat.le_trans (Nat.mul_le_mul (show kk<=9 by omega) hgl) (by omega)
       clear hnext hrp hrl hdg
       go_wp2_with fail
       generalize w1.alloc (.cells #[.slice A2 gp.length c2,.int .i64 gd] 162)=W2 at *
       have HD2d:=Zh (show Cells2 W2.drew (w.heap.size+1) (.slice A1 acc.length c1) (.int .i64 dep) from HD2.o)
       have HD1d:=Zh (show Cells2 W2.drew w.heap.size u1 u2 from HD1.o)
       have HGBd:=Zh (show Cells2 W2.drew w1.heap.size (.slice A2 gp.length c2) (.int .i64 gd) from HGB.o)
       have HOWd:=Zh (show OwnI W2.drew (w.heap.size+2) (.slice A1 acc.length c1) acc from HOW.o)
       have HBEd:=Zh (show Below w.heap.size w W2.drew from Below.drew HBE.o)
       have HI2d:=Zh (show Ints W2.drew W2.drew.heap.size A2 gp from HI2.o.mono (by first | exact Nat.le_of_lt k4 | (simp;omega) | exact Nat.le_of_lt m4))
       have hszd:w.heap.size+2<=W2.drew.heap.size:=hsz2
       have hw1d:w1.heap.size<W2.drew.heap.size:=m4
       have hwe:IntKind.i64.wrap ((e1:Int)+1)=(e1:Int)+1:=i64w (by omega)
       have hze:((e1:Int)+1).toNat=e1+1:=by omega
       have hw8:IntKind.u8.wrap (y-48)=y-48:=by rw [IntKind.wrap_u8];omega
       have hw64:IntKind.i64.wrap (y-48)=y-48:=i64w (by omega)
       go_region_law (first
        | (refine zr1 (by rfl) _ _ (by rfl) (w.heap.size+2) _ acc (by rfl) HOW3.o b3 off3 c3 (rep gp kk) (by rfl) HC3.o (by omega) (by omega) ?_;intro v' w4 hown4 hg4 hgr4;obtain ⟨A4,c4,rfl⟩:=hown4.form;obtain ⟨r0,r1,r2,r3,r4⟩:=HD23.o.below hg4 (by omega))
        | (go_simp;go_at_call 289;refine (HRP.o _ HI2d.o).mono ?_;rintro e w3 ⟨A3,c3,rfl,hI3,hb3⟩;obtain ⟨b3,off3,rfl,hB3,hc3⟩:=hI3.2.2 hrl0;have HC3:=Zh hc3;have HOW3:=Zh (HOWd.o.grown hb3);have HD23:=Zh (HD2d.o.below hb3 (by omega));obtain ⟨q0,q1,q2,q3,q4⟩:=HD23.o;obtain ⟨o0,o1,o2,o3,o4⟩:=HGBd.o.below hb3 hw1d;have hz3:=hb3.size;clear hI3 hc3))
       all_goals
        have hzz3:w1.heap.size<w3.heap.size:=by omega
        have hw4:=hg4.size
        have hlen:(acc++rep gp kk).length=acc.length+(rep gp kk).length:=List.length_append
        rw [hlen] at hown4
        have HE2:=Zh ((HD23.o.below hg4 (by omega)).set0 (.slice A4 (acc.length+(rep gp kk).length) c4))
        have HE1:=Zh (((HD1d.o.below hb3 (by omega)).below hg4 (by omega)).far (p:=⟨w.heap.size+1,0,none⟩) (by simp) (.slice A4 (acc.length+(rep gp kk).length) c4))
        have HEG:=Zh (((HGBd.o.below hb3 hw1d).grown hgr4 (fun h=>by have:=HLT1.o _ h.symm;omega)).far (p:=⟨w.heap.size+1,0,none⟩) (by simp;omega) (.slice A4 (acc.length+(rep gp kk).length) c4))
        have HEO:=Zh (hown4.far (p:=⟨w.heap.size+1,0,none⟩) (by simp) (.slice A4 (acc.length+(rep gp kk).length) c4))
        have HEB:=Zh (((HBEd.o.trans (hb3.mono (by omega))).trans (hg4.mono (by omega))).setCell (p:=⟨w.heap.size+1,0,none⟩) (by simp) (.slice A4 (acc.length+(rep gp kk).length) c4))
        have hw5:w.heap.size+2<=(w4.setCell ⟨w.heap.size+1,0,none⟩ (.slice A4 (acc.length+(rep gp kk).length) c4)).heap.size:=by simp [World.setCell];omega
        generalize w4.setCell ⟨w.heap.size+1,0,none⟩ (.slice A4 (acc.length+(rep gp kk).length) c4)=W5 at *
        obtain ⟨s0,s1,s2,s3,s4⟩:=HE2.o
        obtain ⟨t0,t1,t2,t3,t4⟩:=HEG.o
        clear hown4 hg4 hgr4 hb3 r0 r1 r2 r3 r4 q0 q1 q2 q3 q4 o0 o1 o2 o3 o4 k0 k1 k2 k3 k4 l0 l1 l2 l3 l4 m0 m1 m2 m3 m4
        go_wp2_with fail
        go_roundw
        case rel =>
         have hmx:(if dep<gd then gd else dep)=max dep gd:=by split <;> omega
         try rw [hmx]
         refine ⟨f',e1+2,acc++rep gp kk,max dep gd,.slice A4 (acc.length+(rep gp kk).length) c4,by go_num,by omega,by omega,HNX.o,?_,?_,?_,?_,⟨u1,u2,?_⟩,?_,?_⟩
         ·rw [hlen,zc5]
          have b1:kk*gp.length<=9*((e1-(i+1))*M'):=Nat.mul_le_mul (by omega) HP5.o
          have b2:9*((e1-(i+1))*M')=(e1-(i+1))*M:=by rw [HMM.o,Nat.mul_left_comm]
          have b3:i*M+(e1-(i+1))*M<=(e1+2)*M:=by rw [<- Nat.add_mul];exact Nat.mul_le_mul_right _ (by omega)
          have:=HAC.o
          omega
         ·intro z hz
          rcases List.mem_append.1 hz with hz | hz
          ·exact HEL.o z hz
          ·exact (HP6.o z (zf3 hz)).1
         ·exact HE2.o.set1 _
         ·exact HEO.o.far (p:=⟨w.heap.size+1,1,none⟩) (by simp) _
         ·exact HE1.o.far (p:=⟨w.heap.size+1,1,none⟩) (by simp) _
         ·exact HEB.o.setCell (p:=⟨w.heap.size+1,1,none⟩) (by simp) _
         ·simpa [World.setCell] using hw5
        case measure=>simp [intOf];omega
    ·have hex:(s.extract i (i+1)).size=1:=by have:=(zgy s i hlt).size;simpa using this
     have hlc : ∀ V:World,Calls Tryz.prog 288 #[.string (s.extract i (i+1))] V fun e w'=>e = .returned (.bool (zca x))/\V=w':=fun V =>
      zvm _ V hex x (by rw [<- hxc];congr 2;exact zvn s i hlt)
     have HLT:=Zh hlc
     clear hlc hex
     cases hlet:zca x
     ·have HRES:=Zh (show R=none by rw [<- HLO.o];unfold za5;rw [HX.o,if_neg (by omega),if_neg h91,hlet];rfl)
      rw [hlet] at HLT
      have HBE:=Zh hbel
      clear hown
      go_wp2_with (go_at_call 288;refine (HLT.o _).mono ?_;rintro e w' ⟨rfl,rfl⟩)
      refine bodyPost_ret (v:=.tuple #[.agg #[.slice none 0 0,.int .i64 0],.int .i64 i,.bool false]) (by simp [results,Tryz.results248,go_sem,f0,f1]) rfl ⟨none,0,[],0,i,false,rfl,?_,?_,(fun h=>by cases h),(fun _=>⟨HRES.o,rfl,rfl,rfl,rfl⟩),fun k hk=>by cases hk⟩
      ·exact zcc _ _ _
      ·exact (HBE.o.setCell (Nat.le_refl _) _).setCell (Nat.le_refl _) _
     ·have hnext:za5 (chr s) s.size inner f' (i+1) (acc++[(i:Int)]) dep=R:=by
       rw [<- HLO.o];conv=>rhs;unfold za5
       rw [HX.o,if_neg (by omega),if_neg h91,if_pos hlet]
      have HNX:=Zh hnext
      rw [hlet] at HLT
      clear hnext
      go_wp2_with (first
       | (go_at_call 288;refine (HLT.o _).mono ?_;rintro e w' ⟨rfl,rfl⟩)
       | (at_builtin;refine za4 rfl _ _ rfl (w.heap.size+2) _ acc rfl (hown.alloc _) _ _ rfl (zag _ _ _) (by omega) (by first | exact Nat.le_refl _ | (simp;done) | (simp;omega) | omega) ?_;intro v' w1 hown1 hg1;obtain ⟨A2,c2,rfl⟩:=hown1.form;obtain ⟨j0,j1,j2,j3,j4⟩:=(HC2.o.alloc (Obj.cells #[Value.int .i64 i] 3)).below hg1 (by omega)))
      have hlen:(acc++[(i:Int)]).length=acc.length+1:=by simp
      rw [hlen] at hown1
      have HLN:=Zh hlen
      clear hlen j0 j1 j2 j3 j4 g0 g1 g2 g3 f0 f1 f2 f3
      go_roundw
      case rel =>
       refine ⟨f',i+1,acc++[(i:Int)],dep,.slice A2 (acc.length+1) c2,by go_num,by omega,by omega,HNX.o,?_,?_,?_,?_,⟨u1,u2,?_⟩,?_,?_⟩
       ·have:=HAC.o;rw [HLN.o,Nat.add_mul];omega
       ·intro y hy
        rcases List.mem_append.1 hy with hy | hy
        ·exact HEL.o y hy
        ·simp at hy;omega
       ·exact ((HC2.o.alloc _).below hg1 (by omega)).set0 _
       ·exact hown1.far (p:=⟨w.heap.size+1,0,none⟩) (by simp) _
       ·exact ((HC1.o.alloc _).below hg1 (by omega)).far (p:=⟨w.heap.size+1,0,none⟩) (by simp) _
       ·exact ((hbel.alloc (by omega) _).trans (hg1.mono (by omega))).setCell (p:=⟨w.heap.size+1,0,none⟩) (by simp) _
       ·have:=hg1.size;simp only [World.size_alloc] at this;simp [World.setCell];omega
      case measure=>simp [intOf];omega
  ·have hie:i=s.size:=by omega
   have HRES:=Zh (show R=some (acc,dep,i) by
    rw [<- HLO.o]
    cases f with
    | zero=>rfl
    | succ f=>unfold za5;rw [if_pos (.inl (by omega))])
   have HOW:=Zh hown
   have HBE:=Zh hbel
   clear hown
   go_wp2_with fail
   refine bodyPost_ret (v:=.tuple #[.agg #[.slice A1 acc.length c1,.int .i64 dep],.int .i64 i,.bool true]) (by simp [results,Tryz.results248,go_sem,f0,f1]) rfl ⟨A1,c1,acc,dep,i,true,rfl,?_,?_,(fun _=>⟨i,HRES.o,rfl⟩),(fun h=>by cases h),fun k hk=>by have:=(HOW.o.lt k hk).1;omega⟩
   ·exact (((HOW.o.far (p:=⟨w.heap.size,0,none⟩) (by simp) _).far (p:=⟨w.heap.size,1,none⟩) (by simp) _).ints (fun y hy=>by have:=HEL.o y hy;unfold Fits;omega))
   ·exact (HBE.o.setCell (Nat.le_refl _) _).setCell (Nat.le_refl _) _
theorem zm0 (s:ByteArray)(hs:s.size<=60) : ∀ (d:Nat),d<=3 -> ∀ (i0:Nat) (w:World),i0<=s.size ->
  Calls Tryz.prog 248 #[.string s,.int .i64 i0,.int .i64 (3-(d:Int))] w (zeq w (rowR (chr s) s.size d i0))
 | 0,_,i0,w,hi=>zmz s hs 3 1 (by omega) (by omega) none (.inl ⟨rfl,rfl⟩) i0 hi w
 | d+1,hd,i0,w,hi=>by
  have ih:=zm0 s hs d (by omega)
  have hM:9 ^ (d+1)<=729:=by
   have:9 ^ (d+1)<=9 ^ 3:=Nat.pow_le_pow_right (by omega) hd
   exact this
  have h:=zmz s hs (3-((d+1:Nat):Int)) (9 ^ (d+1)) hM (Nat.pos_of_ne_zero (by simp)) (some (rowR (chr s) s.size d))
   (.inr ⟨by omega,by omega,_,rfl,⟨9 ^ d,by rw [Nat.pow_succ,Nat.mul_comm],zik (chr s) s.size d⟩,fun at_ V hat=>by
    have:=ih at_ V hat
    rwa [show (3:Int)-d=3-((d+1:Nat):Int)+1 by omega] at this⟩) i0 hi w
  unfold rowR
  exact h
end Go.Proofs.YtjpnjchpdkogbaaGreatDoor
namespace Go.Proofs.YtjpnjchpdkogbaaGreatDoor
open Go.RowKit
end Go.Proofs.YtjpnjchpdkogbaaGreatDoor
