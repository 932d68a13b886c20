/- Parts of the proof of the card of the law FnConsole. -/
import Derived.Test.YtjpnjchpdkogbaaGreatDoorG01
import Derived.Test.YtjpnjchpdkogbaaGreatDoorG03
import Derived.Test.YtjpnjchpdkogbaaGreatDoorOwn
import Derived.Test.YtjpnjchpdkogbaaGreatDoorG04
import Derived.Test.YtjpnjchpdkogbaaGreatDoorG07
import Derived.Test.YtjpnjchpdkogbaaGreatDoorG14
import Derived.Test.YtjpnjchpdkogbaaGreatDoorG06
set_option linter.unusedVariables false
set_option linter.unusedSimpArgs false
set_option maxRecDepth 100000
set_option maxHeartbeats 2000000
namespace Go.Proofs.YtjpnjchpdkogbaaGreatDoor
open Go.RowKit
def lstF (f:Nat->Int)(n:Nat):List Int:=(List.range n).map f
theorem za8 (f:Nat->Int)(n:Nat):(lstF f n).length=n:=by simp [lstF]
theorem zcm (f:Nat->Int){n i:Nat}(h:i<n):(lstF f n).getD i 0=f i:=by
 unfold lstF
 rw [List.getD_eq_getElem?_getD,List.getElem?_eq_getElem (by simpa using h)]
 simp
theorem ziw (f:Nat->Int){n m:Nat}(h:m<=n):(lstF f n).take m=lstF f m:=by
 unfold lstF
 rw [<- List.map_take,List.take_range,Nat.min_eq_left h]
theorem zxa {f g:Nat->Int}{n:Nat}(h : ∀ t,t<n->f t=g t):lstF f n=lstF g n:=by
 unfold lstF
 exact List.map_congr_left fun t ht=>h t (List.mem_range.1 ht)
theorem znl (xs:List Int):lstF (fun t=>xs.getD t 0) xs.length=xs:=by
 refine List.ext_getElem (by simp [lstF]) fun i h1 h2=>?_
 unfold lstF
 simp [List.getD_eq_getElem?_getD,h2]
def za3 (f:Nat->Int):Nat->Nat
 | 0=>0
 | n+1=>if f n=0 then za3 f n else n+1
theorem zet (f:Nat->Int) : ∀ n,za3 f n<=n
 | 0=>Nat.le_refl _
 | n+1=>by
  have:=zet f n
  unfold za3;split <;> omega
def endF (f:Nat->Int)(n:Nat):List Int:=lstF f (za3 f n)
theorem znm (f:Nat->Int)(n:Nat):(endF f n).length<=n:=by unfold endF;rw [za8];exact zet f n
def polF (bs:List Int)(p:Nat):Int:=if (p:Int)∈bs then 1 else 0
def polL (N:Nat)(bs:List Int):List Int:=endF (polF bs) N
def w64 (x:Int):Int:=IntKind.i64.wrap x
def subF (F:Nat->Int)(b:List Int)(x:Int)(i k t:Nat):Int:=if i<=t/\t<i+k then w64 (F t-w64 (x*b.getD (t-i) 0)) else F t
theorem zxb (F:Nat->Int)(b:List Int)(x:Int)(i t:Nat):subF F b x i 0 t=F t:=by unfold subF;rw [if_neg (by omega)]
theorem zxc (F:Nat->Int)(b:List Int)(x:Int)(i k:Nat):subF F b x i (k+1) (i+k)=w64 (F (i+k)-w64 (x*b.getD k 0)):=by
 unfold subF;rw [if_pos (by omega),show i+k-i=k by omega]
theorem zxd (F:Nat->Int)(b:List Int)(x:Int)(i k:Nat):subF F b x i k (i+k)=F (i+k):=by unfold subF;rw [if_neg (by omega)]
theorem zxe (F:Nat->Int)(b:List Int)(x:Int)(i k:Nat){t:Nat}(h:t≠i+k):subF F b x i (k+1) t=subF F b x i k t:=by
 unfold subF
 by_cases h1:i<=t/\t<i+k
 ·rw [if_pos h1,if_pos (by omega)]
 ·rw [if_neg h1,if_neg (by omega)]
def divF (a b:List Int):Nat->Nat->Int
 | 0=>fun t=>a.getD t 0
 | m+1=>subF (divF a b m) b (divF a b m (a.length-b.length-m+b.length-1)) (a.length-b.length-m) b.length
def divM (a b:List Int):Nat:=if b.length<=a.length then a.length-b.length+1 else 0
def quoF (a b:List Int)(m t:Nat):Int:=if t+m > a.length-b.length/\t<=a.length-b.length then divF a b (a.length-b.length-t) (t+b.length-1) else 0
def rstL (a b:List Int):List Int:=endF (divF a b (divM a b)) a.length
def quoI (a b:List Int):List Int:=endF (quoF a b (divM a b)) a.length
def quoS (a b:List Int):List Int:=lstF (quoF a b (divM a b)) (divM a b)
def oneF (n t:Nat):Int:=if t=0 then -1 else if t=n then 1 else 0
def cycG (q:List Int->List Int->List Int) (c:Nat->List Int) (n:Nat):Nat->List Int
 | 0=>lstF (oneF n) (n+1)
 | d+1=>if 1<=d/\n % d=0 then q (cycG q c n d) (c d) else cycG q c n d
def cycI:Nat->Nat->List Int
 | 0,_=>[]
 | f+1,n=>cycG quoI (cycI f) n n
def cycS:Nat->Nat->List Int
 | 0,_=>[]
 | f+1,n=>cycG quoS (cycS f) n n
def lenG (c:Nat->Nat) (n:Nat):Nat->Nat
 | 0=>n+1
 | d+1=>if 1<=d/\n % d=0 then lenG c n d-c d+1 else lenG c n d
def lenC:Nat->Nat->Nat
 | 0,_=>0
 | f+1,n=>lenG (lenC f) n n
def okG (c:Nat->Nat) (o:Nat->Bool) (n:Nat):Nat->Bool
 | 0=>true
 | d+1=>okG c o n d && (if 1<=d/\n % d=0 then o d && decide (1<=c d/\c d<=lenG c n d) else true)
def okC:Nat->Nat->Bool
 | 0,_=>false
 | f+1,n=>okG (lenC f) (okC f) n n
theorem zxf : ∀ n,n<25->1<=n->okC 24 n=true:=by decide +kernel
def Mon (a:List Int):Prop:=1<=a.length/\a.getD (a.length-1) 0=1
theorem zxg {a b:List Int}(ha:Mon a)(hb:1<=b.length)(hl:b.length<=a.length):quoF a b (divM a b) (a.length-b.length)=1:=by
 unfold quoF divM
 rw [if_pos hl,if_pos (by omega),Nat.sub_self]
 show a.getD (a.length-b.length+b.length-1) 0=1
 rw [show a.length-b.length+b.length-1=a.length-1 by omega]
 exact ha.2
theorem znn {f:Nat->Int} {m:Nat} (h:f m≠0) (hz : ∀ t,m<t->f t=0) : ∀ d,za3 f (m+1+d)=m+1
 | 0=>by unfold za3;rw [if_neg h]
 | d+1=>by
  show (if f (m+1+d)=0 then za3 f (m+1+d) else _)=_
  rw [if_pos (hz _ (by omega))]
  exact znn h hz d
theorem zno {a b:List Int}(ha:Mon a)(hb:1<=b.length)(hl:b.length<=a.length):quoI a b=quoS a b/\(quoS a b).length=a.length-b.length+1/\Mon (quoS a b):=by
 have ht:=zxg ha hb hl
 have hM:divM a b=a.length-b.length+1:=if_pos hl
 have hlen:(quoS a b).length=a.length-b.length+1:=by unfold quoS;rw [za8,hM]
 refine ⟨?_,hlen,by omega,?_⟩
 ·unfold quoI quoS endF
  congr 1
  rw [hM] at ht ⊢
  obtain ⟨d,hd⟩ : ∃ d,a.length=a.length-b.length+1+d:=⟨b.length-1,by omega⟩
  conv=>lhs;arg 2;rw [hd]
  refine znn (by rw [ht];decide) (fun t h=>?_) d
  unfold quoF
  rw [if_neg (by omega)]
 ·rw [hlen]
  unfold quoS
  rw [zcm _ (by omega),Nat.add_sub_cancel]
  exact ht
theorem zf8 : ∀ f n,1<=n->okC f n=true->cycI f n=cycS f n/\(cycS f n).length=lenC f n/\Mon (cycS f n)
 | 0,_,_,h=>by cases h
 | f+1,n,hn,h=>by
  have hG : ∀ d,okG (lenC f) (okC f) n d=true->cycG quoI (cycI f) n d=cycG quoS (cycS f) n d/\(cycG quoS (cycS f) n d).length=lenG (lenC f) n d/\Mon (cycG quoS (cycS f) n d):=by
   intro d
   induction d with
   | zero =>
    intro _
    refine ⟨rfl,za8 _ _,by show 1<=(lstF (oneF n) (n+1)).length;rw [za8];omega,?_⟩
    show (lstF (oneF n) (n+1)).getD ((lstF (oneF n) (n+1)).length-1) 0=1
    rw [za8,Nat.add_sub_cancel,zcm _ (by omega)]
    unfold oneF
    rw [if_neg (by omega),if_pos rfl]
   | succ d ih =>
    intro ho
    have ho':okG (lenC f) (okC f) n d=true/\(if 1<=d/\n % d=0 then okC f d && decide (1<=lenC f d/\lenC f d<=lenG (lenC f) n d) else true)=true:=by
     unfold okG at ho
     rwa [Bool.and_eq_true] at ho
    obtain ⟨i1,i2,i3⟩:=ih ho'.1
    show (if 1<=d/\n % d=0 then _ else _)=(if 1<=d/\n % d=0 then _ else _)/\(if 1<=d/\n % d=0 then quoS (cycG quoS (cycS f) n d) (cycS f d) else cycG quoS (cycS f) n d).length=(if 1<=d/\n % d=0 then _ else _)/\Mon (if 1<=d/\n % d=0 then quoS (cycG quoS (cycS f) n d) (cycS f d) else cycG quoS (cycS f) n d)
    by_cases hd:1<=d/\n % d=0
    ·have ho2:=ho'.2
     rw [if_pos hd,Bool.and_eq_true,decide_eq_true_eq] at ho2
     obtain ⟨j1,j2,j3⟩:=zf8 f d hd.1 ho2.1
     obtain ⟨q1,q2,q3⟩:=zno i3 (by rw [j2];exact ho2.2.1) (by rw [j2,i2];exact ho2.2.2)
     simp only [if_pos hd]
     rw [i1,j1]
     exact ⟨q1,by rw [q2,i2,j2],q3⟩
    ·simp only [if_neg hd]
     exact ⟨i1,i2,i3⟩
  exact hG n h
theorem zxh : ∀ f n d,okG (lenC f) (okC f) n (d+1)=true->1<=n->1<=d/\n % d=0->okC f d=true/\1<=lenC f d/\lenC f d<=lenG (lenC f) n d:=by
 intro f n d h _ hd
 unfold okG at h
 rw [Bool.and_eq_true,if_pos hd,Bool.and_eq_true,decide_eq_true_eq] at h
 exact ⟨h.2.1,h.2.2⟩
theorem zix (c:Nat->Nat)(o:Nat->Bool)(n:Nat){d m:Nat}(h:okG c o n m=true)(hd:d<=m):okG c o n d=true:=by
 obtain ⟨e,rfl⟩ : ∃ e,m=d+e:=⟨m-d,by omega⟩
 clear hd
 induction e with
 | zero=>exact h
 | succ e ih =>
  refine ih ?_
  have h':okG c o n (d+e+1)=true:=h
  unfold okG at h'
  rw [Bool.and_eq_true] at h'
  exact h'.1
theorem zxi (f n:Nat)(hn:1<=n) : ∀ d,okG (lenC f) (okC f) n d=true->cycG quoI (cycI f) n d=cycG quoS (cycS f) n d/\(cycG quoS (cycS f) n d).length=lenG (lenC f) n d/\Mon (cycG quoS (cycS f) n d):=by
 intro d
 induction d with
 | zero =>
  intro _
  refine ⟨rfl,za8 _ _,by show 1<=(lstF (oneF n) (n+1)).length;rw [za8];omega,?_⟩
  show (lstF (oneF n) (n+1)).getD ((lstF (oneF n) (n+1)).length-1) 0=1
  rw [za8,Nat.add_sub_cancel,zcm _ (by omega)]
  unfold oneF
  rw [if_neg (by omega),if_pos rfl]
 | succ d ih =>
  intro ho
  have ho':okG (lenC f) (okC f) n d=true/\(if 1<=d/\n % d=0 then okC f d && decide (1<=lenC f d/\lenC f d<=lenG (lenC f) n d) else true)=true:=by
   unfold okG at ho
   rwa [Bool.and_eq_true] at ho
  obtain ⟨i1,i2,i3⟩:=ih ho'.1
  show (if 1<=d/\n % d=0 then _ else _)=(if 1<=d/\n % d=0 then _ else _)/\(if 1<=d/\n % d=0 then quoS (cycG quoS (cycS f) n d) (cycS f d) else cycG quoS (cycS f) n d).length=(if 1<=d/\n % d=0 then _ else _)/\Mon (if 1<=d/\n % d=0 then quoS (cycG quoS (cycS f) n d) (cycS f d) else cycG quoS (cycS f) n d)
  by_cases hd:1<=d/\n % d=0
  ·have ho2:=ho'.2
   rw [if_pos hd,Bool.and_eq_true,decide_eq_true_eq] at ho2
   obtain ⟨j1,j2,j3⟩:=zf8 f d hd.1 ho2.1
   obtain ⟨q1,q2,q3⟩:=zno i3 (by rw [j2];exact ho2.2.1) (by rw [j2,i2];exact ho2.2.2)
   simp only [if_pos hd]
   rw [i1,j1]
   exact ⟨q1,by rw [q2,i2,j2],q3⟩
  ·simp only [if_neg hd]
   exact ⟨i1,i2,i3⟩
theorem ziy (c:Nat->Nat)(o:Nat->Bool)(n:Nat) : ∀ d,okG c o n d=true->lenG c n d<=n+1
 | 0,_=>Nat.le_refl _
 | d+1,h=>by
  unfold okG at h
  rw [Bool.and_eq_true] at h
  have ih:=ziy c o n d h.1
  show (if 1<=d/\n % d=0 then lenG c n d-c d+1 else lenG c n d)<=n+1
  by_cases hd:1<=d/\n % d=0
  ·have h2:=h.2
   rw [if_pos hd,Bool.and_eq_true,decide_eq_true_eq] at h2
   rw [if_pos hd];omega
  ·rw [if_neg hd];exact ih
theorem znp (f n:Nat)(h:okC f n=true):lenC f n<=n+1:=by
 cases f with
 | zero=>cases h
 | succ f=>exact ziy (lenC f) (okC f) n n h
theorem Ints.takeT {w:World}{B:Nat}{A:Option Addr}{xs:List Int}(h:Ints w B A xs)(j:Nat):Ints w B A (xs.take j):=by
 refine ⟨by have:=h.1;rw [List.length_take];omega,fun x hx=>h.2.1 x (List.mem_of_mem_take hx),fun hn=>?_⟩
 rw [List.length_take] at hn
 obtain ⟨b,off,e,hb,hc⟩:=h.2.2 (by omega)
 refine ⟨b,off,e,hb,fun i hi=>?_⟩
 rw [List.length_take] at hi
 rw [hc i (by omega),List.getD_eq_getElem?_getD,List.getD_eq_getElem?_getD,List.getElem?_take,if_pos (by omega)]
theorem Tab.intsT {w:World}{b n:Nat}{f:Nat->Int}(h:Tab w b n f)(hn:n<=maxLen)(hf : ∀ t,t<n->Fits (f t))(c:Nat):Ints w w.heap.size (some ⟨b,0,none⟩) (lstF f n):=by
 refine ⟨by rw [za8];exact hn,fun x hx=>?_,fun _=>⟨b,0,rfl,h.1,fun i hi=>?_⟩⟩
 ·unfold lstF at hx
  rw [List.mem_map] at hx
  obtain ⟨t,ht,rfl⟩:=hx
  exact hf t (List.mem_range.1 ht)
 ·rw [za8] at hi
  rw [Nat.zero_add,zcm f hi]
  exact (h.2 i hi).1
theorem zxj (a:Addr)(n cap:Nat)(w:World)(hn:n<=cap)(hs:n<=1000000) :
  Calls Tryz.prog 320 #[.slice (some a) n cap] w fun e w'=>e = .returned (.slice (some a) n n)/\w=w':=by
 have h0:(0:Int)<=(n:Int):=Int.natCast_nonneg _
 have h1:(n:Int)<=(cap:Int):=by omega
 go_enter Tryz.func320,Tryz.ntmps320
 go_wp2_with fail
 go_ret
 exact ⟨rfl,rfl⟩
theorem zeu (b off cap:Nat)(f:Nat->Int)(N:Nat)(w:World)(B:Nat)(hA:Ints w B (some ⟨b,off,none⟩) (lstF f N))(hN:N<=1000)(hcap:N<=cap) :
  Calls Tryz.prog 303 #[.slice (some ⟨b,off,none⟩) N cap] w fun e w'=>e = .returned (.slice (some ⟨b,off,none⟩) (za3 f N) (za3 f N))/\w=w':=by
 have HC:=Zh (fun i (hi:i<N)=>show w.cell? ⟨b,off+i,none⟩=some (.int .i64 (f i)) by
  obtain ⟨b',off',e,_,hc⟩:=hA.2.2 (by rw [za8];omega)
  injection e with e
  injection e with e1 e2
  subst e1 e2
  have:=hc i (by rw [za8];exact hi)
  rwa [zcm f hi] at this)
 clear hA
 go_enter Tryz.func303,Tryz.ntmps303
 go_wp2_with fail
 go_loop [0] (fun a=>∃ n:Nat,n<=N/\a = .slice (some ⟨b,off,none⟩) n cap/\za3 f n=za3 f N) (fun a=>match a with | .slice _ n _=>n | _=>0)
 case atStart=>exact ⟨N,Nat.le_refl _,rfl,rfl⟩
 case round =>
  obtain ⟨n,hn,rfl,ht⟩:=hrel
  have HT:=Zh ht
  clear ht
  have HCL:=Zh (zxj ⟨b,off,none⟩ n cap w (by omega) (by omega))
  by_cases h0:0<n
  ·obtain ⟨m,rfl⟩ : ∃ m,n=m+1:=⟨n-1,by omega⟩
   have hc:=HC.o m (by omega)
   have hst:za3 f (m+1)=if f m=0 then za3 f m else m+1:=rfl
   obtain ⟨x,hx⟩ : ∃ x,f m=x:=⟨_,rfl⟩
   rw [hx] at hc hst
   have HS:=Zh hst
   have hp:(0:Int)<((m+1:Nat):Int):=by omega
   have hw1:IntKind.i64.wrap (((m+1:Nat):Int)-1)=(m:Int):=by rw [i64w (by omega)];omega
   have hm0:(0:Int)<=(m:Int):=Int.natCast_nonneg _
   have hml:(m:Int)<((m+1:Nat):Int):=by omega
   have hmc:(m:Int)<=(cap:Int):=by omega
   clear hst hx
   by_cases hz:x=0
   ·subst hz
    go_wp2_with fail
    go_round
    case rel=>exact ⟨m,by omega,rfl,by rw [<- HT.o,HS.o,if_pos rfl]⟩
    case measure=>show m<m+1;omega
   ·have hze:(x==0)=false:=beq_eq_false_iff_ne.2 hz
    go_wp2_with fail
    refine HCL.o.mono ?_
    rintro e w1 ⟨rfl,rfl⟩
    have HV:=Zh (show za3 f N=m+1 by rw [<- HT.o,HS.o,if_neg hz])
    go_wp2_with fail
    go_ret
    exact ⟨by rw [HV.o];rfl,rfl⟩
  ·have hn0:n=0:=by omega
   subst hn0
   go_wp2_with fail
   refine HCL.o.mono ?_
   rintro e w1 ⟨rfl,rfl⟩
   have HV:=Zh (show za3 f N=0 from HT.o.symm)
   go_wp2_with fail
   go_ret
   exact ⟨by rw [HV.o];rfl,rfl⟩
theorem zxk {bs:List Int}{j:Nat}{x:Nat}(hj:j<bs.length)(hx:bs.getD j 0=(x:Int))(t:Nat):polF (bs.take (j+1)) t=if t=x then 1 else polF (bs.take j) t:=by
 unfold polF
 rw [List.take_succ_eq_append_getElem hj]
 have he:bs[j]=(x:Int):=by rw [<- hx,List.getD_eq_getElem?_getD,List.getElem?_eq_getElem hj];rfl
 rw [he]
 by_cases h:t=x
 ·subst h;rw [if_pos (by simp),if_pos rfl]
 ·rw [if_neg h]
  congr 1
  simp
  intro h2
  omega
def dvsL (n:Nat):Nat->List Int
 | 0=>[]
 | m+1=>if 1<=m/\n % m=0 then dvsL n m++[(m:Int)] else dvsL n m
theorem ziz (n:Nat) : ∀ m,(dvsL n m).length<=m
 | 0=>Nat.le_refl _
 | m+1=>by
  have:=ziz n m
  unfold dvsL;split <;> simp <;> omega
theorem zxl (N:Nat)(A:Option Addr)(cap:Nat)(bs:List Int)(w:World)(hA:Ints w w.heap.size A bs)(hok:RhOk N bs) :
  Calls Tryz.prog 267 #[.agg #[.int .i64 N,.slice A bs.length cap]] w fun e w'=>∃ A',e = .returned (.slice A' (polL N bs).length (polL N bs).length)/\Ints w' w'.heap.size A' (polL N bs)/\(∃ b,A'=some ⟨b,0,none⟩)/\Below w.heap.size w w':=by
 have hn1:1<=N:=by have:=hok.1;omega
 have hn2:N<=24:=by have:=hok.2.1;omega
 have HBR:=Zh (fun i (hi:i<bs.length)=>hok.2.2.1 i hi)
 have HPS:=Zh (fun j x (hj:j<bs.length) (hx:bs.getD j 0=((x:Nat):Int)) t=>zxk hj hx t)
 have HP0:=Zh (fun t=>show polF (bs.take 0) t=0 by unfold polF;rw [if_neg (by simp)])
 have HPE:=Zh (show bs.take bs.length=bs from List.take_length)
 have HA:=Zh hA
 have hlen:=hA.1
 unfold maxLen at hlen
 have HC:=Zh hA.2.2
 have HB0:=Zh ((Below.refl w.heap.size w).alloc (Nat.le_refl _) (.cells #[.int .i64 N,.slice A bs.length cap] 27))
 have HVA:=Zh (Hav.boxed hA N cap)
 have hmk:=fun V:World=>zda N (by omega) V
 clear hA hok
 obtain ⟨⟨p0,p1,_,_,_⟩,_⟩:=HVA.o
 go_enter Tryz.func267,Tryz.ntmps267
 go_wp2_with fail
 have hmW:(w.alloc (.cells #[.int .i64 N,.slice A bs.length cap] 27)).heap.size=w.heap.size+1:=by simp
 have HT0:=Zh (hmW ▸ zee (w.alloc (.cells #[.int .i64 N,.slice A bs.length cap] 27)) N 3)
 have HB1:=Zh (HB0.o.alloc HB0.o.size (.cells (madeCells #[.int .i64 0] N) 3))
 generalize (w.alloc (.cells #[.int .i64 N,.slice A bs.length cap] 27)).alloc (.cells (madeCells #[.int .i64 0] N) 3)=W at *
 clear hmW p0 p1
 go_loopw [12] (fun i wr=>∃ j:Nat,j<=bs.length/\i = .int .i64 j/\Tab wr (w.heap.size+1) N (polF (bs.take j))/\Below w.heap.size w wr) (fun i _=>bs.length-(intOf i).toNat)
 case atStart=>exact ⟨0,Nat.zero_le _,rfl,HT0.o.congr (fun t _=>(HP0.o t).symm),HB1.o⟩
 case round =>
  obtain ⟨j,hj,rfl,htab,hbel⟩:=hrel
  obtain ⟨wo,rfl⟩ : ∃ wo:World,wo=wr:=⟨_,rfl⟩
  have HT:=Zh htab
  have HB:=Zh hbel
  have hz:=htab.1
  by_cases hlt:j<bs.length
  ·obtain ⟨b2,off,rfl,hB,hc⟩:=HC.o (by omega)
   have hcell:=(hbel.cell (p:=⟨b2,off+j,none⟩) hB).trans (hc j hlt)
   have hx0:=HBR.o j hlt
   obtain ⟨x,hx⟩:=Int.eq_ofNat_of_zero_le hx0.1
   have hps:=HPS.o j x hlt hx
   rw [hx] at hcell hx0
   have hxN:x<N:=by omega
   have hxi:(x:Int)<(N:Int):=by omega
   have hxi0:(0:Int)<=(x:Int):=Int.natCast_nonneg _
   have hfz:=HT.o.frz hxN
   have hcu:=(HT.o.2 x hxN).1
   have HP:=Zh hps
   have hji:(j:Int)<(bs.length:Int):=by omega
   clear htab hbel hc hx hps
   go_wp2_with fail
   have HT2:=Zh (HT.o.set_ (g:=polF (bs.take (j+1))) x 1 hxN (by rw [HP.o,if_pos rfl]) (fun t _ ht=>by rw [HP.o,if_neg ht]))
   have HB2:=Zh (HB.o.setCell (p:=⟨w.heap.size+1,x,none⟩) (Nat.le_succ _) (.int .i64 1))
   go_roundw
   case rel=>exact ⟨j+1,by omega,by go_num,HT2.o,HB2.o⟩
   case measure=>simp [intOf];omega
  ·have hje:j=bs.length:=by omega
   subst hje
   have hte:=HT.o
   rw [HPE.o] at hte
   have hpf : ∀ t,Fits (polF bs t):=fun t=>by unfold polF Fits;split <;> omega
   have hin:=hte.intsT (by unfold maxLen;omega) (fun t _=>hpf t) N
   have HEN:=Zh (zeu (w.heap.size+1) 0 N (polF bs) N wo wo.heap.size hin (by omega) (Nat.le_refl _))
   have HPL:=Zh (show polL N bs=(lstF (polF bs) N).take (za3 (polF bs) N) from (ziw _ (zet _ _)).symm)
   have HPN:=Zh (show (polL N bs).length=za3 (polF bs) N by unfold polL endF;exact za8 _ _)
   have HIN:=Zh hin
   clear htab hbel hte hin hpf
   have hji : ¬ (bs.length:Int)<(bs.length:Int):=by omega
   go_wp2_with fail
   refine HEN.o.mono ?_
   rintro e w2 ⟨rfl,rfl⟩
   go_wp2_with fail
   go_ret
   exact ⟨some ⟨w.heap.size+1,0,none⟩,by rw [HPN.o];rfl,by rw [HPL.o];exact HIN.o.takeT _,⟨_,rfl⟩,HB.o⟩
theorem zxm (n:Nat)(w:World)(hn1:1<=n)(hn2:n<=24) :
  Calls Tryz.prog 176 #[.int .i64 n] w fun e w'=>∃ v,e = .returned v/\OwnI w' w.heap.size v (dvsL n (n+1))/\Below w.heap.size w w':=by
 have hin:inB (n:Int) 1 1000=true:=za1 ⟨by omega,by omega⟩
 go_enter Tryz.func176,Tryz.ntmps176
 go_wp2_with (go_at_call 22;refine (zac _ _ _ _).mono ?_;rintro e w' ⟨rfl,rfl⟩)
 go_loopw [3,4] (fun so i wr=>∃ j:Nat,1<=j/\j<=n+1/\i = .int .i64 j/\OwnI wr w.heap.size so (dvsL n j)/\Below w.heap.size w wr) (fun _ i _=>n+1-(intOf i).toNat)
 case atStart=>exact ⟨1,Nat.le_refl _,by omega,rfl,OwnI.nil _ _,Below.refl _ _⟩
 case round =>
  obtain ⟨j,hj1,hj,rfl,hown,hbel⟩:=hrel
  obtain ⟨wo,rfl⟩ : ∃ wo:World,wo=wr:=⟨_,rfl⟩
  have hws:=hbel.size
  have HB:=Zh hbel
  have HO:=Zh hown
  obtain ⟨A1,c1,rfl⟩:=hown.form
  have hmk:=ziz n j
  clear hbel hown
  by_cases hlt:j<=n
  ·have hji:(j:Int)<=(n:Int):=by omega
   have hnz:((j:Int)=0)=False:=eq_false (by omega)
   have hnz2:(j=0)=False:=eq_false (by omega)
   have hrm:(n:Int).tmod (j:Int)=((n % j:Nat):Int):=by rw [Int.tmod_eq_emod_of_nonneg (by omega)];omega
   have hml:n % j<j:=Nat.mod_lt _ (by omega)
   have hw1:IntKind.i64.wrap ((n % j:Nat):Int)=((n % j:Nat):Int):=i64w (by omega)
   have hds:dvsL n (j+1)=if 1<=j/\n % j=0 then dvsL n j++[(j:Int)] else dvsL n j:=rfl
   by_cases hd:n % j=0
   ·rw [if_pos ⟨hj1,hd⟩] at hds
    have HS:=Zh hds
    rw [hd] at hrm hw1
    clear hds hml hd
    generalize dvsL n j=L at *
    go_wp2_with (at_builtin;refine za4 rfl (.tmp 17) (.tmp 19) rfl w.heap.size _ L rfl (HO.o.alloc _) _ _ rfl (zag _ _ _) (by omega) (by simp;omega) ?_;intro v2 w2 hown2 hb2)
    have HO2:=Zh hown2
    have HB2:=Zh ((HB.o.alloc hws _).trans hb2)
    clear hown2 hb2
    go_wp2_with fail
    go_roundw
    case rel=>exact ⟨j+1,by omega,by omega,by go_num,by rw [HS.o];exact HO2.o,HB2.o⟩
    case measure=>simp [intOf];omega
   ·rw [if_neg (fun h=>hd h.2)] at hds
    have HS:=Zh hds
    have hmz:((n % j:Nat):Int)≠0:=by omega
    generalize n % j=m at *
    have hme:((m:Int)==0)=false:=beq_eq_false_iff_ne.2 hmz
    clear hds
    generalize dvsL n j=L at *
    go_wp2_with fail
    go_roundw
    case rel=>exact ⟨j+1,by omega,by omega,by go_num,by rw [HS.o];exact HO.o,HB.o⟩
    case measure=>simp [intOf];omega
  ·have hje:j=n+1:=by omega
   subst hje
   have hji : ¬ ((n+1:Nat):Int)<=(n:Int):=by omega
   obtain ⟨L,hL⟩ : ∃ L,dvsL n (n+1)=L:=⟨_,rfl⟩
   have HV:=Zh hL
   rw [hL] at HO ⊢
   clear hL
   go_wp2_with fail
   go_ret
   rw [HV.o]
   exact ⟨_,rfl,HO.o,HB.o⟩
theorem zxn (x:Int):Fits (w64 x):=by
 unfold w64
 rw [show IntKind.i64.wrap x=wrap64 x from IntWalk.i64_left x]
 unfold wrap64 Fits
 omega
theorem zi0 (a b:List Int) (ha : ∀ x∈a,Fits x) : ∀ m t,Fits (divF a b m t)
 | 0,t=>by
  show Fits (a.getD t 0)
  rw [List.getD_eq_getElem?_getD]
  cases h:a[t]? with
  | none=>exact ⟨by decide,by decide⟩
  | some y=>exact ha y (List.mem_of_getElem? h)
 | m+1,t=>by
  show Fits (subF _ _ _ _ _ t)
  unfold subF
  split
  ·exact zxn _
  ·exact zi0 a b ha m t
theorem zxo (a b:List Int)(ha : ∀ x∈a,Fits x)(m t:Nat):Fits (quoF a b m t):=by
 unfold quoF
 split
 ·exact zi0 a b ha _ _
 ·exact ⟨by decide,by decide⟩
theorem zxp (a b:List Int)(t:Nat):quoF a b 0 t=0:=by
 unfold quoF;rw [if_neg (by omega)]
theorem zxq (a b:List Int){m:Nat}(hm:m<=a.length-b.length):quoF a b (m+1) (a.length-b.length-m)=divF a b m (a.length-b.length-m+b.length-1):=by
 unfold quoF
 rw [if_pos (by omega),show a.length-b.length-(a.length-b.length-m)=m by omega]
theorem zxr (a b:List Int){m t:Nat}(ht:t≠a.length-b.length-m)(hm:m<=a.length-b.length):quoF a b (m+1) t=quoF a b m t:=by
 unfold quoF
 by_cases h:t+m > a.length-b.length/\t<=a.length-b.length
 ·rw [if_pos h,if_pos (by omega)]
 ·rw [if_neg h,if_neg (by omega)]
theorem znq (A1 A2:Option Addr)(c1 c2:Nat)(a b:List Int)(w:World)(hA:Ints w w.heap.size A1 a)(hB:Ints w w.heap.size A2 b)(ha1:1<=a.length)(ha2:a.length<=100)(hb1:1<=b.length)(hb2:b.length<=100) :
  Calls Tryz.prog 266 #[.slice A1 a.length c1,.slice A2 b.length c2] w fun e w'=>∃ g1 g2,e = .returned (.tuple #[.slice (some ⟨g1,0,none⟩) (quoI a b).length (quoI a b).length,.slice (some ⟨g2,0,none⟩) (rstL a b).length (rstL a b).length])/\Ints w' w'.heap.size (some ⟨g1,0,none⟩) (quoI a b)/\Ints w' w'.heap.size (some ⟨g2,0,none⟩) (rstL a b)/\Below w.heap.size w w':=by
 have HCL:=Zh (zei A1 c1 a w hA (by omega))
 have HBI:=Zh hB
 have HFI:=Zh hA.2.1
 have hmk:=fun V:World=>zda a.length (by omega) V
 clear hA hB
 go_enter Tryz.func266,Tryz.ntmps266
 go_wp2_with fail
 refine HCL.o.mono ?_
 rintro e w1 ⟨v1,rfl,hown,hb⟩
 obtain ⟨AR,cR,rfl⟩:=hown.form
 obtain ⟨gR,hAR,hgR,hTR⟩:=(hown.rw_ (by omega)).2 (by omega)
 have hcR:a.length<=cR:=by
  rcases hown.2 with ⟨hv,h0⟩ | ⟨g,cap',cur,hv,hge,hh,hnc,hm,hsz,hxs⟩
  ·omega
  ·injection hv with q1 q2 q3;omega
 subst hAR
 have HB1:=Zh hb
 have HTR:=Zh hTR
 have hgl:=hTR.1
 have hz1:=hb.size
 clear hown hb hTR
 go_wp2_with fail
 have HTQ:=Zh (zee w1 a.length 3)
 have HTR2:=Zh (HTR.o.alloc (.cells (madeCells #[.int .i64 0] a.length) 3))
 have HB2:=Zh (HB1.o.alloc hz1 (.cells (madeCells #[.int .i64 0] a.length) 3))
 generalize w1.alloc (.cells (madeCells #[.int .i64 0] a.length) 3)=W at *
 obtain ⟨gQ,hgQ⟩ : ∃ g,w1.heap.size=g:=⟨_,rfl⟩
 rw [hgQ] at HTQ hgl hz1 ⊢
 clear hgQ
 have hw0:IntKind.i64.wrap ((a.length:Int)-(b.length:Int))=(a.length:Int)-(b.length:Int):=i64w (by omega)
 go_loopw [8] (fun i wr=>∃ m:Nat,m<=divM a b/\i = .int .i64 ((a.length:Int)-(b.length:Int)-(m:Int))/\Tab wr gR a.length (divF a b m)/\Tab wr gQ a.length (quoF a b m)/\Below w.heap.size w wr) (fun i _=>(intOf i+1).toNat)
 case atStart=>exact ⟨0,Nat.zero_le _,by simp,HTR2.o,HTQ.o.congr (fun t _=>(zxp a b t).symm),HB2.o⟩
 case round =>
  obtain ⟨m,hm,rfl,htr,htq,hbel⟩:=hrel
  obtain ⟨wo,rfl⟩ : ∃ wo:World,wo=wr:=⟨_,rfl⟩
  have HT1:=Zh htr
  have HT2:=Zh htq
  have HB:=Zh hbel
  have hzQ:=htq.1
  clear htr htq hbel
  by_cases hlt:m<divM a b
  ·have hll:b.length<=a.length/\m<=a.length-b.length:=by unfold divM at hlt;split at hlt <;> omega
   obtain ⟨i,hi⟩ : ∃ i,a.length-b.length-m=i:=⟨_,rfl⟩
   have hie:(a.length:Int)-(b.length:Int)-(m:Int)=(i:Int):=by omega
   have hrd:=HT1.o.2 (i+b.length-1) (by omega)
   have hQA:=zxq a b hll.2
   have HQN:=Zh (fun t (ht:t≠a.length-b.length-m)=>zxr a b ht hll.2)
   have HDS:=Zh (show divF a b (m+1)=subF (divF a b m) b (divF a b m (a.length-b.length-m+b.length-1)) (a.length-b.length-m) b.length from rfl)
   rw [hi] at hQA HQN HDS
   obtain ⟨x,hx⟩ : ∃ x,divF a b m (i+b.length-1)=x:=⟨_,rfl⟩
   rw [hx] at hrd hQA HDS
   have HQA:=Zh hQA
   have hrc:=hrd.1
   have hqf:=HT2.o.frz (t:=i) (by omega)
   have hqc:=(HT2.o.2 i (by omega)).1
   have hi0:(0:Int)<=(i:Int):=Int.natCast_nonneg _
   have hw1:IntKind.i64.wrap ((i:Int)+(b.length:Int))=(i:Int)+(b.length:Int):=i64w (by omega)
   have hw2:IntKind.i64.wrap ((i:Int)+(b.length:Int)-1)=((i+b.length-1:Nat):Int):=by rw [i64w (by omega)];omega
   have hn0:(0:Int)<=((i+b.length-1:Nat):Int):=Int.natCast_nonneg _
   have hnl:((i+b.length-1:Nat):Int)<(a.length:Int):=by omega
   have hil:(i:Int)<(a.length:Int):=by omega
   rw [hie]
   have HIE:=Zh hie
   have HI:=Zh hi
   clear hrd hx hi hie hQA
   go_wp2_with fail
   have HT3:=Zh (HT1.o.far (p:=⟨gQ,i,none⟩) (show gR≠gQ by omega) (.int .i64 x))
   have HT4:=Zh (HT2.o.set_ (g:=quoF a b (m+1)) i x (by omega) HQA.o (fun t _ ht=>HQN.o t ht))
   have HB3:=Zh (HB.o.setCell (p:=⟨gQ,i,none⟩) (show w.heap.size<=gQ by omega) (.int .i64 x))
   generalize divF a b m=F at *
   go_loopw [40] (fun kk wr=>∃ k:Nat,k<=b.length/\kk = .int .i64 k/\Tab wr gR a.length (subF F b x i k)/\Tab wr gQ a.length (quoF a b (m+1))/\Below w.heap.size w wr) (fun kk _=>b.length-(intOf kk).toNat)
   case atStart=>exact ⟨0,Nat.zero_le _,rfl,HT3.o.congr (fun t _=>(zxb F b x i t).symm),HT4.o,HB3.o⟩
   case round =>
    obtain ⟨k,hk,rfl,ht1,ht2,hbl⟩:=hrel
    obtain ⟨wi,rfl⟩ : ∃ wi:World,wi=wr:=⟨_,rfl⟩
    have HU1:=Zh ht1
    have HU2:=Zh ht2
    have HBB:=Zh hbl
    by_cases hltk:k<b.length
    ·obtain ⟨b2,off,rfl,hbB,hbc⟩:=HBI.o.2.2 (by omega)
     have hcb:=(hbl.cell (p:=⟨b2,off+k,none⟩) hbB).trans (hbc k hltk)
     have hrk:=ht1.2 (i+k) (by omega)
     have hpre:=zxd F b x i k
     have hat:=zxc F b x i k
     obtain ⟨y,hy⟩ : ∃ y,b.getD k 0=y:=⟨_,rfl⟩
     obtain ⟨v,hv⟩ : ∃ v,F (i+k)=v:=⟨_,rfl⟩
     rw [hy] at hcb hat
     rw [hv] at hat hpre
     rw [hpre] at hrk
     have hrc:=hrk.1
     have hrf:=hrk.2
     have HAT:=Zh (show subF F b x i (k+1) (i+k)=IntKind.i64.wrap (v-IntKind.i64.wrap (x*y)) from hat)
     have hw3:IntKind.i64.wrap ((i:Int)+(k:Int))=((i+k:Nat):Int):=by rw [i64w (by omega)];omega
     have hk0:(0:Int)<=((i+k:Nat):Int):=Int.natCast_nonneg _
     have hkl:((i+k:Nat):Int)<(a.length:Int):=by omega
     have hkb:(k:Int)<(b.length:Int):=by omega
     clear ht1 ht2 hbl hbc hrk hpre hat hy hv
     obtain ⟨P,hP⟩ : ∃ P,IntKind.i64.wrap (x*y)=P:=⟨_,rfl⟩
     obtain ⟨R,hR⟩ : ∃ R,IntKind.i64.wrap (v-P)=R:=⟨_,rfl⟩
     have HAT2:=Zh (show subF F b x i (k+1) (i+k)=R by rw [HAT.o,hP,hR])
     clear HAT
     go_wp2_with fail
     have HU3:=Zh (HU1.o.set_ (g:=subF F b x i (k+1)) (i+k) R (by omega) HAT2.o (fun t _ ht=>zxe F b x i k ht))
     have HU4:=Zh (HU2.o.far (p:=⟨gR,i+k,none⟩) (show gQ≠gR by omega) (.int .i64 R))
     have HB4:=Zh (HBB.o.setCell (p:=⟨gR,i+k,none⟩) hgR (.int .i64 R))
     go_roundw
     case rel=>exact ⟨k+1,by omega,by go_num,HU3.o,HU4.o,HB4.o⟩
     case measure=>simp [intOf];omega
    ·have hke:k=b.length:=by omega
     subst hke
     have hkb : ¬ (b.length:Int)<(b.length:Int):=by omega
     have hw3:IntKind.i64.wrap ((i:Int)-1)=(i:Int)-1:=i64w (by omega)
     have HIS:=Zh (show (i:Int)-1=(a.length:Int)-(b.length:Int)-((m+1:Nat):Int) by have:=HIE.o;omega)
     clear ht1 ht2 hbl
     go_wp2_with fail
     go_roundw
     case rel=>exact ⟨m+1,by omega,by rw [<- HIS.o],by rw [HDS.o];exact HU1.o,HU2.o,HBB.o⟩
     case measure=>simp [intOf] <;> omega
  ·have hme:m=divM a b:=by omega
   subst hme
   have hneg : ¬ (0:Int)<=(a.length:Int)-(b.length:Int)-(divM a b:Int):=by unfold divM;split <;> omega
   have hfa:=HFI.o
   have hq:=HT2.o.intsT (by unfold maxLen;omega) (fun t _=>zxo a b hfa (divM a b) t) 0
   have hr:=HT1.o.intsT (by unfold maxLen;omega) (fun t _=>zi0 a b hfa (divM a b) t) 0
   have HE1:=Zh (zeu gQ 0 a.length (quoF a b (divM a b)) a.length wo wo.heap.size hq (by omega) (Nat.le_refl _))
   have HE2:=Zh (zeu gR 0 cR (divF a b (divM a b)) a.length wo wo.heap.size hr (by omega) hcR)
   have HQL:=Zh (show quoI a b=(lstF (quoF a b (divM a b)) a.length).take (za3 (quoF a b (divM a b)) a.length) from (ziw _ (zet _ _)).symm)
   have HRL:=Zh (show rstL a b=(lstF (divF a b (divM a b)) a.length).take (za3 (divF a b (divM a b)) a.length) from (ziw _ (zet _ _)).symm)
   have HQN:=Zh (show (quoI a b).length=za3 (quoF a b (divM a b)) a.length by unfold quoI endF;exact za8 _ _)
   have HRN:=Zh (show (rstL a b).length=za3 (divF a b (divM a b)) a.length by unfold rstL endF;exact za8 _ _)
   have HQI:=Zh hq
   have HRI:=Zh hr
   clear hq hr hfa
   generalize za3 (quoF a b (divM a b)) a.length=tq at *
   generalize za3 (divF a b (divM a b)) a.length=tr at *
   go_wp2_with fail
   refine HE1.o.mono ?_
   rintro e w2 ⟨rfl,rfl⟩
   go_wp2_with fail
   refine HE2.o.mono ?_
   rintro e w3 ⟨rfl,rfl⟩
   go_wp2_with fail
   refine bodyPost_ret (v:=.tuple #[.slice (some ⟨gQ,0,none⟩) tq tq,.slice (some ⟨gR,0,none⟩) tr tr]) (by simp [results,Tryz.results266,go_sem]) rfl ?_
   exact ⟨gQ,gR,by rw [HQN.o,HRN.o],by rw [HQL.o];exact HQI.o.takeT _,by rw [HRL.o];exact HRI.o.takeT _,HB.o⟩
theorem zxs (n t:Nat):Fits (oneF n t):=by unfold oneF Fits;split <;> (try split) <;> omega
def RetP (w:World)(L:List Int)(e:Ending)(w':World):Prop:=∃ g c,e = .returned (.slice (some ⟨g,0,none⟩) L.length c)/\Ints w' w'.heap.size (some ⟨g,0,none⟩) L/\Below w.heap.size w w'
theorem zxt : ∀ (f n:Nat) (w:World),1<=n->n<=24->okC f n=true->Calls Tryz.prog 268 #[.int .i64 n] w (RetP w (cycI f n)):=by
 intro f
 induction f with
 | zero=>intro n w _ _ h;cases h
 | succ f ih =>
  intro n w hn1 hn2 ho
  have hon:okG (lenC f) (okC f) n n=true:=ho
  have HIH:=Zh (fun n w h1 h2 h3=>ih n w h1 h2 h3)
  have HST:=Zh (fun d (hd:d+1<=n) (h:1<=d/\n % d=0)=>zxh f n d (zix _ _ _ hon hd) hn1 h)
  have HGS:=Zh (fun d (hd:d<=n)=>show 1<=(cycG quoI (cycI f) n d).length/\(cycG quoI (cycI f) n d).length<=n+1 by
   obtain ⟨a,b,c⟩:=zxi f n hn1 d (zix _ _ _ hon hd)
   rw [a]
   exact ⟨c.1,by rw [b];exact ziy _ _ _ _ (zix _ _ _ hon hd)⟩)
  have HCS:=Zh (fun d (h1:1<=d) (h:okC f d=true)=>show 1<=(cycI f d).length/\(cycI f d).length<=d+1 by
   obtain ⟨a,b,c⟩:=zf8 f d h1 h
   rw [a]
   exact ⟨c.1,by rw [b];exact znp f d h⟩)
  have HGN:=Zh (show cycI (f+1) n=cycG quoI (cycI f) n n from rfl)
  have HG1:=Zh (show cycG quoI (cycI f) n 1=lstF (oneF n) (n+1) by
   show (if 1<=0/\n % 0=0 then _ else _)=_
   rw [if_neg (by omega)];rfl)
  have HGD:=Zh (fun d=>show cycG quoI (cycI f) n (d+1)=if 1<=d/\n % d=0 then quoI (cycG quoI (cycI f) n d) (cycI f d) else cycG quoI (cycI f) n d from rfl)
  obtain ⟨N,hN⟩ : ∃ N,n+1=N:=⟨_,rfl⟩
  rw [hN] at HGS HG1
  have hmk:=fun V:World=>zda N (by omega) V
  have hw1:IntKind.i64.wrap ((n:Int)+1)=(N:Int):=by rw [i64w (by omega)];omega
  have HT0:=Zh (zee w N 3)
  have HB0:=Zh ((Below.refl w.heap.size w).alloc (Nat.le_refl _) (.cells (madeCells #[.int .i64 0] N) 3))
  have HT1:=Zh (HT0.o.set_ (g:=fun t=>if t=0 then -1 else 0) 0 (-1) (by omega) rfl (fun t _ ht=>if_neg ht))
  have HT2:=Zh (HT1.o.set_ (g:=oneF n) n 1 (by omega) (by unfold oneF;rw [if_neg (by omega),if_pos rfl]) (fun t _ ht=>by unfold oneF;rw [if_neg ht]))
  have HB2:=Zh ((HB0.o.setCell (p:=⟨w.heap.size,0,none⟩) (Nat.le_refl _) (.int .i64 (-1))).setCell (p:=⟨w.heap.size,n,none⟩) (Nat.le_refl _) (.int .i64 1))
  have hc0:=(HT0.o.2 0 (by omega)).1
  have hcn:=(HT0.o.2 n (by omega)).1
  have hf0:=HT0.o.frz (t:=0) (by omega)
  have hfn:=HT0.o.frz (t:=n) (by omega)
  have hcn1:((w.alloc (.cells (madeCells #[.int .i64 0] N) 3)).setCell ⟨w.heap.size,0,none⟩ (.int .i64 (-1))).cell? ⟨w.heap.size,n,none⟩=some (.int .i64 0):=HT1.o.get (t:=n) (by omega) (if_neg (by omega))
  have hfn1:=HT1.o.frz (t:=n) (by omega)
  have hn0:(0:Int)<=(n:Int):=Int.natCast_nonneg _
  have hnl:(n:Int)<(N:Int):=by omega
  have hz0:(0:Int)<(N:Int):=by omega
  have HN:=Zh hN
  have hN25:N<=25:=by omega
  have hn00:(n=0)=False:=eq_false (by omega)
  have hn01:(0=n)=False:=eq_false (by omega)
  clear ih ho hon hN
  go_enter Tryz.func268,Tryz.ntmps268
  go_upto_region 2 with fail
  generalize w.alloc (.cells (madeCells #[.int .i64 0] N) 3)=W at *
  go_wp2_with fail
  go_loopw [3,4] (fun so i wr=>∃ (d g c:Nat),1<=d/\d<=n/\i = .int .i64 d/\so = .slice (some ⟨g,0,none⟩) (cycG quoI (cycI f) n d).length c/\Ints wr wr.heap.size (some ⟨g,0,none⟩) (cycG quoI (cycI f) n d)/\Below w.heap.size w wr) (fun _ i _=>n-(intOf i).toNat)
  case atStart =>
   refine ⟨1,w.heap.size,N,Nat.le_refl _,hn1,rfl,?_,?_,HB2.o⟩
   ·rw [HG1.o,za8]
   ·rw [HG1.o]
    exact HT2.o.intsT (by unfold maxLen;omega) (fun t _=>zxs n t) 0
  case round =>
   obtain ⟨d,g,c,hd1,hd,rfl,rfl,hin,hbel⟩:=hrel
   obtain ⟨wo,rfl⟩ : ∃ wo:World,wo=wr:=⟨_,rfl⟩
   have HI:=Zh hin
   have HB:=Zh hbel
   clear hin hbel hc0 hcn hf0 hfn hcn1 hfn1
   by_cases hlt:d<n
   ·have hdi:(d:Int)<(n:Int):=by omega
    have hnz:((d:Int)=0)=False:=eq_false (by omega)
    have hnz2:(d=0)=False:=eq_false (by omega)
    have hrm:(n:Int).tmod (d:Int)=((n % d:Nat):Int):=by rw [Int.tmod_eq_emod_of_nonneg (by omega)];omega
    have hml:n % d<d:=Nat.mod_lt _ (by omega)
    have hw2:IntKind.i64.wrap ((n % d:Nat):Int)=((n % d:Nat):Int):=i64w (by omega)
    have hgd:=HGD.o d
    have hgs:=HGS.o d (by omega)
    by_cases hm:n % d=0
    ·rw [if_pos ⟨hd1,hm⟩] at hgd
     have HG:=Zh hgd
     have hst:=HST.o d (by omega) ⟨hd1,hm⟩
     have HCY:=Zh (fun V=>HIH.o d V hd1 (by omega) hst.1)
     have hcs:=HCS.o d hd1 hst.1
     have HDV:=Zh (fun A1 A2 c1 c2 V h1 h2=>znq A1 A2 c1 c2 (cycG quoI (cycI f) n d) (cycI f d) V h1 h2 hgs.1 (by omega) hcs.1 (by omega))
     rw [hm] at hrm hw2
     clear hgd hst hcs hgs
     generalize cycG quoI (cycI f) n d=X at *
     generalize cycI f d=Y at *
     go_wp2_with fail
     refine (HCY.o _).mono ?_
     rintro e w2 ⟨g2,c2,rfl,hi2,hb2⟩
     have HI2:=Zh hi2
     have HX2:=Zh (HI.o.lift hb2)
     have HB2:=Zh (HB.o.trans (hb2.mono HB.o.size))
     clear hi2 hb2
     go_wp2_with fail
     refine (HDV.o _ _ _ _ _ HX2.o HI2.o).mono ?_
     rintro e w3 ⟨g3,g4,rfl,hi3,hi4,hb3⟩
     have HI3:=Zh hi3
     have HB3:=Zh (HB2.o.trans (hb3.mono HB2.o.size))
     clear hi3 hi4 hb3
     generalize quoI X Y=Q at *
     go_wp2_with fail
     go_roundw
     case rel=>exact ⟨d+1,g3,Q.length,by omega,by omega,by go_num,by rw [HG.o],by rw [HG.o];exact HI3.o,HB3.o⟩
     case measure=>simp [intOf];omega
    ·rw [if_neg (fun h=>hm h.2)] at hgd
     have HG:=Zh hgd
     have hmz:((n % d:Nat):Int)≠0:=by omega
     generalize n % d=m at *
     have hme:((m:Int)==0)=false:=beq_eq_false_iff_ne.2 hmz
     clear hgd hgs
     generalize cycG quoI (cycI f) n d=X at *
     go_wp2_with fail
     go_roundw
     case rel=>exact ⟨d+1,g,c,by omega,by omega,by go_num,by rw [HG.o],by rw [HG.o];exact HI.o,HB.o⟩
     case measure=>simp [intOf];omega
   ·have hde:d=n:=by omega
    subst hde
    have hdi : ¬ (d:Int)<(d:Int):=by omega
    generalize cycG quoI (cycI f) d d=X at *
    go_wp2_with fail
    go_ret
    rw [HGN.o]
    exact ⟨g,c,rfl,HI.o,HB.o⟩
theorem zxu (w:World) :
  Calls Tryz.prog 320 #[.slice none 0 0] w fun e w'=>e = .returned (.slice none 0 0)/\w=w':=by
 go_enter Tryz.func320,Tryz.ntmps320
 go_wp2_with fail
 go_ret
 exact ⟨rfl,rfl⟩
theorem zxv (w:World) :
  Calls Tryz.prog 303 #[.slice none 0 0] w fun e w'=>e = .returned (.slice none 0 0)/\w=w':=by
 have HCL:=Zh (zxu w)
 go_enter Tryz.func303,Tryz.ntmps303
 go_wp2_with fail
 go_loop [0] (fun a=>a = .slice none 0 0) (fun _=>0)
 case atStart=>exact rfl
 case round =>
  obtain rfl:=hrel
  go_wp2_with fail
  refine HCL.o.mono ?_
  rintro e w1 ⟨rfl,rfl⟩
  go_wp2_with fail
  go_ret
  exact ⟨rfl,rfl⟩
theorem zxw (A:Option Addr)(c:Nat)(w:World)(base:Nat)(h:OwnI w base (.slice A ([]:List Int).length c) []) :
  Calls Tryz.prog 303 #[.slice A 0 c] w fun e w'=>(∃ A',e = .returned (.slice A' 0 0))/\w=w':=by
 rcases h.2 with ⟨hv,_⟩ | ⟨g,cap',cur,hv,_⟩
 ·injection hv with h1 h2 h3
  subst h1 h3
  refine (zxv w).mono ?_
  rintro e w' ⟨rfl,rfl⟩
  exact ⟨⟨_,rfl⟩,rfl⟩
 ·injection hv with h1 h2 h3
  subst h1
  refine (zeu g 0 c (fun _=>0) 0 w w.heap.size ⟨Nat.zero_le _,(by intro x hx;cases hx),fun h=>absurd h (Nat.lt_irrefl 0)⟩ (by omega) (Nat.zero_le _)).mono ?_
  rintro e w' ⟨rfl,rfl⟩
  exact ⟨⟨_,rfl⟩,rfl⟩
theorem zxx (A1 A2:Option Addr)(c1 c2:Nat)(b:List Int)(w:World)(hb1:1<=b.length)(hb2:b.length<=100) :
  Calls Tryz.prog 266 #[.slice A1 0 c1,.slice A2 b.length c2] w fun e w'=>(∃ A3 A4,e = .returned (.tuple #[.slice A3 0 0,.slice A4 0 0]))/\Below w.heap.size w w':=by
 have HCL:=Zh (zei A1 c1 [] w ⟨Nat.zero_le _,(by intro x hx;cases hx),fun h=>absurd h (Nat.lt_irrefl 0)⟩ (by decide))
 have hmk : ∀ V:World,(Instr.makeSlice 25 (.int .i64 0) (.int .i64 0)).run Tryz.prog V = .ok (.slice (some ⟨V.heap.size,0,none⟩) 0 0) (V.alloc (.cells (madeCells #[.int .i64 0] 0) 3)):=fun V=>zda 0 (by omega) V
 have HE1:=Zh (fun g V=>zeu g 0 0 (fun _=>0) 0 V V.heap.size ⟨Nat.zero_le _,(by intro x hx;cases hx),fun h=>absurd h (Nat.lt_irrefl 0)⟩ (by omega) (Nat.le_refl _))
 go_enter Tryz.func266,Tryz.ntmps266
 go_wp2_with fail
 refine HCL.o.mono ?_
 rintro e w1 ⟨v1,rfl,hown,hb⟩
 obtain ⟨AR,cR,rfl⟩:=hown.form
 have HB1:=Zh hb
 have hz1:=hb.size
 have HO:=Zh hown
 clear hown hb
 have hbn:(b=[])=False:=eq_false (fun h=>by subst h;simp at hb1)
 have hw0:IntKind.i64.wrap (-(b.length:Int)) = -(b.length:Int):=i64w (by omega)
 have hw1:IntKind.i64.wrap (0-(b.length:Int)) = -(b.length:Int):=by rw [i64w (by omega)];omega
 go_wp2_with fail
 have HB2:=Zh (HB1.o.alloc hz1 (.cells (madeCells #[.int .i64 0] 0) 3))
 have HO2:=Zh (HO.o.alloc (.cells (madeCells #[.int .i64 0] 0) 3))
 generalize w1.alloc (.cells (madeCells #[.int .i64 0] 0) 3)=W at *
 obtain ⟨gQ,hgQ⟩ : ∃ g,w1.heap.size=g:=⟨_,rfl⟩
 rw [hgQ]
 go_loopw [8] (fun i wr=>i = .int .i64 (-(b.length:Int))/\wr=W) (fun _ _=>0)
 case atStart=>exact ⟨rfl,rfl⟩
 case round =>
  obtain ⟨rfl,rfl⟩:=hrel
  have HE2:=Zh (zxw AR cR _ _ HO2.o)
  go_wp2_with fail
  refine (HE1.o gQ _).mono ?_
  rintro e w2 ⟨rfl,rfl⟩
  go_wp2_with fail
  refine HE2.o.mono ?_
  rintro e w3 ⟨⟨A5,rfl⟩,rfl⟩
  rw [show za3 (fun _=>0) 0=0 from rfl]
  go_wp2_with fail
  refine bodyPost_ret (v:=.tuple #[.slice (some ⟨gQ,0,none⟩) 0 0,.slice A5 0 0]) (by simp [results,Tryz.results266,go_sem]) rfl ?_
  exact ⟨⟨_,_,rfl⟩,HB2.o⟩
def rstN (N:Nat)(bs:List Int)(d:Nat):Nat:=(rstL (polL N bs) (cycI 24 d)).length
theorem zxy {N:Nat}{bs:List Int}{d:Nat}(h:(polL N bs).length=0):rstN N bs d=0:=by
 have:=znm (divF (polL N bs) (cycI 24 d) (divM (polL N bs) (cycI 24 d))) (polL N bs).length
 unfold rstN rstL
 omega
theorem zxz (N d:Nat)(A:Option Addr)(cap:Nat)(bs:List Int)(w:World)(hA:Ints w w.heap.size A bs)(hok:RhOk N bs)(hd1:1<=d)(hd2:d<=24) :
  Calls Tryz.prog 232 #[.agg #[.int .i64 N,.slice A bs.length cap],.int .i64 d] w fun e w'=>(∃ A' c,e = .returned (.slice A' (rstN N bs d) c))/\Below w.heap.size w w':=by
 have hn1:1<=N:=by have:=hok.1;omega
 have hn2:N<=24:=by have:=hok.2.1;omega
 have hfN:Fits (N:Int):=by unfold Fits;omega
 have hr:rhB N bs=true:=zao.2 hok
 have HRO:=Zh (fun V h=>hr ▸ zav N A cap bs V hfN h)
 have HPO:=Zh (fun V h=>zxl N A cap bs V h hok)
 have hoc:=zxf d (by omega) hd1
 have HCY:=Zh (fun V=>zxt 24 d V hd1 hd2 hoc)
 obtain ⟨hcs,hcl,hcm⟩:=zf8 24 d hd1 hoc
 have hc1:1<=(cycI 24 d).length:=by rw [hcs];exact hcm.1
 have hc2:(cycI 24 d).length<=100:=by rw [hcs,hcl];have:=znp 24 d hoc;omega
 have hpl:(polL N bs).length<=24:=Nat.le_trans (znm _ _) hn2
 have hin:inB (d:Int) 1 24=true:=za1 ⟨by omega,by omega⟩
 have HBW:=Zh ((Below.refl w.heap.size w).alloc (Nat.le_refl _) (.cells #[.int .i64 N,.slice A (bs).length cap] 27))
 have HVA:=Zh (Hav.boxed hA N cap)
 have HDV:=Zh (fun (h:1<=(polL N bs).length) A1 A2 c1 c2 V h1 h2=>znq A1 A2 c1 c2 (polL N bs) (cycI 24 d) V h1 h2 h (by omega) hc1 hc2)
 have HDZ:=Zh (fun A1 A2 c1 c2 V=>zxx A1 A2 c1 c2 (cycI 24 d) V hc1 hc2)
 have HRZ:=Zh (fun (h:(polL N bs).length=0)=>(zxy h:rstN N bs d=0))
 have HRN:=Zh (show rstN N bs d=(rstL (polL N bs) (cycI 24 d)).length from rfl)
 generalize rstN N bs d=rn at *
 generalize cycI 24 d=Y at *
 generalize polL N bs=X at *
 clear hA hok hr hoc hcs hcl hcm
 obtain ⟨⟨p0,p1,_,_,_⟩,_⟩:=HVA.o
 go_enter Tryz.func232,Tryz.ntmps232
 go_wp2_with fail
 generalize w.alloc (.cells #[.int .i64 N,.slice A (bs).length cap] 27)=W at *
 refine (HRO.o _ HVA.o.2).mono ?_
 rintro e w1 ⟨rfl,hb⟩
 have HBW:=Zh (HBW.o.trans (hb.mono HBW.o.size))
 try have HVA:=Zh (HVA.o.lift hb)
 try have HVT:=Zh (HVT.o.lift hb)
 try have HVX:=Zh (HVX.o.lift hb)
 clear hb
 clear p0 p1
 obtain ⟨⟨p0,p1,_,_,_⟩,_⟩:=HVA.o
 go_wp2_with (go_at_call 22;refine (zac _ _ _ _).mono ?_;rintro e w' ⟨rfl,rfl⟩)
 refine (HPO.o _ HVA.o.2).mono ?_
 rintro e w2 ⟨A2,rfl,hI2,_,hb⟩
 have HBW:=Zh (HBW.o.trans (hb.mono HBW.o.size))
 try have HVA:=Zh (HVA.o.lift hb)
 try have HVT:=Zh (HVT.o.lift hb)
 try have HVX:=Zh (HVX.o.lift hb)
 clear hb
 have HVX:=Zh hI2
 clear hI2 p0 p1
 go_wp2_with fail
 refine (HCY.o _).mono ?_
 rintro e w3 ⟨g3,c3,rfl,hI3,hb⟩
 have HBW:=Zh (HBW.o.trans (hb.mono HBW.o.size))
 try have HVA:=Zh (HVA.o.lift hb)
 try have HVT:=Zh (HVT.o.lift hb)
 try have HVX:=Zh (HVX.o.lift hb)
 clear hb
 have HVT:=Zh hI3
 clear hI3
 by_cases h0:X.length=0
 ·have HZ:=Zh (HRZ.o h0)
  have hX0:X=[]:=List.eq_nil_of_length_eq_zero h0
  subst hX0
  go_wp2_with fail
  refine (HDZ.o A2 _ 0 c3 _).mono ?_
  rintro e w4 ⟨⟨A4,A5,rfl⟩,hb⟩
  have HBW:=Zh (HBW.o.trans (hb.mono HBW.o.size))
  try have HVA:=Zh (HVA.o.lift hb)
  try have HVT:=Zh (HVT.o.lift hb)
  try have HVX:=Zh (HVX.o.lift hb)
  clear hb
  go_wp2_with fail
  go_ret
  exact ⟨⟨A5,0,by rw [HZ.o];rfl⟩,HBW.o⟩
 ·have HD:=Zh (HDV.o (by omega))
  go_wp2_with fail
  refine (HD.o _ _ _ _ _ HVX.o HVT.o).mono ?_
  rintro e w4 ⟨g4,g5,rfl,_,_,hb⟩
  have HBW:=Zh (HBW.o.trans (hb.mono HBW.o.size))
  try have HVA:=Zh (HVA.o.lift hb)
  try have HVT:=Zh (HVT.o.lift hb)
  try have HVX:=Zh (HVX.o.lift hb)
  clear hb
  go_wp2_with fail
  go_ret
  exact ⟨⟨some ⟨g5,0,none⟩,_,by rw [HRN.o];rfl⟩,HBW.o⟩
def vanB (N:Nat)(bs:List Int)(d:Nat):Bool:=decide (rstN N bs d=0)
theorem zx0 (N d:Nat)(A:Option Addr)(cap:Nat)(bs:List Int)(w:World)(hA:Ints w w.heap.size A bs)(hok:RhOk N bs)(hd1:1<=d)(hd2:d<=24) :
  Calls Tryz.prog 178 #[.agg #[.int .i64 N,.slice A bs.length cap],.int .i64 d] w fun e w'=>e = .returned (.bool (vanB N bs d))/\Below w.heap.size w w':=by
 have hn2:N<=24:=by have:=hok.2.1;omega
 have hfN:Fits (N:Int):=by unfold Fits;omega
 have hr:rhB N bs=true:=zao.2 hok
 have HRO:=Zh (fun V h=>hr ▸ zav N A cap bs V hfN h)
 have HRB:=Zh (fun V h=>zxz N d A cap bs V h hok hd1 hd2)
 have hin:inB (d:Int) 1 24=true:=za1 ⟨by omega,by omega⟩
 have HV:=Zh (show vanB N bs d=((rstN N bs d:Int)==0) by
  unfold vanB
  cases h:((rstN N bs d:Int)==0)
  ·rw [beq_eq_false_iff_ne] at h;exact decide_eq_false (by omega)
  ·rw [beq_iff_eq] at h;exact decide_eq_true (by omega))
 have HBW:=Zh ((Below.refl w.heap.size w).alloc (Nat.le_refl _) (.cells #[.int .i64 N,.slice A (bs).length cap] 27))
 have HVA:=Zh (Hav.boxed hA N cap)
 generalize rstN N bs d=rn at *
 clear hA hok hr
 obtain ⟨⟨p0,p1,_,_,_⟩,_⟩:=HVA.o
 go_enter Tryz.func178,Tryz.ntmps178
 go_wp2_with fail
 generalize w.alloc (.cells #[.int .i64 N,.slice A (bs).length cap] 27)=W at *
 refine (HRO.o _ HVA.o.2).mono ?_
 rintro e w1 ⟨rfl,hb⟩
 have HBW:=Zh (HBW.o.trans (hb.mono HBW.o.size))
 try have HVA:=Zh (HVA.o.lift hb)
 try have HRB:=Zh (HRB.o.trans (hb.mono HRB.o.size))
 clear hb
 clear p0 p1
 obtain ⟨⟨p0,p1,_,_,_⟩,_⟩:=HVA.o
 go_wp2_with (go_at_call 22;refine (zac _ _ _ _).mono ?_;rintro e w' ⟨rfl,rfl⟩)
 refine (HRB.o _ HVA.o.2).mono ?_
 rintro e w2 ⟨⟨A2,c2,rfl⟩,hb⟩
 have HBW:=Zh (HBW.o.trans (hb.mono HBW.o.size))
 try have HVA:=Zh (HVA.o.lift hb)
 try have HRB:=Zh (HRB.o.trans (hb.mono HRB.o.size))
 clear hb
 go_wp2_with fail
 go_ret
 exact ⟨zaq HV.o.symm,HBW.o⟩
theorem zx1 (N d g:Nat)(A:Option Addr)(cap:Nat)(bs:List Int)(w:World)(hA:Hav w N g A cap bs)(hok:RhOk N bs)(hd1:1<=d)(hd2:d<=24) :
  Calls Tryz.prog 177 #[.int .i64 d,.pointer (some ⟨g,0,none⟩)] w fun e w'=>e = .returned (.bool (decide (d=1) || !vanB N bs d))/\Below w.heap.size w w':=by
 have HVV:=Zh (fun V h=>zx0 N d A cap bs V h hok hd1 hd2)
 have HVA:=Zh hA
 generalize vanB N bs d=v at *
 clear hA hok
 obtain ⟨⟨p0,p1,_,_,_⟩,_⟩:=HVA.o
 go_enter Tryz.func177,Tryz.ntmps177
 by_cases hd:(d:Int)=1
 ·have hd':d=1:=by omega
  subst hd'
  go_wp2_with fail
  go_ret
  exact ⟨rfl,Below.refl _ _⟩
 ·have hd' : ¬ d=1:=by omega
  have HD1:=Zh (show decide (d=1)=false from decide_eq_false hd')
  rw [HD1.o,Bool.false_or]
  go_wp2_with fail
  refine (HVV.o _ HVA.o.2).mono ?_
  rintro e w1 ⟨rfl,hb⟩
  go_wp2_with fail
  go_ret
  exact ⟨zaq (by rw [show ((d:Int)==1)=false from beq_eq_false_iff_ne.2 hd,Bool.false_or]),hb⟩
def drpB (N:Nat)(bs:List Int)(x:Int):Bool:=decide (x=1) || !vanB N bs x.toNat
theorem znr (N g:Nat)(x:Int)(A:Option Addr)(cap:Nat)(bs:List Int)(w:World)(hA:Hav w N g A cap bs)(hok:RhOk N bs)(hx:1<=x/\x<=24) :
  Calls Tryz.prog 177 #[.int .i64 x,.pointer (some ⟨g,0,none⟩)] w fun e w'=>e = .returned (.bool (drpB N bs x))/\Below w.heap.size w w':=by
 obtain ⟨d,rfl⟩ : ∃ d:Nat,x=d:=⟨x.toNat,by omega⟩
 have h:=zx1 N d g A cap bs w hA hok (by omega) (by omega)
 have e1:drpB N bs (d:Int)=(decide (d=1) || !vanB N bs d):=by
  unfold drpB
  rw [Int.toNat_natCast]
  by_cases hd:d=1
  ·subst hd;rfl
  ·rw [decide_eq_false hd,decide_eq_false (by omega)]
 rw [e1]
 exact h
theorem zx2 (N g:Nat)(A C:Option Addr)(cap cap':Nat)(bs xs:List Int)(w:World)(hA:Hav w N g A cap bs)(hok:RhOk N bs)(hC:Ints w w.heap.size C xs)(hxs : ∀ x∈xs,1<=x/\x<=24) :
  Calls Tryz.prog 231 #[.slice C xs.length cap',.func (.func 177) #[] #[.pointer (some ⟨g,0,none⟩)]] w fun e w'=>(∃ r:Int,e = .returned (.int .i64 r)/\((r = -1 /\ ∀ j,j<xs.length->drpB N bs (xs.getD j 0)=false)\/(∃ k:Nat,r=k/\k<xs.length/\drpB N bs (xs.getD k 0)=true /\ ∀ j,j<k->drpB N bs (xs.getD j 0)=false)))/\Below w.heap.size w w':=by
 obtain ⟨hlen,hfit,hcells⟩:=hC
 unfold maxLen at hlen
 have HC:=Zh hcells
 have HIN:=Zh (fun (k:Nat) (h:k<xs.length)=>hxs (xs.getD k 0) (by rw [List.getD_eq_getElem?_getD,List.getElem?_eq_getElem h];exact List.getElem_mem h))
 have HCL:=Zh (fun (x:Int) (V:World) (hV:Below w.heap.size w V) (hx:1<=x/\x<=24)=>znr N g x A cap bs V (hA.lift hV) hok hx)
 clear hfit hcells hA hok hxs
 go_enter Tryz.func231,Tryz.ntmps231
 go_wp2
 go_loopw [5,8] (fun _ i wr=>∃ k:Nat,k<=xs.length/\i = .int .i64 k/\Below w.heap.size w wr /\ ∀ j,j<k->drpB N bs (xs.getD j 0)=false) (fun _ i _=>xs.length-(intOf i).toNat)
 case atStart=>exact ⟨0,Nat.zero_le _,rfl,Below.refl _ _,fun j h=>by omega⟩
 case round =>
  obtain ⟨k,hk,rfl,hbel,hno⟩:=hrel
  have HNO:=Zh hno
  clear hno
  by_cases hlt:k<xs.length
  ·obtain ⟨b,off,rfl,hB,hc⟩:=HC.o (by omega)
   have hcell:=hc k hlt
   rw [<- hbel.cell (p:=⟨b,off+k,none⟩) hB] at hcell
   have hin:=HIN.o k hlt
   obtain ⟨y,hy⟩ : ∃ y,xs.getD k 0=y:=⟨_,rfl⟩
   rw [hy] at hcell hin
   have HY:=Zh hy
   clear hy hc
   have HCY:=Zh (HCL.o y wr hbel hin)
   clear hin
   cases hxy:drpB N bs y
   ·have HX:=Zh hxy
    rw [hxy] at HCY
    clear hxy
    go_wp2_with (go_at_call 177;refine HCY.o.mono ?_;rintro e w1 ⟨rfl,hb1⟩)
    go_roundw
    case rel =>
     refine ⟨k+1,by omega,by go_num,hbel.trans (hb1.mono hbel.size),fun j hj=>?_⟩
     by_cases e:j=k
     ·subst e;rw [HY.o];exact HX.o
     ·exact HNO.o j (by omega)
    case measure=>simp [intOf];omega
   ·have HX:=Zh hxy
    rw [hxy] at HCY
    clear hxy
    go_wp2_with (go_at_call 177;refine HCY.o.mono ?_;rintro e w1 ⟨rfl,hb1⟩)
    go_ret
    exact ⟨⟨_,rfl,Or.inr ⟨k,rfl,hlt,by rw [HY.o];exact HX.o,HNO.o⟩⟩,hbel.trans (hb1.mono hbel.size)⟩
  ·go_wp2
   go_ret
   exact ⟨⟨_,rfl,Or.inl ⟨rfl,fun j hj=>HNO.o j (by omega)⟩⟩,hbel⟩
end Go.Proofs.YtjpnjchpdkogbaaGreatDoor
