/- Parts of the proof of the card of the law FnConsole. -/
import Derived.Test.YtjpnjchpdkogbaaGreatDoorG04
set_option linter.unusedVariables false
set_option linter.unusedSimpArgs false
set_option maxRecDepth 100000
set_option maxHeartbeats 1000000
namespace Go.Proofs.YtjpnjchpdkogbaaGreatDoor
open Go.RowKit
def codI (N:Nat)(X:List Int):Nat:=zbk N X X.length
def aftB (N:Nat)(a b:List Int):Bool:=decide (codI N b<codI N a)
theorem zb7 {N:Nat}{X:List Int}(h:RhOk N X)(b:Nat)(hb:b<N):(codI N X).testBit b=hasB X ((N:Int)-1-b) :=
 zrx N X (by have:=h.1;omega) h.2.2.1 b (by omega)
theorem zhk {N:Nat}{X:List Int}(h:RhOk N X):codI N X<2 ^ N:=by
 have:=zhd N X (by have:=h.1;omega) h.2.2.1 X.length (Nat.le_refl _)
 rwa [Int.toNat_natCast] at this
theorem zhl {N:Nat}{X:List Int}(h:RhOk N X):codI N X<16777216:=by
 have h1:=zhk h
 have h2:(2:Nat) ^ N<=2 ^ 24:=Nat.pow_le_pow_right (by omega) (by have:=h.2.1;omega)
 omega
theorem zhm {N:Nat}{X:List Int}(h:RhOk N X)(b:Nat)(hb:N<=b):(codI N X).testBit b=false :=
 Nat.testBit_lt_two_pow (Nat.lt_of_lt_of_le (zhk h) (Nat.pow_le_pow_right (by omega) hb))
theorem zk9 {x y:Nat}(i:Nat)(hx:x.testBit i=false)(hy:y.testBit i=true)(hxy : ∀ j,i<j->x.testBit j=y.testBit j):x<y:=by
 have e:x / 2 ^ i / 2=y / 2 ^ i / 2:=by
  rw [Nat.div_div_eq_div_mul,Nat.div_div_eq_div_mul,<- Nat.pow_succ]
  refine Nat.eq_of_testBit_eq fun j=>?_
  rw [Nat.testBit_div_two_pow,Nat.testBit_div_two_pow]
  exact hxy _ (by omega)
 rw [Nat.testBit_eq_decide_div_mod_eq] at hx hy
 have h1:=of_decide_eq_false hx
 have h2:=of_decide_eq_true hy
 have h3:y / 2 ^ i=x / 2 ^ i+1:=by omega
 have h4:=Nat.div_mul_le_self y (2 ^ i)
 have h5:x<(x / 2 ^ i+1)*2 ^ i:=(Nat.div_lt_iff_lt_mul (Nat.two_pow_pos i)).1 (Nat.lt_succ_self _)
 rw [h3] at h4
 omega
theorem z5y {N:Nat}{a b:List Int}{p:Nat}(ha:RhOk N a)(hb:RhOk N b)(hp:p<N)(hs : ∀ q:Nat,q<p->hasB a q=hasB b q)(hd:hasB a p≠hasB b p):aftB N a b=hasB a p:=by
 have e:(N:Int)-1-((N-1-p:Nat):Int)=p:=by omega
 have ba:=zb7 ha (N-1-p) (by omega)
 have bb:=zb7 hb (N-1-p) (by omega)
 rw [e] at ba bb
 have hj : ∀ j,N-1-p<j->(codI N a).testBit j=(codI N b).testBit j:=fun j hj=>by
  by_cases hn:j<N
  ·rw [zb7 ha j hn,zb7 hb j hn,show (N:Int)-1-j=((N-1-j:Nat):Int) by omega]
   exact hs _ (by omega)
  ·rw [zhm ha j (by omega),zhm hb j (by omega)]
 unfold aftB
 cases h1:hasB a p
 ·have h2:hasB b p=true:=by
   cases h3:hasB b p
   ·exact absurd (h1.trans h3.symm) hd
   ·rfl
  rw [h1] at ba;rw [h2] at bb
  exact decide_eq_false (Nat.not_lt_of_le (Nat.le_of_lt (zk9 (N-1-p) ba bb hj)))
 ·have h2:hasB b p=false:=by
   cases h3:hasB b p
   ·rfl
   ·exact absurd (h1.trans h3.symm) hd
  rw [h1] at ba;rw [h2] at bb
  exact decide_eq_true (zk9 (N-1-p) bb ba (fun j h=>(hj j h).symm))
theorem zla {N:Nat}{X:List Int}(h:RhOk N X):zcf N (codI N X) N=X:=by
 refine zcq (zhe N _ N) (zc2 h) fun x=>?_
 rw [zk3]
 constructor
 ·rintro ⟨p,hp,hb,rfl⟩
  rw [zb7 h (N-1-p) (by omega),show (N:Int)-1-((N-1-p:Nat):Int)=p by omega] at hb
  unfold hasB at hb
  rwa [decide_eq_true_eq] at hb
 ·intro hx
  have hr:=zba h x hx
  obtain ⟨p,rfl⟩:=Int.eq_ofNat_of_zero_le hr.1
  refine ⟨p,by omega,?_,rfl⟩
  rw [zb7 h (N-1-p) (by omega),show (N:Int)-1-((N-1-p:Nat):Int)=p by omega]
  unfold hasB
  exact decide_eq_true hx
theorem zlb {N:Nat}{a b:List Int}(ha:RhOk N a)(hb:RhOk N b)(h:codI N a=codI N b):a=b:=by
 rw [<- zla ha,<- zla hb,h]
def mvD (m:Nat):Int:=if m % 2=0 then 1 else -1
def mvQ (N:Nat)(bs:List Int)(m:Nat):Int:=(bs.getD (m / 2) 0+mvD m) % N
def mvX (N:Nat)(bs:List Int)(m:Nat):List Int:=ofL (bs.set (m / 2) (mvQ N bs m)) N
def mvL (N:Nat) (bs:List Int):Nat->List (List Int)
 | 0=>[]
 | m+1=>if hasB bs (mvQ N bs m) then mvL N bs m else mvL N bs m++[mvX N bs m]
theorem zfd {N:Nat}(xs:List Int)(h1:1<=N)(h2:N<=24):RhOk N (ofL xs N):=by
 have hs:=zdu xs N
 refine ⟨by omega,by omega,fun i hi=>?_,fun i hi=>?_⟩
 ·obtain ⟨t,ht,_,e⟩:=zde.1 (show (ofL xs N).getD i 0∈ofL xs N by
   rw [List.getD_eq_getElem?_getD,List.getElem?_eq_getElem hi];exact List.getElem_mem hi)
  rw [e];omega
 ·have:=List.pairwise_iff_getElem.1 hs i (i+1) (by omega) hi (by omega)
  rw [List.getD_eq_getElem?_getD,List.getD_eq_getElem?_getD,List.getElem?_eq_getElem hi,List.getElem?_eq_getElem (by omega:i<_)]
  exact this
theorem zcs {N:Nat}{bs:List Int}(hok:RhOk N bs):bs.length<=N:=by
 have:=zfa N bs 0
 rwa [(zdt hok 0).2 (fun t ht=>by rw [show (t:Int)-0=t by omega,Int.emod_eq_of_lt (by omega) (by omega)])] at this
def addL (k:Int)(xs:List Int)(j:Nat):List Int:=(xs.take j).map (· + k)
theorem zr9 {k:Int}{xs:List Int}{j:Nat}{x:Int}(hj:j<xs.length)(hx:xs.getD j 0=x):addL k xs (j+1)=addL k xs j++[x+k]:=by
 unfold addL
 rw [List.take_succ_eq_append_getElem hj,List.map_append,List.map_singleton]
 have:xs[j]=x:=by rw [<- hx,List.getD_eq_getElem?_getD,List.getElem?_eq_getElem hj];rfl
 rw [this]
theorem zlc (k:Int)(xs:List Int)(j:Nat):(addL k xs j).length<=xs.length:=by
 unfold addL
 rw [List.length_map,List.length_take]
 omega
theorem zld {k x:Int}{xs:List Int} : x∈addL k xs xs.length ↔ ∃ y∈xs,y+k=x:=by
 unfold addL
 rw [List.take_length,List.mem_map]
theorem zsa {N:Nat}{bs:List Int}(hok:RhOk N bs)(k:Int)(hk : -1000<=k/\k<=1000)(j:Nat) : ∀ x∈addL k bs j,Fits x:=by
 intro x hx
 unfold addL at hx
 rw [List.mem_map] at hx
 obtain ⟨y,hy,rfl⟩:=hx
 have:=zba hok y (List.mem_of_mem_take hy)
 have:=hok.2.1
 unfold Fits
 omega
theorem zsb {N:Nat}{bs:List Int}(hok:RhOk N bs)(k:Int):zak (modL N (addL k bs bs.length) (addL k bs bs.length).length)=rotL N bs k:=by
 refine zcq (zcg _).1 (zhg _ _ _) fun x=>?_
 rw [(zcg _).2,zhj,zdc]
 have hN:(0:Int)<N:=by have:=hok.1;omega
 constructor
 ·rintro ⟨y,hy,rfl⟩
  obtain ⟨b,hb,rfl⟩:=zld.1 hy
  have h0:=Int.emod_nonneg (b+k) (show (N:Int)≠0 by omega)
  have h1:=Int.emod_lt_of_pos (b+k) hN
  obtain ⟨t,ht⟩:=Int.eq_ofNat_of_zero_le h0
  refine ⟨t,by omega,?_,ht⟩
  have hr:=zba hok b hb
  rw [<- ht,Int.emod_sub_emod,show b+k-k=b by omega,Int.emod_eq_of_lt hr.1 hr.2]
  unfold hasB
  rw [decide_eq_true_eq]
  exact hb
 ·rintro ⟨t,ht,hb,rfl⟩
  unfold hasB at hb
  rw [decide_eq_true_eq] at hb
  refine ⟨_,zld.2 ⟨_,hb,rfl⟩,?_⟩
  rw [Int.emod_add_emod,show (t:Int)-k+k=t by omega,Int.emod_eq_of_lt (by omega) (by omega)]
theorem zsc (x k:Int)(b:Nat)(w:World)(hx:0<=x/\x<=1000000)(hk : -1000000<=k/\k<=1000000)(hc:w.cell? ⟨b,0,none⟩=some (.int .i64 k)) :
  Calls Tryz.prog 157 #[.int .i64 x,.pointer (some ⟨b,0,none⟩)] w fun e w'=>e = .returned (.int .i64 (x+k))/\w=w':=by
 have h1:IntKind.i64.wrap (x+k)=x+k:=i64w (by omega)
 go_enter Tryz.func157,Tryz.ntmps157
 go_wp2_with fail
 go_ret
 exact ⟨rfl,rfl⟩
theorem zsd (N:Nat)(A:Option Addr)(cap:Nat)(bs:List Int)(k:Int)(b:Nat)(w:World)(hA:Ints w w.heap.size A bs)(hok:RhOk N bs)(hk : -1000<=k/\k<=1000)(hb:b<w.heap.size)(hkc:w.cell? ⟨b,0,none⟩=some (.int .i64 k)) :
  Calls Tryz.prog 156 #[.agg #[.int .i64 N,.slice A bs.length cap],.func (.func 157) #[] #[.pointer (some ⟨b,0,none⟩)]] w (zbr w N (rotL N bs k)):=by
 have hn1:=hok.1
 have hn2:=hok.2.1
 have hlen:=hA.1
 unfold maxLen at hlen
 have hbl:bs.length<=N:=by
  have:=zfa N bs 0
  rwa [(zdt hok 0).2 (fun t ht=>by rw [show (t:Int)-0=t by omega,Int.emod_eq_of_lt (by omega) (by omega)])] at this
 have HC:=Zh hA.2.2
 have HOK:=Zh hok
 have HKC:=Zh hkc
 have hro:=fun (A2:Option Addr) (c2:Nat) (V:World) (hV:Ints V V.heap.size A2 (addL k bs bs.length))=>zdv N A2 c2 (addL k bs bs.length) V hV (by have:=zlc k bs bs.length;omega) hn1 (by omega)
 rw [zsb hok] at hro
 have hrl:=zfa N bs k
 generalize rotL N bs k=R at hro hrl ⊢
 have HRO:=Zh hro
 clear hA hok hkc hro
 have hW0:=((Below.refl w.heap.size w).alloc (Nat.le_refl _) (.cells #[.int .i64 N,.slice A bs.length cap] 27)).alloc (by first | exact Nat.le_refl _ | (simp;done) | (simp;omega) | omega) (.cells #[.int .i64 0,.slice none 0 0] 27)
 have HW:=Zh hW0
 have HG:=Zh ((Cells2.new w (.int .i64 N) (.slice A bs.length cap) 27).alloc (.cells #[.int .i64 0,.slice none 0 0] 27))
 have HN:=Zh (Cells2.new (w.alloc (.cells #[.int .i64 N,.slice A bs.length cap] 27)) (.int .i64 0) (.slice none 0 0) 27)
 obtain ⟨g0,g1,_,_,_⟩:=HG.o
 clear hW0
 go_enter Tryz.func156,Tryz.ntmps156
 go_wp2_with fail
 clear g0 g1
 go_loopw [5,11] (fun so i wr=>∃ j:Nat,j<=bs.length/\i = .int .i64 j/\OwnI wr (w.heap.size+2) so (addL k bs j)/\Below (w.heap.size+2) ((w.alloc (.cells #[.int .i64 N,.slice A bs.length cap] 27)).alloc (.cells #[.int .i64 0,.slice none 0 0] 27)) wr) (fun _ i _=>bs.length-(intOf i).toNat)
 case atStart=>exact ⟨0,Nat.zero_le _,rfl,OwnI.nil _ _,Below.refl _ _⟩
 case round =>
  obtain ⟨j,hj,rfl,hown,hbel⟩:=hrel
  obtain ⟨wo,rfl⟩ : ∃ wo:World,wo=wr:=⟨_,rfl⟩
  have hws:w.heap.size+2<=wo.heap.size:=by have:=hbel.size;simpa using this
  have HBE:=Zh hbel
  have HO:=Zh hown
  obtain ⟨A1,c1,rfl⟩:=hown.form
  have hmk:=zlc k bs j
  clear hbel hown
  obtain ⟨g0,g1,g2,g3,g4⟩:=HG.o.below HBE.o (by simp)
  by_cases hlt:j<bs.length
  ·obtain ⟨b2,off,rfl,hB,hc⟩:=HC.o (by omega)
   have hcell:=((HW.o.trans (HBE.o.mono (by omega))).cell (p:=⟨b2,off+j,none⟩) hB).trans (hc j hlt)
   have hx0:=HOK.o.2.2.1 j hlt
   obtain ⟨x,hx⟩ : ∃ x,bs.getD j 0=x:=⟨_,rfl⟩
   rw [hx] at hcell hx0
   obtain ⟨hx1,hx2⟩:=hx0
   have HSU:=Zh (zr9 (k:=k) hlt hx)
   have hkc2:=((HW.o.trans (HBE.o.mono (by omega))).cell (p:=⟨b,0,none⟩) hb).trans HKC.o
   have HR1:=Zh (zsc x k b wo ⟨hx1,by omega⟩ (by omega) hkc2)
   generalize addL k bs j=L at HO HSU hmk ⊢
   clear hc hx hkc2
   go_wp2_with (first
    | (go_at_call 157;refine HR1.o.mono ?_;rintro e w' ⟨rfl,rfl⟩)
    | (at_builtin;refine za4 rfl (.tmp 15) (.tmp 19) rfl (w.heap.size+2) _ L rfl (HO.o.alloc _) _ _ rfl (zag _ _ _) (by omega) (by simp;omega) ?_;intro v2 w2 hown2 hb2))
   have HO2:=Zh hown2
   have HB2:=Zh ((HBE.o.alloc (by omega) _).trans hb2)
   clear hown2 hb2
   go_wp2_with fail
   go_roundw
   case rel=>exact ⟨j+1,by omega,by go_num,by rw [HSU.o];exact HO2.o,HB2.o⟩
   case measure=>simp [intOf];omega
  ·have hje:j=bs.length:=by omega
   subst hje
   have HI:=Zh (HO.o.ints (zsa HOK.o k hk _))
   generalize addL k bs bs.length=L at HO HRO HI hmk ⊢
   go_wp2_with fail
   refine (HRO.o A1 c1 _ HI.o).mono ?_
   rintro e w2 ⟨A2,c2,rfl,hrw,hb2⟩
   have hz2:=hb2.size
   obtain ⟨f0,f1,f2,f3,f4⟩:=(HN.o.below HBE.o (by simp)).below hb2 (by simp;omega)
   simp only [World.size_alloc] at f0 f1 f2 f3
   go_wp2_with fail
   refine bodyPost_ret (v:=.agg #[.int .i64 N,.slice A2 R.length c2]) (by simp [results,Tryz.results156,go_sem,f0,f1]) rfl ?_
   refine ⟨A2,c2,rfl,?_,?_⟩
   ·exact ((hrw.far (p:=⟨w.heap.size+1,0,none⟩) (by simp;omega) _).far (p:=⟨w.heap.size+1,1,none⟩) (by simp;omega) _).mono (by omega)
   ·exact (((HW.o.trans (HBE.o.mono (by omega))).trans (hb2.mono (by omega))).setCell (by simp) _).setCell (by simp) _
theorem zej (N:Nat)(A:Option Addr)(cap:Nat)(bs:List Int)(k:Int)(w:World)(hA:Ints w w.heap.size A bs)(hok:RhOk N bs)(hk : -1000<=k/\k<=1000) :
  Calls Tryz.prog 99 #[.agg #[.int .i64 N,.slice A bs.length cap],.int .i64 k] w (zbr w N (rotL N bs k)):=by
 have HA:=Zh hA
 have HMV:=Zh (fun (b:Nat) (V:World) hV hb hc=>zsd N A cap bs k b V hV hok hk hb hc)
 generalize rotL N bs k=R at HMV ⊢
 clear hA hok
 have HW:=Zh ((((Below.refl w.heap.size w).alloc (Nat.le_refl _) (.cells #[.int .i64 N,.slice A bs.length cap] 27)).alloc (by first | exact Nat.le_refl _ | (simp;done) | (simp;omega) | omega) (.cells #[.int .i64 k] 3)).alloc (by first | exact Nat.le_refl _ | (simp;done) | (simp;omega) | omega) (.cells #[.int .i64 0,.slice none 0 0] 27))
 have HG:=Zh (((Cells2.new w (.int .i64 N) (.slice A bs.length cap) 27).alloc (.cells #[.int .i64 k] 3)).alloc (.cells #[.int .i64 0,.slice none 0 0] 27))
 have HN:=Zh (Cells2.new ((w.alloc (.cells #[.int .i64 N,.slice A bs.length cap] 27)).alloc (.cells #[.int .i64 k] 3)) (.int .i64 0) (.slice none 0 0) 27)
 have HK:=Zh (show (((w.alloc (.cells #[.int .i64 N,.slice A bs.length cap] 27)).alloc (.cells #[.int .i64 k] 3)).alloc (.cells #[.int .i64 0,.slice none 0 0] 27)).cell? ⟨w.heap.size+1,0,none⟩=some (.int .i64 k) by
  rw [((Below.refl (w.heap.size+2) ((w.alloc (.cells #[.int .i64 N,.slice A bs.length cap] 27)).alloc (.cells #[.int .i64 k] 3))).alloc (by simp) (.cells #[.int .i64 0,.slice none 0 0] 27)).cell (p:=⟨w.heap.size+1,0,none⟩) (by simp)]
  simp)
 obtain ⟨g0,g1,_,_,_⟩:=HG.o
 go_enter Tryz.func99,Tryz.ntmps99
 go_wp2_with fail
 refine (HMV.o (w.heap.size+1) _ (HA.o.lift HW.o) (by simp) HK.o).mono ?_
 rintro e w2 ⟨A2,c2,rfl,hrw,hb2⟩
 have hz2:=hb2.size
 obtain ⟨f0,f1,f2,f3,f4⟩:=HN.o.below hb2 (by simp)
 simp only [World.size_alloc] at f0 f1 f2 f3 hz2 hrw hb2
 go_wp2_with fail
 refine bodyPost_ret (v:=.agg #[.int .i64 N,.slice A2 R.length c2]) (by simp [results,Tryz.results99,go_sem,f0,f1]) rfl ?_
 refine ⟨A2,c2,rfl,?_,?_⟩
 ·exact ((hrw.far (p:=⟨w.heap.size+2,0,none⟩) (by simp) _).far (p:=⟨w.heap.size+2,1,none⟩) (by simp) _).mono (by omega)
 ·exact ((HW.o.trans (hb2.mono (by omega))).setCell (p:=⟨w.heap.size+2,0,none⟩) (Nat.le_add_right _ _) _).setCell (p:=⟨w.heap.size+2,1,none⟩) (Nat.le_add_right _ _) _
theorem zdf (N:Nat)(A:Option Addr)(cap:Nat)(bs:List Int)(k:Nat)(w:World)(hA:Ints w w.heap.size A bs)(hok:RhOk N bs)(hk:k<=1000) :
  Calls Tryz.prog 99 #[.agg #[.int .i64 N,.slice A bs.length cap],.int .i64 k] w (zbr w N (rotL N bs k)) :=
 zej N A cap bs k w hA hok (by omega)
def absI (x:Int):Int:=if 0<=x then x else -x
def sigN (f:Nat->Int):Nat->Int
 | 0=>0
 | m+1=>sigN f m+f m
theorem zse {f g:Nat->Int} : ∀ {m:Nat},(∀ i,i<m->f i=g i)->sigN f m=sigN g m
 | 0,_=>rfl
 | m+1,h=>by
  unfold sigN
  rw [zse (fun i hi=>h i (by omega)),h m (by omega)]
theorem zhn {f g:Nat->Int} : ∀ {m:Nat},(∀ i,i<m->f i<=g i)->sigN f m<=sigN g m
 | 0,_=>Int.le_refl _
 | m+1,h=>by
  unfold sigN
  have:=zhn (f:=f) (g:=g) (m:=m) (fun i hi=>h i (by omega))
  have:=h m (by omega)
  omega
theorem zle {f:Nat->Int} : ∀ {m:Nat},(∀ i,i<m->0<=f i)->0<=sigN f m
 | 0,_=>Int.le_refl _
 | m+1,h=>by
  unfold sigN
  have:=zle (f:=f) (m:=m) (fun i hi=>h i (by omega))
  have:=h m (by omega)
  omega
theorem zsf (f:Nat->Int) : ∀ m,sigN (fun i=>f (i+1)) m=sigN f m-f 0+f m
 | 0=>by unfold sigN;omega
 | m+1=>by
  have:=zsf f m
  unfold sigN
  rw [this];omega
def extB (n:Int)(b:List Int)(t:Int):Int:=b.getD (t % (b.length:Int)).toNat 0+t / (b.length:Int)*n
def Perd (k:Nat)(n:Int)(A:Int->Int):Prop:=∀ t,A (t+k)=A t+n
theorem Perd.mul {k:Nat}{n:Int}{A:Int->Int}(h:Perd k n A)(t:Int) : ∀ j:Nat,A (t+j*k)=A t+j*n/\A (t-j*k)=A t-j*n
 | 0=>by simp
 | j+1=>by
  obtain ⟨h1,h2⟩:=h.mul t j
  have e1:=h (t+j*k)
  have e2:=h (t-(j+1:Nat)*k)
  have x1:((j+1:Nat):Int)*k=j*k+k:=by rw [Int.natCast_add,Int.add_mul];simp
  have x2:((j+1:Nat):Int)*n=j*n+n:=by rw [Int.natCast_add,Int.add_mul];simp
  rw [x1] at e2 ⊢
  rw [x2]
  rw [show t-(j*k+k)+k=t-j*k by omega] at e2
  rw [show t+(j*k+k)=t+j*k+k by omega]
  omega
theorem Perd.muli {k:Nat}{n:Int}{A:Int->Int}(h:Perd k n A)(t j:Int):A (t+j*k)=A t+j*n:=by
 rcases Int.eq_nat_or_neg j with ⟨m,rfl | rfl⟩
 ·exact (h.mul t m).1
 ·have:=(h.mul t m).2
  rw [Int.neg_mul,Int.neg_mul]
  exact this
theorem Perd.red {k:Nat}{n:Int}{A:Int->Int}(h:Perd k n A)(t:Int):A t=A (t % k)+t / k*n:=by
 have:=h.muli (t % k) (t / k)
 rw [<- this]
 congr 1
 have:=Int.emod_add_mul_ediv t k
 rw [Int.mul_comm] at this
 exact this.symm
theorem zho (n:Int)(b:List Int)(hk:1<=b.length):Perd b.length n (extB n b):=by
 intro t
 unfold extB
 rw [Int.add_emod_right,Int.add_ediv_of_dvd_right (Int.dvd_refl _),Int.ediv_self (by omega),Int.add_mul]
 omega
theorem zfe (n:Int)(b:List Int)(i:Nat)(hi:i<b.length):extB n b i=b.getD i 0:=by
 unfold extB
 rw [Int.emod_eq_of_lt (by omega) (by omega),Int.ediv_eq_zero_of_lt (by omega) (by omega),Int.toNat_natCast]
 omega
def farG (A B:Int->Int)(k:Nat)(s:Int):Int:=sigN (fun i=>absI (A i-B (i+s))) k
def zbs (f:Int->Int) (lo:Int):Nat->Int
 | 0=>f lo
 | m+1=>if f (lo+(m+1:Nat))<zbs f lo m then f (lo+(m+1:Nat)) else zbs f lo m
theorem zdw (f:Int->Int)(lo:Int) : ∀ m:Nat,(∀ s,lo<=s->s<=lo+m->zbs f lo m<=f s) /\ ∃ s,lo<=s/\s<=lo+m/\zbs f lo m=f s
 | 0=>⟨fun s h1 h2=>by
   have:s=lo:=by simp at h2;omega
   subst this;exact Int.le_refl _,lo,by omega,by simp,rfl⟩
 | m+1=>by
  obtain ⟨h1,s0,h2,h3,h4⟩:=zdw f lo m
  unfold zbs
  split
  ·rename_i hlt
   refine ⟨fun s a b=>?_,lo+(m+1:Nat),by omega,by omega,rfl⟩
   by_cases e:s=lo+(m+1:Nat)
   ·subst e;exact Int.le_refl _
   ·have:=h1 s a (by omega);omega
  ·rename_i hlt
   refine ⟨fun s a b=>?_,s0,h2,by omega,h4⟩
   by_cases e:s=lo+(m+1:Nat)
   ·subst e;omega
   ·exact h1 s a (by omega)
def farS (n:Int)(a b:List Int)(s:Int):Int:=farG (extB n a) (extB n b) a.length s
def farV (n:Int)(a b:List Int):Int:=zbs (farS n a b) (-(a.length:Int)) (2*a.length)
section
variable {N:Nat} {a b:List Int}
theorem zct (h:RhOk N a)(i:Nat)(hi:i<a.length):0<=extB N a i/\extB N a i<N:=by
 rw [zfe N a i hi];exact h.2.2.1 i hi
theorem zsg (h:RhOk N a)(hk:1<=a.length)(t:Int):extB N a t<extB N a (t+1):=by
 have hp:=zho N a hk
 have h0:=Int.emod_nonneg t (show (a.length:Int)≠0 by omega)
 have h1:=Int.emod_lt_of_pos t (show (0:Int)<a.length by omega)
 obtain ⟨i,hi⟩:=Int.eq_ofNat_of_zero_le h0
 have e1:=hp.red t
 have e2:=hp.muli (t % a.length+1) (t / a.length)
 rw [show t % (a.length:Int)+1+t / a.length*a.length=t+1 by
  have:=Int.emod_add_mul_ediv t a.length;rw [Int.mul_comm] at this;omega] at e2
 rw [e1,e2,hi]
 have hil:i<a.length:=by omega
 have ri:=zct h i hil
 by_cases hl:i+1<a.length
 ·have:=h.2.2.2 i hl
  have x1:=zfe N a i hil
  have x2:=zfe N a (i+1) hl
  rw [Int.natCast_add] at x2
  have x3:((1:Nat):Int)=1:=rfl
  rw [x3] at x2
  omega
 ·have x2:=hp 0
  rw [show (0:Int)+a.length=i+1 by omega] at x2
  have r0:=zct h 0 (by omega)
  rw [show ((0:Nat):Int)=0 from rfl] at r0
  omega
theorem zhp (h:RhOk N a)(hk:1<=a.length)(t:Int) : ∀ j:Nat,extB N a t+j<=extB N a (t+j)
 | 0=>by simp
 | j+1=>by
  have:=zhp h hk t j
  have:=zsg h hk (t+j)
  rw [show t+((j+1:Nat):Int)=t+j+1 by omega]
  omega
theorem zsh (x:Int):0<=absI x:=by unfold absI;split <;> omega
theorem zlf (n:Int)(a b:List Int)(s:Int):0<=farS n a b s:=zle fun i _=>zsh _
theorem zsi (ha:RhOk N a)(hb:RhOk N b)(hl:a.length=b.length)(hk:1<=a.length)(s:Int) :
  (∀ j:Nat,farS N a b a.length<=farS N a b (a.length+j)) /\ ∀ j:Nat,farS N a b (-(a.length:Int))<=farS N a b (-(a.length:Int)-j):=by
 have hkb:1<=b.length:=by omega
 refine ⟨fun j=>zhn fun i hi=>?_,fun j=>zhn fun i hi=>?_⟩
 ·have r:=zct ha i hi
  have q:=zct hb i (by omega)
  have p:=zho N b hkb i
  rw [<- hl] at p
  have m:=zhp hb hkb (i+a.length) j
  rw [show (i:Int)+(a.length+j)=i+a.length+j by omega]
  unfold absI
  split <;> split <;> omega
 ·have r:=zct ha i hi
  have q:=zct hb i (by omega)
  have p:=zho N b hkb (i-a.length)
  rw [<- hl,show (i:Int)-a.length+a.length=i by omega] at p
  have m:=zhp hb hkb (i+(-a.length-j)) j
  rw [show (i:Int)+(-(a.length:Int)-j)+j=i-a.length by omega] at m
  rw [show (i:Int) + -(a.length:Int)=i-a.length by omega]
  unfold absI
  split <;> split <;> omega
theorem zsj (ha:RhOk N a)(hb:RhOk N b)(hl:a.length=b.length)(s:Int):farV N a b<=farS N a b s:=by
 obtain ⟨h1,_⟩:=zdw (farS N a b) (-(a.length:Int)) (2*a.length)
 by_cases hk:1<=a.length
 ·obtain ⟨f1,f2⟩:=zsi ha hb hl hk s
  by_cases hs:s<=a.length
  ·by_cases hs2 : -(a.length:Int)<=s
   ·exact h1 s hs2 (by omega)
   ·obtain ⟨j,hj⟩:=Int.eq_ofNat_of_zero_le (show 0 <= -(a.length:Int)-s by omega)
    have:=f2 j
    rw [show -(a.length:Int)-j=s by omega] at this
    exact Int.le_trans (h1 _ (by omega) (by omega)) this
  ·obtain ⟨j,hj⟩:=Int.eq_ofNat_of_zero_le (show 0<=s-(a.length:Int) by omega)
   have:=f1 j
   rw [show (a.length:Int)+j=s by omega] at this
   exact Int.le_trans (h1 _ (by omega) (by omega)) this
 ·have h0:a.length=0:=by omega
  obtain ⟨_,s0,_,_,e⟩:=zdw (farS N a b) (-(a.length:Int)) (2*a.length)
  unfold farV
  rw [e]
  unfold farS farG
  rw [h0]
  exact Int.le_refl _
theorem zsk (n:Int)(a b:List Int) : ∃ s,farV n a b=farS n a b s:=by
 obtain ⟨_,s,_,_,e⟩:=zdw (farS n a b) (-(a.length:Int)) (2*a.length)
 exact ⟨s,e⟩
theorem zlg (n:Int)(a b:List Int):0<=farV n a b:=by
 obtain ⟨s,e⟩:=zsk n a b
 rw [e];exact zlf _ _ _ _
end
def genL (k:Nat)(f:Nat->Int):List Int:=(List.range k).map f
theorem zlh (k:Nat)(f:Nat->Int):(genL k f).length=k:=by simp [genL]
theorem zhq {k:Nat}{f:Nat->Int}{j:Nat}(h:j<k):(genL k f).getD j 0=f j:=by
 unfold genL
 rw [List.getD_eq_getElem?_getD,List.getElem?_map,List.getElem?_range h]
 rfl
section
variable {N:Nat} {a b:List Int}
end
def evL (k n m q:Nat):List Int:=(List.range q).map fun i=>(((i*n+m) / k:Nat):Int)
theorem zsl (k n m q:Nat):evL k n m (q+1)=evL k n m q++[(((q*n+m) / k:Nat):Int)]:=by simp [evL,List.range_succ]
theorem zch (k n m q:Nat):(evL k n m q).length=q:=by simp [evL]
theorem zsm (k n m q:Nat):evL k n m q=genL q fun i=>(((i*n+m) / k:Nat):Int):=rfl
def evB (n k:Nat):List Int:=evL k n 0 k
theorem zek (n k:Nat):(evB n k).length=k:=zch _ _ _ _
theorem zc3 {n k:Nat}(h1:1<=n)(h2:n<=24)(hk:k<=n):RhOk n (evB n k):=by
 unfold evB
 rw [zsm]
 refine ⟨by omega,by omega,fun i hi=>?_,fun i hi=>?_⟩
 ·rw [zlh] at hi
  rw [zhq hi]
  have:(i*n+0) / k<n:=Nat.div_lt_of_lt_mul (by
   have:=Nat.mul_lt_mul_of_pos_right (show i<k from hi) (show 0<n by omega)
   omega)
  exact ⟨Int.natCast_nonneg _,Int.ofNat_lt.2 this⟩
 ·rw [zlh] at hi
  rw [zhq hi,zhq (by omega)]
  have h3:(i*n+0+k) / k=(i*n+0) / k+1:=Nat.add_div_right _ (by omega)
  have h4:(i*n+0+k) / k<=((i+1)*n+0) / k:=Nat.div_le_div_right (by rw [Nat.add_mul];omega)
  have:(i*n+0) / k<((i+1)*n+0) / k:=by omega
  exact Int.ofNat_lt.2 this
theorem z5z {N:Nat}{a:List Int}(h:RhOk N a):ofL a N=a:=by
 refine zcq (zdu _ _) (zc2 h) fun x=>?_
 rw [zde]
 constructor
 ·rintro ⟨t,ht,hb,rfl⟩
  unfold hasB at hb
  rwa [decide_eq_true_eq] at hb
 ·intro hx
  have:=zba h x hx
  obtain ⟨t,ht⟩:=Int.eq_ofNat_of_zero_le this.1
  exact ⟨t,by omega,by unfold hasB;rw [decide_eq_true_eq,<- ht];exact hx,ht⟩
def zay (f:Nat->Int):Nat->Nat
 | 0=>0
 | m+1=>if f m<f (zay f m) then m else zay f m
theorem zsn (f:Nat->Int):zay f 1=0:=by unfold zay;show (if f 0<f 0 then 0 else 0)=0;split <;> rfl
theorem zhr (f:Nat->Int) : ∀ m,1<=m->zay f m<m
 | 0,h=>by omega
 | 1,_=>by rw [zsn];omega
 | m+2,_=>by
  have:=zhr f (m+1) (by omega)
  unfold zay
  split <;> omega
theorem zhs {l:List Int}(h:l.Pairwise (fun a b=>a<b)):l.Nodup:=List.Pairwise.imp (fun {a b} hab e=>by omega) h
theorem zso {N:Nat}{xs:List Int}(hn:xs.Nodup)(hr : ∀ x∈xs,0<=x/\x<N):(ofL xs N).length=xs.length:=by
 refine List.Perm.length_eq ((List.perm_ext_iff_of_nodup (zhs (zdu xs N)) hn).2 fun x=>?_)
 rw [zde]
 constructor
 ·rintro ⟨t,_,hb,rfl⟩
  unfold hasB at hb
  rwa [decide_eq_true_eq] at hb
 ·intro hx
  have:=hr x hx
  obtain ⟨t,ht⟩:=Int.eq_ofNat_of_zero_le this.1
  exact ⟨t,by omega,by unfold hasB;rw [decide_eq_true_eq,<- ht];exact hx,ht⟩
theorem zah {N:Nat}{bs:List Int}(h:RhOk N bs)(k:Int):RhOk N (rotL N bs k)/\(rotL N bs k).length=bs.length:=by
 have h1:1<=N:=by have:=h.1;omega
 have h2:N<=24:=by have:=h.2.1;omega
 rw [<- zr3 h k]
 refine ⟨zfd _ h1 h2,?_⟩
 have hl:(mapL 1 k N bs bs.length).length=bs.length:=by unfold mapL;rw [List.length_map,List.take_length]
 refine (zso ?_ fun x hx=>?_).trans hl
 ·unfold mapL
  rw [List.take_length]
  refine List.pairwise_map.2 (List.Pairwise.imp_of_mem (fun {a b} ha hb hab e=>?_) (zc2 h))
  have ra:=zba h a ha
  have rb:=zba h b hb
  have e2:(1*a+k-(1*b+k)) % (N:Int)=0:=Int.emod_emod_of_dvd _ (Int.dvd_refl _) ▸ (Int.emod_eq_emod_iff_emod_sub_eq_zero.1 e)
  rw [show 1*a+k-(1*b+k)=a-b by omega] at e2
  have e3:=Int.emod_add_mul_ediv (a-b) N
  rw [e2] at e3
  have hq:(a-b) / (N:Int)=0\/(a-b) / (N:Int) <= -1\/1<=(a-b) / (N:Int):=by omega
  rcases hq with hq | hq | hq
  ·rw [hq] at e3;omega
  ·have:=Int.mul_le_mul_of_nonneg_left hq (show (0:Int)<=N by omega);omega
  ·have:=Int.mul_le_mul_of_nonneg_left hq (show (0:Int)<=N by omega);omega
 ·unfold mapL at hx
  rw [List.mem_map] at hx
  obtain ⟨y,_,rfl⟩:=hx
  exact ⟨Int.emod_nonneg _ (by omega),Int.emod_lt_of_pos _ (by omega)⟩
def fewK (N:Nat)(a:List Int):Nat:=zay (fun k=>farV N a (rotL N (evB N a.length) (k:Int))) N
def fewX (N:Nat)(a:List Int):List Int:=rotL N (evB N a.length) (fewK N a:Int)
def zam (N:Nat)(a b:List Int):List Int:=if codI N a<codI N b then b else a
theorem zht {N:Nat}{a b:List Int}(ha:RhOk N a)(hb:RhOk N b):RhOk N (zam N a b):=by
 unfold zam;split <;> assumption
def lstR (N:Nat) (bs:List Int):Nat->List Int
 | 0=>rotL N bs (0:Nat)
 | m+1=>zam N (lstR N bs m) (rotL N bs (m:Nat))
def lstW (N:Nat)(bs:List Int):List Int:=lstR N bs N
theorem zhu {N:Nat} {bs:List Int} (h:RhOk N bs) : ∀ m,RhOk N (lstR N bs m)
 | 0=>(zah h _).1
 | m+1=>zht (zhu h m) (zah h _).1
theorem zff {N:Nat}{bs:List Int}(h:RhOk N bs):RhOk N (lstW N bs):=zhu h N
def affL (N:Nat)(u k:Int)(bs:List Int):List Int:=ofL (mapL u k N bs bs.length) N
theorem zbl {N:Nat}{u k:Int}{bs:List Int}(h1:1<=N)(h2:N<=24):RhOk N (affL N u k bs):=zfd _ h1 h2
def mirV (N:Nat)(bs:List Int):List Int:=affL N (-1) 0 bs
def frmV (N:Nat)(bs:List Int):List Int:=zam N (lstW N bs) (lstW N (mirV N bs))
theorem zfg {N:Nat}{bs:List Int}(h:RhOk N bs):RhOk N (frmV N bs) :=
 zht (zff h) (zff (zbl (by have:=h.1;omega) (by have:=h.2.1;omega)))
def uniP (n u:Nat):Bool:=decide (1<=u/\u<=max 1 (n-1)) && decide (Nat.gcd u n=1)
def uniF (n:Nat):Nat->List Int
 | 0=>[]
 | m+1=>if uniP n m then uniF n m++[(m:Int)] else uniF n m
theorem zhv (n:Nat) : ∀ m,(uniF n m).length<=m
 | 0=>Nat.le_refl _
 | m+1=>by
  have:=zhv n m
  unfold uniF;split <;> simp <;> omega
theorem zfh (n:Nat) : ∀ m x,x∈uniF n m -> ∃ u:Nat,x=u/\1<=u/\u<m
 | 0,x,h=>by cases h
 | m+1,x,h=>by
  unfold uniF at h
  split at h
  ·rename_i hp
   rw [List.mem_append,List.mem_singleton] at h
   rcases h with h | h
   ·obtain ⟨u,a,b,c⟩:=zfh n m x h;exact ⟨u,a,b,by omega⟩
   ·unfold uniP at hp;simp at hp;exact ⟨m,h,by omega,by omega⟩
  ·obtain ⟨u,a,b,c⟩:=zfh n m x h;exact ⟨u,a,b,by omega⟩
def uniV (n:Nat):List Int:=uniF n (n+1)
theorem zsp (n:Nat):(uniV n).length<=n+1:=zhv n _
theorem zsq {n j:Nat}(hj:j<(uniV n).length) : ∃ u:Nat,(uniV n).getD j 0=u/\1<=u/\u<=n:=by
 obtain ⟨u,a,b,c⟩:=zfh n (n+1) ((uniV n).getD j 0) (by rw [List.getD_eq_getElem?_getD,List.getElem?_eq_getElem hj];exact List.getElem_mem hj)
 exact ⟨u,a,b,by omega⟩
def clsR (N:Nat) (bs:List Int):Nat->List Int
 | 0=>frmV N bs
 | m+1=>zam N (clsR N bs m) (frmV N (affL N ((uniV N).getD m 0) 0 bs))
def clsV (N:Nat)(bs:List Int):List Int:=clsR N bs (uniV N).length
theorem zhw {N:Nat}{bs:List Int}(h:RhOk N bs) : ∀ m,RhOk N (clsR N bs m)
 | 0=>zfg h
 | m+1=>zht (zhw h m) (zfg (zbl (by have:=h.1;omega) (by have:=h.2.1;omega)))
section
variable {N:Nat}
theorem zdx {a b:List Int}(ha:RhOk N a)(hb:RhOk N b)(h : ∀ t:Int,t % N∈a ↔ t % N∈b):a=b :=
 zcq (zc2 ha) (zc2 hb) fun x=>by
  constructor
  ·intro hx
   have r:=zba ha x hx
   have:=(h x).1 (by rwa [Int.emod_eq_of_lt r.1 r.2])
   rwa [Int.emod_eq_of_lt r.1 r.2] at this
  ·intro hx
   have r:=zba hb x hx
   have:=(h x).2 (by rwa [Int.emod_eq_of_lt r.1 r.2])
   rwa [Int.emod_eq_of_lt r.1 r.2] at this
theorem zb8 (hn:1<=N){bs:List Int}(k t:Int):t % N∈rotL N bs k ↔ (t-k) % N∈bs:=by
 rw [zdc]
 have h0:=Int.emod_nonneg t (show (N:Int)≠0 by omega)
 have h1:=Int.emod_lt_of_pos t (show (0:Int)<N by omega)
 unfold hasB
 constructor
 ·rintro ⟨s,hs,hb,e⟩
  rw [decide_eq_true_eq,<- e,Int.emod_sub_emod] at hb
  exact hb
 ·intro hb
  obtain ⟨s,hs⟩:=Int.eq_ofNat_of_zero_le h0
  refine ⟨s,by omega,?_,hs⟩
  rw [decide_eq_true_eq,<- hs,Int.emod_sub_emod]
  exact hb
theorem zdy (hn:1<=N){bs:List Int}(h:RhOk N bs)(k t:Int):t % N∈affL N (-1) k bs ↔ (k-t) % N∈bs:=by
 unfold affL
 rw [zde]
 have h0:=Int.emod_nonneg t (show (N:Int)≠0 by omega)
 have h1:=Int.emod_lt_of_pos t (show (0:Int)<N by omega)
 unfold hasB
 have key:t % N∈mapL (-1) k N bs bs.length ↔ (k-t) % N∈bs:=by
  rw [zfb]
  constructor
  ·rintro ⟨b,hb,e⟩
   have r:=zba h b hb
   have:(k-t) % N=b:=by
    rw [<- Int.sub_emod_emod,<- e,Int.sub_emod_emod,show k-(-1*b+k)=b by omega,Int.emod_eq_of_lt r.1 r.2]
   rwa [this]
  ·intro hb
   refine ⟨_,hb,?_⟩
   rw [show -1*((k-t) % (N:Int))+k=k-(k-t) % N by omega,Int.sub_emod_emod,show k-(k-t)=t by omega]
 constructor
 ·rintro ⟨s,hs,hb,e⟩
  rw [decide_eq_true_eq,<- e] at hb
  exact key.1 hb
 ·intro hb
  obtain ⟨s,hs⟩:=Int.eq_ofNat_of_zero_le h0
  refine ⟨s,by omega,?_,hs⟩
  rw [decide_eq_true_eq,<- hs]
  exact key.2 hb
variable {bs:List Int}
theorem zel (h:RhOk N bs)(j k:Int):rotL N (rotL N bs j) k=rotL N bs (j+k):=by
 have hn:1<=N:=by have:=h.1;omega
 refine zdx (zah (zah h j).1 k).1 (zah h _).1 fun t=>?_
 rw [zb8 hn,zb8 hn,zb8 hn,show t-k-j=t-(j+k) by omega]
theorem zsr (h:RhOk N bs){j k:Int}(e:j % N=k % N):rotL N bs j=rotL N bs k:=by
 have hn:1<=N:=by have:=h.1;omega
 refine zdx (zah h j).1 (zah h _).1 fun t=>?_
 rw [zb8 hn,zb8 hn,<- Int.sub_emod_emod,e,Int.sub_emod_emod]
theorem zli (h:RhOk N bs):rotL N bs 0=bs:=by
 have hn:1<=N:=by have:=h.1;omega
 refine zdx (zah h _).1 h fun t=>?_
 rw [zb8 hn,Int.sub_zero]
theorem zlj (h:RhOk N bs)(k:Int):affL N (-1) k bs=rotL N (mirV N bs) k:=by
 have hn:1<=N:=by have:=h.1;omega
 have hn2:N<=24:=by have:=h.2.1;omega
 refine zdx (zbl hn hn2) (zah (zbl hn hn2) _).1 fun t=>?_
 rw [zb8 hn]
 unfold mirV
 rw [zdy hn h,zdy hn h,show 0-(t-k)=k-t by omega]
theorem zss (h:RhOk N bs):perV N (mirV N bs)=perV N bs:=by
 have hn:1<=N:=by have:=h.1;omega
 have hn2:N<=24:=by have:=h.2.1;omega
 have hm:RhOk N (mirV N bs):=zbl hn hn2
 have key : ∀ j:Nat,perB N (mirV N bs) j=perB N bs j:=fun j=>by
  have e:rotL N (mirV N bs) j=mirV N bs ↔ rotL N bs j=bs:=by
   constructor
   ·intro e
    refine zdx (zah h _).1 h fun t=>?_
    have h1:(j-t:Int) % N∈rotL N (mirV N bs) j ↔ (j-t:Int) % N∈mirV N bs:=by rw [e]
    rw [zb8 hn] at h1
    unfold mirV at h1
    rw [zdy hn h,zdy hn h,show 0-((j:Int)-t-j)=t by omega,show 0-((j:Int)-t)=t-j by omega] at h1
    rw [zb8 hn]
    exact h1.symm
   ·intro e
    refine zdx (zah hm _).1 hm fun t=>?_
    have h1:(j-t:Int) % N∈rotL N bs j ↔ (j-t:Int) % N∈bs:=by rw [e]
    rw [zb8 hn,show (j:Int)-t-j=0-t by omega] at h1
    rw [zb8 hn]
    unfold mirV
    rw [zdy hn h,zdy hn h,show 0-(t-(j:Int))=j-t by omega]
    exact h1.symm
  cases h1:perB N bs j
  ·cases h2:perB N (mirV N bs) j
   ·rfl
   ·have:=zdd.2 (e.1 (zdd.1 h2));rw [h1] at this;cases this
  ·exact zdd.2 (e.2 (zdd.1 h1))
 obtain ⟨a,b,c,d⟩:=zcr h
 exact zk6 hm a (by rw [key];exact c) (fun j h1 h2=>by rw [key];exact d j h1 h2)
theorem zst (h:RhOk N bs)(k:Int):rotL N bs k=rotL N bs (k % (perV N bs:Nat)):=by
 obtain ⟨a,_,c,_⟩:=zcr h
 have hp:=zdd.1 c
 generalize perV N bs=p at *
 have up : ∀ (q:Nat) (r:Int),rotL N bs (r+q*p)=rotL N bs r:=by
  intro q
  induction q with
  | zero=>intro r;rw [show r+((0:Nat):Int)*p=r by simp]
  | succ q ih =>
   intro r
   rw [show r+((q+1:Nat):Int)*p=p+(r+q*p) by rw [Int.natCast_add,Int.add_mul];omega,<- zel h,hp]
   exact ih r
 have e:=Int.mul_ediv_add_emod k p
 by_cases hk:0<=k
 ·obtain ⟨q,hq⟩:=Int.eq_ofNat_of_zero_le (Int.ediv_nonneg hk (show (0:Int)<=p by omega))
  rw [hq] at e
  rw [<- up q (k % p)]
  congr 1
  rw [Int.mul_comm] at e
  omega
 ·obtain ⟨q,hq⟩ : ∃ q:Nat,k / p = -q:=⟨(-(k / p)).toNat,by
   have:k / p<0:=Int.ediv_neg_of_neg_of_pos (by omega) (by omega)
   omega⟩
  rw [hq] at e
  rw [<- up q k]
  congr 1
  rw [Int.mul_neg,Int.mul_comm] at e
  omega
def rotD (N:Nat)(bs:List Int):List Int:=(List.range (perV N bs)).map fun i=>(codI N (rotL N bs (i:Nat)):Int)
theorem zdz (h:RhOk N bs)(c:Int):c∈rotD N bs ↔ ∃ z:Int,c=codI N (rotL N bs z):=by
 obtain ⟨a,_,_,_⟩:=zcr h
 unfold rotD
 rw [List.mem_map]
 constructor
 ·rintro ⟨i,_,rfl⟩;exact ⟨i,rfl⟩
 ·rintro ⟨z,rfl⟩
  have h0:=Int.emod_nonneg z (show ((perV N bs:Nat):Int)≠0 by omega)
  have h1:=Int.emod_lt_of_pos z (show (0:Int)<(perV N bs:Nat) by omega)
  obtain ⟨s,hs⟩:=Int.eq_ofNat_of_zero_le h0
  refine ⟨s,List.mem_range.2 (by omega),?_⟩
  rw [zst h z,hs]
theorem zhx (h:RhOk N bs):(rotD N bs).Nodup:=by
 obtain ⟨_,_,_,d⟩:=zcr h
 unfold rotD
 unfold List.Nodup
 rw [List.pairwise_map]
 refine List.pairwise_iff_getElem.2 fun i j hi hj hij=>?_
 rw [List.length_range] at hi hj
 rw [List.getElem_range,List.getElem_range]
 intro e
 have e1:=zlb (zah h (i:Int)).1 (zah h (j:Int)).1 (by omega)
 have e2:=congrArg (fun x=>rotL N x (-(i:Int))) e1
 simp only [zel h] at e2
 rw [show (i:Int) + -i=0 by omega,zli h,show (j:Int) + -i=((j-i:Nat):Int) by omega] at e2
 have:=d (j-i) (by omega) (by omega)
 rw [zdd.2 e2.symm] at this
 cases this
theorem zhy (N:Nat)(bs:List Int):(rotD N bs).length=perV N bs:=by simp [rotD]
def axB (N:Nat)(bs:List Int):Bool:=(List.range N).any fun k=>eqB (affL N (-1) (k:Nat) bs) bs
def zbt (N:Nat) (bs:List Int):Nat->List (List Int)
 | 0=>[]
 | m+1=>zbt N bs m++[rotL N bs (m:Nat),rotL N (mirV N bs) (m:Nat)]
theorem zhz (N:Nat) (bs:List Int) : ∀ m,(zbt N bs m).length=2*m
 | 0=>rfl
 | m+1=>by show (zbt N bs m++_).length=_;rw [List.length_append,zhz N bs m];simp;omega
theorem zem (N:Nat) (bs:List Int) (x:List Int) : ∀ m,x∈zbt N bs m ↔ ∃ i:Nat,i<m/\(x=rotL N bs (i:Nat)\/x=rotL N (mirV N bs) (i:Nat))
 | 0=>by simp [zbt]
 | m+1=>by
  show x∈zbt N bs m++[rotL N bs (m:Nat),rotL N (mirV N bs) (m:Nat)] ↔ _
  rw [List.mem_append,zem N bs x m,List.mem_cons,List.mem_singleton]
  constructor
  ·rintro (⟨i,a,b⟩ | h)
   ·exact ⟨i,by omega,b⟩
   ·exact ⟨m,by omega,h⟩
  ·rintro ⟨i,a,b⟩
   by_cases e:i=m
   ·subst e;exact .inr b
   ·exact .inl ⟨i,by omega,b⟩
theorem zlk (h:RhOk N bs)(m:Nat) : ∀ x∈zbt N bs m,RhOk N x:=fun x hx=>by
 obtain ⟨i,_,rfl | rfl⟩:=(zem N bs x m).1 hx
 ·exact (zah h _).1
 ·exact (zah (zbl (by have:=h.1;omega) (by have:=h.2.1;omega)) _).1
def orbL (N:Nat)(bs:List Int):List Int:=zak ((zbt N bs N).map fun x=>(codI N x:Int))
def orbV (N:Nat)(bs:List Int):Nat:=if axB N bs then perV N bs else 2*perV N bs
theorem zll {a b:List Int}(ha:a.Nodup)(hb:b.Nodup)(h : ∀ x,x∈a ↔ x∈b):a.length=b.length :=
 ((List.perm_ext_iff_of_nodup ha hb).2 h).length_eq
theorem zsu (h:RhOk N bs):(orbL N bs).length=orbV N bs:=by
 have hn:1<=N:=by have:=h.1;omega
 have hn2:N<=24:=by have:=h.2.1;omega
 have hm:RhOk N (mirV N bs):=zbl hn hn2
 have hmod : ∀ {X:List Int},RhOk N X -> ∀ z:Int,∃ i:Nat,i<N/\rotL N X z=rotL N X (i:Nat):=fun hX z=>by
  have h0:=Int.emod_nonneg z (show (N:Int)≠0 by omega)
  have h1:=Int.emod_lt_of_pos z (show (0:Int)<N by omega)
  obtain ⟨s,hs⟩:=Int.eq_ofNat_of_zero_le h0
  exact ⟨s,by omega,zsr hX (by rw [<- hs,Int.emod_emod])⟩
 have hmem : ∀ c,c∈orbL N bs ↔ c∈rotD N bs\/c∈rotD N (mirV N bs):=fun c=>by
  unfold orbL
  rw [(zcg _).2,List.mem_map,zdz h,zdz hm]
  constructor
  ·rintro ⟨x,hx,rfl⟩
   obtain ⟨i,_,rfl | rfl⟩:=(zem N bs x N).1 hx
   ·exact .inl ⟨i,rfl⟩
   ·exact .inr ⟨i,rfl⟩
  ·rintro (⟨z,rfl⟩ | ⟨z,rfl⟩)
   ·obtain ⟨i,hi,e⟩:=hmod h z
    exact ⟨_,(zem N bs _ N).2 ⟨i,hi,.inl rfl⟩,by rw [e]⟩
   ·obtain ⟨i,hi,e⟩:=hmod hm z
    exact ⟨_,(zem N bs _ N).2 ⟨i,hi,.inr rfl⟩,by rw [e]⟩
 have hnd:(orbL N bs).Nodup:=zhs (zcg _).1
 have hax:axB N bs=true ↔ ∃ z:Int,rotL N (mirV N bs) z=bs:=by
  unfold axB
  rw [List.any_eq_true]
  constructor
  ·rintro ⟨k,_,hk⟩
   unfold eqB at hk
   rw [decide_eq_true_eq,zlj h] at hk
   exact ⟨_,hk⟩
  ·rintro ⟨z,hz⟩
   obtain ⟨i,hi,e⟩:=hmod hm z
   refine ⟨i,List.mem_range.2 hi,?_⟩
   unfold eqB
   rw [decide_eq_true_eq,zlj h,<- e]
   exact hz
 unfold orbV
 split
 ·rename_i ha
  obtain ⟨z,hz⟩:=hax.1 ha
  rw [<- zhy]
  refine zll hnd (zhx h) fun c=>?_
  rw [hmem]
  refine ⟨fun hc=>?_,.inl⟩
  rcases hc with hc | hc
  ·exact hc
  ·obtain ⟨y,rfl⟩:=(zdz hm c).1 hc
   refine (zdz h _).2 ⟨y-z,?_⟩
   have e1:rotL N bs (y-z)=rotL N (mirV N bs) y:=by
    conv=>lhs;rw [<- hz]
    rw [zel hm,show z+(y-z)=y by omega]
   rw [e1]
 ·rename_i ha
  rw [show 2*perV N bs=(rotD N bs++rotD N (mirV N bs)).length by rw [List.length_append,zhy,zhy,zss h];omega]
  refine zll hnd ?_ fun c=>by rw [hmem,List.mem_append]
  rw [List.nodup_append]
  refine ⟨zhx h,zhx hm,fun a hA b hB e=>?_⟩
  subst e
  obtain ⟨y,hy⟩:=(zdz h a).1 hA
  obtain ⟨z,hz⟩:=(zdz hm a).1 hB
  have e1:=zlb (zah h y).1 (zah hm z).1 (by omega)
  refine ha (hax.2 ⟨z-y,?_⟩)
  have e2:=congrArg (fun x=>rotL N x (-y)) e1
  simp only [zel h,zel hm] at e2
  rw [show y + -y=0 by omega,zli h] at e2
  rw [show z-y=z + -y by omega]
  exact e2.symm
end
end Go.Proofs.YtjpnjchpdkogbaaGreatDoor
