/- Parts of the proof of the card of the law FnConsole. -/
import Derived.Test.YtjpnjchpdkogbaaGreatDoorG13
import Derived.Test.YtjpnjchpdkogbaaGreatDoorG03
import Derived.Test.YtjpnjchpdkogbaaGreatDoorG06
import Derived.Test.YtjpnjchpdkogbaaGreatDoorG05
import Derived.Test.YtjpnjchpdkogbaaGreatDoorG04
import Derived.Test.YtjpnjchpdkogbaaGreatDoorG08
import Derived.Test.YtjpnjchpdkogbaaGreatDoorJoin
import Derived.Test.YtjpnjchpdkogbaaGreatDoorG02
set_option linter.unusedVariables false
set_option linter.unusedSimpArgs false
set_option maxRecDepth 100000
set_option maxHeartbeats 4000000
namespace Go.Proofs.YtjpnjchpdkogbaaGreatDoor
open Go.RowKit
theorem u64w {x:Int}(h:0<=x/\x<18446744073709551616):IntKind.u64.wrap x=x:=by
 rw [IntKind.wrap_u64];omega
theorem zne (a:Nat)(ha:a<18446744073709551616):(BitVec.ofInt 64 (a:Int)).toNat=a:=by
 rw [BitVec.toNat_ofInt];omega
theorem zer (a b:Nat)(ha:a<18446744073709551616)(hb:b<18446744073709551616):bits .and .u64 (a:Int) (b:Int)=((a &&& b:Nat):Int):=by
 have hx:a &&& b<2 ^ 64:=Nat.and_lt_two_pow _ (by omega)
 show IntKind.u64.wrap ((BitVec.ofInt 64 (a:Int) &&& BitVec.ofInt 64 (b:Int)).toNat:Int)=_
 rw [BitVec.toNat_and,zne a ha,zne b hb]
 exact u64w (by omega)
def popX (x:Nat):Nat:=popN (x % 16)+popN (x / 16 % 16)+popN (x / 256 % 16)+popN (x / 4096 % 16)+popN (x / 65536 % 16)+popN (x / 1048576 % 16)
theorem zwr (k:Nat):pop1 k 0=0:=by unfold pop1;simp
theorem zws (k:Nat):pop2 k 0=0:=by unfold pop2;simp
theorem zwt (x:Nat)(hx:x<16777216):popE ((popZ 16 x / 16+popZ 16 x) &&& 1085102592571150095) % 128=popX x/\popZ 16 x<268435456:=by
 have hz:popZ 16 x=popN (x % 16)+16*(popN (x / 16 % 16)+16*(popN (x / 256 % 16)+16*(popN (x / 4096 % 16)+16*(popN (x / 65536 % 16)+16*popN (x / 1048576 % 16))))):=by
  rw [zd5,zd5,zd5,zd5,zd5,zd5]
  simp only [Nat.div_div_eq_div_mul]
  rw [show x / (16*16*16*16*16*16)=0 by omega]
  rw [show popZ 10 0=0 by unfold popZ;rw [zwr,zws]]
  simp only [Nat.reduceMul,Nat.mul_zero,Nat.add_zero]
 have l0:=zd6 (x % 16)
 have l1:=zd6 (x / 16 % 16)
 have l2:=zd6 (x / 256 % 16)
 have l3:=zd6 (x / 4096 % 16)
 have l4:=zd6 (x / 65536 % 16)
 have l5:=zd6 (x / 1048576 % 16)
 refine ⟨?_,by omega⟩
 have hf:=zwq _ _ _ _ _ _ 64677154575 l0 l1 l2 l3 l4 l5 _ hz
 rw [show (15+16*(0+16*(15+16*(0+16*(15+16*(0+16*64677154575))))):Nat)=1085102592571150095 from rfl] at hf
 rw [hf,zwp _ _ _ (by omega) (by omega) (by omega)]
 unfold popX
 omega
theorem zwu (x:Nat)(w:World)(hx:x<16777216) :
  Calls Tryz.prog 265 #[.int .u64 x] w fun e w'=>e = .returned (.int .i64 (popX x))/\w=w':=by
 obtain ⟨hp,hzl⟩:=zwt x hx
 have hA1:=zer (x / 2) 6148914691236517205 (by omega) (by omega)
 have hA2:=zer x 6148914691236517205 (by omega) (by omega)
 have l1:x / 2 &&& 6148914691236517205<=x / 2:=Nat.and_le_left
 have l2:x &&& 6148914691236517205<=x:=Nat.and_le_left
 have hy:(x / 2 &&& 6148914691236517205)+(x &&& 6148914691236517205)=pop1 16 x:=rfl
 obtain ⟨a1,ha1⟩ : ∃ a,x / 2 &&& 6148914691236517205=a:=⟨_,rfl⟩
 obtain ⟨a2,ha2⟩ : ∃ a,x &&& 6148914691236517205=a:=⟨_,rfl⟩
 rw [ha1] at hA1 l1 hy
 rw [ha2] at hA2 l2 hy
 have hw1:IntKind.u64.wrap ((a1:Int)+a2)=(a1:Int)+a2:=u64w (by omega)
 obtain ⟨y,hyy⟩ : ∃ y,a1+a2=y:=⟨_,rfl⟩
 have hy0:(a1:Int)+a2=(y:Int):=by omega
 have hz0:popZ 16 x=(y / 4 &&& 3689348814741910323)+(y &&& 3689348814741910323):=by unfold popZ;rw [<- hy,hyy];rfl
 have hB1:=zer (y / 4) 3689348814741910323 (by omega) (by omega)
 have hB2:=zer y 3689348814741910323 (by omega) (by omega)
 have l3:y / 4 &&& 3689348814741910323<=y / 4:=Nat.and_le_left
 have l4:y &&& 3689348814741910323<=y:=Nat.and_le_left
 obtain ⟨b1,hb1⟩ : ∃ a,y / 4 &&& 3689348814741910323=a:=⟨_,rfl⟩
 obtain ⟨b2,hb2⟩ : ∃ a,y &&& 3689348814741910323=a:=⟨_,rfl⟩
 rw [hb1] at hB1 l3 hz0
 rw [hb2] at hB2 l4 hz0
 have hw2:IntKind.u64.wrap ((b1:Int)+b2)=(b1:Int)+b2:=u64w (by omega)
 obtain ⟨z,hzz⟩ : ∃ z,b1+b2=z:=⟨_,rfl⟩
 have hz1:(b1:Int)+b2=(z:Int):=by omega
 rw [hz0,hzz] at hp
 have hC:=zer (z / 16+z) 1085102592571150095 (by omega) (by omega)
 have l5:(z / 16+z) &&& 1085102592571150095<=z / 16+z:=Nat.and_le_left
 have hw3:IntKind.u64.wrap ((z:Int) / 16+z)=(z:Int) / 16+z:=u64w (by omega)
 have hc0:(z:Int) / 16+z=((z / 16+z:Nat):Int):=by omega
 obtain ⟨u,hu⟩ : ∃ u,(z / 16+z) &&& 1085102592571150095=u:=⟨_,rfl⟩
 rw [hu] at hC l5 hp
 rw [<- hc0] at hC
 rw [Int.natCast_ediv] at hA1 hB1
 replace hA1:bits .and .u64 ((x:Int) / 2) 6148914691236517205=(a1:Int):=hA1
 replace hA2:bits .and .u64 (x:Int) 6148914691236517205=(a2:Int):=hA2
 replace hB1:bits .and .u64 ((y:Int) / 4) 3689348814741910323=(b1:Int):=hB1
 replace hB2:bits .and .u64 (y:Int) 3689348814741910323=(b2:Int):=hB2
 replace hC:bits .and .u64 ((z:Int) / 16+z) 1085102592571150095=(u:Int):=hC
 obtain ⟨v,hv⟩ : ∃ v,u+u / 256=v:=⟨_,rfl⟩
 obtain ⟨t,ht⟩ : ∃ t,v+v / 65536=t:=⟨_,rfl⟩
 have hv1:(u:Int)+(u:Int) / 256=(v:Int):=by omega
 have ht1:(v:Int)+(v:Int) / 65536=(t:Int):=by omega
 have hs1:(t:Int)+(t:Int) / 4294967296=(t:Int):=by omega
 have hwv:IntKind.u64.wrap (v:Int)=(v:Int):=u64w (by omega)
 have hwt:IntKind.u64.wrap (t:Int)=(t:Int):=u64w (by omega)
 have hwi:IntKind.i64.wrap (t:Int)=(t:Int):=i64w (by omega)
 have hD:=zcp t 127 (by omega) (by omega)
 rw [show t &&& 127=t % 128 from Nat.and_two_pow_sub_one_eq_mod t 7] at hD
 replace hD:bits .and .i64 (t:Int) 127=((t % 128:Nat):Int):=hD
 have hpe:popE u=t:=by
  unfold popE
  simp only []
  rw [hv,ht];omega
 rw [hpe] at hp
 rw [hp] at hD
 clear hv ht hpe
 have HP:=Zh hp
 clear hp hu hz0 hzl hc0 hzz hyy hb1 hb2 ha1 ha2 hy
 go_enter Tryz.func265,Tryz.ntmps265
 go_wp2
 go_ret
 exact ⟨rfl,rfl⟩
end Go.Proofs.YtjpnjchpdkogbaaGreatDoor
namespace Go.Proofs.YtjpnjchpdkogbaaGreatDoor
open Go.RowKit
theorem zwv (x m:Nat):(if x.testBit m=true then 1 else 0)=x / 2 ^ m % 2:=by
 rw [Nat.testBit_eq_decide_div_mod_eq]
 by_cases h:x / 2 ^ m % 2=1
 ·rw [h];simp
 ·have:x / 2 ^ m % 2=0:=by omega
  rw [this];simp
theorem zd7 (x m:Nat):zcd x (m+1)=zcd x m+x / 2 ^ m % 2:=by
 rw [<- zwv];rfl
theorem zdj (x:Nat) : ∀ m,zcd x (4+m)=popN (x % 16)+zcd (x / 16) m
 | 0=>by
  show zcd x 4=_+0
  rw [zd7,zd7,zd7,zd7,show zcd x 0=0 from rfl]
  unfold popN
  simp only [Nat.reducePow]
  omega
 | m+1=>by
  rw [show 4+(m+1)=4+m+1 from rfl,zd7,zdj x m,zd7 (x / 16) m,Nat.div_div_eq_div_mul,Nat.pow_add,show (2:Nat) ^ 4=16 from rfl]
  omega
theorem zww (x:Nat):popX x=zcd x 24:=by
 rw [zdj x 20,zdj (x / 16) 16,zdj (x / 16 / 16) 12,zdj (x / 16 / 16 / 16) 8,zdj (x / 16 / 16 / 16 / 16) 4,zdj (x / 16 / 16 / 16 / 16 / 16) 0]
 rw [show zcd (x / 16 / 16 / 16 / 16 / 16 / 16) 0=0 from rfl]
 simp only [Nat.div_div_eq_div_mul,Nat.reduceMul]
 unfold popX
 omega
theorem znf (x:Nat) : ∀ m,zcd x m=((List.range m).filter fun j=>x.testBit j).length
 | 0=>rfl
 | m+1=>by
  have ih:=znf x m
  rw [List.range_succ,List.filter_append,List.length_append,<- ih]
  show zcd x m+(if x.testBit m=true then 1 else 0)=_
  cases h:x.testBit m <;> simp [h]
theorem zng (a b:List Int) : ∀ i,i<=a.length->comN a b i=((a.take i).filter (hasB b)).length
 | 0,_=>rfl
 | i+1,h=>by
  have ih:=zng a b i (by omega)
  rw [List.take_succ_eq_append_getElem (by omega),List.filter_append,List.length_append,<- ih]
  show comN a b i+(if hasB b (a.getD i 0)=true then 1 else 0)=_
  rw [List.getD_eq_getElem?_getD,List.getElem?_eq_getElem (by omega:i<a.length)]
  show comN a b i+(if hasB b a[i]=true then 1 else 0)=_
  cases h2:hasB b a[i] <;> simp [h2]
theorem zwx {N:Nat}{a b:List Int}(ha:RhOk N a)(hb:RhOk N b):popX (codI N a &&& codI N b)=comN a b a.length:=by
 have hN:N<=24:=by have:=ha.2.1;omega
 rw [zww,znf,zng a b _ (Nat.le_refl _),List.take_length]
 have hp:(((List.range 24).filter fun j=>(codI N a &&& codI N b).testBit j).map fun j:Nat=>(N:Int)-1-(j:Int)).Perm (a.filter (hasB b)):=by
  refine (List.perm_ext_iff_of_nodup ?_ ?_).2 fun p=>?_
  ·have hf:((List.range 24).filter fun j=>(codI N a &&& codI N b).testBit j).Pairwise (fun x y:Nat=>x≠y):=List.Pairwise.filter _ (@List.nodup_range 24)
   refine List.pairwise_map.2 (List.Pairwise.imp (R:=fun x y:Nat=>x≠y) ?_ hf)
   intro x y h e
   exact h (by omega)
  ·exact List.Pairwise.filter _ (show a.Pairwise (fun x y=>x≠y) from zhs (zc2 ha))
  ·rw [List.mem_map,List.mem_filter]
   constructor
   ·rintro ⟨j,hj,rfl⟩
    rw [List.mem_filter,Nat.testBit_and,Bool.and_eq_true] at hj
    obtain ⟨_,h1,h2⟩:=hj
    have hjn:j<N:=by
     rcases Nat.lt_or_ge j N with h | h
     ·exact h
     ·rw [zhm ha j h] at h1;cases h1
    rw [zb7 ha j hjn] at h1
    rw [zb7 hb j hjn] at h2
    unfold hasB at h1
    exact ⟨of_decide_eq_true h1,h2⟩
   ·rintro ⟨h1,h2⟩
    have hr:=zba ha p h1
    obtain ⟨j,hj⟩:=Int.eq_ofNat_of_zero_le (show 0<=(N:Int)-1-p by omega)
    refine ⟨j,?_,by omega⟩
    rw [List.mem_filter,Nat.testBit_and,Bool.and_eq_true,zb7 ha j (by omega),zb7 hb j (by omega),show (N:Int)-1-j=p by omega]
    exact ⟨List.mem_range.2 (by omega),by unfold hasB;exact decide_eq_true h1,h2⟩
 have:=hp.length_eq
 rwa [List.length_map] at this
end Go.Proofs.YtjpnjchpdkogbaaGreatDoor
namespace Go.Proofs.YtjpnjchpdkogbaaGreatDoor
open Go.RowKit
theorem zwy (m v:Nat)(hm:m<16777216)(hv:v<24):bits BinOp.or IntKind.i64 (m:Int) (wrap64 (2 ^ v))=((m ||| 2 ^ v:Nat):Int):=by
 have h2:(2:Nat) ^ v<2 ^ 24:=Nat.pow_lt_pow_right (by omega) hv
 have e:wrap64 (2 ^ v)=((2 ^ v:Nat):Int):=by
  rw [show ((2:Int) ^ v)=((2 ^ v:Nat):Int) by simp]
  generalize 2 ^ v=x at h2
  unfold wrap64
  omega
 rw [e]
 exact zc1 m (2 ^ v) (by omega) (by omega)
theorem zd8 (n:Int)(A:Option Addr)(cap:Nat)(bs:List Int)(w:World)(hA:Ints w w.heap.size A bs)(hok:RhOk n bs) :
  Calls Tryz.prog 105 #[.agg #[.int .i64 n,.slice A bs.length cap]] w fun e w'=>e = .returned (.int .i64 (zbk n bs bs.length))/\Below w.heap.size w w':=by
 have hlen:=hA.1
 unfold maxLen at hlen
 have HC:=Zh hA.2.2
 have hn1:=hok.1
 have hn2:=hok.2.1
 have HOK:=Zh hok
 obtain ⟨c0,c1⟩:=box2 (Below.refl (w.heap.size+1) (w.alloc (.cells #[.int .i64 n,.slice A bs.length cap] 27)))
 have HB:=Zh ((Below.refl w.heap.size w).alloc (Nat.le_refl _) (.cells #[.int .i64 n,.slice A bs.length cap] 27))
 clear hA hok
 go_enter Tryz.func105,Tryz.ntmps105
 go_wp2_with fail
 go_loop [3,9] (fun m i=>∃ k:Nat,k<=bs.length/\i = .int .i64 k/\m = .int .i64 (zbk n bs k)) (fun _ i=>bs.length-(intOf i).toNat)
 case atStart=>exact ⟨0,Nat.zero_le _,rfl,rfl⟩
 case round =>
  obtain ⟨k,hk,rfl,rfl⟩:=hrel
  by_cases hlt:k<bs.length
  ·obtain ⟨b,off,rfl,hB,hc⟩:=HC.o (by omega)
   have hcell:=(HB.o.cell (p:=⟨b,off+k,none⟩) hB).trans (hc k hlt)
   have hx0:=HOK.o.2.2.1 k hlt
   have hsu:zbk n bs (k+1)=zbk n bs k ||| 2 ^ (n-1-bs.getD k 0).toNat:=rfl
   have hcl:=zhd n bs (by omega) HOK.o.2.2.1 k (by omega)
   have hcl2:zbk n bs k<16777216:=Nat.lt_of_lt_of_le hcl (Nat.le_trans (Nat.pow_le_pow_right (by omega) (show n.toNat<=24 by omega)) (by decide))
   clear hcl
   obtain ⟨x,hx⟩ : ∃ x,bs.getD k 0=x:=⟨_,rfl⟩
   rw [hx] at hcell hx0 hsu
   obtain ⟨hx1,hx2⟩:=hx0
   obtain ⟨v,hv⟩ : ∃ v:Nat,n-1-x=v:=⟨(n-1-x).toNat,by omega⟩
   have hv24:v<24:=by omega
   have hor:=zwy (zbk n bs k) v hcl2 hv24
   rw [hv,Int.toNat_natCast] at hsu
   rw [<- hsu] at hor
   have hx3:x=n-1-v:=by omega
   obtain ⟨M',hM'⟩ : ∃ M',zbk n bs (k+1)=M':=⟨_,rfl⟩
   rw [hM'] at hor
   have HM':=Zh hM'
   have hw1:IntKind.i64.wrap (n-1-x)=(v:Int):=by rw [hv];exact i64w (by omega)
   generalize zbk n bs k=M at hor hcl2 ⊢
   clear hc hx hsu hM' hx3
   go_wp2_with fail
   go_round
   case rel=>exact ⟨k+1,by omega,by go_num,by rw [HM'.o]⟩
   case measure=>simp [intOf];omega
  ·have hke:k=bs.length:=by omega
   subst hke
   go_wp2_with fail
   go_ret
   exact ⟨rfl,HB.o⟩
end Go.Proofs.YtjpnjchpdkogbaaGreatDoor
namespace Go.Proofs.YtjpnjchpdkogbaaGreatDoor
open Go.RowKit
theorem zwz (x:Nat)(w:World)(hx:x<16777216) :
  Calls Tryz.prog 230 #[.int .u64 x] w fun e w'=>e = .returned (.int .i64 (popX x))/\w=w':=by
 have HC:=Zh (fun V=>zwu x V hx)
 go_enter Tryz.func230,Tryz.ntmps230
 go_wp2_with (go_at_call 265;refine (HC.o _).mono ?_;rintro e w' ⟨rfl,rfl⟩)
 go_ret
 exact ⟨rfl,rfl⟩
theorem zf4 {w w':World}{g:Nat}{u v:Value}{S:Nat->Prop}(h:Cells2 w g u v)(hf:Frm S w w')(hS : ¬ S g):Cells2 w' g u v :=
 ⟨(hf.cell h.2.2.2.2 hS).trans h.1,(hf.cell h.2.2.2.2 hS).trans h.2.1,(hf.frozen h.2.2.2.2 hS).trans h.2.2.1,(hf.frozen h.2.2.2.2 hS).trans h.2.2.2.1,Nat.lt_of_lt_of_le h.2.2.2.2 hf.size⟩
theorem zw0 (n:Nat)(A B:Option Addr)(ca cb:Nat)(a b:List Int)(w:World)(hA:Ints w w.heap.size A a)(hB:Ints w w.heap.size B b)(ha:RhOk n a)(hb:RhOk n b) :
  Calls Tryz.prog 173 #[.agg #[.int .i64 n,.slice A a.length ca],.agg #[.int .i64 n,.slice B b.length cb]] w fun e w'=>e = .returned (.int .i64 (comN a b a.length))/\Below w.heap.size w w':=by
 have HCA:=Zh (fun V h=>show Calls Tryz.prog 105 #[.agg #[.int .i64 n,.slice A a.length ca]] V (fun e w'=>e = .returned (.int .i64 (codI n a))/\Below V.heap.size V w') from zd8 n A ca a V h ha)
 have HCB:=Zh (fun V h=>show Calls Tryz.prog 105 #[.agg #[.int .i64 n,.slice B b.length cb]] V (fun e w'=>e = .returned (.int .i64 (codI n b))/\Below V.heap.size V w') from zd8 n B cb b V h hb)
 have hc:=zwx ha hb
 have l1:=zhl ha
 have l2:=zhl hb
 have hle:codI n a &&& codI n b<=codI n a:=Nat.and_le_left
 have hand:=zcp (codI n a) (codI n b) (by omega) (by omega)
 generalize codI n a=C at *
 generalize codI n b=D at *
 have HON:=Zh (fun V=>zwz (C &&& D) V (by omega))
 rw [hc] at HON
 obtain ⟨X,hX⟩ : ∃ X,C &&& D=X:=⟨_,rfl⟩
 rw [hX] at HON hand hle
 have hwu:IntKind.u64.wrap (X:Int)=(X:Int):=u64w (by omega)
 clear hc hX
 have hal0:=(Below.refl w.heap.size w).alloc (Nat.le_refl _) (.cells #[.int .i64 n,.slice A a.length ca] 27)
 have hal1:=hal0.alloc hal0.size (.cells #[.int .i64 n,.slice B b.length cb] 27)
 have HC0:=Zh ((Cells2.new w (.int .i64 n) (.slice A a.length ca) 27).alloc (.cells #[.int .i64 n,.slice B b.length cb] 27))
 have HD0:=Zh (Cells2.new_at (w.alloc (.cells #[.int .i64 n,.slice A a.length ca] 27)) (.int .i64 n) (.slice B b.length cb) 27 (w.heap.size+1) (by simp))
 have HB0:=Zh hal1
 have HIA:=Zh (hA.lift hal1)
 have HIB:=Zh (hB.lift hal1)
 clear hA hB hal0 hal1
 obtain ⟨c0,c1,_,_,_⟩:=HC0.o
 obtain ⟨d0,d1,_,_,_⟩:=HD0.o
 go_enter Tryz.func173,Tryz.ntmps173
 go_wp2_with fail
 generalize (w.alloc (.cells #[.int .i64 n,.slice A a.length ca] 27)).alloc (.cells #[.int .i64 n,.slice B b.length cb] 27)=w0 at *
 obtain ⟨q,hq⟩ : ∃ q,w.heap.size=q:=⟨_,rfl⟩
 have HQ:=Zh hq
 rw [hq] at HC0 HD0 HB0 c0 c1 d0 d1 ⊢
 clear hq
 (refine wp_region_held_drew (S:=(fun w'=>w'.cell? ⟨q,0,none⟩=some (.int .i64 n)/\w'.cell? ⟨q,1,none⟩=some (.slice A a.length ca)/\w'.cell? ⟨q+1,0,none⟩=some (.int .i64 n)/\w'.cell? ⟨q+1,1,none⟩=some (.slice B b.length cb))) (by kernel_rfl) ?_ (fun hHeld=>?_);(focus ((try dsimp only);exact ⟨c0,c1,d0,d1⟩)))
 have HG1:=Zh ((Frm.refl (fun _=>False) w0).drew)
 have HB1:=Zh (Below.drew5_ HB0.o)
 have HIA1:=Zh (show Ints w0.drew w0.drew.heap.size A a from HIA.o)
 have HIB1:=Zh (show Ints w0.drew w0.drew.heap.size B b from HIB.o)
 have hq1:q<=w0.drew.heap.size:=by have:=HC0.o.2.2.2.2;show q<=w0.heap.size;omega
 generalize w0.drew=w1 at *
 (refine Zk 0 ?_;(try simp only [Act.put,Zz]))
 (refine Zk 2 ?_;(try simp only [Act.put,Zz]))
 (refine wpAnyH_ready (rs:=[1]) (by kernel_rfl) (by simp) ?_;refine AllReadyH.cons rfl (fun K hK=>?_) AllReadyH.nil;go_simp)
 go_at_call 105
 refine (HCA.o _ HIA1.o).mono ?_
 rintro e w2 ⟨rfl,hb⟩
 have HG2:=Zh (HG1.o.trans (Frm.pure hb (fun _=>False)))
 have HB2:=Zh (HB1.o.trans (hb.mono hq1))
 have HIB2:=Zh (HIB1.o.lift hb)
 have hq2:=Nat.le_trans hq1 hb.size
 clear hb c0 c1 d0 d1
 obtain ⟨c0,c1,_,_,_⟩:=zf4 HC0.o HG2.o (fun h=>h)
 obtain ⟨d0,d1,_,_,_⟩:=zf4 HD0.o HG2.o (fun h=>h)
 go_wp2_with fail
 (refine hK.out _ _ ?_ fun hHeld2=>?_;(focus ((try dsimp only);exact ⟨c0,c1,d0,d1⟩));(clear hK K);(try simp only [Act.put,Zz]))
 (refine wpAnyH_ready (rs:=[3]) (by kernel_rfl) (by simp) ?_;refine AllReadyH.cons rfl (fun K hK=>?_) AllReadyH.nil;go_simp)
 go_at_call 105
 refine (HCB.o _ HIB2.o).mono ?_
 rintro e w3 ⟨rfl,hb⟩
 have HG3:=Zh (HG2.o.trans (Frm.pure hb (fun _=>False)))
 have HB3:=Zh (HB2.o.trans (hb.mono hq2))
 clear hb c0 c1 d0 d1
 obtain ⟨c0,c1,_,_,_⟩:=zf4 HC0.o HG3.o (fun h=>h)
 obtain ⟨d0,d1,_,_,_⟩:=zf4 HD0.o HG3.o (fun h=>h)
 go_wp2_with fail
 (refine hK.out _ _ ?_ fun hHeld2=>?_;(focus ((try dsimp only);exact ⟨c0,c1,d0,d1⟩));(clear hK K);(try simp only [Act.put,Zz]))
 (refine Zk 4 ?_;(try simp only [Act.put,Zz]))
 (refine Zk 5 ?_;(try simp only [Act.put,Zz]))
 (refine wpAnyH_ready (rs:=[6]) (by kernel_rfl) (by simp) ?_;refine AllReadyH.cons rfl (fun K hK=>?_) AllReadyH.nil;go_simp)
 go_at_call 230
 refine (HON.o _).mono ?_
 rintro e w4 ⟨rfl,rfl⟩
 go_wp2_with fail
 (refine hK.out _ _ ?_ fun hHeld2=>?_;(focus ((try dsimp only);exact ⟨c0,c1,d0,d1⟩));(clear hK K);(try simp only [Act.put,Zz]))
 (refine Zk 7 ?_;(try simp only [Act.put,Zz]))
 refine wpAnyH_done (by kernel_rfl) ?_ _
 go_wp2_with fail
 go_ret
 exact ⟨rfl,by rw [HQ.o];exact HB3.o⟩
end Go.Proofs.YtjpnjchpdkogbaaGreatDoor
namespace Go.Proofs.YtjpnjchpdkogbaaGreatDoor
open Go.RowKit
def zdk (N:Nat)(a:List Int)(k:Nat):Int:=(comN (rotL N (evB N a.length) (k:Int)) a (rotL N (evB N a.length) (k:Int)).length:Nat)
def zbh (N:Nat)(a:List Int)(k:Nat):Int:=-zdk N a k
def znh (N:Nat)(a:List Int):Nat:=zay (zbh N a) N
def zbd (N:Nat)(a:List Int):List Int:=rotL N (evB N a.length) (znh N a:Int)
theorem zw1 (N:Nat)(A:Option Addr)(ca:Nat)(a:List Int)(w:World)(hA:Ints w w.heap.size A a)(ha:RhOk N a) :
  Calls Tryz.prog 118 #[.agg #[.int .i64 N,.slice A a.length ca]] w (znd w N (zbd N a) (comN (zbd N a) a (zbd N a).length:Nat)):=by
 have hn1:1<=N:=by have:=ha.1;omega
 have hn2:N<=24:=by have:=ha.2.1;omega
 have hal:a.length<=N:=zcs ha
 have hfn:Fits (N:Int):=by unfold Fits;omega
 have heok:=zc3 hn1 hn2 hal
 have hel:=zek N a.length
 have hr:rhB N a=true:=zao.2 ha
 have HRO:=Zh (fun V h=>hr ▸ zav N A ca a V hfn h)
 have HEV:=Zh (fun V=>zlv N a.length V hn1 hn2 hal)
 have HXL:=Zh (fun (k:Nat)=>(show RhOk N (rotL N (evB N a.length) (k:Int))/\(rotL N (evB N a.length) (k:Int)).length=a.length from ⟨(zah heok k).1,(zah heok k).2.trans hel⟩))
 have HX0:=Zh (show rotL N (evB N a.length) ((0:Nat):Int)=evB N a.length from (zdt heok 0).2 (fun t ht=>by rw [show (t:Int)-0=t by omega,Int.emod_eq_of_lt (by omega) (by omega)]))
 have HRT:=Zh (fun (k:Nat) (hk:k<=1000) (A1:Option Addr) (c1:Nat) V h=>zdf N A1 c1 (evB N a.length) k V h heok hk)
 have HDI:=Zh (fun (k:Nat) (B:Option Addr) (cb:Nat) V h1 h2=>show Calls Tryz.prog 173 #[.agg #[.int .i64 N,.slice B (rotL N (evB N a.length) (k:Int)).length cb],.agg #[.int .i64 N,.slice A a.length ca]] V (fun e w'=>e = .returned (.int .i64 (zdk N a k))/\Below V.heap.size V w') from zw0 N B A cb ca (rotL N (evB N a.length) (k:Int)) a V h1 h2 (zah heok k).1 ha)
 have HK:=Zh (show zay (zbh N a) N=znh N a from rfl)
 have HKM:=Zh (fun m (hm:1<=m)=>zhr (zbh N a) m hm)
 have HEF:=Zh (zcl heok)
 have HEL:=Zh hel
 have HA:=Zh hA
 have hal0:=(Below.refl w.heap.size w).alloc (Nat.le_refl _) (.cells #[.int .i64 N,.slice A a.length ca] 27)
 have hal1:=hal0.alloc hal0.size (.cells #[.int .i64 0,.slice none 0 0] 27)
 have HC0:=Zh ((Cells2.new w (.int .i64 N) (.slice A a.length ca) 27).alloc (.cells #[.int .i64 0,.slice none 0 0] 27))
 have HZ0:=Zh (Cells2.new_at (w.alloc (.cells #[.int .i64 N,.slice A a.length ca] 27)) (.int .i64 0) (.slice none 0 0) 27 (w.heap.size+1) (by simp))
 have HB0:=Zh hal1
 have HI0:=Zh (hA.lift hal1)
 clear hA ha heok hel hr hal0 hal1 hfn
 obtain ⟨c0,c1,_,_,_⟩:=HC0.o
 go_enter Tryz.func118,Tryz.ntmps118
 go_wp2_with fail
 refine (HRO.o _ HI0.o).mono ?_
 rintro e w1 ⟨rfl,hb⟩
 have HB1:=Zh (HB0.o.trans (hb.mono HB0.o.size))
 have HC1:=Zh (HC0.o.below hb HC0.o.2.2.2.2)
 have HZ1:=Zh (HZ0.o.below hb HZ0.o.2.2.2.2)
 clear hb c0 c1
 obtain ⟨c0,c1,_,_,_⟩:=HC1.o
 go_wp2_with fail
 refine (HEV.o _).mono ?_
 rintro e w2 ⟨Ae,ce,rfl,hrw,hb⟩
 obtain ⟨q,hq⟩ : ∃ q,w.heap.size=q:=⟨_,rfl⟩
 have HQ:=Zh hq
 rw [hq] at HB1 HC1 HZ1 HA ⊢
 clear hq
 have hq1:q+2<=w1.heap.size:=by have:=HZ1.o.2.2.2.2;omega
 have hz2:=hb.size
 obtain ⟨be,hLe,hbe⟩:=hrw.rvOf q (by omega) (by omega) (N:Int) ce
 have hbl:be<w2.heap.size:=hLe.2.2.1
 have HB2:=Zh (HB1.o.trans (hb.mono (by omega)))
 have HC2:=Zh (HC1.o.below hb HC1.o.2.2.2.2)
 have HZ2:=Zh (HZ1.o.below hb HZ1.o.2.2.2.2)
 have hal2:=(Below.refl w2.heap.size w2).alloc (Nat.le_refl _) (.cells #[.int .i64 N,.slice Ae (evB N a.length).length ce] 27)
 have hal3:=hal2.alloc hal2.size (.cells #[.int .i64 N,.slice Ae (evB N a.length).length ce] 27)
 have HE2:=Zh (Cells2.new w2 (.int .i64 N) (.slice Ae (evB N a.length).length ce) 27)
 have HE3:=Zh (HE2.o.alloc (.cells #[.int .i64 N,.slice Ae (evB N a.length).length ce] 27))
 have HG3:=Zh (Cells2.new_at (w2.alloc (.cells #[.int .i64 N,.slice Ae (evB N a.length).length ce] 27)) (.int .i64 N) (.slice Ae (evB N a.length).length ce) 27 (w2.heap.size+1) (by simp))
 have HL3:=Zh (hLe.frm (Frm.pure hal3 (fun _=>False)) (fun h=>h))
 have HC3:=Zh (HC2.o.below hal3 HC2.o.2.2.2.2)
 have HZ3:=Zh (HZ2.o.below hal3 HZ2.o.2.2.2.2)
 have HB3:=Zh (HB2.o.trans (hal3.mono (by omega)))
 clear hb hrw hLe hal2 hal3 c0 c1
 obtain ⟨e0,e1,_,_,_⟩:=HE2.o
 obtain ⟨c0,c1,_,_,_⟩:=HC3.o
 go_wp2_with fail
 generalize (w2.alloc (.cells #[.int .i64 N,.slice Ae (evB N a.length).length ce] 27)).alloc (.cells #[.int .i64 N,.slice Ae (evB N a.length).length ce] 27)=w3 at *
 obtain ⟨ge,hge⟩ : ∃ g,w2.heap.size=g:=⟨_,rfl⟩
 rw [hge] at HE2 HE3 HG3 hz2 hbl ⊢
 obtain ⟨E,hE⟩ : ∃ E,evB N a.length=E:=⟨_,rfl⟩
 rw [hE] at HEV HXL HX0 HRT HDI HEF HEL HE3 HG3 HL3 ⊢
 have HEE:=Zh hE
 have hgq:q+2<=ge:=by omega
 clear hge hE HE2 e0 e1 c0 c1
 go_loopw [25] (fun i wr=>∃ (j:Nat) (r:RV),j<=N/\i = .int .i64 j/\r.n=N/\r.xs=rotL N E (zay (zbh N a) j:Nat)/\r.Lies wr q/\(r.b≠q+1/\r.b≠ge+1)/\Cells2 wr (ge+1) (.int .i64 N) r.slc/\Cells2 wr ge (.int .i64 N) (.slice Ae E.length ce)/\(⟨N,E,Ae,ce,be⟩:RV).Lies wr q/\Cells2 wr q (.int .i64 N) (.slice A a.length ca)/\Cells2 wr (q+1) (.int .i64 0) (.slice none 0 0)/\Below q w wr) (fun i _=>N-(intOf i).toNat)
 case atStart=>exact ⟨0,⟨N,E,Ae,ce,be⟩,Nat.zero_le _,rfl,rfl,HX0.o.symm,HL3.o,⟨by show be≠q+1;omega,by show be≠ge+1;omega⟩,HG3.o,HE3.o,HL3.o,HC3.o,HZ3.o,HB3.o⟩
 case round =>
  obtain ⟨j,r,hj,rfl,hrn,hrx,hrl,hrb,hbest,hec,hel,hac,hzc,hbel⟩:=hrel
  obtain ⟨wo,rfl⟩ : ∃ wo:World,wo=wr:=⟨_,rfl⟩
  have HBS:=Zh hbest
  have HEC:=Zh hec
  have HELs:=Zh hel
  have HAC:=Zh hac
  have HZC:=Zh hzc
  have HBE:=Zh hbel
  have HRL:=Zh hrl
  have hgs:=hbest.2.2.2.2
  obtain ⟨n',X,AX,cX,bX⟩:=r
  change n'=(N:Int) at hrn
  subst hrn
  change X=_ at hrx
  have HRX:=Zh hrx
  dsimp only at hrb
  obtain ⟨c0,c1,_,_,_⟩:=hac
  obtain ⟨e0,e1,_,_,_⟩:=hec
  clear hbest hel hzc hbel hrl hrx
  by_cases hlt:j<N
  ·have hI:=HELs.o.ints HEF.o
   have HIE:=Zh (show Ints wo wo.heap.size Ae E from hI)
   have HRJ:=Zh (HRT.o j (by omega) Ae ce)
   have HXJ:=Zh (HXL.o j)
   have HDJ:=Zh (HDI.o j)
   have HDB:=Zh (HDI.o (zay (zbh N a) j))
   rw [<- HRX.o] at HDB
   have HBK:=Zh (show zay (zbh N a) (j+1)=if zbh N a j<zbh N a (zay (zbh N a) j) then j else zay (zbh N a) j from rfl)
   obtain ⟨Y,hY⟩ : ∃ Y,rotL N E (j:Int)=Y:=⟨_,rfl⟩
   have HYY:=Zh hY
   rw [hY] at HRJ HXJ HDJ
   obtain ⟨F1,hF1⟩ : ∃ F,zdk N a j=F:=⟨_,rfl⟩
   obtain ⟨F2,hF2⟩ : ∃ F,zdk N a (zay (zbh N a) j)=F:=⟨_,rfl⟩
   rw [show zbh N a j = -zdk N a j from rfl,show zbh N a (zay (zbh N a) j) = -zdk N a (zay (zbh N a) j) from rfl] at HBK
   rw [hF1] at HDJ HBK
   rw [hF2] at HDB HBK
   have hji:(j:Int)<(N:Int):=by omega
   clear hI hY hF1 hF2
   go_wp2_with fail
   refine (HRJ.o _ HIE.o).mono ?_
   rintro e w5 ⟨A5,c5,rfl,hrw,hb⟩
   have hz5:=hb.size
   obtain ⟨b5,hL5,hb5⟩:=hrw.rvOf q (by omega) (by omega) (N:Int) c5
   have hal:=(Below.refl w5.heap.size w5).alloc (Nat.le_refl _) (.cells #[.int .i64 N,.slice A5 Y.length c5] 27)
   have HF6:=Zh ((Frm.pure hb (fun _=>False)).trans (Frm.pure hal (fun _=>False)))
   have HB6:=Zh ((HBE.o.trans (hb.mono (by omega))).trans (hal.mono (by omega)))
   have HL6:=Zh (hL5.frm (Frm.pure hal (fun _=>False)) (fun h=>h))
   have HN6:=Zh (Cells2.new w5 (.int .i64 N) (.slice A5 Y.length c5) 27)
   have hbY:b5≠q+1/\b5≠ge+1:=by omega
   clear hb hrw hL5 hal e0 e1 c0 c1
   have HBS6:=Zh (HBS.o.frmY HF6.o (fun h=>h))
   have HAC6:=Zh (HAC.o.frmY HF6.o (fun h=>h))
   have HRL6:=Zh (HRL.o.frm HF6.o (fun h=>h))
   obtain ⟨c0,c1,_,_,_⟩:=HAC6.o
   obtain ⟨n0,n1,_,_,_⟩:=HN6.o
   obtain ⟨g0,g1,_,_,_⟩:=HBS6.o
   unfold RV.slc at g1
   dsimp only at g1
   go_wp2_with fail
   generalize w5.alloc (.cells #[.int .i64 N,.slice A5 Y.length c5] 27)=w6 at *
   obtain ⟨nx,hnx⟩ : ∃ x,w5.heap.size=x:=⟨_,rfl⟩
   rw [hnx] at HN6 n0 n1 hz5 ⊢
   clear hnx
   (refine wp_region_held_drew (S:=(fun w'=>w'.cell? ⟨q,0,none⟩=some (.int .i64 N)/\w'.cell? ⟨q,1,none⟩=some (.slice A a.length ca)/\w'.cell? ⟨nx,0,none⟩=some (.int .i64 N)/\w'.cell? ⟨nx,1,none⟩=some (.slice A5 Y.length c5)/\w'.cell? ⟨ge+1,0,none⟩=some (.int .i64 N)/\w'.cell? ⟨ge+1,1,none⟩=some (.slice AX X.length cX))) (by kernel_rfl) ?_ (fun hHeld=>?_);(focus ((try dsimp only);exact ⟨c0,c1,n0,n1,g0,g1⟩)))
   have HF7:=Zh (HF6.o.drew)
   have HG7:=Zh ((Frm.refl (fun _=>False) w6).drew)
   have HB7:=Zh (Below.drew5_ HB6.o)
   have hq6:q<=w6.drew.heap.size:=by have:=HN6.o.2.2.2.2;show q<=w6.heap.size;omega
   generalize w6.drew=w7 at *
   have HIA7:=Zh ((HA.o.below HB7.o).mono hq6)
   have HIY7:=Zh ((HL6.o.frm HG7.o (fun h=>h)).ints (zcl HXJ.o.1))
   have HIX7:=Zh ((HRL6.o.frm HG7.o (fun h=>h)).ints (show ∀ x∈X,Fits x by rw [HRX.o];exact zcl (HXL.o _).1))
   (refine Zk 0 ?_;(try simp only [Act.put,Zz]))
   (refine Zk 1 ?_;(try simp only [Act.put,Zz]))
   (refine Zk 3 ?_;(try simp only [Act.put,Zz]))
   (refine Zk 4 ?_;(try simp only [Act.put,Zz]))
   (refine wpAnyH_ready (rs:=[2]) (by kernel_rfl) (by simp) ?_;refine AllReadyH.cons rfl (fun K hK=>?_) AllReadyH.nil;go_simp)
   go_at_call 173
   refine (HDJ.o _ _ _ HIY7.o HIA7.o).mono ?_
   rintro e w8 ⟨rfl,hb⟩
   have HG8:=Zh (HG7.o.trans (Frm.pure hb (fun _=>False)))
   have HIA8:=Zh (HIA7.o.lift hb)
   have HIX8:=Zh (HIX7.o.lift hb)
   have HB8:=Zh (HB7.o.trans (hb.mono hq6))
   have hq8:=Nat.le_trans hq6 hb.size
   clear hb c0 c1 n0 n1 g0 g1
   have HAC8:=Zh (HAC6.o.frmY HG8.o (fun h=>h))
   have HN8:=Zh (HN6.o.frmY HG8.o (fun h=>h))
   have HBS8:=Zh (HBS6.o.frmY HG8.o (fun h=>h))
   obtain ⟨c0,c1,_,_,_⟩:=HAC8.o
   obtain ⟨n0,n1,_,_,_⟩:=HN8.o
   obtain ⟨g0,g1,_,_,_⟩:=HBS8.o
   unfold RV.slc at g1
   dsimp only at g1
   go_wp2_with fail
   (refine hK.out _ _ ?_ fun hHeld2=>?_;(focus ((try dsimp only);exact ⟨c0,c1,n0,n1,g0,g1⟩));(clear hK K);(try simp only [Act.put,Zz]))
   (refine wpAnyH_ready (rs:=[5]) (by kernel_rfl) (by simp) ?_;refine AllReadyH.cons rfl (fun K hK=>?_) AllReadyH.nil;go_simp)
   go_at_call 173
   refine (HDB.o _ _ _ HIX8.o HIA8.o).mono ?_
   rintro e w9 ⟨rfl,hb⟩
   have HG9:=Zh (HG8.o.trans (Frm.pure hb (fun _=>False)))
   have HB9:=Zh (HB8.o.trans (hb.mono hq8))
   clear hb c0 c1 n0 n1 g0 g1
   have HAC9:=Zh (HAC6.o.frmY HG9.o (fun h=>h))
   have HN9:=Zh (HN6.o.frmY HG9.o (fun h=>h))
   have HBS9:=Zh (HBS6.o.frmY HG9.o (fun h=>h))
   have HEC9:=Zh ((HEC.o.frmY HF6.o (fun h=>h)).frmY HG9.o (fun h=>h))
   have HEL9:=Zh ((HELs.o.frm HF6.o (fun h=>h)).frm HG9.o (fun h=>h))
   have HZC9:=Zh ((HZC.o.frmY HF6.o (fun h=>h)).frmY HG9.o (fun h=>h))
   have HL9:=Zh (HL6.o.frm HG9.o (fun h=>h))
   have HRL9:=Zh (HRL6.o.frm HG9.o (fun h=>h))
   obtain ⟨c0,c1,_,_,_⟩:=HAC9.o
   obtain ⟨n0,n1,_,_,_⟩:=HN9.o
   obtain ⟨g0,g1,gf0,gf1,_⟩:=HBS9.o
   unfold RV.slc at g1
   dsimp only at g1
   go_wp2_with fail
   (refine hK.out _ _ ?_ fun hHeld2=>?_;(focus ((try dsimp only);exact ⟨c0,c1,n0,n1,g0,g1⟩));(clear hK K);(try simp only [Act.put,Zz]))
   (refine Zk 6 ?_;(try simp only [Act.put,Zz]))
   refine wpAnyH_done (by kernel_rfl) ?_ _
   by_cases hlt2:F2<F1
   ·rw [if_pos (show -F1 < -F2 by omega)] at HBK
    have HS9:=Zh ((HBS9.o.set0 (.int .i64 N)).set1 (.slice A5 Y.length c5))
    have HFS:=Zh ((Frm.setCell (S:=fun c=>c=ge+1) (p:=⟨ge+1,0,none⟩) (Frm.refl _ w9) rfl (.int .i64 N)).setCell (p:=⟨ge+1,1,none⟩) rfl (.slice A5 Y.length c5))
    go_wp2_with fail
    go_roundw
    case rel=>exact ⟨j+1,⟨N,Y,A5,c5,b5⟩,by omega,by go_num,rfl,by rw [HBK.o];exact HYY.o.symm,HL9.o.frm HFS.o (show ¬ b5=ge+1 from hbY.2),hbY,HS9.o,HEC9.o.frmY HFS.o (show ¬ ge=ge+1 by omega),HEL9.o.frm HFS.o (show ¬ be=ge+1 by omega),HAC9.o.frmY HFS.o (show ¬ q=ge+1 by omega),HZC9.o.frmY HFS.o (show ¬ q+1=ge+1 by omega),HB9.o.trans (HFS.o.below (B:=q) (fun c h=>by have h:c=ge+1:=h;omega) (by have:=HAC9.o.2.2.2.2;omega))⟩
    case measure=>simp [intOf];omega
   ·rw [if_neg (show ¬ -F1 < -F2 by omega)] at HBK
    go_wp2_with fail
    go_roundw
    case rel=>exact ⟨j+1,⟨N,X,AX,cX,bX⟩,by omega,by go_num,rfl,by rw [HBK.o];exact HRX.o,HRL9.o,hrb,HBS9.o,HEC9.o,HEL9.o,HAC9.o,HZC9.o,HB9.o⟩
    case measure=>simp [intOf];omega
  ·have hjN:j=N:=by omega
   subst hjN
   have HVX:=Zh (show zbd j a=X by
    have h1:=HRX.o
    rw [HK.o] at h1
    rw [h1,<- HEE.o]
    rfl)
   have HDB:=Zh (HDI.o (zay (zbh j a) j))
   rw [<- HRX.o] at HDB
   have HVF:=Zh (show zdk j a (zay (zbh j a) j)=(comN (zbd j a) a (zbd j a).length:Nat) by
    unfold zbd
    rw [HK.o]
    rfl)
   rw [HVF.o] at HDB
   obtain ⟨F,hF⟩ : ∃ F:Int,((comN (zbd j a) a (zbd j a).length:Nat):Int)=F:=⟨_,rfl⟩
   have HFF:=Zh hF
   rw [hF] at HDB
   obtain ⟨g0,g1,_,_,_⟩:=HBS.o
   unfold RV.slc at g1
   dsimp only at g1
   clear hF e0 e1
   go_wp2_with fail
   (refine wp_region_held_drew (S:=(fun w'=>w'.cell? ⟨q,0,none⟩=some (.int .i64 j)/\w'.cell? ⟨q,1,none⟩=some (.slice A a.length ca)/\w'.cell? ⟨ge+1,0,none⟩=some (.int .i64 j)/\w'.cell? ⟨ge+1,1,none⟩=some (.slice AX X.length cX))) (by kernel_rfl) ?_ (fun hHeld=>?_);(focus ((try dsimp only);exact ⟨c0,c1,g0,g1⟩)))
   have HG7:=Zh ((Frm.refl (fun _=>False) wo).drew)
   have HB7:=Zh (Below.drew5_ HBE.o)
   have hq6:q+2<=wo.drew.heap.size:=by have:=HZC.o.2.2.2.2;show q+2<=wo.heap.size;omega
   generalize wo.drew=w7 at *
   have HIA7:=Zh ((HA.o.below HB7.o).mono (show q<=w7.heap.size by omega))
   have HIX7:=Zh ((HRL.o.frm HG7.o (fun h=>h)).ints (show ∀ x∈X,Fits x by rw [HRX.o];exact zcl (HXL.o _).1))
   (refine Zk 0 ?_;(try simp only [Act.put,Zz]))
   (refine Zk 1 ?_;(try simp only [Act.put,Zz]))
   (refine Zk 2 ?_;(try simp only [Act.put,Zz]))
   (refine wpAnyH_ready (rs:=[3]) (by kernel_rfl) (by simp) ?_;refine AllReadyH.cons rfl (fun K hK=>?_) AllReadyH.nil;go_simp)
   go_at_call 173
   refine (HDB.o _ _ _ HIX7.o HIA7.o).mono ?_
   rintro e w8 ⟨rfl,hb⟩
   have HG8:=Zh (HG7.o.trans (Frm.pure hb (fun _=>False)))
   have HB8:=Zh (HB7.o.trans (hb.mono (by omega)))
   have hq8:=Nat.le_trans hq6 hb.size
   clear hb c0 c1 g0 g1
   have HAC8:=Zh (HAC.o.frmY HG8.o (fun h=>h))
   have HBS8:=Zh (HBS.o.frmY HG8.o (fun h=>h))
   have HZC8:=Zh (HZC.o.frmY HG8.o (fun h=>h))
   have HRL8:=Zh (HRL.o.frm HG8.o (fun h=>h))
   obtain ⟨c0,c1,_,_,_⟩:=HAC8.o
   obtain ⟨g0,g1,_,_,_⟩:=HBS8.o
   obtain ⟨z0,z1,zf0,zf1,_⟩:=HZC8.o
   unfold RV.slc at g1
   dsimp only at g1
   go_wp2_with fail
   (refine hK.out _ _ ?_ fun hHeld2=>?_;(focus ((try dsimp only);exact ⟨c0,c1,g0,g1⟩));(clear hK K);(try simp only [Act.put,Zz]))
   (refine wpAnyH_ready (rs:=[4]) (by kernel_rfl) (by simp) ?_;refine AllReadyH.cons rfl (fun K hK=>?_) AllReadyH.nil;go_simp)
   have HS9:=Zh ((HZC8.o.set0 (.int .i64 j)).set1 (.slice AX X.length cX))
   have HFS:=Zh ((Frm.setCell (S:=fun c=>c=q+1) (p:=⟨q+1,0,none⟩) (Frm.refl _ w8) rfl (.int .i64 j)).setCell (p:=⟨q+1,1,none⟩) rfl (.slice AX X.length cX))
   have HAC9:=Zh (HAC8.o.frmY HFS.o (show ¬ q=q+1 by omega))
   have HBS9:=Zh (HBS8.o.frmY HFS.o (show ¬ ge+1=q+1 by omega))
   have HRL9:=Zh (HRL8.o.frm HFS.o (show ¬ bX=q+1 from hrb.1))
   have HB9:=Zh (HB8.o.trans (HFS.o.below (B:=q) (fun c h=>by have h:c=q+1:=h;omega) (by omega)))
   clear c0 c1 g0 g1 z0 z1
   obtain ⟨c0,c1,_,_,_⟩:=HAC9.o
   obtain ⟨g0,g1,_,_,_⟩:=HBS9.o
   obtain ⟨z0,z1,_,_,_⟩:=HS9.o
   unfold RV.slc at g1
   dsimp only at g1
   (refine hK.out _ _ ?_ fun hHeld2=>?_;(focus ((try dsimp only);exact ⟨c0,c1,g0,g1⟩));(clear hK K);(try simp only [Act.put,Zz]))
   (refine Zk 5 ?_;(try simp only [Act.put,Zz]))
   refine wpAnyH_done (by kernel_rfl) ?_ _
   go_wp2_with fail
   refine bodyPost_ret (v:=.tuple #[.agg #[.int .i64 j,.slice AX X.length cX],.int .i64 F]) (by simp [results,Tryz.results118,go_sem,z0,z1]) rfl ?_
   rw [HFF.o,HVX.o]
   exact ⟨AX,cX,rfl,by rw [HQ.o];exact HRL9.o.rw',by rw [HQ.o];exact HB9.o⟩
end Go.Proofs.YtjpnjchpdkogbaaGreatDoor
namespace Go.Proofs.YtjpnjchpdkogbaaGreatDoor
open Go.RowKit
end Go.Proofs.YtjpnjchpdkogbaaGreatDoor
namespace Go.Proofs.YtjpnjchpdkogbaaGreatDoor
open Go.RowKit
def evW (b:Bool):Txt:=if b then [101,118,101,110] else [117,110,101,118,101,110]
noncomputable def evlL (N:Nat)(bs:List Int):Txt:=zaf [evW (evnB (zat N bs)),[110,101,97,114,101,115,116],zaj N (zbd N bs) (fun _=>120),[109,111,118,101,115],itoL (farV N bs (fewX N bs))] [32]
theorem zw2 (N:Nat)(A:Option Addr)(cap:Nat)(bs:List Int)(w:World)(hA:Ints w w.heap.size A bs)(hok:RhOk N bs)(hP:Pow w) :
  Calls Tryz.prog 56 #[.agg #[.int .i64 N,.slice A bs.length cap]] w fun e w'=>e = .returned (.string (mkS (evlL N bs)))/\Below w.heap.size w w':=by
 have hn1:1<=N:=by have:=hok.1;omega
 have hn2:N<=24:=by have:=hok.2.1;omega
 have hbl:bs.length<=N:=zcs hok
 have hfN:Fits (N:Int):=by unfold Fits;omega
 have HRO:=Zh (fun V h=>zav N A cap bs V hfN h)
 rw [zao.2 hok] at HRO
 have HIE:=Zh (fun V h=>ztc N A cap bs V h hok)
 have HNE:=Zh (fun V h=>zw1 N A cap bs V h hok)
 have HFM:=Zh (fun V h=>zwk N A cap bs V h hok)
 have hxo:RhOk N (zbd N bs):=(zah (zc3 hn1 hn2 hbl) _).1
 have hyo:RhOk N (fewX N bs):=(zah (zc3 hn1 hn2 hbl) _).1
 have hyl:bs.length=(fewX N bs).length:=by
  unfold fewX
  rw [(zah (zc3 hn1 hn2 hbl) _).2,zek]
 have hpf:Fits (farV N bs (fewX N bs)):=by
  have:=zlq hok hyo hyl
  have:=zlg N bs (fewX N bs)
  unfold Fits;omega
 have HXF:=Zh (zcl hxo)
 have HYF:=Zh (zcl hyo)
 have HTX:=Zh (fun A c V h=>zdg N A c (zbd N bs) V h hxo)
 have HFI:=Zh (fun V (hb:Below w.heap.size w V)=>zbq (farV N bs (fewX N bs)) hpf V (hP.below hb))
 have hpl:=zbe _ hpf
 have HLN:=Zh (show evlL N bs=zaf [evW (evnB (zat N bs)),[110,101,97,114,101,115,116],zaj N (zbd N bs) (fun _=>120),[109,111,118,101,115],itoL (farV N bs (fewX N bs))] [32] from rfl)
 have htl:(zaj N (zbd N bs) (fun _=>120)).length<=504:=by rw [zb5];omega
 have HA:=Zh hA
 clear hyl hxo hyo
 generalize comN (zbd N bs) bs (zbd N bs).length=cm at *
 generalize farV N bs (fewX N bs)=D at *
 generalize zaj N (zbd N bs) (fun _=>120)=TX at *
 generalize zbd N bs=X at *
 generalize fewX N bs=Y at *
 generalize evnB (zat N bs)=ev at *
 generalize evlL N bs=LL at *
 obtain ⟨IP,hIP⟩ : ∃ t,itoL D=t:=⟨_,rfl⟩
 rw [hIP] at HFI HLN hpl
 have HJ:=Zh (fun V g (hg:V.heap.size=g)=>zdr (some ⟨g,0,none⟩) 5 [evW ev,[110,101,97,114,101,115,116],TX,[109,111,118,101,115],IP] [32] 504 _ (ze4 V g _ (by simp) hg) (by simp) (by
  intro x hx
  simp at hx
  rcases hx with rfl | rfl | rfl | rfl | rfl <;> first | assumption | (cases ev <;> simp [evW];done) | (simp;done) | omega) (by simp))
 rw [<- HLN.o] at HJ
 obtain ⟨c0,c1⟩:=box2 (Below.refl (w.heap.size+1) (w.alloc (.cells #[.int .i64 N,.slice A bs.length cap] 27)))
 have HB0:=Zh ((Below.refl w.heap.size w).alloc (Nat.le_refl _) (.cells #[.int .i64 N,.slice A bs.length cap] 27))
 have HC0:=Zh (Cells2.new w (.int .i64 N) (.slice A bs.length cap) 27)
 have HI0:=Zh (HA.o.lift HB0.o)
 clear hA hok hP hIP
 go_enter Tryz.func56,Tryz.ntmps56
 go_wp2_with fail
 refine (HRO.o _ HI0.o).mono ?_
 rintro e w1 ⟨rfl,hb⟩
 have HB1:=Zh (HB0.o.trans (hb.mono HB0.o.size))
 have HC1:=Zh (HC0.o.below hb HC0.o.2.2.2.2)
 have HI1:=Zh (HI0.o.lift hb)
 clear hb c0 c1
 obtain ⟨c0,c1,_,_,_⟩:=HC1.o
 go_wp2_with fail
 refine (HIE.o _ HI1.o).mono ?_
 rintro e w2 ⟨rfl,hb⟩
 have HB2:=Zh (HB1.o.trans (hb.mono HB1.o.size))
 have HC2:=Zh (HC1.o.below hb HC1.o.2.2.2.2)
 have HI2:=Zh (HI1.o.lift hb)
 clear hb c0 c1
 obtain ⟨c0,c1,_,_,_⟩:=HC2.o
 cases ev
 ·rw [show evW false=[117,110,101,118,101,110] from rfl] at HJ HLN
  go_wp2_with fail
  refine (HNE.o _ HI2.o).mono ?_
  rintro e w3 ⟨A3,k3,rfl,hr3,hb⟩
  have hal:=(Below.refl w3.heap.size w3).alloc (Nat.le_refl _) (.cells #[.int .i64 N,.slice A3 X.length k3] 27)
  have HR3:=Zh (hr3.below hal)
  have HD3:=Zh (Cells2.new w3 (.int .i64 N) (.slice A3 X.length k3) 27)
  have hb:=hb.trans (hal.mono hb.size)
  clear hr3 hal
  have HB3:=Zh (HB2.o.trans (hb.mono HB2.o.size))
  have HC3:=Zh (HC2.o.below hb HC2.o.2.2.2.2)
  have HI3:=Zh (HI2.o.lift hb)
  clear hb c0 c1
  obtain ⟨c0,c1,_,_,_⟩:=HC3.o
  go_wp2_with fail
  generalize w3.alloc (.cells #[.int .i64 N,.slice A3 X.length k3] 27)=v3 at *
  generalize w3.heap.size=g3 at *
  refine (HFM.o _ HI3.o).mono ?_
  rintro e w4 ⟨A4,k4,rfl,hr4,hb⟩
  have hal:=(Below.refl w4.heap.size w4).alloc (Nat.le_refl _) (.cells #[.int .i64 N,.slice A4 Y.length k4] 27)
  have hb:=hb.trans (hal.mono hb.size)
  have HX4:=Zh ((HR3.o.ints HXF.o).lift hb)
  have HD4:=Zh (HD3.o.below hb HD3.o.2.2.2.2)
  have HB4:=Zh (HB3.o.trans (hb.mono HB3.o.size))
  obtain ⟨d0,d1,_,_,_⟩:=HD4.o
  clear hb hal hr4 c0 c1
  go_wp2_with fail
  generalize w4.alloc (.cells #[.int .i64 N,.slice A4 Y.length k4] 27)=v4 at *
  try skip
  refine (HTX.o _ _ _ HX4.o).mono ?_
  rintro e w5 ⟨rfl,hb⟩
  have HB5:=Zh (HB4.o.trans (hb.mono HB4.o.size))
  clear hb d0 d1
  go_wp2_with fail
  refine (HFI.o _ HB5.o).mono ?_
  rintro e w6 ⟨rfl,hb⟩
  have HB6:=Zh (HB5.o.trans (hb.mono HB5.o.size))
  clear hb
  go_wp2_with fail
  have HB7:=Zh (HB6.o.alloc HB6.o.size (.cells ([[117,110,101,118,101,110],[110,101,97,114,101,115,116],TX,[109,111,118,101,115],IP].map emS).toArray 9))
  refine (HJ.o w6 w6.heap.size rfl).mono ?_
  rintro e w9 ⟨rfl,hb⟩
  have HB9:=Zh (HB7.o.trans (hb.mono HB7.o.size))
  clear hb
  go_wp2_with fail
  go_ret
  exact ⟨rfl,HB9.o⟩
 ·rw [show evW true=[101,118,101,110] from rfl] at HJ HLN
  go_wp2_with fail
  refine (HNE.o _ HI2.o).mono ?_
  rintro e w3 ⟨A3,k3,rfl,hr3,hb⟩
  have hal:=(Below.refl w3.heap.size w3).alloc (Nat.le_refl _) (.cells #[.int .i64 N,.slice A3 X.length k3] 27)
  have HR3:=Zh (hr3.below hal)
  have HD3:=Zh (Cells2.new w3 (.int .i64 N) (.slice A3 X.length k3) 27)
  have hb:=hb.trans (hal.mono hb.size)
  clear hr3 hal
  have HB3:=Zh (HB2.o.trans (hb.mono HB2.o.size))
  have HC3:=Zh (HC2.o.below hb HC2.o.2.2.2.2)
  have HI3:=Zh (HI2.o.lift hb)
  clear hb c0 c1
  obtain ⟨c0,c1,_,_,_⟩:=HC3.o
  go_wp2_with fail
  generalize w3.alloc (.cells #[.int .i64 N,.slice A3 X.length k3] 27)=v3 at *
  generalize w3.heap.size=g3 at *
  refine (HFM.o _ HI3.o).mono ?_
  rintro e w4 ⟨A4,k4,rfl,hr4,hb⟩
  have hal:=(Below.refl w4.heap.size w4).alloc (Nat.le_refl _) (.cells #[.int .i64 N,.slice A4 Y.length k4] 27)
  have hb:=hb.trans (hal.mono hb.size)
  have HX4:=Zh ((HR3.o.ints HXF.o).lift hb)
  have HD4:=Zh (HD3.o.below hb HD3.o.2.2.2.2)
  have HB4:=Zh (HB3.o.trans (hb.mono HB3.o.size))
  obtain ⟨d0,d1,_,_,_⟩:=HD4.o
  clear hb hal hr4 c0 c1
  go_wp2_with fail
  generalize w4.alloc (.cells #[.int .i64 N,.slice A4 Y.length k4] 27)=v4 at *
  try skip
  refine (HTX.o _ _ _ HX4.o).mono ?_
  rintro e w5 ⟨rfl,hb⟩
  have HB5:=Zh (HB4.o.trans (hb.mono HB4.o.size))
  clear hb d0 d1
  go_wp2_with fail
  refine (HFI.o _ HB5.o).mono ?_
  rintro e w6 ⟨rfl,hb⟩
  have HB6:=Zh (HB5.o.trans (hb.mono HB5.o.size))
  clear hb
  go_wp2_with fail
  have HB7:=Zh (HB6.o.alloc HB6.o.size (.cells ([[101,118,101,110],[110,101,97,114,101,115,116],TX,[109,111,118,101,115],IP].map emS).toArray 9))
  refine (HJ.o w6 w6.heap.size rfl).mono ?_
  rintro e w9 ⟨rfl,hb⟩
  have HB9:=Zh (HB7.o.trans (hb.mono HB7.o.size))
  clear hb
  go_wp2_with fail
  go_ret
  exact ⟨rfl,HB9.o⟩
end Go.Proofs.YtjpnjchpdkogbaaGreatDoor
namespace Go.Proofs.YtjpnjchpdkogbaaGreatDoor
def cdN (N:Nat)(bs:List Int)(q:Nat):Nat:=codI N (rotL N bs (q:Nat))
def mskF (N:Nat)(bs:List Int)(b:List Nat):Nat:=b.foldl (fun m q=>m ||| cdN N bs q) 0
def djB (N:Nat)(bs:List Int)(b:List Nat)(k:Nat):Bool:=decide (cdN N bs k &&& mskF N bs b=0)
def cplB (N:Nat)(bs:List Int)(b:List Nat):Bool:=decide (mskF N bs b=2 ^ N-1)
def gS (N:Nat) (bs:List Int):Nat->List Nat->Nat->Option (List Nat)
 | 0,b,_=>if cplB N bs b then some b else none
 | m+1,b,p=>if cplB N bs b then some b else
   if djB N bs b p then (match gS N bs m (b++[p]) (p+1) with | some x=>some x | none=>gS N bs m b (p+1)) else gS N bs m b (p+1)
def posN (N:Nat) (bs:List Int) (b:List Nat) (p:Nat):Nat->Nat
 | 0=>mskF N bs b
 | m+1=>if djB N bs b (p+m) then posN N bs b p m ||| cdN N bs (p+m) else posN N bs b p m
def inR (N:Nat)(bs:List Int)(q t:Nat):Bool:=hasB bs (((t:Int)-(q:Nat)) % N)
section
variable {N:Nat} {bs:List Int}
theorem zw3 (hn:1<=N){q t:Nat}(ht:t<N):inR N bs q t=true ↔ (t:Int)∈rotL N bs (q:Nat):=by
 rw [zdc]
 unfold inR
 constructor
 ·intro h;exact ⟨t,ht,h,rfl⟩
 ·rintro ⟨s,_,h,e⟩
  have:t=s:=by omega
  subst this
  exact h
theorem zis (h:RhOk N bs)(q t:Nat)(ht:t<N):(cdN N bs q).testBit (N-1-t)=inR N bs q t:=by
 have hn:1<=N:=by have:=h.1;omega
 unfold cdN
 rw [zb7 (zah h _).1 _ (by omega),show (N:Int)-1-((N-1-t:Nat):Int)=(t:Int) by omega,Bool.eq_iff_iff,zw3 hn ht]
 unfold hasB
 rw [decide_eq_true_eq]
theorem zes (h:RhOk N bs)(q:Nat):cdN N bs q<2 ^ N:=zhk (zah h _).1
theorem zf5 (b:List Nat)(k:Nat):mskF N bs (b++[k])=mskF N bs b ||| cdN N bs k:=by
 unfold mskF;rw [List.foldl_append];rfl
theorem zni {P:List Nat->Prop}(h0:P [])(h1 : ∀ b k,P b->P (b++[k])) : ∀ b,P b:=by
 intro b
 have : ∀ n b,b.length=n->P b:=by
  intro n
  induction n with
  | zero=>intro b hb;rw [List.eq_nil_of_length_eq_zero hb];exact h0
  | succ n ih =>
   intro b hb
   have hne:b≠[]:=fun e=>by rw [e] at hb;cases hb
   rw [<- List.dropLast_concat_getLast hne]
   exact h1 _ _ (ih _ (by rw [List.length_dropLast,hb];rfl))
 exact this _ b rfl
theorem zit (h:RhOk N bs) : ∀ b,mskF N bs b<2 ^ N:=zni (Nat.two_pow_pos _) fun b k ih=>by rw [zf5];exact Nat.or_lt_two_pow ih (zes h k)
theorem znj (i:Nat) : ∀ b,(mskF N bs b).testBit i=true ↔ ∃ q∈b,(cdN N bs q).testBit i=true :=
 zni (by simp [mskF]) fun b k ih=>by
  rw [zf5,Nat.testBit_or,Bool.or_eq_true,ih]
  constructor
  ·rintro (⟨q,hq,e⟩ | e)
   ·exact ⟨q,by simp [hq],e⟩
   ·exact ⟨k,by simp,e⟩
  ·rintro ⟨q,hq,e⟩
   rw [List.mem_append,List.mem_singleton] at hq
   rcases hq with hq | rfl
   ·exact .inl ⟨q,hq,e⟩
   ·exact .inr e
theorem zw4 (h:RhOk N bs)(b:List Nat)(k:Nat):djB N bs b k=true ↔ ∀ q∈b,∀ t,t<N -> ¬ (inR N bs q t=true/\inR N bs k t=true):=by
 have hn:1<=N:=by have:=h.1;omega
 unfold djB
 rw [decide_eq_true_eq]
 constructor
 ·intro e q hq t ht hh
  have hb:(cdN N bs k &&& mskF N bs b).testBit (N-1-t)=true:=by
   rw [Nat.testBit_and,zis h k t ht,hh.2,Bool.true_and,znj]
   exact ⟨q,hq,by rw [zis h q t ht];exact hh.1⟩
  rw [e] at hb
  simp at hb
 ·intro e
  apply Nat.eq_of_testBit_eq
  intro i
  rw [Nat.zero_testBit,<- Bool.not_eq_true,Nat.testBit_and,Bool.and_eq_true,znj]
  rintro ⟨h1,q,hq,h2⟩
  have hi:i<N:=by
   apply Classical.byContradiction
   intro hi
   rw [Nat.testBit_lt_two_pow (Nat.lt_of_lt_of_le (zes h k) (Nat.pow_le_pow_right (by decide) (by omega)))] at h1
   cases h1
  rw [show i=N-1-(N-1-i) by omega,zis h _ _ (by omega)] at h1 h2
  exact e q hq (N-1-i) (by omega) ⟨h2,h1⟩
theorem znk {x:Nat}(hx:x<2 ^ N):x=2 ^ N-1 ↔ ∀ i,i<N->x.testBit i=true:=by
 constructor
 ·rintro rfl i hi
  rw [Nat.testBit_two_pow_sub_one,decide_eq_true_eq]
  exact hi
 ·intro h
  apply Nat.eq_of_testBit_eq
  intro i
  rw [Nat.testBit_two_pow_sub_one]
  by_cases hi:i<N
  ·rw [h i hi,decide_eq_true hi]
  ·rw [Nat.testBit_lt_two_pow (Nat.lt_of_lt_of_le hx (Nat.pow_le_pow_right (by decide) (by omega))),decide_eq_false hi]
theorem zw5 {m:Nat}{b:List Nat}{p:Nat}(h:cplB N bs b=true):gS N bs m b p=some b:=by
 cases m <;> (unfold gS;rw [if_pos h])
theorem zw6 {b:List Nat}{p:Nat}(h:cplB N bs b=false):gS N bs 0 b p=none:=by
 unfold gS;rw [if_neg (by rw [h];decide)]
theorem zw7 {m:Nat}{b:List Nat}{p:Nat}(h:cplB N bs b=false)(hd:djB N bs b p=false):gS N bs (m+1) b p=gS N bs m b (p+1):=by
 conv=>lhs;unfold gS
 rw [if_neg (by rw [h];decide),if_neg (by rw [hd];decide)]
theorem zw8 {m:Nat}{b:List Nat}{p:Nat}(h:cplB N bs b=false)(hd:djB N bs b p=true):gS N bs (m+1) b p=match gS N bs m (b++[p]) (p+1) with | some x=>some x | none=>gS N bs m b (p+1):=by
 conv=>lhs;unfold gS
 rw [if_neg (by rw [h];decide),if_pos hd]
theorem zf6 {x:List Nat} : ∀ {m:Nat} {b:List Nat} {p:Nat},gS N bs m b p=some x->cplB N bs x=true
 | 0,b,p,h=>by
  unfold gS at h
  split at h
  ·injection h with h;subst h;assumption
  ·cases h
 | m+1,b,p,h=>by
  unfold gS at h
  split at h
  ·injection h with h;subst h;assumption
  ·split at h
   ·cases e:gS N bs m (b++[p]) (p+1) with
    | some y =>
     rw [e] at h
     injection h with h;subst h
     exact zf6 e
    | none=>rw [e] at h;exact zf6 h
   ·exact zf6 h
theorem ziu (hr:RhOk N bs){x:List Nat} : ∀ {m:Nat} {b:List Nat} {p:Nat},gS N bs m b p=some x -> ∀ i,(mskF N bs x).testBit i=true->(mskF N bs b).testBit i=true \/ ∃ j,p<=j/\j<p+m/\djB N bs b j=true/\(cdN N bs j).testBit i=true
 | 0,b,p,h,i,hi=>by
  unfold gS at h
  split at h
  ·injection h with h;subst h;exact .inl hi
  ·cases h
 | m+1,b,p,h,i,hi=>by
  have hno:gS N bs m b (p+1)=some x->(mskF N bs b).testBit i=true \/ ∃ j,p<=j/\j<p+(m+1)/\djB N bs b j=true/\(cdN N bs j).testBit i=true:=fun h=>by
   rcases ziu hr h i hi with h1 | ⟨j,h1,h2,h3,h4⟩
   ·exact .inl h1
   ·exact .inr ⟨j,by omega,by omega,h3,h4⟩
  unfold gS at h
  split at h
  ·injection h with h;subst h;exact .inl hi
  ·split at h
   ·rename_i hd
    cases e:gS N bs m (b++[p]) (p+1) with
    | some y =>
     rw [e] at h
     injection h with h;subst h
     rcases ziu hr e i hi with h1 | ⟨j,h1,h2,h3,h4⟩
     ·rw [zf5,Nat.testBit_or,Bool.or_eq_true] at h1
      rcases h1 with h1 | h1
      ·exact .inl h1
      ·exact .inr ⟨p,Nat.le_refl _,by omega,hd,h1⟩
     ·refine .inr ⟨j,by omega,by omega,?_,h4⟩
      rw [zw4 hr] at h3 ⊢
      exact fun q hq=>h3 q (by simp [hq])
    | none=>rw [e] at h;exact hno h
   ·exact hno h
theorem ziv (b:List Nat) (p i:Nat) : ∀ m,(posN N bs b p m).testBit i=true ↔ (mskF N bs b).testBit i=true \/ ∃ j,p<=j/\j<p+m/\djB N bs b j=true/\(cdN N bs j).testBit i=true
 | 0=>by
  unfold posN
  constructor
  ·exact .inl
  ·rintro (h | ⟨j,h1,h2,_⟩)
   ·exact h
   ·omega
 | m+1=>by
  unfold posN
  split
  ·rename_i hd
   rw [Nat.testBit_or,Bool.or_eq_true,ziv b p i m]
   constructor
   ·rintro ((h | ⟨j,h1,h2,h3,h4⟩) | h)
    ·exact .inl h
    ·exact .inr ⟨j,h1,by omega,h3,h4⟩
    ·exact .inr ⟨p+m,by omega,by omega,hd,h⟩
   ·rintro (h | ⟨j,h1,h2,h3,h4⟩)
    ·exact .inl (.inl h)
    ·by_cases e:j=p+m
     ·subst e;exact .inr h4
     ·exact .inl (.inr ⟨j,h1,by omega,h3,h4⟩)
  ·rename_i hd
   rw [ziv b p i m]
   constructor
   ·rintro (h | ⟨j,h1,h2,h3,h4⟩)
    ·exact .inl h
    ·exact .inr ⟨j,h1,by omega,h3,h4⟩
   ·rintro (h | ⟨j,h1,h2,h3,h4⟩)
    ·exact .inl h
    ·by_cases e:j=p+m
     ·subst e;exact absurd h3 hd
     ·exact .inr ⟨j,h1,by omega,h3,h4⟩
theorem zf7 (h:RhOk N bs) (b:List Nat) (p:Nat) : ∀ m,posN N bs b p m<2 ^ N
 | 0=>zit h b
 | m+1=>by
  unfold posN
  split
  ·exact Nat.or_lt_two_pow (zf7 h b p m) (zes h _)
  ·exact zf7 h b p m
theorem zw9 (h:RhOk N bs){m:Nat}{b:List Nat}{p:Nat}(hp:posN N bs b p m≠2 ^ N-1):gS N bs m b p=none:=by
 cases e:gS N bs m b p with
 | none=>rfl
 | some x =>
  exfalso
  apply hp
  rw [znk (zf7 h b p m)]
  intro i hi
  have hx:=zf6 e
  unfold cplB at hx
  rw [decide_eq_true_eq,znk (zit h x)] at hx
  rw [ziv]
  exact ziu h e i (hx i hi)
end
end Go.Proofs.YtjpnjchpdkogbaaGreatDoor
namespace Go.Proofs.YtjpnjchpdkogbaaGreatDoor
end Go.Proofs.YtjpnjchpdkogbaaGreatDoor
namespace Go.Proofs.YtjpnjchpdkogbaaGreatDoor
open Go.RowKit
end Go.Proofs.YtjpnjchpdkogbaaGreatDoor
