/- Parts of the proof of the card of the law FnConsole. -/
import Derived.Test.YtjpnjchpdkogbaaGreatDoorText
import Derived.Test.YtjpnjchpdkogbaaGreatDoorG02
import Derived.Test.YtjpnjchpdkogbaaGreatDoorJoin
import Derived.Test.YtjpnjchpdkogbaaGreatDoorChecked
import Derived.Lib.Replace
import Derived.Test.YtjpnjchpdkogbaaGreatDoorG06
import Derived.Shelf.Strings.Replace
import Derived.Lib.SplitLaws
import Derived.Test.YtjpnjchpdkogbaaGreatDoorG03
import Derived.Test.YtjpnjchpdkogbaaGreatDoorG04
import Derived.Test.YtjpnjchpdkogbaaGreatDoorG05
import Derived.Deep.AppendLies
import Derived.Test.YtjpnjchpdkogbaaGreatDoorG01
import Derived.ProofKit
import Derived.OpenShut
import Derived.ShutString
import Derived.ChangeOld
import Derived.Lib.SmallJoins
set_option linter.unusedVariables false
set_option linter.unusedSimpArgs false
set_option maxRecDepth 100000
set_option maxHeartbeats 4000000
namespace Go.Proofs.YtjpnjchpdkogbaaGreatDoor
open Go.RowKit Go.Shelf
end Go.Proofs.YtjpnjchpdkogbaaGreatDoor
namespace Go.Proofs.YtjpnjchpdkogbaaGreatDoor
open Go.RowKit
def za0 (xs:List Int):Txt:=if xs=[] then [45] else zaf (xs.map itoL) [44]
theorem ztz (xs:List Int)(k:Nat)(h:k<xs.length):(xs.take (k+1)).map itoL=(xs.take k).map itoL++[itoL (xs.getD k 0)]:=by
 rw [List.take_succ_eq_append_getElem h,List.map_append,List.getD_eq_getElem?_getD,List.getElem?_eq_getElem h];rfl
theorem zci {xs:List Int}(h : ∀ x∈xs,Fits x) : ∀ t∈xs.map itoL,t.length<=20:=by
 intro t ht
 obtain ⟨x,hx,rfl⟩:=List.mem_map.1 ht
 exact zbe x (h x hx)
theorem zt0 {xs:List Int}(h : ∀ x∈xs,Fits x){k:Nat}(hk:k<xs.length):Fits (xs.getD k 0):=by
 rw [List.getD_eq_getElem?_getD,List.getElem?_eq_getElem hk];exact h _ (List.getElem_mem hk)
theorem zfq (A:Option Addr)(cap:Nat)(xs:List Int)(w:World)(hI:Ints w w.heap.size A xs)(hl:xs.length<=1048576)(hP:Pow w) :
  Calls Tryz.prog 169 #[.slice A xs.length cap] w fun e w'=>e = .returned (.string (mkS (zaf (xs.map itoL) [44])))/\Below w.heap.size w w':=by
 have HF:=Zh hI.2.1
 have HC:=Zh hI.2.2
 have HP:=Zh hP
 clear hI hP
 have hsep:(⟨#[44]⟩:ByteArray)=mkS [44]:=rfl
 go_enter Tryz.func169,Tryz.ntmps169
 go_wp2_with fail
 go_loopw [3,8] (fun so si wr=>∃ (k:Nat),k<=xs.length/\si = .int .i64 k/\OwnS wr w.heap.size so ((xs.take k).map itoL)/\Below w.heap.size w wr) (fun _ si _=>xs.length-(intOf si).toNat)
 case atStart=>exact ⟨0,Nat.zero_le _,rfl,OwnS.nil _ _,Below.refl _ _⟩
 case round =>
  obtain ⟨k,hk,rfl,hown,hbel⟩:=hrel
  obtain ⟨wo,rfl⟩ : ∃ wo:World,wo=wr:=⟨_,rfl⟩
  have hln:((xs.take k).map itoL).length=k:=by rw [List.length_map,List.length_take];omega
  obtain ⟨ys,hys⟩ : ∃ ys,(xs.take k).map itoL=ys:=⟨_,rfl⟩
  rw [hys] at hown hln
  have HYS:=Zh hys
  have HOW:=Zh hown
  have HBE:=Zh hbel
  have HLN:=Zh hln
  clear hys hln
  obtain ⟨A5,c5,rfl,hlc,_,_⟩:=hown.form
  by_cases hlt:k<xs.length
  ·obtain ⟨b,off,rfl,hBo,hc⟩:=HC.o (by omega)
   have hcell:=hc k hlt
   rw [<- hbel.cell (p:=⟨b,off+k,none⟩) hBo] at hcell
   have HX:=Zh (zt0 HF.o hlt)
   have HTK:=Zh (show (xs.take (k+1)).map itoL=ys++[itoL (xs.getD k 0)] by rw [ztz xs k hlt,HYS.o])
   generalize xs.getD k 0=x at hcell HX HTK
   have HFI:=Zh (zbq x HX.o wo (HP.o.below hbel))
   clear hc hown hbel
   go_wp2_with fail
   refine HFI.o.mono ?_
   rintro e w1 ⟨rfl,hb1⟩
   have HO1:=Zh (HOW.o.grown hb1)
   have hz1:=hb1.size
   have HB1:=Zh (HBE.o.trans (hb1.mono HBE.o.size))
   obtain ⟨T,hT⟩ : ∃ T,mkS (itoL x)=T:=⟨_,rfl⟩
   rw [hT]
   have HT:=Zh hT
   have hbs:=HB1.o.size
   clear hb1 hT
   go_wp2_with (at_builtin;refine zkj rfl (.tmp 12) (.tmp 15) rfl w.heap.size _ ys rfl (HO1.o.alloc _) w1.heap.size (itoL x) (by rfl) (by unfold emS;rw [HT.o];exact zag _ _ _) (by rw [HLN.o];omega) (by simp;omega) ?_;intro v2 w2 hown2 hb2)
   have HO2:=Zh hown2
   have HB2:=Zh ((HB1.o.alloc hbs _).trans hb2)
   clear hown2 hb2
   go_wp2_with fail
   go_roundw
   case rel=>exact ⟨k+1,by omega,by go_num,by rw [HTK.o];exact HO2.o,HB2.o⟩
   case measure=>simp [intOf];omega
  ·have hke:k=xs.length:=by omega
   have hall:ys=xs.map itoL:=by rw [<- HYS.o,List.take_of_length_le (by omega)]
   have HJ:=Zh (fun W (hS:Strs W W.heap.size A5 ys)=>zdr A5 c5 ys [44] 20 W hS hlc (by rw [hall];exact zci HF.o) (by simp))
   have HST:=Zh (HOW.o.strs (by rw [HLN.o];omega))
   obtain ⟨X,hX⟩ : ∃ X,mkS (zaf ys [44])=X:=⟨_,rfl⟩
   rw [hX] at HJ
   have HX:=Zh (show X=mkS (zaf (xs.map itoL) [44]) by rw [<- hX,hall])
   clear hown hbel hall hke hX
   go_wp2_with fail
   try rw [hsep]
   refine (HJ.o _ HST.o).mono ?_
   rintro e w1 ⟨rfl,hb1⟩
   have HB1:=Zh (HBE.o.trans (hb1.mono HBE.o.size))
   clear hb1
   go_wp2_with fail
   go_ret
   exact ⟨zbw HX.o,HB1.o⟩
theorem zfr (A:Option Addr)(cap:Nat)(xs:List Int)(w:World)(hI:Ints w w.heap.size A xs)(hl:xs.length<=1048576)(hP:Pow w) :
  Calls Tryz.prog 115 #[.slice A xs.length cap] w fun e w'=>e = .returned (.string (mkS (za0 xs)))/\Below w.heap.size w w':=by
 have HN:=Zh (zfq A cap xs w hI hl hP)
 by_cases h0:xs=[]
 ·subst h0
  have HV:=Zh (show za0 []=[45] from rfl)
  clear hI hP
  go_enter Tryz.func115,Tryz.ntmps115
  go_wp2_with fail
  go_ret
  exact ⟨by rw [HV.o];rfl,Below.refl _ _⟩
 ·have HV:=Zh (show mkS (za0 xs)=mkS (zaf (xs.map itoL) [44]) by unfold za0;rw [if_neg h0])
  have hpos : ¬ xs.length=0:=fun e=>h0 (List.eq_nil_of_length_eq_zero e)
  have hb:((xs.length:Int)==0)=false:=beq_eq_false_iff_ne.2 (by omega)
  clear hI hP h0
  generalize mkS (zaf (xs.map itoL) [44])=X at HN HV ⊢
  go_enter Tryz.func115,Tryz.ntmps115
  go_wp2_with fail
  refine HN.o.mono ?_
  rintro e w1 ⟨rfl,hb1⟩
  go_wp2_with fail
  go_ret
  exact ⟨zbw HV.o.symm,hb1⟩
end Go.Proofs.YtjpnjchpdkogbaaGreatDoor
namespace Go.Proofs.YtjpnjchpdkogbaaGreatDoor
open Go.RowKit
theorem zfs : ∀ (m k:Nat),k<=m -> ∀ c∈Lib.decDigits k,c≠44
 | 0,k,h,c,hc=>by
  have:k=0:=by omega
  subst this
  rw [zdb (by decide)] at hc
  rw [List.mem_singleton.1 hc];decide
 | m+1,k,h,c,hc=>by
  have hdig : ∀ r:Nat,r<10->UInt8.ofNat (48+r)≠44:=by
   intro r hr e
   have:=congrArg UInt8.toNat e
   rw [UInt8.toNat_ofNat'] at this
   have h44:(44:UInt8).toNat=44:=rfl
   rw [h44] at this
   omega
  by_cases h9:k<10
  ·rw [zdb h9] at hc
   rw [List.mem_singleton.1 hc]
   exact hdig k h9
  ·rw [zg0 h9] at hc
   rcases List.mem_append.1 hc with h1 | h1
   ·exact zfs m (k / 10) (by omega) c h1
   ·rw [List.mem_singleton.1 h1]
    exact hdig (k % 10) (Nat.mod_lt _ (by decide))
theorem zft (n:Int) : ∀ c∈itoL n,c≠44:=by
 intro c hc
 obtain ⟨N,rfl | rfl⟩:=Int.eq_nat_or_neg n
 ·rw [zco] at hc
  exact zfs N N (Nat.le_refl _) c hc
 ·by_cases h0:0<N
  ·rw [ze5 N h0] at hc
   rcases List.mem_cons.1 hc with h1 | h1
   ·rw [h1];decide
   ·exact zfs N N (Nat.le_refl _) c h1
  ·have:N=0:=by omega
   subst this
   exact zfs 0 0 (Nat.le_refl _) c (by rw [<- zco];exact hc)
def zd3 (c:UInt8):UInt8:=if c=44 then 43 else c
theorem zl1 {l:Txt}(h : ∀ c∈l,c≠44):l.map zd3=l:=by
 conv=>rhs;rw [<- List.map_id l]
 exact List.map_congr_left fun c hc=>by unfold zd3;rw [if_neg (h c hc)];rfl
theorem zl2 (xs:List Int):(zaf (xs.map itoL) [44]).map zd3=zaf (xs.map itoL) [43]:=by
 have htail : ∀ r:List Int,(Lib.joinTail [44] (r.map itoL)).map zd3=Lib.joinTail [43] (r.map itoL):=by
  intro r
  induction r with
  | nil=>rfl
  | cons y r ih =>
   have e : ∀ sep:Txt,Lib.joinTail sep ((y::r).map itoL)=(sep++itoL y)++Lib.joinTail sep (r.map itoL):=fun sep=>by unfold Lib.joinTail;simp
   rw [e,e,List.map_append,List.map_append,ih,zl1 (zft y)]
   rfl
 cases xs with
 | nil=>rfl
 | cons x r =>
  unfold zaf
  rw [List.map_cons,Lib.join_cons,Lib.join_cons,List.map_append,htail,zl1 (zft x)]
end Go.Proofs.YtjpnjchpdkogbaaGreatDoor
namespace Go.Proofs.YtjpnjchpdkogbaaGreatDoor
open Go.Lib
theorem zfu (c a:UInt8)(l:List UInt8):index (c::l) [a]=if c=a then 0 else if index l [a] = -1 then -1 else index l [a]+1:=by
 show (if ([a]:List UInt8).isPrefixOf (c::l) then (0:Int) else if index l [a] == -1 then -1 else index l [a]+1)=_
 by_cases h:c=a
 ·subst h;simp [List.isPrefixOf]
 ·have:([a]:List UInt8).isPrefixOf (c::l)=false:=by
   simp [List.isPrefixOf];exact fun e=>h e.symm
  rw [this,if_neg (by simp),if_neg h]
  by_cases h2:index l [a] = -1
  ·simp [h2]
  ·rw [if_neg (by simpa using h2),if_neg h2]
theorem zl3 (a:UInt8) : ∀ l:List UInt8,index l [a] = -1->a ∉ l
 | [],_=>by simp
 | c::l,h=>by
  rw [zfu] at h
  by_cases e:c=a
  ·rw [if_pos e] at h;omega
  ·rw [if_neg e] at h
   by_cases h2:index l [a] = -1
   ·have:=zl3 a l h2
    simp;exact ⟨fun q=>e q.symm,this⟩
   ·rw [if_neg h2] at h;have:=index_ge l [a];omega
theorem zl4 (a b:UInt8)(l:List UInt8)(h:a ∉ l):l.map (fun c=>if c=a then b else c)=l:=by
 conv=>rhs;rw [<- List.map_id l]
 exact List.map_congr_left fun c hc=>by
  have : ¬ c=a:=fun e=>h (e ▸ hc)
  simp [this]
theorem zh2 (a b:UInt8) : ∀ (s:List UInt8) (k:Nat),s.count a<=k->replaceK [a] [b] k s=s.map (fun c=>if c=a then b else c)
 | s,0,h=>by
  show s=_
  rw [zl4]
  exact List.count_eq_zero.1 (by omega)
 | [],k+1,_=>by simp [replaceK,index]
 | c::l,k+1,h=>by
  by_cases e:c=a
  ·subst e
   rw [replaceK_hit [c] [b] k (c::l) 0 (by rw [zfu,if_pos rfl];rfl)]
   have hl:l.count c<=k:=by rw [List.count_cons_self] at h;omega
   simp
   exact zh2 c b l k hl
  ·have hl:l.count a<=k+1:=by rw [List.count_cons_of_ne (fun q=>e q)] at h;exact h
   have ih:=zh2 a b l (k+1) hl
   by_cases h2:index l [a] = -1
   ·have hno:=zl3 a l h2
    have:index (c::l) [a] = -1:=by rw [zfu,if_neg e,if_pos h2]
    rw [replaceK,this,if_pos (by decide),zl4]
    simp;exact ⟨fun q=>e q.symm,hno⟩
   ·obtain ⟨i,hi⟩:=Int.eq_ofNat_of_zero_le (show 0<=index l [a] by have:=index_ge l [a];omega)
    rw [replaceK_hit [a] [b] k (c::l) (i+1) (by rw [zfu,if_neg e,if_neg h2,hi];rfl)]
    rw [replaceK_hit [a] [b] k l i hi] at ih
    simp [e] at ih ⊢
    exact ih
theorem zh3 (a b:UInt8)(s:List UInt8):replaceAll s [a] [b]=s.map (fun c=>if c=a then b else c):=by
 unfold replaceAll replace
 by_cases h:a=b
 ·subst h
  rw [if_pos (by simp)]
  conv=>lhs;rw [<- List.map_id s]
  exact List.map_congr_left fun c _=>by
   by_cases e:c=a
   ·simp [e]
   ·simp [e]
 ·rw [if_neg (by simpa using h)]
  refine zh2 a b s _ ?_
  unfold replaceNum
  rw [if_pos (.inl (by decide)),count_one]
  exact Nat.le_refl _
end Go.Proofs.YtjpnjchpdkogbaaGreatDoor
namespace Go.Proofs.YtjpnjchpdkogbaaGreatDoor
open Go.RowKit Go.Shelf
noncomputable def stpV (n:Int)(bs:List Int):Txt:=zaf ((zai n bs).map itoL) [43]
theorem zt1 (n:Int)(A:Option Addr)(cap:Nat)(bs:List Int)(w:World)(hn:Fits n)(hA:Ints w w.heap.size A bs)(hP:Pow w)(hM:MaxL w) :
  Calls Tryz.prog 113 #[.agg #[.int .i64 n,.slice A bs.length cap]] w fun e w'=>e = .returned (.string (mkS (stpV n bs)))/\Below w.heap.size w w':=by
 have HS:=Zh (fun V h=>zd1 n A cap bs V hn h)
 have hsf:=zfm n bs
 have HF:=Zh hsf.2
 have HL:=Zh hsf.1
 have HA:=Zh hA
 have HP:=Zh hP
 have HM:=Zh hM
 have HV:=Zh (show stpV n bs=(zaf ((zai n bs).map itoL) [44]).map zd3 from (zl2 _).symm)
 have hjl:=zb4 [44] 20 ((zai n bs).map itoL) (zci (fun x hx=>by have:=hsf.2 x hx;unfold Fits;omega))
 rw [List.length_map] at hjl
 have HJL:=Zh (show (zaf ((zai n bs).map itoL) [44]).length<=24*21 by
  have:(zai n bs).length*(20+1)<=24*21:=Nat.mul_le_mul hsf.1 (Nat.le_refl _)
  exact Nat.le_trans hjl this)
 generalize zai n bs=S at HS HF HL HV HJL
 generalize stpV n bs=v at HV ⊢
 clear hA hsf hP hM hjl
 have HR:=Zh (fun (V:World) (hb:Below w.heap.size w V)=>by
  obtain ⟨m,hm⟩:=HM.o.below hb
  have hsz:(mkS (zaf (S.map itoL) [44])).size<=504:=by rw [za2];exact HJL.o
  have hcnt:=Lib.countB_le (⟨#[44]⟩:ByteArray) (by decide) (mkS (zaf (S.map itoL) [44])).size (mkS (zaf (S.map itoL) [44])) (Nat.le_refl _)
  have:=Any.strings_ReplaceAll Tryz.lays155 Tryz.bx155 (mkS (zaf (S.map itoL) [44])) ⟨#[44]⟩ ⟨#[43]⟩ m V (by omega) hm (by decide) (by have h1:(⟨#[43]⟩:ByteArray).size=1:=rfl;rw [h1];omega)
  rw [show (⟨#[44]⟩:ByteArray).data.toList=[44] from rfl,show (⟨#[43]⟩:ByteArray).data.toList=[43] from rfl,zh3,show (mkS (zaf (S.map itoL) [44])).data.toList=zaf (S.map itoL) [44] from za9 _] at this
  exact this)
 go_enter Tryz.func113,Tryz.ntmps113
 go_wp2_with fail
 refine (HS.o _ (HA.o.lift (by repeat (first | exact Below.refl _ _ | assumption | (refine Below.alloc ?_ (by first | exact Nat.le_refl _ | (simp;done) | (simp;omega) | omega) _) | (refine Below.drew ?_) | (refine Below.setCell ?_ (by first | exact Nat.le_refl _ | (simp;done) | (simp;omega) | omega) _))))).mono ?_
 rintro e w1 ⟨A1,c1,rfl,hI1,hb1⟩
 have HB1:=Zh (((Below.refl w.heap.size w).alloc (Nat.le_refl _) (.cells #[.int .i64 n,.slice A bs.length cap] 27)).trans (hb1.mono (by simp)))
 have HI1:=Zh hI1
 clear hI1 hb1
 go_wp2_with fail
 refine (zfq A1 c1 S _ HI1.o (by have:=HL.o;omega) (HP.o.below HB1.o)).mono ?_
 rintro e w2 ⟨rfl,hb2⟩
 have HB2:=Zh (HB1.o.trans (hb2.mono HB1.o.size))
 clear hb2
 go_wp2_with fail
 refine (HR.o _ HB2.o).mono ?_
 rintro e w3 ⟨rfl,hb3⟩
 have HB3:=Zh (HB2.o.trans (hb3.mono HB2.o.size))
 clear hb3
 go_wp2_with fail
 go_ret
 exact ⟨zbw (by rw [HV.o];rfl),HB3.o⟩
end Go.Proofs.YtjpnjchpdkogbaaGreatDoor
namespace Go.Proofs.YtjpnjchpdkogbaaGreatDoor
open Go.RowKit
def hit (b:Bool):Int:=if b then 1 else 0
theorem zt2 (b:Bool):0<=hit b/\hit b<=1:=by cases b <;> decide
def rowH (g:Int->Int->Bool) (bs:List Int) (p:Int):Nat->Int
 | 0=>0
 | j+1=>rowH g bs p j+hit (g p (bs.getD j 0))
def triH (g:Int->Int->Bool) (bs:List Int):Nat->Int
 | 0=>0
 | i+1=>triH g bs i+rowH g bs (bs.getD i 0) i
theorem zh4 (g:Int->Int->Bool)(bs:List Int)(p:Int) : ∀ j:Nat,0<=rowH g bs p j/\rowH g bs p j<=j
 | 0=>by simp [rowH]
 | j+1=>by have:=zh4 g bs p j;have:=zt2 (g p (bs.getD j 0));unfold rowH;omega
theorem zh5 (g:Int->Int->Bool)(bs:List Int) : ∀ i:Nat,0<=triH g bs i/\triH g bs i<=i*i
 | 0=>by simp [triH]
 | i+1=>by
  have h1:=zh5 g bs i
  have h2:=zh4 g bs (bs.getD i 0) i
  unfold triH
  have:((i+1:Nat):Int)*((i+1:Nat):Int)=(i:Int)*i+2*i+1:=by rw [Int.natCast_add,Int.add_mul,Int.mul_add];simp;omega
  omega
def zaw (n:Int)(t:Nat)(p q:Int):Bool:=decide (min (p-q) (n+q-p)=t+1)
def vecV (n:Int)(bs:List Int):List Int:=(List.range (n / 2).toNat).map fun t=>triH (zaw n t) bs bs.length
theorem zh6 (n:Int)(bs:List Int):(vecV n bs).length=(n / 2).toNat:=by simp [vecV]
theorem zt3 (n:Int)(bs:List Int){t:Nat}(h:t<(n / 2).toNat):(vecV n bs).getD t 0=triH (zaw n t) bs bs.length:=by
 unfold vecV
 rw [List.getD_eq_getElem?_getD,List.getElem?_map,List.getElem?_range h];rfl
theorem zt4 (n:Int)(bs:List Int)(i j:Nat)(p q:Int)(t u:Nat)(hq:bs.getD j 0=q)(hu:min (p-q) (n+q-p)=u+1) :
  triH (zaw n t) bs i+rowH (zaw n t) bs p (j+1)=(triH (zaw n t) bs i+rowH (zaw n t) bs p j)+(if t=u then 1 else 0):=by
 have e:rowH (zaw n t) bs p (j+1)=rowH (zaw n t) bs p j+hit (zaw n t p (bs.getD j 0)):=rfl
 rw [e,hq]
 unfold zaw hit
 rw [hu]
 by_cases h:t=u
 ·subst h;simp;omega
 ·rw [if_neg h,decide_eq_false (by omega)];simp
end Go.Proofs.YtjpnjchpdkogbaaGreatDoor
namespace Go.Proofs.YtjpnjchpdkogbaaGreatDoor
open Go.RowKit
theorem zfv {N:Nat}{bs:List Int}(hok:RhOk N bs) : ∀ x∈vecV N bs,Fits x:=by
 intro x hx
 obtain ⟨t,_,rfl⟩:=List.mem_map.1 hx
 have h1:=zh5 (zaw N t) bs bs.length
 have h2:=hok.len
 have h3:=hok.2.1
 have h4:(bs.length:Int)*bs.length<=24*24:=Int.mul_le_mul (by omega) (by omega) (by omega) (by decide)
 unfold Fits;omega
theorem zt5 (N:Nat)(A:Option Addr)(cap:Nat)(bs:List Int)(w:World)(hA:Ints w w.heap.size A bs)(hok:RhOk N bs)(hcap:bs.length<=cap) :
  Calls Tryz.prog 116 #[.agg #[.int .i64 N,.slice A bs.length cap]] w (zfl w (vecV N bs)):=by
 have hn1:1<=N:=by have:=hok.1;omega
 have hn2:N<=24:=by have:=hok.2.1;omega
 have hbl:bs.length<=24:=by have:=hok.len;omega
 have HOK:=Zh hok
 have HC:=Zh hA.2.2
 obtain ⟨H,hH⟩ : ∃ H,N / 2=H:=⟨_,rfl⟩
 have hH12:H<=12:=by omega
 have HH:=Zh hH
 have hq1:(N:Int).tdiv 2=(H:Int):=by rw [<- hH];rfl
 have hq2:(N:Int) / 2=(H:Int):=by omega
 have hmk:=fun W:World=>zda H (by omega) W
 have HB0:=Zh (Below.refl (w.heap.size+1) (w.alloc (.cells #[.int .i64 N,.slice A bs.length cap] 27)))
 have HW:=Zh ((Below.refl w.heap.size w).alloc (Nat.le_refl _) (.cells #[.int .i64 N,.slice A bs.length cap] 27))
 obtain ⟨c0,c1⟩:=box2 HB0.o
 have hnew:=zee (w.alloc (.cells #[.int .i64 N,.slice A bs.length cap] 27)) H 3
 simp only [World.size_alloc] at hnew
 have HN:=Zh hnew
 obtain ⟨d0,d1⟩:=box2 (HB0.o.alloc (Nat.le_of_eq (by simp)) (.cells (madeCells #[.int .i64 0] H) 3))
 clear hA hok hH hnew
 go_enter Tryz.func116,Tryz.ntmps116
 go_wp2_with fail
 clear c0 c1 d0 d1
 go_loopw [15] (fun i wr=>∃ k:Nat,k<=bs.length/\i = .int .i64 k/\Tab wr (w.heap.size+1) H (fun t=>triH (zaw N t) bs k)/\Below (w.heap.size+1) (w.alloc (.cells #[.int .i64 N,.slice A bs.length cap] 27)) wr) (fun i _=>bs.length-(intOf i).toNat)
 case atStart=>exact ⟨0,Nat.zero_le _,rfl,HN.o,HB0.o.alloc (Nat.le_of_eq (by simp)) _⟩
 case round =>
  obtain ⟨i,hi,rfl,htab,hbel⟩:=hrel
  obtain ⟨wo,rfl⟩ : ∃ wo:World,wo=wr:=⟨_,rfl⟩
  by_cases hlt:i<bs.length
  ·obtain ⟨b,off,rfl,hB,hc⟩:=HC.o (by omega)
   have hWo:=HW.o.trans (hbel.mono (by omega))
   have hcell:=hc i hlt
   rw [<- hWo.cell (p:=⟨b,off+i,none⟩) hB] at hcell
   have hpb:=HOK.o.beat hlt
   obtain ⟨p,hp⟩ : ∃ p,bs.getD i 0=p:=⟨_,rfl⟩
   rw [hp] at hcell hpb
   have HP:=Zh hp
   have HCC:=Zh hc
   obtain ⟨c0,c1⟩:=box2 hbel
   have HT:=Zh htab
   have HBE:=Zh hbel
   have hic:(i:Int)<=(cap:Int):=by omega
   have hic2:i<=cap:=by omega
   clear hp hc htab hbel hWo
   go_wp2_with fail
   go_loopw [25] (fun jv wr=>∃ j:Nat,j<=i/\jv = .int .i64 j/\Tab wr (w.heap.size+1) H (fun t=>triH (zaw N t) bs i+rowH (zaw N t) bs p j)/\Below (w.heap.size+1) (w.alloc (.cells #[.int .i64 N,.slice (some ⟨b,off,none⟩) bs.length cap] 27)) wr) (fun jv _=>i-(intOf jv).toNat)
   case atStart=>exact ⟨0,Nat.zero_le _,rfl,HT.o.congr (fun t _=>by simp [rowH]),HBE.o⟩
   case round =>
    obtain ⟨j,hj,rfl,htab,hbel⟩:=hrel
    obtain ⟨wq,rfl⟩ : ∃ wq:World,wq=wr:=⟨_,rfl⟩
    clear c0 c1
    obtain ⟨c0,c1⟩:=box2 hbel
    by_cases hlj:j<i
    ·have hcj:=HCC.o j (by omega)
     have hWq:=HW.o.trans (hbel.mono (by omega))
     rw [<- hWq.cell (p:=⟨b,off+j,none⟩) hB] at hcj
     have hqb:=HOK.o.beat (i:=j) (by omega)
     have hmo:=HOK.o.mono i j hlj hlt
     rw [HP.o] at hmo
     obtain ⟨q,hq⟩ : ∃ q,bs.getD j 0=q:=⟨_,rfl⟩
     rw [hq] at hcj hqb hmo
     obtain ⟨u,hu⟩:=Int.eq_ofNat_of_zero_le (show 0<=min (p-q) ((N:Int)+q-p)-1 by omega)
     have hmin:min (p-q) ((N:Int)+q-p)=(u:Int)+1:=by omega
     have huH:u<H:=by have:=HH.o;omega
     have HST:=Zh (fun t=>zt4 (N:Int) bs i j p q t u hq hmin)
     have b1:=zh5 (zaw N u) bs i
     have b2:=zh4 (zaw N u) bs p j
     have b3:(i:Int)*i<=24*24:=Int.mul_le_mul (by omega) (by omega) (by omega) (by decide)
     obtain ⟨x,hx⟩ : ∃ x,triH (zaw N u) bs i+rowH (zaw N u) bs p j=x:=⟨_,rfl⟩
     have hto:=htab.get huH hx
     have hfr:=htab.frz huH
     have hwx:IntKind.i64.wrap (x+1)=x+1:=i64w (by omega)
     have hw1:IntKind.i64.wrap (p-q)=p-q:=i64w (by omega)
     have hw2:IntKind.i64.wrap ((N:Int)+q)=(N:Int)+q:=i64w (by omega)
     have hw3:IntKind.i64.wrap ((N:Int)+q-p)=(N:Int)+q-p:=i64w (by omega)
     have hu1:IntKind.i64.wrap (p-q-1)=p-q-1:=i64w (by omega)
     have hu2:IntKind.i64.wrap ((N:Int)+q-p-1)=(N:Int)+q-p-1:=i64w (by omega)
     have huH2:(u:Int)<(H:Int):=by omega
     have HX:=Zh hx
     have HT2:=Zh htab
     have HB2:=Zh hbel
     clear hq hx htab hbel hWq b1 b2 b3
     by_cases hle:p-q<=(N:Int)+q-p
     ·have hue:p-q-1=(u:Int):=by omega
      have hmn:min (p-q) ((N:Int)+q-p)=p-q:=by omega
      have hle2 : ¬ (N:Int)+q-p<p-q:=by omega
      clear hmin hu
      go_wp2_with fail
      go_roundw
      case rel =>
       refine ⟨j+1,by omega,by go_num,HT2.o.set_ u _ huH ?_ ?_,HB2.o.setCell (Nat.le_refl _) _⟩
       ·show triH (zaw N u) bs i+rowH (zaw N u) bs p (j+1)=x+1
        rw [HST.o u,HX.o,if_pos rfl]
       ·intro t _ ht
        show triH (zaw N t) bs i+rowH (zaw N t) bs p (j+1)=_
        rw [HST.o t,if_neg ht,Int.add_zero]
      case measure=>simp [intOf];omega
     ·have hue:(N:Int)+q-p-1=(u:Int):=by omega
      have hmn:min (p-q) ((N:Int)+q-p)=(N:Int)+q-p:=by omega
      have hle2:(N:Int)+q-p<p-q:=by omega
      clear hmin hu
      go_wp2_with fail
      go_roundw
      case rel =>
       refine ⟨j+1,by omega,by go_num,HT2.o.set_ u _ huH ?_ ?_,HB2.o.setCell (Nat.le_refl _) _⟩
       ·show triH (zaw N u) bs i+rowH (zaw N u) bs p (j+1)=x+1
        rw [HST.o u,HX.o,if_pos rfl]
       ·intro t _ ht
        show triH (zaw N t) bs i+rowH (zaw N t) bs p (j+1)=_
        rw [HST.o t,if_neg ht,Int.add_zero]
      case measure=>simp [intOf];omega
    ·have hje:j=i:=by omega
     subst hje
     have HT3:=Zh (htab.congr (g:=fun t=>triH (zaw N t) bs (j+1)) (fun t _=>by show _=triH (zaw N t) bs j+rowH (zaw N t) bs (bs.getD j 0) j;rw [HP.o]))
     have HB3:=Zh hbel
     clear htab hbel
     go_wp2_with fail
     go_roundw
     case rel=>exact ⟨j+1,by omega,by go_num,HT3.o,HB3.o⟩
     case measure=>simp [intOf];omega
  ·have hie:i=bs.length:=by omega
   subst hie
   have hT:=htab.congr (g:=fun t=>(vecV N bs).getD t 0) (fun t ht=>(zt3 N bs (by have:=HH.o;omega)).symm)
   have hHv:H=(vecV N bs).length:=by rw [zh6];have:=HH.o;omega
   have HF:=Zh (zfv HOK.o)
   have HWW:=Zh (HW.o.trans (hbel.mono (by omega)))
   obtain ⟨V,hV⟩ : ∃ V,vecV N bs=V:=⟨_,rfl⟩
   rw [hV] at hT hHv HF
   have HV:=Zh hV
   have HI:=Zh (Tab.ints (xs:=V) (by rw [<- hHv];exact hT) hT.1 (by unfold maxLen;omega) HF.o)
   have HHV:=Zh hHv
   clear htab hT hHv hV hbel
   go_wp2_with fail
   go_ret
   exact ⟨some ⟨w.heap.size+1,0,none⟩,H,by rw [HV.o,<- HHV.o];rfl,by rw [HV.o];exact HI.o,HWW.o⟩
end Go.Proofs.YtjpnjchpdkogbaaGreatDoor
namespace Go.Proofs.YtjpnjchpdkogbaaGreatDoor
open Go.RowKit
end Go.Proofs.YtjpnjchpdkogbaaGreatDoor
namespace Go.Proofs.YtjpnjchpdkogbaaGreatDoor
open Go.RowKit Go.Shelf
theorem Ints.drew3_ {w:World}{B:Nat}{A:Option Addr}{xs:List Int}(h:Ints w B A xs):Ints w.drew B A xs:=h
theorem Below.drew3_ {B:Nat}{a w:World}(h:Below B a w):Below B a w.drew:=⟨h.os,h.tape,h.output,h.size,h.block⟩
theorem zt6 (A1 A2:Option Addr)(c1 c2:Nat)(xs ys:List Int)(w:World)(B1 B2:Nat)(h1:Ints w B1 A1 xs)(h2:Ints w B2 A2 ys) :
  Calls Tryz.prog 200 #[.slice A1 xs.length c1,.slice A2 ys.length c2] w fun e w'=>e = .returned (.bool (eqB xs ys)) /\ ∃ q,w'=w.drewN q:=by
 have hl1:=h1.1
 have hl2:=h2.1
 unfold maxLen at hl1 hl2
 by_cases hx:xs.length=ys.length
 ·by_cases hp:0<xs.length
  ·obtain ⟨b1,o1,rfl,_,_⟩:=h1.2.2 hp
   obtain ⟨b2,o2,rfl,_,_⟩:=h2.2.2 (by omega)
   refine (Any.slices_Equal_int Tryz.lays111 b1 o1 xs.length c1 b2 o2 ys.length c2 xs ys w (Nat.le_refl _) (Nat.le_refl _) (by omega) (by omega) (zhh h1) (zhh h2)).mono ?_
   rintro e w' ⟨rfl,q,rfl⟩
   rw [List.take_length,List.take_length]
   refine ⟨zaq ?_,q,rfl⟩
   unfold eqB
   rw [Bool.eq_iff_iff,beq_iff_eq,decide_eq_true_eq]
  ·have e1:xs=[]:=List.eq_nil_of_length_eq_zero (by omega)
   have e2:ys=[]:=List.eq_nil_of_length_eq_zero (by omega)
   subst e1 e2
   refine (Any.slices_Equal_int_empty Tryz.lays111 A1 A2 c1 0 c2 w (by omega)).mono ?_
   rintro e w' ⟨rfl,rfl⟩
   exact ⟨rfl,0,rfl⟩
 ·refine (Any.slices_Equal_int_lens Tryz.lays111 A1 A2 xs.length c1 ys.length c2 w hx).mono ?_
  rintro e w' ⟨rfl,rfl⟩
  refine ⟨zaq ?_,0,rfl⟩
  unfold eqB
  rw [eq_comm,decide_eq_false_iff_not]
  intro h
  exact hx (by rw [h])
theorem zt7 (n:Int)(A1 A2:Option Addr)(c1 c2:Nat)(xs ys:List Int)(w:World)(h1:Ints w w.heap.size A1 xs)(h2:Ints w w.heap.size A2 ys) :
  Calls Tryz.prog 171 #[.agg #[.int .i64 n,.slice A1 xs.length c1],.agg #[.int .i64 n,.slice A2 ys.length c2]] w fun e w'=>e = .returned (.bool (eqB xs ys))/\Below w.heap.size w w':=by
 have hW0:=((Below.refl w.heap.size w).alloc (Nat.le_refl _) (.cells #[.int .i64 n,.slice A1 xs.length c1] 27)).alloc (by first | exact Nat.le_refl _ | (simp;done) | (simp;omega) | omega) (.cells #[.int .i64 n,.slice A2 ys.length c2] 27)
 have HW:=Zh hW0
 have HEQ:=Zh (fun (V:World) (hV:Below w.heap.size w V)=>zt6 A1 A2 c1 c2 xs ys V w.heap.size w.heap.size (h1.below hV) (h2.below hV))
 obtain ⟨g0,g1,_,_,_⟩:=((Cells2.new w (.int .i64 n) (.slice A1 xs.length c1) 27).alloc (.cells #[.int .i64 n,.slice A2 ys.length c2] 27))
 obtain ⟨k0,k1,_,_,_⟩:=(Cells2.new (w.alloc (.cells #[.int .i64 n,.slice A1 xs.length c1] 27)) (.int .i64 n) (.slice A2 ys.length c2) 27)
 simp only [World.size_alloc] at k0 k1
 have hnn:(n==n)=true:=by simp
 generalize eqB xs ys=b at HEQ ⊢
 clear h1 h2 hW0
 go_enter Tryz.func171,Tryz.ntmps171
 go_wp2_with (go_at_call 200;refine (HEQ.o _ HW.o).mono ?_;rintro e w' ⟨rfl,q,rfl⟩)
 go_ret
 exact ⟨rfl,Below.drewN_ HW.o q⟩
theorem zt8 (N:Nat)(A:Option Addr)(cap:Nat)(bs:List Int)(w:World)(hA:Ints w w.heap.size A bs)(hok:RhOk N bs) :
  Calls Tryz.prog 114 #[.agg #[.int .i64 N,.slice A bs.length cap]] w fun e w'=>e = .returned (.int .i64 (perV N bs))/\Below w.heap.size w w':=by
 have hn1:1<=N:=by have:=hok.1;omega
 have hn2:N<=24:=by have:=hok.2.1;omega
 have HOK:=Zh hok
 have HA:=Zh hA
 have HFT:=Zh (fun k:Int=>show ∀ x∈rotL N bs k,Fits x from fun x hx=>by
  obtain ⟨t,ht,_,rfl⟩:=zdc.1 hx
  unfold Fits
  omega)
 clear hA hok
 have HW:=Zh ((Below.refl w.heap.size w).alloc (Nat.le_refl _) (.cells #[.int .i64 N,.slice A bs.length cap] 27))
 have HG:=Zh (Cells2.new w (.int .i64 N) (.slice A bs.length cap) 27)
 go_enter Tryz.func114,Tryz.ntmps114
 go_wp2_with fail
 go_loopw [3] (fun s wr=>∃ k:Nat,1<=k/\k<=N/\s = .int .i64 k/\(∀ j,1<=j->j<k->perB N bs j=false)/\Below (w.heap.size+1) (w.alloc (.cells #[.int .i64 N,.slice A bs.length cap] 27)) wr) (fun s _=>N-(intOf s).toNat)
 case atStart=>exact ⟨1,by omega,hn1,rfl,fun j h1 h2=>by omega,Below.refl _ _⟩
 case round =>
  obtain ⟨k,hk1,hk,rfl,hno,hbel⟩:=hrel
  obtain ⟨wo,rfl⟩ : ∃ wo:World,wo=wr:=⟨_,rfl⟩
  have hws:w.heap.size+1<=wo.heap.size:=by have:=hbel.size;simpa using this
  have HNO:=Zh hno
  have HBE:=Zh hbel
  have HWW:=Zh (HW.o.trans (HBE.o.mono (by omega)))
  obtain ⟨c0,c1,_,_,_⟩:=HG.o.below hbel (by simp)
  have HRO:=Zh (fun (V:World) (hV:Ints V V.heap.size A bs)=>zdf N A cap bs k V hV HOK.o (by omega))
  have HEQ:=Zh (fun (A2:Option Addr) (c2:Nat) (V:World) (h1:Ints V V.heap.size A2 (rotL N bs k)) (h2:Ints V V.heap.size A bs)=>zt7 N A2 A c2 cap (rotL N bs k) bs V h1 h2)
  have HF2:=Zh (HFT.o k)
  clear hno hbel
  obtain ⟨r,hr⟩ : ∃ r,perB N bs k=r:=⟨_,rfl⟩
  have HR:=Zh hr
  rw [show eqB (rotL N bs k) bs=r from hr] at HEQ
  generalize rotL N bs k=L at HRO HEQ HF2
  clear hr
  cases r
  all_goals
   go_wp2_with fail
   (refine wp_region_held_drew (S:=(fun w'=>w'.cell? ⟨w.heap.size,0,none⟩=some (.int .i64 N)/\w'.cell? ⟨w.heap.size,1,none⟩=some (.slice A bs.length cap))) (by kernel_rfl) ?_ (fun hHeld=>?_);(focus ((try dsimp only);exact ⟨c0,c1⟩)))
   (refine Zk 0 ?_;(try simp only [Act.put,Zz]))
   (refine Zk 1 ?_;(try simp only [Act.put,Zz]))
   (refine Zk 3 ?_;(try simp only [Act.put,Zz]))
   (refine wpAnyH_ready (rs:=[2]) (by kernel_rfl) (by simp) ?_;refine AllReadyH.cons rfl (fun K hK=>?_) AllReadyH.nil;go_simp)
   go_at_call 99
   refine (HRO.o _ (HA.o.lift HWW.o).drew3_).mono ?_
   rintro e w1 ⟨A2,c2,rfl,hrw,hb1⟩
   have hz1:wo.heap.size<=w1.heap.size:=hb1.size
   have HI1:=Zh (hrw.ints HF2.o)
   have HB1:=Zh (show Below wo.heap.size wo.drew w1 from hb1)
   have HWX:=Zh ((Below.drew3_ HWW.o).trans (HB1.o.mono (Nat.le_trans (Nat.le_succ _) hws)))
   clear hrw hb1
   go_wp2_with fail
   have hcc:=(zb3 HB1.o).1
   have d0:=(hcc w.heap.size 0 (by omega)).trans c0
   have d1:=(hcc w.heap.size 1 (by omega)).trans c1
   clear hcc
   (refine hK.out _ _ ?_ fun hHeld2=>?_;(focus ((try dsimp only);exact ⟨d0,d1⟩));(clear hK K);(try simp only [Act.put,Zz]))
   (refine wpAnyH_ready (rs:=[4]) (by kernel_rfl) (by simp) ?_;refine AllReadyH.cons rfl (fun K hK=>?_) AllReadyH.nil;go_simp)
   go_at_call 171
   refine (HEQ.o A2 c2 _ HI1.o (HA.o.lift HWX.o)).mono ?_
   rintro e w2 ⟨rfl,hb2⟩
   have hcc2:=(zb3 hb2).1
   have e0:=(hcc2 w.heap.size 0 (by omega)).trans d0
   have e1:=(hcc2 w.heap.size 1 (by omega)).trans d1
   have HBY:=Zh (((Below.drew3_ HBE.o).trans (HB1.o.mono hws)).trans (hb2.mono (Nat.le_trans hws hz1)))
   clear hb2 hcc2 c0 c1 d0 d1
   go_wp2_with fail
   (refine hK.out _ _ ?_ fun hHeld2=>?_;(focus ((try dsimp only);exact ⟨e0,e1⟩));(clear hK K);(try simp only [Act.put,Zz]))
   (refine Zk 5 ?_;(try simp only [Act.put,Zz]))
   refine wpAnyH_done (by kernel_rfl) ?_ _
  ·have hkN:k<N:=by
    apply Classical.byContradiction
    intro hh
    have e:k=N:=by omega
    have h3:=HR.o
    rw [e,zk4 HOK.o] at h3
    cases h3
   go_wp2_with fail
   go_roundw
   case rel =>
    refine ⟨k+1,by omega,by omega,by go_num,fun j h1 h2=>?_,HBY.o⟩
    by_cases e:j=k
    ·subst e;exact HR.o
    ·exact HNO.o j h1 (by omega)
   case measure=>simp [intOf];omega
  ·have HP:=Zh (zk6 HOK.o hk1 HR.o HNO.o)
   go_wp2_with fail
   go_ret
   exact ⟨zbv (by rw [HP.o]),HW.o.trans (HBY.o.mono (by omega))⟩
end Go.Proofs.YtjpnjchpdkogbaaGreatDoor
namespace Go.Proofs.YtjpnjchpdkogbaaGreatDoor
open Go.RowKit
noncomputable def stpL (n:Int)(bs:List Int):Txt:=if stpV n bs=[] then [45] else stpV n bs
noncomputable def linL (N:Nat)(bs:List Int):Txt:=zaf [zaj N bs (fun _=>120),[115,116,101,112,115],stpL N bs,[112,101,114,105,111,100],itoL (perV N bs),[118,101,99,116,111,114],za0 (vecV N bs)] [32]
theorem zt9 (n:Int)(bs:List Int):(stpV n bs).length<=504:=by
 have hsf:=zfm n bs
 have hjl:=zb4 [43] 20 ((zai n bs).map itoL) (zci (fun x hx=>by have:=hsf.2 x hx;unfold Fits;omega))
 rw [List.length_map] at hjl
 have:(zai n bs).length*(20+1)<=24*21:=Nat.mul_le_mul hsf.1 (Nat.le_refl _)
 exact Nat.le_trans hjl this
theorem zl5 (n:Int)(bs:List Int):(stpL n bs).length<=504:=by
 unfold stpL
 split
 ·simp
 ·exact zt9 n bs
theorem zl6 {xs:List Int}(h : ∀ x∈xs,Fits x)(hl:xs.length<=24):(za0 xs).length<=504:=by
 unfold za0
 split
 ·simp
 ·have hjl:=zb4 [44] 20 (xs.map itoL) (zci h)
  rw [List.length_map] at hjl
  have:xs.length*(20+1)<=24*21:=Nat.mul_le_mul hl (Nat.le_refl _)
  exact Nat.le_trans hjl this
theorem zua (N:Nat)(bs:List Int):linL N bs=zaj N bs (fun _=>120)++[32,115,116,101,112,115,32]++stpL N bs++[32,112,101,114,105,111,100,32]++itoL (perV N bs)++[32,118,101,99,116,111,114,32]++za0 (vecV N bs):=by
 unfold linL zaf
 rw [Lib.join_cons]
 unfold Lib.joinTail
 simp
end Go.Proofs.YtjpnjchpdkogbaaGreatDoor
namespace Go.Proofs.YtjpnjchpdkogbaaGreatDoor
open Go.RowKit
theorem zub (N:Nat)(A:Option Addr)(cap:Nat)(bs:List Int)(w:World)(hA:Ints w w.heap.size A bs)(hok:RhOk N bs)(hcap:bs.length<=cap)(hP:Pow w)(hM:MaxL w) :
  Calls Tryz.prog 54 #[.agg #[.int .i64 N,.slice A bs.length cap]] w fun e w'=>e = .returned (.string (mkS (linL N bs)))/\Below w.heap.size w w':=by
 have hn1:1<=N:=by have:=hok.1;omega
 have hn2:N<=24:=by have:=hok.2.1;omega
 have hfN:Fits (N:Int):=by unfold Fits;omega
 have HRO:=Zh (fun V h=>zav N A cap bs V hfN h)
 rw [zao.2 hok] at HRO
 have HFS:=Zh (fun V h (hb:Below w.heap.size w V)=>zt1 N A cap bs V hfN h (hP.below hb) (hM.below hb))
 have HTX:=Zh (fun V h=>zdg N A cap bs V h hok)
 have HPE:=Zh (fun V h=>zt8 N A cap bs V h hok)
 have HVE:=Zh (fun V h=>zt5 N A cap bs V h hok hcap)
 have hpf:Fits (perV N bs:Int):=by have:=(zcr hok).2.1;unfold Fits;omega
 have HFI:=Zh (fun V (hb:Below w.heap.size w V)=>zbq (perV N bs) hpf V (hP.below hb))
 have hvl:(vecV N bs).length<=24:=by rw [zh6];omega
 have HVF:=Zh (zfv hok)
 have HFN:=Zh (fun A' c V h (hb:Below w.heap.size w V)=>zfr A' c (vecV N bs) V h (by omega) (hP.below hb))
 have hnl:=zl6 (zfv hok) hvl
 have hsl:=zl5 N bs
 have hpl:=zbe _ hpf
 have HLN:=Zh (show linL N bs=zaf [zaj N bs (fun _=>120),[115,116,101,112,115],stpL N bs,[112,101,114,105,111,100],itoL (perV N bs),[118,101,99,116,111,114],za0 (vecV N bs)] [32] from rfl)
 have htl:(zaj N bs (fun _=>120)).length<=504:=by rw [zb5];omega
 have HSV:=Zh (show stpL N bs=if stpV N bs=[] then [45] else stpV N bs from rfl)
 have HA:=Zh hA
 generalize perV N bs=per at *
 generalize vecV N bs=vec at *
 generalize zaj N bs (fun _=>120)=TX at *
 generalize stpV N bs=SV at *
 generalize stpL N bs=SL at *
 generalize linL N bs=LL at *
 generalize za0 vec=NV at *
 obtain ⟨IP,hIP⟩ : ∃ t,itoL (per:Int)=t:=⟨_,rfl⟩
 rw [hIP] at HFI HLN hpl
 have HJ:=Zh (fun V g (hg:V.heap.size=g)=>zdr (some ⟨g,0,none⟩) 7 [TX,[115,116,101,112,115],SL,[112,101,114,105,111,100],IP,[118,101,99,116,111,114],NV] [32] 504 _ (ze4 V g _ (by simp) hg) (by simp) (by
  intro x hx
  simp at hx
  rcases hx with rfl | rfl | rfl | rfl | rfl | rfl | rfl <;> first | assumption | (simp;done) | omega) (by simp))
 rw [<- HLN.o] at HJ
 obtain ⟨c0,c1⟩:=box2 (Below.refl (w.heap.size+1) (w.alloc (.cells #[.int .i64 N,.slice A bs.length cap] 27)))
 have HB0:=Zh ((Below.refl w.heap.size w).alloc (Nat.le_refl _) (.cells #[.int .i64 N,.slice A bs.length cap] 27))
 have HC0:=Zh (Cells2.new w (.int .i64 N) (.slice A bs.length cap) 27)
 have HI0:=Zh (HA.o.lift HB0.o)
 clear hA hok hP hM hIP
 go_enter Tryz.func54,Tryz.ntmps54
 go_wp2_with fail
 refine (HRO.o _ HI0.o).mono ?_
 rintro e w1 ⟨rfl,hb⟩
 have HB1:=Zh (HB0.o.trans (hb.mono HB0.o.size))
 have HC1:=Zh (HC0.o.below hb HC0.o.2.2.2.2)
 have HI1:=Zh (HI0.o.lift hb)
 clear hb c0 c1
 obtain ⟨c0,c1,_,_,_⟩:=HC1.o
 go_wp2_with fail
 refine (HFS.o _ HI1.o HB1.o).mono ?_
 rintro e w2 ⟨rfl,hb⟩
 have HB2:=Zh (HB1.o.trans (hb.mono HB1.o.size))
 have HC2:=Zh (HC1.o.below hb HC1.o.2.2.2.2)
 have HI2:=Zh (HI1.o.lift hb)
 clear hb c0 c1
 obtain ⟨c0,c1,_,_,_⟩:=HC2.o
 by_cases hs0:SV=[]
 ·subst hs0
  have hsl0:SL=[45]:=by rw [HSV.o,if_pos rfl]
  subst hsl0
  have hemp:mkS ([]:List UInt8)=⟨#[]⟩:=rfl
  go_wp2_with fail
  have HBd:=Zh (show Below w.heap.size w w2.drew from ⟨HB2.o.os,HB2.o.tape,HB2.o.output,HB2.o.size,HB2.o.block⟩)
  have HCd:=Zh (show Cells2 w2.drew w.heap.size (.int .i64 N) (.slice A bs.length cap) from HC2.o)
  have HId:=Zh (show Ints w2.drew w2.drew.heap.size A bs from HI2.o)
  (refine wp_region_held_drew (S:=(fun w'=>w'.cell? ⟨w.heap.size,0,none⟩=some (.int .i64 N)/\w'.cell? ⟨w.heap.size,1,none⟩=some (.slice A bs.length cap))) (by kernel_rfl) ?_ (fun hHeld=>?_);(focus ((try dsimp only);exact ⟨c0,c1⟩)))
  ((refine Zk 0 ?_;(try simp only [Act.put,Zz]));(refine Zk 2 ?_;(try simp only [Act.put,Zz]));(refine Zk 3 ?_;(try simp only [Act.put,Zz]));(refine Zk 6 ?_;(try simp only [Act.put,Zz])))
  (refine wpAnyH_ready (rs:=[1]) (by kernel_rfl) (by simp) ?_;refine AllReadyH.cons rfl (fun K hK=>?_) AllReadyH.nil;go_simp)
  go_at_call 112
  refine (HTX.o _ HId.o).mono ?_
  rintro e w3 ⟨rfl,hb⟩
  have HB3:=Zh (HBd.o.trans (hb.mono HBd.o.size))
  have HC3:=Zh (HCd.o.below hb HCd.o.2.2.2.2)
  have HI3:=Zh (HId.o.lift hb)
  clear hb c0 c1
  obtain ⟨c0,c1,_,_,_⟩:=HC3.o
  go_wp2_with fail
  (refine hK.out _ _ ?_ fun hHeld2=>?_;(focus ((try dsimp only);exact ⟨c0,c1⟩));(clear hK K);(try simp only [Act.put,Zz]))
  (refine wpAnyH_ready (rs:=[4]) (by kernel_rfl) (by simp) ?_;refine AllReadyH.cons rfl (fun K hK=>?_) AllReadyH.nil;go_simp)
  go_at_call 114
  refine (HPE.o _ HI3.o).mono ?_
  rintro e w4 ⟨rfl,hb⟩
  have HB4:=Zh (HB3.o.trans (hb.mono HB3.o.size))
  have HC4:=Zh (HC3.o.below hb HC3.o.2.2.2.2)
  have HI4:=Zh (HI3.o.lift hb)
  clear hb c0 c1
  obtain ⟨c0,c1,_,_,_⟩:=HC4.o
  go_wp2_with fail
  (refine hK.out _ _ ?_ fun hHeld2=>?_;(focus ((try dsimp only);exact ⟨c0,c1⟩));(clear hK K);(try simp only [Act.put,Zz]))
  (refine wpAnyH_ready (rs:=[5]) (by kernel_rfl) (by simp) ?_;refine AllReadyH.cons rfl (fun K hK=>?_) AllReadyH.nil;go_simp)
  go_at_call 64
  refine (HFI.o _ HB4.o).mono ?_
  rintro e w5 ⟨rfl,hb⟩
  have HB5:=Zh (HB4.o.trans (hb.mono HB4.o.size))
  have HC5:=Zh (HC4.o.below hb HC4.o.2.2.2.2)
  have HI5:=Zh (HI4.o.lift hb)
  clear hb c0 c1
  obtain ⟨c0,c1,_,_,_⟩:=HC5.o
  go_wp2_with fail
  (refine hK.out _ _ ?_ fun hHeld2=>?_;(focus ((try dsimp only);exact ⟨c0,c1⟩));(clear hK K);(try simp only [Act.put,Zz]))
  (refine wpAnyH_ready (rs:=[7]) (by kernel_rfl) (by simp) ?_;refine AllReadyH.cons rfl (fun K hK=>?_) AllReadyH.nil;go_simp)
  go_at_call 116
  refine (HVE.o _ HI5.o).mono ?_
  rintro e w6 ⟨A6,c6,rfl,hI6,hb⟩
  have HV6:=Zh hI6
  clear hI6
  have HB6:=Zh (HB5.o.trans (hb.mono HB5.o.size))
  have HC6:=Zh (HC5.o.below hb HC5.o.2.2.2.2)
  have HI6:=Zh (HI5.o.lift hb)
  clear hb c0 c1
  obtain ⟨c0,c1,_,_,_⟩:=HC6.o
  go_wp2_with fail
  (refine hK.out _ _ ?_ fun hHeld2=>?_;(focus ((try dsimp only);exact ⟨c0,c1⟩));(clear hK K);(try simp only [Act.put,Zz]))
  (refine wpAnyH_ready (rs:=[8]) (by kernel_rfl) (by simp) ?_;refine AllReadyH.cons rfl (fun K hK=>?_) AllReadyH.nil;go_simp)
  go_at_call 115
  refine (HFN.o _ _ _ HV6.o HB6.o).mono ?_
  rintro e w7 ⟨rfl,hb⟩
  have HB7:=Zh (HB6.o.trans (hb.mono HB6.o.size))
  have HC7:=Zh (HC6.o.below hb HC6.o.2.2.2.2)
  have HI7:=Zh (HI6.o.lift hb)
  clear hb c0 c1
  obtain ⟨c0,c1,_,_,_⟩:=HC7.o
  go_wp2_with fail
  (refine hK.out _ _ ?_ fun hHeld2=>?_;(focus ((try dsimp only);exact ⟨c0,c1⟩));(clear hK K);(try simp only [Act.put,Zz]))
  (refine wpAnyH_ready (rs:=[9]) (by kernel_rfl) (by simp) ?_;refine AllReadyH.cons rfl (fun K hK=>?_) AllReadyH.nil;go_simp)
  have HB8:=Zh (HB7.o.alloc HB7.o.size (.cells ([TX,[115,116,101,112,115],[45],[112,101,114,105,111,100],IP,[118,101,99,116,111,114],NV].map emS).toArray 9))
  clear c0 c1
  obtain ⟨c0,c1,_,_,_⟩:=HC7.o.alloc (.cells ([TX,[115,116,101,112,115],[45],[112,101,114,105,111,100],IP,[118,101,99,116,111,114],NV].map emS).toArray 9)
  (refine hK.out _ _ ?_ fun hHeld2=>?_;(focus ((try dsimp only);exact ⟨c0,c1⟩));(clear hK K);(try simp only [Act.put,Zz]))
  (refine wpAnyH_ready (rs:=[10]) (by kernel_rfl) (by simp) ?_;refine AllReadyH.cons rfl (fun K hK=>?_) AllReadyH.nil;go_simp)
  go_at_call 8
  refine (HJ.o w7 w7.heap.size rfl).mono ?_
  rintro e w9 ⟨rfl,hb⟩
  have HB9:=Zh (HB8.o.trans (hb.mono HB8.o.size))
  have HC8:=Zh (HC7.o.alloc (.cells ([TX,[115,116,101,112,115],[45],[112,101,114,105,111,100],IP,[118,101,99,116,111,114],NV].map emS).toArray 9))
  clear c0 c1
  obtain ⟨c0,c1,_,_,_⟩:=HC8.o.below hb HC8.o.2.2.2.2
  clear hb
  go_wp2_with fail
  (refine hK.out _ _ ?_ fun hHeld2=>?_;(focus ((try dsimp only);exact ⟨c0,c1⟩));(clear hK K);(try simp only [Act.put,Zz]))
  (refine Zk 11 ?_;(try simp only [Act.put,Zz]))
  refine wpAnyH_done (by kernel_rfl) ?_ _
  clear c0 c1
  go_wp2_with fail
  go_ret
  exact ⟨rfl,HB9.o⟩
 ·have hsl0:SL=SV:=by rw [HSV.o,if_neg hs0]
  subst hsl0
  have hne1:((mkS SL).toList==(⟨#[]⟩:ByteArray).toList)=false:=by
   rw [Lib.toList_data,Lib.toList_data,show (mkS SL).data.toList=SL from za9 SL]
   exact beq_eq_false_iff_ne.2 hs0
  have hne2:((mkS SL).toList==[])=false:=by
   rw [Lib.toList_data,show (mkS SL).data.toList=SL from za9 SL]
   exact beq_eq_false_iff_ne.2 hs0
  go_wp2_with fail
  have HBd:=Zh (show Below w.heap.size w w2.drew from ⟨HB2.o.os,HB2.o.tape,HB2.o.output,HB2.o.size,HB2.o.block⟩)
  have HCd:=Zh (show Cells2 w2.drew w.heap.size (.int .i64 N) (.slice A bs.length cap) from HC2.o)
  have HId:=Zh (show Ints w2.drew w2.drew.heap.size A bs from HI2.o)
  (refine wp_region_held_drew (S:=(fun w'=>w'.cell? ⟨w.heap.size,0,none⟩=some (.int .i64 N)/\w'.cell? ⟨w.heap.size,1,none⟩=some (.slice A bs.length cap))) (by kernel_rfl) ?_ (fun hHeld=>?_);(focus ((try dsimp only);exact ⟨c0,c1⟩)))
  ((refine Zk 0 ?_;(try simp only [Act.put,Zz]));(refine Zk 2 ?_;(try simp only [Act.put,Zz]));(refine Zk 3 ?_;(try simp only [Act.put,Zz]));(refine Zk 6 ?_;(try simp only [Act.put,Zz])))
  (refine wpAnyH_ready (rs:=[1]) (by kernel_rfl) (by simp) ?_;refine AllReadyH.cons rfl (fun K hK=>?_) AllReadyH.nil;go_simp)
  go_at_call 112
  refine (HTX.o _ HId.o).mono ?_
  rintro e w3 ⟨rfl,hb⟩
  have HB3:=Zh (HBd.o.trans (hb.mono HBd.o.size))
  have HC3:=Zh (HCd.o.below hb HCd.o.2.2.2.2)
  have HI3:=Zh (HId.o.lift hb)
  clear hb c0 c1
  obtain ⟨c0,c1,_,_,_⟩:=HC3.o
  go_wp2_with fail
  (refine hK.out _ _ ?_ fun hHeld2=>?_;(focus ((try dsimp only);exact ⟨c0,c1⟩));(clear hK K);(try simp only [Act.put,Zz]))
  (refine wpAnyH_ready (rs:=[4]) (by kernel_rfl) (by simp) ?_;refine AllReadyH.cons rfl (fun K hK=>?_) AllReadyH.nil;go_simp)
  go_at_call 114
  refine (HPE.o _ HI3.o).mono ?_
  rintro e w4 ⟨rfl,hb⟩
  have HB4:=Zh (HB3.o.trans (hb.mono HB3.o.size))
  have HC4:=Zh (HC3.o.below hb HC3.o.2.2.2.2)
  have HI4:=Zh (HI3.o.lift hb)
  clear hb c0 c1
  obtain ⟨c0,c1,_,_,_⟩:=HC4.o
  go_wp2_with fail
  (refine hK.out _ _ ?_ fun hHeld2=>?_;(focus ((try dsimp only);exact ⟨c0,c1⟩));(clear hK K);(try simp only [Act.put,Zz]))
  (refine wpAnyH_ready (rs:=[5]) (by kernel_rfl) (by simp) ?_;refine AllReadyH.cons rfl (fun K hK=>?_) AllReadyH.nil;go_simp)
  go_at_call 64
  refine (HFI.o _ HB4.o).mono ?_
  rintro e w5 ⟨rfl,hb⟩
  have HB5:=Zh (HB4.o.trans (hb.mono HB4.o.size))
  have HC5:=Zh (HC4.o.below hb HC4.o.2.2.2.2)
  have HI5:=Zh (HI4.o.lift hb)
  clear hb c0 c1
  obtain ⟨c0,c1,_,_,_⟩:=HC5.o
  go_wp2_with fail
  (refine hK.out _ _ ?_ fun hHeld2=>?_;(focus ((try dsimp only);exact ⟨c0,c1⟩));(clear hK K);(try simp only [Act.put,Zz]))
  (refine wpAnyH_ready (rs:=[7]) (by kernel_rfl) (by simp) ?_;refine AllReadyH.cons rfl (fun K hK=>?_) AllReadyH.nil;go_simp)
  go_at_call 116
  refine (HVE.o _ HI5.o).mono ?_
  rintro e w6 ⟨A6,c6,rfl,hI6,hb⟩
  have HV6:=Zh hI6
  clear hI6
  have HB6:=Zh (HB5.o.trans (hb.mono HB5.o.size))
  have HC6:=Zh (HC5.o.below hb HC5.o.2.2.2.2)
  have HI6:=Zh (HI5.o.lift hb)
  clear hb c0 c1
  obtain ⟨c0,c1,_,_,_⟩:=HC6.o
  go_wp2_with fail
  (refine hK.out _ _ ?_ fun hHeld2=>?_;(focus ((try dsimp only);exact ⟨c0,c1⟩));(clear hK K);(try simp only [Act.put,Zz]))
  (refine wpAnyH_ready (rs:=[8]) (by kernel_rfl) (by simp) ?_;refine AllReadyH.cons rfl (fun K hK=>?_) AllReadyH.nil;go_simp)
  go_at_call 115
  refine (HFN.o _ _ _ HV6.o HB6.o).mono ?_
  rintro e w7 ⟨rfl,hb⟩
  have HB7:=Zh (HB6.o.trans (hb.mono HB6.o.size))
  have HC7:=Zh (HC6.o.below hb HC6.o.2.2.2.2)
  have HI7:=Zh (HI6.o.lift hb)
  clear hb c0 c1
  obtain ⟨c0,c1,_,_,_⟩:=HC7.o
  go_wp2_with fail
  (refine hK.out _ _ ?_ fun hHeld2=>?_;(focus ((try dsimp only);exact ⟨c0,c1⟩));(clear hK K);(try simp only [Act.put,Zz]))
  (refine wpAnyH_ready (rs:=[9]) (by kernel_rfl) (by simp) ?_;refine AllReadyH.cons rfl (fun K hK=>?_) AllReadyH.nil;go_simp)
  have HB8:=Zh (HB7.o.alloc HB7.o.size (.cells ([TX,[115,116,101,112,115],SL,[112,101,114,105,111,100],IP,[118,101,99,116,111,114],NV].map emS).toArray 9))
  clear c0 c1
  obtain ⟨c0,c1,_,_,_⟩:=HC7.o.alloc (.cells ([TX,[115,116,101,112,115],SL,[112,101,114,105,111,100],IP,[118,101,99,116,111,114],NV].map emS).toArray 9)
  (refine hK.out _ _ ?_ fun hHeld2=>?_;(focus ((try dsimp only);exact ⟨c0,c1⟩));(clear hK K);(try simp only [Act.put,Zz]))
  (refine wpAnyH_ready (rs:=[10]) (by kernel_rfl) (by simp) ?_;refine AllReadyH.cons rfl (fun K hK=>?_) AllReadyH.nil;go_simp)
  go_at_call 8
  refine (HJ.o w7 w7.heap.size rfl).mono ?_
  rintro e w9 ⟨rfl,hb⟩
  have HB9:=Zh (HB8.o.trans (hb.mono HB8.o.size))
  have HC8:=Zh (HC7.o.alloc (.cells ([TX,[115,116,101,112,115],SL,[112,101,114,105,111,100],IP,[118,101,99,116,111,114],NV].map emS).toArray 9))
  clear c0 c1
  obtain ⟨c0,c1,_,_,_⟩:=HC8.o.below hb HC8.o.2.2.2.2
  clear hb
  go_wp2_with fail
  (refine hK.out _ _ ?_ fun hHeld2=>?_;(focus ((try dsimp only);exact ⟨c0,c1⟩));(clear hK K);(try simp only [Act.put,Zz]))
  (refine Zk 11 ?_;(try simp only [Act.put,Zz]))
  refine wpAnyH_done (by kernel_rfl) ?_ _
  clear c0 c1
  go_wp2_with fail
  go_ret
  exact ⟨rfl,HB9.o⟩
end Go.Proofs.YtjpnjchpdkogbaaGreatDoor
namespace Go.Proofs.YtjpnjchpdkogbaaGreatDoor
open Go.ChangeShapes Go.WideShapes Go.ChangeAt Go.RowKit Go.Joins
end Go.Proofs.YtjpnjchpdkogbaaGreatDoor
