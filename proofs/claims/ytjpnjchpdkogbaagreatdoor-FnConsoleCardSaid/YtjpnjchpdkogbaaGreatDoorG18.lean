/- Parts of the proof of the card of the law FnConsole. -/
import Derived.Test.YtjpnjchpdkogbaaGreatDoorG10
import Derived.Test.YtjpnjchpdkogbaaGreatDoorG06
import Derived.Test.YtjpnjchpdkogbaaGreatDoorG17
import Derived.WalkSpells
import Derived.Lib.LazyBuf
import Derived.Test.YtjpnjchpdkogbaaGreatDoorG08
import Derived.Test.YtjpnjchpdkogbaaGreatDoorG02
import Derived.Shelf.Strings.Replace
import Derived.Lib.SplitLaws
import Derived.Test.YtjpnjchpdkogbaaGreatDoorG05
import Derived.Test.YtjpnjchpdkogbaaGreatDoorG04
set_option linter.unusedVariables false
set_option linter.unusedSimpArgs false
set_option maxRecDepth 100000
set_option maxHeartbeats 2000000
namespace Go.Proofs.YtjpnjchpdkogbaaGreatDoor
open Go.RowKit
theorem zyp {n:Int}{bs:List Int}(h:rhB n bs=true){i:Nat}(hi:i<bs.length) : ∃ s:Nat,(zat n bs).getD i 0=s/\1<=s/\s<=24:=by
 have hl:=zen n bs
 have:=(zfm n bs).2 ((zat n bs).getD i 0) (by
  rw [zeo h,List.getD_eq_getElem?_getD,List.getElem?_eq_getElem (by omega)]
  exact List.getElem_mem _)
 obtain ⟨s,hs⟩:=Int.eq_ofNat_of_zero_le (show 0<=(zat n bs).getD i 0 by omega)
 exact ⟨s,hs,by omega,by omega⟩
theorem zyq {N:Nat}{bs:List Int}(hok:RhOk N bs):bs.length<=N:=by have:=hok.len;omega
theorem zn6 (N:Nat)(A A2:Option Addr)(cap c2:Nat)(bs xs:List Int)(w:World)(hA:Ints w w.heap.size A bs)(hX:Ints w w.heap.size A2 xs)(hok:RhOk N bs)(hm:zbn xs)(hp:prd xs=N)(hc2:xs.length<=c2) :
  Calls Tryz.prog 123 #[.agg #[.int .i64 N,.slice A bs.length cap],.slice A2 xs.length c2] w fun e w'=>e = .returned (.int .i64 (zbf N bs xs))/\Below w.heap.size w w':=by
 have hn1:1<=N:=by have:=hok.1;omega
 have hn2:N<=24:=by have:=hok.2.1;omega
 have hfN:Fits (N:Int):=by unfold Fits;omega
 have hbl:bs.length<=24:=Nat.le_trans (zyq hok) hn2
 have hr:rhB N bs=true:=zao.2 hok
 have HFT:=Zh (fun V h1 h2=>zuy N A A2 cap c2 bs xs V h1 h2 hok hm hp)
 have HWG:=Zh (fun V h=>zuz A2 c2 xs N V h hm hp hc2)
 have HST:=Zh (fun V h=>zeo hr ▸ zd1 N A cap bs V hfN h)
 have HSR:=Zh (fun i (hi:i<bs.length)=>zyp hr hi)
 have hsl:(zat N bs).length=bs.length:=zen _ _
 have HWR:=Zh (zfy hm)
 have hwl:(wgtL xs).length=N:=by rw [zmi,hp,Int.toNat_natCast]
 have HV:=Zh (show zbf N bs xs=synV (wgtL xs) N bs (zat N bs) bs.length from rfl)
 have HBR:=Zh (fun i (hi:i<bs.length)=>hok.2.2.1 i hi)
 have HGR:=Zh (fun p m=>zic (zfy hm) N p m)
 have HYR:=Zh (fun i=>zid (zfy hm) N bs (zat N bs) i)
 have HGS:=Zh (fun (p:Int) (m:Nat)=>show grtV (wgtL xs) N p (m+1)=max (grtV (wgtL xs) N p m) ((wgtL xs).getD ((p+(m+1:Nat)) % N).toNat 0) from rfl)
 have HYS:=Zh (fun (i:Nat)=>show synV (wgtL xs) N bs (zat N bs) (i+1)=synV (wgtL xs) N bs (zat N bs) i+max 0 (grtV (wgtL xs) N (bs.getD i 0) (((zat N bs).getD i 0).toNat-1)-(wgtL xs).getD (bs.getD i 0).toNat 0) from rfl)
 have HBW:=Zh ((Below.refl w.heap.size w).alloc (Nat.le_refl _) (.cells #[.int .i64 N,.slice A (bs).length cap] 27))
 have HVA:=Zh (Hav.boxed hA N cap)
 have HVX:=Zh (hX.lift HBW.o)
 generalize wgtL xs=WL at *
 generalize zat N bs=SL at *
 clear hA hX hok hm hr hp
 obtain ⟨⟨p0,p1,_,_,_⟩,_⟩:=HVA.o
 go_enter Tryz.func123,Tryz.ntmps123
 go_wp2_with fail
 generalize w.alloc (.cells #[.int .i64 N,.slice A (bs).length cap] 27)=W at *
 refine (HFT.o _ HVA.o.2 HVX.o).mono ?_
 rintro e w1 ⟨rfl,hb⟩
 have HBW:=Zh (HBW.o.trans (hb.mono HBW.o.size))
 try have HVA:=Zh (HVA.o.lift hb)
 try have HVX:=Zh (HVX.o.lift hb)
 try have HVP:=Zh (HVP.o.lift hb)
 try have HVQ:=Zh (HVQ.o.lift hb)
 clear hb
 clear p0 p1
 obtain ⟨⟨p0,p1,_,_,_⟩,_⟩:=HVA.o
 go_wp2_with fail
 refine (HWG.o _ HVX.o).mono ?_
 rintro e w2 ⟨AW,cW,rfl,hIW,hb⟩
 have HBW:=Zh (HBW.o.trans (hb.mono HBW.o.size))
 try have HVA:=Zh (HVA.o.lift hb)
 try have HVX:=Zh (HVX.o.lift hb)
 try have HVP:=Zh (HVP.o.lift hb)
 try have HVQ:=Zh (HVQ.o.lift hb)
 clear hb
 have HVP:=Zh hIW
 clear hIW p0 p1
 obtain ⟨⟨p0,p1,_,_,_⟩,_⟩:=HVA.o
 go_wp2_with fail
 refine (HST.o _ HVA.o.2).mono ?_
 rintro e w3 ⟨AS,cS,rfl,hIS,hb⟩
 have HBW:=Zh (HBW.o.trans (hb.mono HBW.o.size))
 try have HVA:=Zh (HVA.o.lift hb)
 try have HVX:=Zh (HVX.o.lift hb)
 try have HVP:=Zh (HVP.o.lift hb)
 try have HVQ:=Zh (HVQ.o.lift hb)
 clear hb
 have HVQ:=Zh hIS
 clear hIS p0 p1
 obtain ⟨⟨p0,p1,_,_,_⟩,_⟩:=HVA.o
 rw [hsl]
 go_wp2_with fail
 go_loop [6,21] (fun s i=>∃ j:Nat,j<=bs.length/\i = .int .i64 j/\s = .int .i64 (synV WL N bs SL j)) (fun _ i=>bs.length-(intOf i).toNat)
 case atStart=>exact ⟨0,Nat.zero_le _,rfl,rfl⟩
 case round =>
  obtain ⟨j,hj,rfl,rfl⟩:=hrel
  by_cases hlt:j<bs.length
  ·have hji:(j:Int)<(bs.length:Int):=by omega
   have hj0:(0:Int)<=(j:Int):=Int.natCast_nonneg _
   obtain ⟨bB,oB,hAB,hbB,hcB⟩:=HVA.o.2.2.2 (by omega)
   obtain ⟨bS,oS,hAS,hbS,hcS⟩:=HVQ.o.2.2 (by omega)
   obtain ⟨bW,oW,hAW,hbW,hcW⟩:=HVP.o.2.2 (by omega)
   subst hAB hAS hAW
   have hcb:=hcB j hlt
   have hcs:=hcS j (by omega)
   obtain ⟨s,hs,hs1,hs2⟩:=HSR.o j hlt
   have hpr:=HBR.o j hlt
   have HYJ:=Zh (HYS.o j)
   have hyr:=HYR.o j
   have hsn:SL.getD j 0=(s:Int):=hs
   obtain ⟨p,hp⟩ : ∃ p,bs.getD j 0=p:=⟨_,rfl⟩
   rw [hp] at hcb hpr HYJ
   rw [hsn] at hcs HYJ
   obtain ⟨p,rfl⟩:=Int.eq_ofNat_of_zero_le hpr.1
   have hcp:=hcW p (by omega)
   obtain ⟨v,hv⟩ : ∃ v,WL.getD p 0=v:=⟨_,rfl⟩
   have hvr:=HWR.o p
   rw [hv] at hcp hvr
   rw [Int.toNat_natCast,Int.toNat_natCast,hv] at HYJ
   have HCW:=Zh hcW
   have hpl:(p:Int)<(N:Int):=by omega
   have hp0:(0:Int)<=(p:Int):=Int.natCast_nonneg _
   generalize synV WL N bs SL j=Y at *
   clear hp hv hs hsn hcB hcS hcW
   go_wp2_with fail
   go_loop [10,11] (fun g d=>∃ m:Nat,m+1<=s/\d = .int .i64 ((m+1:Nat):Int)/\g = .int .i64 (grtV WL N p m)) (fun _ d=>s-(intOf d).toNat)
   case atStart=>exact ⟨0,hs1,rfl,rfl⟩
   case round =>
    obtain ⟨m,hm,rfl,rfl⟩:=hrel
    have hgr:=HGR.o p m
    by_cases hlm:m+1<s
    ·have hmi:((m+1:Nat):Int)<(s:Int):=by omega
     obtain ⟨m1,hm1⟩ : ∃ m1,m+1=m1:=⟨_,rfl⟩
     have hqN:(p+m1) % N<N:=Nat.mod_lt _ hn1
     have HGJ:=Zh (show grtV WL N p (m+1)=max (grtV WL N p m) (WL.getD ((p+m1) % N) 0) by
      rw [HGS.o,hm1,<- Int.natCast_add,<- Int.natCast_emod,Int.toNat_natCast])
     have hcq:=HCW.o ((p+m1) % N) (by omega)
     rw [hm1] at hmi HGJ ⊢
     have hw1:IntKind.i64.wrap ((p:Int)+(m1:Int))=(p:Int)+(m1:Int):=i64w (by omega)
     have hnz:((N:Int)=0)=False:=eq_false (by omega)
     have hnz2:(N=0)=False:=eq_false (by omega)
     have hrm:((p:Int)+(m1:Int)).tmod (N:Int)=((p:Int)+(m1:Int)) % (N:Int):=Int.tmod_eq_emod_of_nonneg (by omega)
     have hq0:(0:Int)<=((p:Int)+(m1:Int)) % (N:Int):=Int.emod_nonneg _ (by omega)
     have hql:((p:Int)+(m1:Int)) % (N:Int)<(N:Int):=Int.emod_lt_of_pos _ (by omega)
     have hw2:IntKind.i64.wrap (((p:Int)+(m1:Int)) % (N:Int))=((p:Int)+(m1:Int)) % (N:Int):=i64w (by omega)
     have HM1:=Zh hm1
     have hms:m1<s:=by omega
     generalize WL.getD ((p+m1) % N) 0=u at *
     generalize grtV WL N p m=G at *
     clear hm1 hlm hm
     go_wp2_with fail
     go_round
     case rel=>exact ⟨m1,by omega,by go_num,by rw [HGJ.o]⟩
     case measure=>simp [intOf];omega
    ·have hme:s-1=m:=by omega
     have hmi : ¬ ((m+1:Nat):Int)<(s:Int):=by omega
     rw [hme] at HYJ
     generalize grtV WL N p m=G at *
     have hw1:IntKind.i64.wrap (G-v)=G-v:=i64w (by omega)
     have hw2:IntKind.i64.wrap (Y+max 0 (G-v))=Y+max 0 (G-v):=i64w (by omega)
     clear hme hm hlm
     go_wp2_with fail
     go_round
     case rel=>exact ⟨j+1,by omega,by go_num,by rw [HYJ.o]⟩
     case measure=>simp [intOf];omega
  ·have hje:j=bs.length:=by omega
   subst hje
   have hji : ¬ (bs.length:Int)<(bs.length:Int):=by omega
   generalize synV WL N bs SL bs.length=Y at *
   go_wp2_with fail
   go_ret
   exact ⟨zbv HV.o.symm,HBW.o⟩
end Go.Proofs.YtjpnjchpdkogbaaGreatDoor
namespace Go.Proofs.YtjpnjchpdkogbaaGreatDoor
open Go.RowKit
end Go.Proofs.YtjpnjchpdkogbaaGreatDoor
namespace Go.Proofs.YtjpnjchpdkogbaaGreatDoor
open Go.RowKit Go.Shelf
def mtrL (N:Nat):List (List Int):=if 2<=N then metL 6 N [] else []
theorem zi2 {N:Nat}(h2:N<=24){x:List Int}(hx:x∈mtrL N):zbn x/\prd x=N:=by
 unfold mtrL at hx
 split at hx
 ·exact zuo (by omega) h2 hx
 ·cases hx
theorem zyr {N:Nat}(h2:N<=24):(mtrL N).length<=100:=by
 unfold mtrL
 split
 ·exact zup (by omega) h2
 ·exact Nat.zero_le _
def zys (w:World)(L:List (List Int))(e:Ending)(w':World):Prop:=∃ v rs,e = .returned v/\OwnW w' w.heap.size v rs/\rs.map SV.xs=L/\Below w.heap.size w w'
theorem zyt (N:Nat)(w:World)(h1:1<=N)(h2:N<=24):Calls Tryz.prog 179 #[.int .i64 N] w (zys w (mtrL N)):=by
 by_cases hN:2<=N
 ·have HM:=Zh (fun A c=>zyo 6 N [] A c w rfl (by omega) h1 h2 (Ints.none_ _))
  have hin:inB (N:Int) 2 24=true:=za1 ⟨by omega,by omega⟩
  have HL:=Zh (show mtrL N=metL 6 N [] from if_pos hN)
  generalize metL 6 N []=L at *
  rw [List.length_nil] at HM
  go_enter Tryz.func179,Tryz.ntmps179
  go_wp2_with (go_at_call 22;refine (zac _ _ _ _).mono ?_;rintro e w' ⟨rfl,rfl⟩)
  refine (HM.o none 0).mono ?_
  rintro e w1 ⟨v,rs,rfl,hown,hkey,_,_,hb⟩
  have HO:=Zh hown
  clear hown
  go_wp2_with fail
  go_ret
  exact ⟨v,rs,rfl,HO.o,hkey.trans HL.o.symm,hb⟩
 ·have hin:inB (N:Int) 2 24=false:=zed (by omega)
  have HL:=Zh (show mtrL N=[] from if_neg hN)
  go_enter Tryz.func179,Tryz.ntmps179
  go_wp2_with (go_at_call 22;refine (zac _ _ _ _).mono ?_;rintro e w' ⟨rfl,rfl⟩)
  go_ret
  rw [HL.o]
  exact ⟨_,[],rfl,OwnW.nil _ _,rfl,Below.refl _ _⟩
def bstM (N:Nat)(bs:List Int)(j:Nat):List Int:=(mtrL N).getD (bstI (fun i=>zbf N bs ((mtrL N).getD i [])) j) []
theorem zn7 {N:Nat}{bs:List Int}{j:Nat}(h1:1<=j)(h2:j<=(mtrL N).length):bstM N bs j∈mtrL N:=by
 have:=zig (fun i=>zbf N bs ((mtrL N).getD i [])) j h1
 unfold bstM
 rw [List.getD_eq_getElem?_getD,List.getElem?_eq_getElem (by omega)]
 exact List.getElem_mem _
theorem zn8 (rs:List SV)(i:Nat):(rs.map SV.xs).getD i []=(rs.getD i ⟨[],none,0⟩).xs:=by
 rw [List.getD_eq_getElem?_getD,List.getD_eq_getElem?_getD,List.getElem?_map]
 cases rs[i]? <;> rfl
def rowF (N:Nat)(bs:List Int)(rs:List SV)(i:Nat):Int:=zbf N bs (rs.getD i ⟨[],none,0⟩).xs
theorem zyu {N:Nat}{bs:List Int}{rs:List SV}(h:rs.map SV.xs=mtrL N)(j:Nat):bstM N bs j=(rs.getD (bstI (rowF N bs rs) j) ⟨[],none,0⟩).xs:=by
 have hf:(fun i=>zbf N bs ((mtrL N).getD i []))=rowF N bs rs:=by
  funext i
  unfold rowF
  rw [<- h,zn8]
 unfold bstM
 rw [hf,<- h,zn8]
theorem zyv {f:Nat->Int}{j:Nat}(h : ¬ f j<f (bstI f j)):bstI f (j+1)=bstI f j:=by
 by_cases h0:j=0
 ·subst h0;rfl
 ·exact zur h0 h
theorem zyw {f:Nat->Int}{j:Nat}(h:f j<f (bstI f j)):bstI f (j+1)=j:=by
 by_cases h0:j=0
 ·subst h0;rfl
 ·exact zuq h0 h
theorem zn9 (f:Nat->Int){j n:Nat}(h:j<=n)(hn:0<n):bstI f j<n:=by
 by_cases h0:j=0
 ·subst h0;exact hn
 ·have:=zig f j (by omega);omega
def zyx (w:World)(N:Nat)(bs:List Int)(e:Ending)(w':World):Prop :=
 Below w.heap.size w w'/\((mtrL N=[]/\e = .returned (.tuple #[.slice none 0 0,.bool false])) \/
  ∃ A c,mtrL N≠[]/\e = .returned (.tuple #[.slice A (bstM N bs (mtrL N).length).length c,.bool true])/\Ints w' w'.heap.size A (bstM N bs (mtrL N).length)/\(bstM N bs (mtrL N).length).length<=c)
theorem zyy (N:Nat)(A:Option Addr)(cap:Nat)(bs:List Int)(w:World)(hA:Ints w w.heap.size A bs)(hok:RhOk N bs) :
  Calls Tryz.prog 121 #[.agg #[.int .i64 N,.slice A bs.length cap]] w (zyx w N bs):=by
 have hn1:1<=N:=by have:=hok.1;omega
 have hn2:N<=24:=by have:=hok.2.1;omega
 have hfN:Fits (N:Int):=by unfold Fits;omega
 have hr:rhB N bs=true:=zao.2 hok
 have HRO:=Zh (fun V h=>hr ▸ zav N A cap bs V hfN h)
 have HMT:=Zh (fun V=>zyt N V hn1 hn2)
 have HSY:=Zh (fun A2 c2 xs V h1 h2 (hm:zbn xs) hp hc=>zn6 N A A2 cap c2 bs xs V h1 h2 hok hm hp hc)
 have HMO:=Zh (fun x (hx:x∈mtrL N)=>zi2 hn2 hx)
 have hml:=zyr hn2
 have HBW:=Zh ((Below.refl w.heap.size w).alloc (Nat.le_refl _) (.cells #[.int .i64 N,.slice A (bs).length cap] 27))
 have HVA:=Zh (Hav.boxed hA N cap)
 clear hA hok hr
 obtain ⟨⟨p0,p1,_,_,_⟩,_⟩:=HVA.o
 go_enter Tryz.func121,Tryz.ntmps121
 go_wp2_with fail
 generalize w.alloc (.cells #[.int .i64 N,.slice A (bs).length cap] 27)=W at *
 refine (HRO.o _ HVA.o.2).mono ?_
 rintro e w1 ⟨rfl,hb⟩
 have HBW:=Zh (HBW.o.trans (hb.mono HBW.o.size))
 try have HVA:=Zh (HVA.o.lift hb)
 try have HRB:=Zh (HRB.o.trans (hb.mono HRB.o.size))
 clear hb
 clear p0 p1
 obtain ⟨⟨p0,p1,_,_,_⟩,_⟩:=HVA.o
 go_wp2_with fail
 refine (HMT.o _).mono ?_
 rintro e w3 ⟨v,rs,rfl,hown,hkey,hb⟩
 have HBW:=Zh (HBW.o.trans (hb.mono HBW.o.size))
 try have HVA:=Zh (HVA.o.lift hb)
 try have HRB:=Zh (HRB.o.trans (hb.mono HRB.o.size))
 clear hb
 clear p0 p1
 obtain ⟨Ar,cr,rfl⟩:=hown.form
 have hrl:rs.length<=100:=by
  have:=congrArg List.length hkey
  rw [List.length_map] at this
  omega
 have HKY:=Zh hkey
 have HRW:=Zh (fun hn=>show ∃ g,Ar=some ⟨g,0,none⟩/\g<w3.heap.size /\ ∀ i (hi:i<rs.length),w3.cell? ⟨g,i,none⟩=some rs[i].slc by
  obtain ⟨g,a,_,b,c⟩:=hown.cells hn
  exact ⟨g,a,b,c⟩)
 have HRI:=Zh (fun i (hi:i<rs.length)=>show (rs.getD i ⟨[],none,0⟩).xs.length<=(rs.getD i ⟨[],none,0⟩).c/\Ints w3 w3.heap.size (rs.getD i ⟨[],none,0⟩).A (rs.getD i ⟨[],none,0⟩).xs/\zbn (rs.getD i ⟨[],none,0⟩).xs/\prd (rs.getD i ⟨[],none,0⟩).xs=N by
  rw [List.getD_eq_getElem?_getD,List.getElem?_eq_getElem hi]
  have hm:=List.getElem_mem hi
  have hx:=hown.2 _ hm
  have hz:=HMO.o rs[i].xs (by rw [<- hkey];exact List.mem_map.2 ⟨_,hm,rfl⟩)
  exact ⟨hx.1,hx.2.1,hz.1,hz.2⟩)
 have HBV:=Zh (show bstM N bs (mtrL N).length=(rs.getD (bstI (rowF N bs rs) rs.length) ⟨[],none,0⟩).xs by rw [zyu hkey,<- hkey,List.length_map])
 clear hown hkey
 have heqn : ∀ V:World,(binOp .eql 25 (.slice none 0 0) (.slice none 0 0)).run Tryz.prog V = .ok (.bool true) V:=fun V=>run_eql_slice_nil V _ _ none 0 0 Tryz.underlying25
 have heqs : ∀ (V:World) a l c,(binOp .eql 25 (.slice (some a) l c) (.slice none 0 0)).run Tryz.prog V = .ok (.bool false) V:=fun V a l c=>run_eql_slice_nil V _ _ (some a) l c Tryz.underlying25
 have hnqn : ∀ V:World,(binOp .neq 25 (.slice none 0 0) (.slice none 0 0)).run Tryz.prog V = .ok (.bool false) V:=fun V=>run_neq_slice_nil_any V _ _ none 0 0 0 0 Tryz.underlying25
 have hnqs : ∀ (V:World) a l c,(binOp .neq 25 (.slice (some a) l c) (.slice none 0 0)).run Tryz.prog V = .ok (.bool true) V:=fun V a l c=>run_neq_slice_nil_any V _ _ (some a) l c 0 0 Tryz.underlying25
 go_wp2_with fail
 go_loopw [4,14] (fun b i wr=>∃ j:Nat,j<=rs.length/\i = .int .i64 j/\(j=0->b = .slice none 0 0)/\(1<=j->b=(rs.getD (bstI (rowF N bs rs) j) ⟨[],none,0⟩).slc)/\Below w3.heap.size w3 wr) (fun _ i _=>rs.length-(intOf i).toNat)
 case atStart=>exact ⟨0,Nat.zero_le _,rfl,fun _=>rfl,fun h=>by omega,Below.refl _ _⟩
 case round =>
  obtain ⟨j,hj,rfl,hb0,hbj,hbel⟩:=hrel
  obtain ⟨wo,rfl⟩ : ∃ wo:World,wo=wr:=⟨_,rfl⟩
  by_cases hlt:j<rs.length
  ·have hlp:0<rs.length:=by omega
   obtain ⟨gr,hAr,hgr,hcr⟩:=HRW.o hlp
   subst hAr
   have HCR:=Zh hcr
   clear hcr
   by_cases hj0:j=0
   ·have hbe:=hb0 hj0
    subst hbe
    have hcj:=(hbel.cell (p:=⟨gr,j,none⟩) hgr).trans (HCR.o j hlt)
    rw [show rs[j]=rs.getD j ⟨[],none,0⟩ by rw [List.getD_eq_getElem?_getD,List.getElem?_eq_getElem hlt];rfl] at hcj
    obtain ⟨rj,hrj⟩ : ∃ r,rs.getD j ⟨[],none,0⟩=r:=⟨_,rfl⟩
    rw [hrj] at hcj
    have HRJ:=Zh hrj
    have HBO:=Zh hbel
    have HVA:=Zh (HVA.o.lift hbel)
    have HN:=Zh (show bstI (rowF N bs rs) (j+1)=j by subst hj0;rfl)
    obtain ⟨Xj,Aj,cj⟩:=rj
    change wo.cell? ⟨gr,j,none⟩=some (.slice Aj Xj.length cj) at hcj
    clear hbel hrj hb0 hbj
    obtain ⟨⟨p0,p1,_,_,_⟩,_⟩:=HVA.o
    have hji:(j:Int)<(rs.length:Int):=by omega
    clear hj0
    go_wp2_with fail
    (refine wp_region_held_drew (S:=(fun w'=>w'.cell? ⟨w.heap.size,0,none⟩=some (.int .i64 N)/\w'.cell? ⟨w.heap.size,1,none⟩=some (.slice A bs.length cap))) (by kernel_rfl) ?_ (fun hHeld=>?_);(focus ((try dsimp only);exact ⟨p0,p1⟩)))
    ((refine Zk 0 ?_;(try simp only [Act.put,Zz]));(refine Zk 1 ?_;(try simp only [Act.put,Zz]));(refine Zk 2 ?_;(try simp only [Act.put,Zz])))
    ((refine Zu 3 ?_;(try simp only [Act.put,Zz]));(refine Zu 4 ?_;(try simp only [Act.put,Zz]));(refine Zu 5 ?_;(try simp only [Act.put,Zz]));(refine Zu 6 ?_;(try simp only [Act.put,Zz]));(refine Zu 7 ?_;(try simp only [Act.put,Zz]));(refine Zu 8 ?_;(try simp only [Act.put,Zz]));(refine Zu 9 ?_;(try simp only [Act.put,Zz])))
    (refine Zk 10 ?_;(try simp only [Act.put,Zz]))
    refine wpAnyH_done (by kernel_rfl) ?_ _
    have HB5:=Zh (Below.drewH_ HBO.o)
    go_wp2_with fail
    go_roundw
    case rel=>exact ⟨j+1,by omega,by go_num,fun h=>by omega,fun _=>by rw [HN.o,HRJ.o] <;> rfl,HB5.o⟩
    case measure=>simp [intOf];omega
   ·have hbe:=hbj (by omega)
    subst hbe
    have hwz:w3.heap.size<=wo.heap.size:=hbel.size
    have hb1:=zn9 (rowF N bs rs) hj hlp
    have hcj:=(hbel.cell (p:=⟨gr,j,none⟩) hgr).trans (HCR.o j hlt)
    rw [show rs[j]=rs.getD j ⟨[],none,0⟩ by rw [List.getD_eq_getElem?_getD,List.getElem?_eq_getElem hlt];rfl] at hcj
    have hIj:=HRI.o j hlt
    have hIb:=HRI.o _ hb1
    have HST:=Zh (fun (h : ¬ rowF N bs rs j<rowF N bs rs (bstI (rowF N bs rs) j))=>zyv h)
    have HTK:=Zh (fun (h:rowF N bs rs j<rowF N bs rs (bstI (rowF N bs rs) j))=>zyw h)
    rw [show rowF N bs rs j=zbf N bs (rs.getD j ⟨[],none,0⟩).xs from rfl,show rowF N bs rs (bstI (rowF N bs rs) j)=zbf N bs (rs.getD (bstI (rowF N bs rs) j) ⟨[],none,0⟩).xs from rfl] at HST HTK
    obtain ⟨rb,hrb⟩ : ∃ r,rs.getD (bstI (rowF N bs rs) j) ⟨[],none,0⟩=r:=⟨_,rfl⟩
    obtain ⟨rj,hrj⟩ : ∃ r,rs.getD j ⟨[],none,0⟩=r:=⟨_,rfl⟩
    rw [hrb] at hIb HST HTK ⊢
    rw [hrj] at hIj hcj HST HTK
    have HRB:=Zh hrb
    have HRJ:=Zh hrj
    have HBO:=Zh hbel
    have HVA:=Zh (HVA.o.lift hbel)
    obtain ⟨Xj,Aj,cj⟩:=rj
    obtain ⟨Xb,Ab,cb⟩:=rb
    dsimp only at hIj hIb HST HTK
    change wo.cell? ⟨gr,j,none⟩=some (.slice Aj Xj.length cj) at hcj
    have HXJ:=Zh (hIj.2.1.lift (show Below w3.heap.size w3 wo from hbel))
    have HXB:=Zh (hIb.2.1.lift (show Below w3.heap.size w3 wo from hbel))
    have HSJ:=Zh (fun V h1 h2=>HSY.o Aj cj Xj V h1 h2 hIj.2.2.1 hIj.2.2.2 hIj.1)
    have HSB:=Zh (fun V h1 h2=>HSY.o Ab cb Xb V h1 h2 hIb.2.2.1 hIb.2.2.2 hIb.1)
    obtain ⟨bj,oj,hAj,_⟩:=hIj.2.1.2.2 hIj.2.2.1.1
    obtain ⟨bb,ob,hAb,_⟩:=hIb.2.1.2.2 hIb.2.2.1.1
    subst hAj hAb
    obtain ⟨F1,hF1⟩ : ∃ F,zbf N bs Xj=F:=⟨_,rfl⟩
    obtain ⟨F2,hF2⟩ : ∃ F,zbf N bs Xb=F:=⟨_,rfl⟩
    rw [hF1] at HSJ HST HTK
    rw [hF2] at HSB HST HTK
    clear hbel hrb hrj hIj hIb hF1 hF2
    obtain ⟨⟨p0,p1,_,_,_⟩,_⟩:=HVA.o
    have hji:(j:Int)<(rs.length:Int):=by omega
    clear hb0 hbj
    unfold SV.slc
    go_wp2_with fail
    have HBX:=HBW
    clear HBW
    have HBW:=Zh (Below.refl wo.heap.size wo)
    have HBW:=Zh (Below.drewH_ HBW.o)
    try have HRB:=Zh (Below.drewH_ HRB.o)
    try have HWW:=Zh (Below.drewH_ HWW.o)
    try have HVA:=Zh HVA.o.drew
    try have HVB:=Zh HVB.o.drew
    try have HVC:=Zh HVC.o.drew
    try have HVT:=Zh HVT.o.drew
    try have HVX:=Zh HVX.o.drew
    try have HVM:=Zh HVM.o.drew
    try have HVF:=Zh HVF.o.drew
    try have HVP:=Zh HVP.o.drew
    try have HVQ:=Zh HVQ.o.drew
    try have HLA:=Zh HLA.o.drewR_
    try have HLW:=Zh HLW.o.drewR_
    have HXJ:=Zh (show Ints wo.drew wo.drew.heap.size (some ⟨bj,oj,none⟩) Xj from HXJ.o)
    have HXB:=Zh (show Ints wo.drew wo.drew.heap.size (some ⟨bb,ob,none⟩) Xb from HXB.o)
    (refine wp_region_held_drew (S:=(fun w'=>w'.cell? ⟨w.heap.size,0,none⟩=some (.int .i64 N)/\w'.cell? ⟨w.heap.size,1,none⟩=some (.slice A bs.length cap))) (by kernel_rfl) ?_ (fun hHeld=>?_);(focus ((try dsimp only);exact ⟨p0,p1⟩)))
    ((refine Zk 0 ?_;(try simp only [Act.put,Zz]));(refine Zk 1 ?_;(try simp only [Act.put,Zz]));(refine Zk 2 ?_;(try simp only [Act.put,Zz]));(refine Zk 3 ?_;(try simp only [Act.put,Zz]));(refine Zk 4 ?_;(try simp only [Act.put,Zz]));(refine Zk 6 ?_;(try simp only [Act.put,Zz]));(refine Zk 7 ?_;(try simp only [Act.put,Zz])))
    (refine wpAnyH_ready (rs:=[5]) (by kernel_rfl) (by simp) ?_;refine AllReadyH.cons rfl (fun K hK=>?_) AllReadyH.nil;go_simp)
    go_at_call 123
    refine (HSJ.o _ HVA.o.2 HXJ.o).mono ?_
    rintro e w4 ⟨rfl,hb⟩
    have HXB:=Zh (HXB.o.lift hb)
    have HBW:=Zh (HBW.o.trans (hb.mono HBW.o.size))
    try have HVA:=Zh (HVA.o.lift hb)
    try have HRB:=Zh (HRB.o.trans (hb.mono HRB.o.size))
    clear hb
    clear p0 p1
    obtain ⟨⟨p0,p1,_,_,_⟩,_⟩:=HVA.o
    go_wp2_with fail
    (refine hK.out _ _ ?_ fun hHeld2=>?_;(focus ((try dsimp only);exact ⟨p0,p1⟩));(clear hK K);(try simp only [Act.put,Zz]))
    (refine wpAnyH_ready (rs:=[8]) (by kernel_rfl) (by simp) ?_;refine AllReadyH.cons rfl (fun K hK=>?_) AllReadyH.nil;go_simp)
    go_at_call 123
    refine (HSB.o _ HVA.o.2 HXB.o).mono ?_
    rintro e w5 ⟨rfl,hb⟩
    have HXB:=Zh (HXB.o.lift hb)
    have HBW:=Zh (HBW.o.trans (hb.mono HBW.o.size))
    try have HVA:=Zh (HVA.o.lift hb)
    try have HRB:=Zh (HRB.o.trans (hb.mono HRB.o.size))
    clear hb
    clear p0 p1
    obtain ⟨⟨p0,p1,_,_,_⟩,_⟩:=HVA.o
    go_wp2_with fail
    (refine hK.out _ _ ?_ fun hHeld2=>?_;(focus ((try dsimp only);exact ⟨p0,p1⟩));(clear hK K);(try simp only [Act.put,Zz]))
    have HB5:=Zh (HBO.o.trans (HBW.o.mono hwz))
    by_cases hlF:F1<F2
    ·have HN:=Zh (HTK.o hlF)
     ((refine Zk 9 ?_;(try simp only [Act.put,Zz]));(refine Zk 10 ?_;(try simp only [Act.put,Zz])))
     refine wpAnyH_done (by kernel_rfl) ?_ _
     go_wp2_with fail
     go_roundw
     case rel=>exact ⟨j+1,by omega,by go_num,fun h=>by omega,fun _=>by rw [HN.o,HRJ.o] <;> rfl,HB5.o⟩
     case measure=>simp [intOf];omega
    ·have HN:=Zh (HST.o (by omega))
     ((refine Zk 9 ?_;(try simp only [Act.put,Zz]));(refine Zk 10 ?_;(try simp only [Act.put,Zz])))
     refine wpAnyH_done (by kernel_rfl) ?_ _
     go_wp2_with fail
     go_roundw
     case rel=>exact ⟨j+1,by omega,by go_num,fun h=>by omega,fun _=>by rw [HN.o,HRB.o] <;> rfl,HB5.o⟩
     case measure=>simp [intOf];omega
  ·have hje:j=rs.length:=by omega
   by_cases hl0:rs.length=0
   ·have hbe:=hb0 (by omega)
    subst hbe
    have hrs:rs=[]:=List.eq_nil_of_length_eq_zero hl0
    have HL:=Zh (show mtrL N=[] by rw [<- HKY.o,hrs];rfl)
    have HBO:=Zh hbel
    clear hb0 hbj hbel hl0 hrs
    subst hje
    go_wp2_with fail
    refine bodyPost_ret (v:=.tuple #[.slice none 0 0,.bool false]) (by simp [results,Tryz.results121,go_sem]) rfl ?_
    exact ⟨HBW.o.trans (HBO.o.mono HBW.o.size),.inl ⟨HL.o,rfl⟩⟩
   ·have hlp:0<rs.length:=by omega
    have hbe:=hbj (by omega)
    subst hbe hje
    have HNE:=Zh (show mtrL N≠[] from fun h=>hl0 (by rw [<- List.length_map (f:=SV.xs),HKY.o,h];rfl))
    have hIb:=HRI.o _ (zn9 (rowF N bs rs) (Nat.le_refl _) hlp)
    have hbv:=HBV.o
    obtain ⟨rb,hrb⟩ : ∃ r,rs.getD (bstI (rowF N bs rs) rs.length) ⟨[],none,0⟩=r:=⟨_,rfl⟩
    rw [hrb] at hIb hbv ⊢
    obtain ⟨Xb,Ab,cb⟩:=rb
    dsimp only at hIb hbv
    obtain ⟨bb,ob,hAb,_⟩:=hIb.2.1.2.2 hIb.2.2.1.1
    subst hAb
    have HV:=Zh hbv
    have HIB:=Zh hIb
    have HBO:=Zh hbel
    unfold SV.slc
    clear hbv hIb hbel hrb hb0 hbj hl0
    go_wp2_with fail
    refine bodyPost_ret (v:=.tuple #[.slice (some ⟨bb,ob,none⟩) Xb.length cb,.bool true]) (by simp [results,Tryz.results121,go_sem]) rfl ?_
    refine ⟨HBW.o.trans (HBO.o.mono HBW.o.size),.inr ⟨some ⟨bb,ob,none⟩,cb,HNE.o,?_⟩⟩
    rw [HV.o]
    exact ⟨rfl,HIB.o.2.1.lift HBO.o,HIB.o.1⟩
end Go.Proofs.YtjpnjchpdkogbaaGreatDoor
namespace Go.Proofs.YtjpnjchpdkogbaaGreatDoor
open Go.RowKit Go.Shelf
def zev (c:UInt8):UInt8:=if c=44 then 42 else c
theorem zoa {l:Txt}(h : ∀ c∈l,c≠44):l.map zev=l:=by
 conv=>rhs;rw [<- List.map_id l]
 exact List.map_congr_left fun c hc=>by unfold zev;rw [if_neg (h c hc)];rfl
theorem zyz (xs:List Int):(zaf (xs.map itoL) [44]).map zev=zaf (xs.map itoL) [42]:=by
 have htail : ∀ r:List Int,(Lib.joinTail [44] (r.map itoL)).map zev=Lib.joinTail [42] (r.map itoL):=by
  intro r
  induction r with
  | nil=>rfl
  | cons y r ih =>
   have e : ∀ sep:Txt,Lib.joinTail sep ((y::r).map itoL)=(sep++itoL y)++Lib.joinTail sep (r.map itoL):=fun sep=>by unfold Lib.joinTail;simp
   rw [e,e,List.map_append,List.map_append,ih,zoa (zft y)]
   rfl
 cases xs with
 | nil=>rfl
 | cons x r =>
  have e : ∀ sep:Txt,zaf ((x::r).map itoL) sep=itoL x++Lib.joinTail sep (r.map itoL):=fun sep=>by
   unfold zaf;rw [List.map_cons,Lib.join_cons]
  rw [e,e,List.map_append,htail,zoa (zft x)]
noncomputable def fmtM (xs:List Int):Txt:=zaf (xs.map itoL) [42]
theorem zob {xs:List Int}(h:zbn xs):(fmtM xs).length<=105:=by
 have hf : ∀ x∈xs,Fits x:=fun x hx=>by have:=h.2.2.1 x hx;unfold Fits;omega
 have:=zb4 [42] 20 (xs.map itoL) (zci hf)
 rw [List.length_map] at this
 have h5:xs.length*(20+1)<=5*21:=Nat.mul_le_mul h.2.1 (Nat.le_refl _)
 exact Nat.le_trans this h5
theorem zy0 (A:Option Addr)(cap:Nat)(xs:List Int)(w:World)(hA:Ints w w.heap.size A xs)(hm:zbn xs)(hP:Pow w)(hM:MaxL w) :
  Calls Tryz.prog 122 #[.slice A xs.length cap] w fun e w'=>e = .returned (.string (mkS (fmtM xs)))/\Below w.heap.size w w':=by
 have hx5:=hm.2.1
 have hf : ∀ x∈xs,Fits x:=fun x hx=>by have:=hm.2.2.1 x hx;unfold Fits;omega
 have HMO:=Zh (fun V h=>zmo A cap xs V h hm)
 have HNT:=Zh (fun V h hb=>zfq A cap xs V h (by omega) (hP.below hb))
 have HA:=Zh hA
 have HM:=Zh hM
 have HV:=Zh (show fmtM xs=(zaf (xs.map itoL) [44]).map zev from (zyz xs).symm)
 have hjl:=zb4 [44] 20 (xs.map itoL) (zci hf)
 rw [List.length_map] at hjl
 have HJL:=Zh (show (zaf (xs.map itoL) [44]).length<=24*21 by
  have:xs.length*(20+1)<=24*21:=Nat.mul_le_mul (by omega) (Nat.le_refl _)
  exact Nat.le_trans hjl this)
 generalize fmtM xs=v at HV ⊢
 generalize zaf (xs.map itoL) [44]=T at *
 clear hA hP hM hjl hf hm
 have HR:=Zh (fun (V:World) (hb:Below w.heap.size w V)=>by
  obtain ⟨m,hm⟩:=HM.o.below hb
  have hsz:(mkS T).size<=504:=by rw [za2];exact HJL.o
  have hcnt:=Lib.countB_le (⟨#[44]⟩:ByteArray) (by decide) (mkS T).size (mkS T) (Nat.le_refl _)
  have:=Any.strings_ReplaceAll Tryz.lays155 Tryz.bx155 (mkS T) ⟨#[44]⟩ ⟨#[42]⟩ m V (by omega) hm (by decide) (by have h1:(⟨#[42]⟩:ByteArray).size=1:=rfl;rw [h1];omega)
  rw [show (⟨#[44]⟩:ByteArray).data.toList=[44] from rfl,show (⟨#[42]⟩:ByteArray).data.toList=[42] from rfl,zh3,show (mkS T).data.toList=T from za9 _] at this
  exact this)
 go_enter Tryz.func122,Tryz.ntmps122
 go_wp2_with fail
 refine (HMO.o _ HA.o).mono ?_
 rintro e w1 ⟨rfl,hb1⟩
 have HB1:=Zh hb1
 clear hb1
 go_wp2_with fail
 refine (HNT.o _ (HA.o.lift HB1.o) HB1.o).mono ?_
 rintro e w2 ⟨rfl,hb2⟩
 have HB2:=Zh (HB1.o.trans (hb2.mono HB1.o.size))
 clear hb2
 go_wp2_with fail
 refine (HR.o _ HB2.o).mono ?_
 rintro e w3 ⟨rfl,hb3⟩
 have HB3:=Zh (HB2.o.trans (hb3.mono HB2.o.size))
 clear hb3
 go_wp2_with fail
 go_ret
 exact ⟨zbw (by rw [HV.o];rfl),HB3.o⟩
end Go.Proofs.YtjpnjchpdkogbaaGreatDoor
namespace Go.Proofs.YtjpnjchpdkogbaaGreatDoor
open Go.RowKit
noncomputable def metV (n:Int)(bs:List Int):Txt:=if rhB n bs=true then (if mtrL n.toNat=[] then [110,111,110,101] else fmtM (bstM n.toNat bs (mtrL n.toNat).length)++[32]++itoL (zbf n.toNat bs (bstM n.toNat bs (mtrL n.toNat).length))) else [110,111,110,101]
theorem zoc {N:Nat}{bs:List Int}(hok:RhOk N bs):metV N bs=if mtrL N=[] then [110,111,110,101] else fmtM (bstM N bs (mtrL N).length)++[32]++itoL (zbf N bs (bstM N bs (mtrL N).length)):=by
 unfold metV
 rw [if_pos (zao.2 hok),Int.toNat_natCast]
theorem zy1 (N:Nat)(A:Option Addr)(cap:Nat)(bs:List Int)(w:World)(hA:Ints w w.heap.size A bs)(hok:RhOk N bs)(hP:Pow w)(hM:MaxL w) :
  Calls Tryz.prog 60 #[.agg #[.int .i64 N,.slice A bs.length cap]] w fun e w'=>e = .returned (.string (mkS (metV N bs)))/\Below w.heap.size w w':=by
 have hn1:1<=N:=by have:=hok.1;omega
 have hn2:N<=24:=by have:=hok.2.1;omega
 have hbl:bs.length<=N:=by have:=hok.len;omega
 have HBM:=Zh (fun V h=>zyy N A cap bs V h hok)
 have HBW:=Zh ((Below.refl w.heap.size w).alloc (Nat.le_refl _) (.cells #[.int .i64 N,.slice A (bs).length cap] 27))
 have HVA:=Zh (Hav.boxed hA N cap)
 have HMK:=Zh (fun (h:mtrL N≠[])=>zi2 hn2 (zn7 (N:=N) (bs:=bs) (j:=(mtrL N).length) (by have:=List.length_pos_iff.2 h;omega) (Nat.le_refl _)))
 have HV:=Zh (show metV N bs=if mtrL N=[] then [110,111,110,101] else fmtM (bstM N bs (mtrL N).length)++[32]++itoL (zbf N bs (bstM N bs (mtrL N).length)) from zoc hok)
 have HFM:=Zh (fun A c xs V h (hb:Below w.heap.size w V) (hm:zbn xs)=>zy0 A c xs V h hm (hP.below hb) (hM.below hb))
 have HSY:=Zh (fun A2 c2 xs V h1 h2 (hm:zbn xs) hp hc=>zn6 N A A2 cap c2 bs xs V h1 h2 hok hm hp hc)
 have HFI:=Zh (fun x (hx:Fits x) V (hb:Below w.heap.size w V)=>zbq x hx V (hP.below hb))
 generalize metV N bs=R at *
 clear hA hok
 obtain ⟨⟨p0,p1,_,_,_⟩,_⟩:=HVA.o
 go_enter Tryz.func60,Tryz.ntmps60
 go_wp2_with fail
 generalize w.alloc (.cells #[.int .i64 N,.slice A (bs).length cap] 27)=W at *
 refine (HBM.o _ HVA.o.2).mono ?_
 rintro e w1 ⟨hb,⟨hml,rfl⟩ | ⟨A1,c1,hml,rfl,hI1,hc1⟩⟩
 ·rw [if_pos hml] at HV
  have HBW:=Zh (HBW.o.trans (hb.mono HBW.o.size))
  clear hb
  go_wp2_with fail
  go_ret
  exact ⟨by rw [HV.o];rfl,HBW.o⟩
 ·rw [if_neg hml] at HV
  obtain ⟨hmo,hpr⟩:=HMK.o hml
  generalize bstM N bs (mtrL N).length=xs at *
  have HVX:=Zh hI1
  have HB1:=HBW
  clear HBW
  have HBW:=Zh (HB1.out.trans (hb.mono HB1.out.size))
  have HVA:=Zh (HVA.o.lift hb)
  have hsr:=zmj hmo N bs
  have HFF:=Zh (HFM.o A1 c1 xs)
  have HSS:=Zh (fun V h1 h2=>HSY.o A1 c1 xs V h1 h2 hmo hpr hc1)
  have hfl:=zob hmo
  have hfs:Fits (zbf N bs xs):=by unfold Fits;omega
  have HFX:=Zh (HFI.o _ hfs)
  have hil:=zbe _ hfs
  have HMO:=Zh hmo
  clear hb hI1 p0 p1 hmo hpr
  generalize zbf N bs xs=sc at *
  generalize itoL sc=IT at *
  generalize fmtM xs=FT at *
  have z1:(mkS FT).size<=105:=by rw [za2];exact hfl
  have z2:(mkS IT).size<=20:=by rw [za2];exact hil
  have y1:(mkS FT++⟨#[32]⟩).size<=106:=by rw [ByteArray.size_append];show _+1<=106;omega
  have HRES:=Zh (show mkS FT++⟨#[32]⟩++mkS IT=mkS R by
   rw [HV.o]
   exact Str.eq (((za9 FT).app (za9 [32])).app (za9 IT)))
  obtain ⟨⟨p0,p1,_,_,_⟩,_⟩:=HVA.o
  go_wp2_with fail
  have HBW:=Zh (Below.drewH_ HBW.o)
  try have HRB:=Zh (Below.drewH_ HRB.o)
  try have HWW:=Zh (Below.drewH_ HWW.o)
  try have HVA:=Zh HVA.o.drew
  try have HVB:=Zh HVB.o.drew
  try have HVC:=Zh HVC.o.drew
  try have HVT:=Zh HVT.o.drew
  try have HVX:=Zh HVX.o.drew
  try have HVM:=Zh HVM.o.drew
  try have HVF:=Zh HVF.o.drew
  try have HVP:=Zh HVP.o.drew
  try have HVQ:=Zh HVQ.o.drew
  try have HLA:=Zh HLA.o.drewR_
  try have HLW:=Zh HLW.o.drewR_
  have HVX:=Zh (show Ints w1.drew w1.drew.heap.size A1 xs from HVX.o)
  (refine wp_region_held_drew (S:=(fun w'=>w'.cell? ⟨w.heap.size,0,none⟩=some (.int .i64 N)/\w'.cell? ⟨w.heap.size,1,none⟩=some (.slice A bs.length cap))) (by kernel_rfl) ?_ (fun hHeld=>?_);(focus ((try dsimp only);exact ⟨p0,p1⟩)))
  ((refine Zk 0 ?_;(try simp only [Act.put,Zz]));(refine Zk 3 ?_;(try simp only [Act.put,Zz]));(refine Zk 4 ?_;(try simp only [Act.put,Zz])))
  (refine wpAnyH_ready (rs:=[1]) (by kernel_rfl) (by simp) ?_;refine AllReadyH.cons rfl (fun K hK=>?_) AllReadyH.nil;go_simp)
  go_at_call 122
  refine (HFF.o _ HVX.o HBW.o HMO.o).mono ?_
  rintro e w2 ⟨rfl,hb⟩
  have HBW:=Zh (HBW.o.trans (hb.mono HBW.o.size))
  try have HVA:=Zh (HVA.o.lift hb)
  try have HVX:=Zh (HVX.o.lift hb)
  clear hb
  clear p0 p1
  obtain ⟨⟨p0,p1,_,_,_⟩,_⟩:=HVA.o
  go_wp2_with fail
  (refine hK.out _ _ ?_ fun hHeld2=>?_;(focus ((try dsimp only);exact ⟨p0,p1⟩));(clear hK K);(try simp only [Act.put,Zz]))
  (refine wpAnyH_take (i:=2) (v:=?_) rfl (by kernel_rfl) (by kernel_rfl) (by kernel_rfl) (fun _ _ _ h=>h) (Or.inl ⟨by rfl,?_⟩) (by assumption) ?_;rotate_left;(focus (intro wS hSw;(try dsimp only at hSw);go_simp;(try rw [if_neg (by omega)]);(try with_reducible rfl)));(try simp only [Act.put,Zz]))
  (refine wpAnyH_ready (rs:=[5]) (by kernel_rfl) (by simp) ?_;refine AllReadyH.cons rfl (fun K hK=>?_) AllReadyH.nil;go_simp)
  go_at_call 123
  refine (HSS.o _ HVA.o.2 HVX.o).mono ?_
  rintro e w3 ⟨rfl,hb⟩
  have HBW:=Zh (HBW.o.trans (hb.mono HBW.o.size))
  try have HVA:=Zh (HVA.o.lift hb)
  try have HVX:=Zh (HVX.o.lift hb)
  clear hb
  clear p0 p1
  obtain ⟨⟨p0,p1,_,_,_⟩,_⟩:=HVA.o
  go_wp2_with fail
  (refine hK.out _ _ ?_ fun hHeld2=>?_;(focus ((try dsimp only);exact ⟨p0,p1⟩));(clear hK K);(try simp only [Act.put,Zz]))
  (refine wpAnyH_ready (rs:=[6]) (by kernel_rfl) (by simp) ?_;refine AllReadyH.cons rfl (fun K hK=>?_) AllReadyH.nil;go_simp)
  go_at_call 64
  refine (HFX.o _ HBW.o).mono ?_
  rintro e w4 ⟨rfl,hb⟩
  have HBW:=Zh (HBW.o.trans (hb.mono HBW.o.size))
  try have HVA:=Zh (HVA.o.lift hb)
  try have HVX:=Zh (HVX.o.lift hb)
  clear hb
  clear p0 p1
  obtain ⟨⟨p0,p1,_,_,_⟩,_⟩:=HVA.o
  go_wp2_with fail
  (refine hK.out _ _ ?_ fun hHeld2=>?_;(focus ((try dsimp only);exact ⟨p0,p1⟩));(clear hK K);(try simp only [Act.put,Zz]))
  (refine wpAnyH_take (i:=7) (v:=?_) rfl (by kernel_rfl) (by kernel_rfl) (by kernel_rfl) (fun _ _ _ h=>h) (Or.inl ⟨by rfl,?_⟩) (by assumption) ?_;rotate_left;(focus (intro wS hSw;(try dsimp only at hSw);go_simp;(try rw [if_neg (by omega)]);(try with_reducible rfl)));(try simp only [Act.put,Zz]))
  (refine Zk 8 ?_;(try simp only [Act.put,Zz]))
  refine wpAnyH_done (by kernel_rfl) ?_ _
  clear p0 p1
  go_wp2_with fail
  go_ret
  exact ⟨zbw HRES.o,HBW.o⟩
end Go.Proofs.YtjpnjchpdkogbaaGreatDoor
namespace Go.Proofs.YtjpnjchpdkogbaaGreatDoor
open Go.RowKit
end Go.Proofs.YtjpnjchpdkogbaaGreatDoor
