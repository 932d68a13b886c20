/- Parts of the proof of the card of the law FnConsole. -/
import Derived.Test.YtjpnjchpdkogbaaGreatDoorG22
import Derived.Test.YtjpnjchpdkogbaaGreatDoorG17
import Derived.Test.YtjpnjchpdkogbaaGreatDoorG03
import Derived.Test.YtjpnjchpdkogbaaGreatDoorChecked
import Derived.Shelf.Spec.TrailingZeros
set_option linter.unusedVariables false
set_option linter.unusedSimpArgs false
set_option maxRecDepth 100000
set_option maxHeartbeats 1000000
namespace Go.Proofs.YtjpnjchpdkogbaaGreatDoor
open Go.RowKit Go.Shelf
theorem OwnI.capC {w:World}{base:Nat}{A:Option Addr}{cap:Nat}{xs:List Int}(h:OwnI w base (.slice A xs.length cap) xs):xs.length<=cap:=by
  rcases h.2 with ⟨hv,h0⟩ | ⟨g,cap',cur,hv,hge,hh,hnc,hm,hsz,hxs⟩
  · omega
  · injection hv with h1 h2 h3;omega
theorem OwnI.monoC {w:World}{base base':Nat}{v:Value}{xs:List Int}(h:OwnI w base v xs)(hb:base'<=base):OwnI w base' v xs :=
  ⟨h.1,by
    rcases h.2 with h0 | ⟨g,cap,cur,e,hg,rest⟩
    · exact .inl h0
    · exact .inr ⟨g,cap,cur,e,by omega,rest⟩⟩
theorem zjk {w:World}{B g off:Nat}{xs:List Int}(h:Ints w B (some ⟨g,off,none⟩) xs) : ∀ j,j<xs.length->w.cell? ⟨g,off+j,none⟩=some (.int .i64 (xs.getD j 0)):=by
  intro j hj
  obtain ⟨b,o,e,_,hc⟩:=h.2.2 (by omega)
  injection e with e
  injection e with e1 e2
  subst e1 e2
  exact hc j hj
theorem zpf (A:Option Addr)(cap:Nat)(xs:List Int)(w:World)(h:Ints w w.heap.size A xs)(hl:xs.length<=1048576) :
    Calls Tryz.prog 12 #[.slice A xs.length cap] w fun e w'=>∃ v,e = .returned v/\OwnI w' w.heap.size v xs/\Below w.heap.size w w':=by
  by_cases hp:0<xs.length
  · obtain ⟨b,off,rfl,_,_⟩:=h.2.2 hp
    refine (Any.slices_Clone_int Tryz.lays15 b off xs.length cap xs w (Nat.le_refl _) (by omega) (zjk h)).mono ?_
    rintro e w' ⟨v,rfl,ho,_,hb⟩
    rw [List.take_length] at ho
    exact ⟨v,rfl,ho,hb⟩
  · have h0:xs=[]:=List.eq_nil_of_length_eq_zero (by omega)
    subst h0
    cases A with
    | none =>
      refine (Any.slices_Clone_int_nil Tryz.lays15 0 cap w).mono ?_
      rintro e w' ⟨rfl,rfl⟩
      exact ⟨_,rfl,OwnI.nil _ _,Below.refl _ _⟩
    | some a =>
      refine (Any.slices_Clone_int_zero Tryz.lays15 a cap w).mono ?_
      rintro e w' ⟨v,rfl,ho,_,hb⟩
      exact ⟨v,rfl,ho,hb⟩
theorem zpg (A1 A2:Option Addr)(c1 c2:Nat)(xs ys:List Int)(w:World)(B1 B2:Nat)(h1:Ints w B1 A1 xs)(h2:Ints w B2 A2 ys) :
    Calls Tryz.prog 200 #[.slice A1 xs.length c1,.slice A2 ys.length c2] w fun e w'=>e = .returned (.bool (decide (xs=ys))) /\ ∃ q,w'=w.drewN q:=by
  have hl1:=h1.1
  have hl2:=h2.1
  unfold maxLen at hl1 hl2
  by_cases hx:xs.length=ys.length
  · by_cases hp:0<xs.length
    · obtain ⟨b1,o1,rfl,_,_⟩:=h1.2.2 hp
      obtain ⟨b2,o2,rfl,_,_⟩:=h2.2.2 (by omega)
      refine (Any.slices_Equal_int Tryz.lays111 b1 o1 xs.length c1 b2 o2 ys.length c2 xs ys w (Nat.le_refl _) (Nat.le_refl _) (by omega) (by omega) (zjk h1) (zjk h2)).mono ?_
      rintro e w' ⟨rfl,q,rfl⟩
      rw [List.take_length,List.take_length]
      refine ⟨zaq ?_,q,rfl⟩
      rw [Bool.eq_iff_iff,beq_iff_eq,decide_eq_true_eq]
    · have e1:xs=[]:=List.eq_nil_of_length_eq_zero (by omega)
      have e2:ys=[]:=List.eq_nil_of_length_eq_zero (by omega)
      subst e1 e2
      refine (Any.slices_Equal_int_empty Tryz.lays111 A1 A2 c1 0 c2 w (by omega)).mono ?_
      rintro e w' ⟨rfl,rfl⟩
      exact ⟨rfl,0,rfl⟩
  · refine (Any.slices_Equal_int_lens Tryz.lays111 A1 A2 xs.length c1 ys.length c2 w hx).mono ?_
    rintro e w' ⟨rfl,rfl⟩
    refine ⟨zaq ?_,0,rfl⟩
    rw [eq_comm,decide_eq_false_iff_not]
    intro h
    exact hx (by rw [h])
theorem z0x (L:List Int){q:Nat}(h:q<L.length):L.take (q+1)=L.take q++[L.getD q 0]:=by
  rw [List.take_succ_eq_append_getElem h,List.getD_eq_getElem?_getD,List.getElem?_eq_getElem h]
  rfl
def takL (L:List Int)(q:Nat):List Int:=L.take q
theorem zph (L:List Int){q:Nat}(h:q<L.length):takL L (q+1)=takL L q++[L.getD q 0]:=z0x L h
theorem zpi (L:List Int){q:Nat}(h:L.length<=q):takL L q=L:=List.take_of_length_le h
theorem zpj (L:List Int)(q:Nat):(takL L q).length<=q:=by unfold takL;rw [List.length_take];omega
def RetO (w:World)(xs:List Int)(e:Ending)(w':World):Prop:=∃ v,e = .returned v/\OwnI w' w.heap.size v xs/\Below w.heap.size w w'
theorem zpk (A:Option Addr)(cap:Nat)(xs:List Int)(w:World)(hA:Ints w w.heap.size A xs)(hp:patB xs=true) :
    Calls Tryz.prog 201 #[.slice A xs.length cap] w (RetO w (mirL xs)):=by
  obtain ⟨h0,hall⟩:=za6 hp
  have hl:=zgh hp
  obtain ⟨b,off,rfl,hB,hc⟩:=hA.2.2 h0
  have HP:=Zh hall
  have HC:=Zh hc
  obtain ⟨m,hm⟩ : ∃ m,xs.length-1=m:=⟨_,rfl⟩
  obtain ⟨z,hz⟩ : ∃ z,xs.getD m 0=z:=⟨_,rfl⟩
  have hzi:=zbi (hall m (by omega))
  have HZ:=Zh hz
  rw [hz] at hzi
  have hw0:IntKind.i64.wrap ((xs.length:Int)-1)=(m:Int):=by rw [show (xs.length:Int)-1=(m:Int) by omega];exact i64w (by omega)
  have hl1:(0:Int)<=(m:Int):=Int.natCast_nonneg _
  have hl2:(m:Int)<(xs.length:Int):=by omega
  have HM:=Zh hm
  clear hA hc hz hall hm
  go_enter Tryz.func201,Tryz.ntmps201
  go_wp2_with fail
  go_loopw [3,4] (fun v i wr=>∃ (q:Nat) (k:Int),q<=xs.length/\k+q=m/\i = .int .i64 k/\OwnI wr w.heap.size v (mirP xs q)/\Below w.heap.size w wr) (fun _ i _=>(intOf i+1).toNat)
  case atStart=>exact ⟨0,m,Nat.zero_le _,by simp,rfl,OwnI.nil _ _,Below.refl _ _⟩
  case round =>
    obtain ⟨q,k,hq,hkq,rfl,hown,hbel⟩:=hrel
    obtain ⟨wo,rfl⟩ : ∃ wo:World,wo=wr:=⟨_,rfl⟩
    obtain ⟨A1,c1,rfl⟩:=hown.form
    have hws:=hbel.size
    by_cases hlt:q<xs.length
    · obtain ⟨k,rfl⟩:=Int.eq_ofNat_of_zero_le (show 0<=k by have:=HM.o;omega)
      have hcz:=HC.o m (by omega)
      have hcx:=HC.o k (by have:=HM.o;omega)
      have hxi:=zbi (HP.o k (by have:=HM.o;omega))
      have HS:=Zh (z0j xs q)
      rw [HZ.o] at hcz
      rw [show xs.length-1-q=k by have:=HM.o;omega,HM.o,HZ.o] at HS
      obtain ⟨x,hx⟩ : ∃ x,xs.getD k 0=x:=⟨_,rfl⟩
      rw [hx] at hcx hxi HS
      have hcz':wo.cell? ⟨b,off+m,none⟩=some (.int .i64 z):=(hbel.cell (p:=⟨b,off+m,none⟩) hB).trans hcz
      have hcx':wo.cell? ⟨b,off+k,none⟩=some (.int .i64 x):=(hbel.cell (p:=⟨b,off+k,none⟩) hB).trans hcx
      have hk0:(0:Int)<=(k:Int):=Int.natCast_nonneg _
      have hk1:(k:Int)<(xs.length:Int):=by have:=HM.o;omega
      have hwd:IntKind.i64.wrap (z-x)=z-x:=i64w (by omega)
      have hwk:IntKind.i64.wrap ((k:Int)-1)=(k:Int)-1:=i64w (by have:=HM.o;omega)
      have HKQ:=Zh hkq
      have hdk:decide (0<=(k:Int))=true:=decide_eq_true hk0
      have hml:(mirP xs q).length<=1048576:=by rw [zoy];omega
      have HO:=Zh hown
      have HB:=Zh hbel
      clear hx hcz hcx hown hbel hws hkq
      go_wp2_with fail
      go_region_held3 (fun w'=>w'.cell? ⟨b,off+m,none⟩=some (.int .i64 z)/\w'.cell? ⟨b,off+k,none⟩=some (.int .i64 x))
        (first
          | go_keep
          | (obtain ⟨hcc,_⟩:=zb3 hg1
             refine ⟨?_,?_⟩ <;> (rw [hcc _ _ hB];simp [go_sem, *])))
        ((refine zc0 (by rfl) _ _ (by rfl) w.heap.size _ (mirP xs q) (by rfl) ((HO.o.alloc _).drew) _ _ (by rfl) (zag _ _ _) hml (by have:=HB.o.size;simp;omega) ?_;intro v' w1 hown1 hg1))
      obtain ⟨A2,c2,rfl⟩:=hown1.form
      go_wp2_with fail
      go_roundw
      case rel=>exact ⟨q+1,(k:Int)-1,hlt,by have:=HKQ.o;omega,rfl,by rw [HS.o];exact hown1,((HB.o.alloc HB.o.size _).drew).trans hg1⟩
      case measure=>simp [intOf] <;> omega
    · have hqe:q=xs.length:=by omega
      have hdk:decide (0<=k)=false:=decide_eq_false (by have:=HM.o;omega)
      have hdn : ¬ (0<=k):=by have:=HM.o;omega
      have HO:=Zh (show OwnI wo w.heap.size (.slice A1 (mirP xs q).length c1) (mirL xs) from by unfold mirL;rw [<- hqe];exact hown)
      have HB:=Zh hbel
      clear hown hbel hqe
      go_wp2_with fail
      go_ret
      exact ⟨_,rfl,HO.o,HB.o⟩
theorem zpl (A:Option Addr)(cap:Nat)(xs:List Int)(c:Nat)(w:World)(hA:Ints w w.heap.size A xs)(hp:patB xs=true)(hc:c<50) :
    Calls Tryz.prog 199 #[.slice A xs.length cap,.int .i64 c] w (RetO w (zaz xs c)):=by
  have hl:=zgh hp
  have h0:=(za6 hp).1
  have HMI:=Zh (zpk A cap xs w hA hp)
  have HIN:=Zh (fun j hj=>zeb hp c (j:=j) hj)
  have HLA:=Zh (zgk xs c)
  have hh:c / 2<25:=by omega
  have hq2:(c:Int).tdiv 2=((c / 2:Nat):Int):=by rw [Int.tdiv_eq_ediv_of_nonneg (by omega)];omega
  have hr2:(c:Int).tmod 2=((c % 2:Nat):Int):=by rw [Int.tmod_eq_emod_of_nonneg (by omega)];omega
  have hrb:c % 2<2:=Nat.mod_lt _ (by decide)
  have hw1:IntKind.i64.wrap ((c / 2:Nat):Int)=((c / 2:Nat):Int):=i64w (by omega)
  have hw2:IntKind.i64.wrap ((c % 2:Nat):Int)=((c % 2:Nat):Int):=i64w (by omega)
  have HAT:=Zh (fun j hj=>zc8 xs c (j:=j) hj)
  obtain ⟨L,hL⟩ : ∃ L,zaz xs c=L:=⟨_,rfl⟩
  obtain ⟨p,hpp⟩ : ∃ p,c / 2=p:=⟨_,rfl⟩
  rw [hL] at HIN HLA HAT ⊢
  rw [hpp] at HIN HAT hq2 hw1 hh
  clear hL hpp
  by_cases ho:c % 2=1
  · have hs:shp xs c=mirL xs:=by unfold shp;rw [if_pos ho]
    rw [hs] at HAT
    have hf:=zgi hp
    rw [ho] at hr2 hw2
    have hfi : ∀ x∈mirL xs,Fits x:=fun x hx=>by
      obtain ⟨j,hj,e⟩:=List.mem_iff_getElem.1 hx
      have:=zbi ((za6 hf).2 j hj)
      rw [List.getD_eq_getElem?_getD,List.getElem?_eq_getElem hj,Option.getD_some,e] at this
      unfold Fits;omega
    have HML:=Zh (zez xs)
    have HFI:=Zh hfi
    clear hs hf ho hrb hA hfi
    go_enter Tryz.func199,Tryz.ntmps199
    go_wp2_with fail
    refine HMI.o.mono ?_
    rintro e w1 ⟨v,rfl,hown,hb⟩
    obtain ⟨A1,c1,rfl⟩:=hown.form
    have hI:=hown.ints HFI.o
    have hz:=hb.size
    generalize mirL xs=sh at *
    rw [HML.o]
    have HB0:=Zh hb
    have HI:=Zh hI
    clear hown hb hI
    go_wp2_with fail
    go_loopw [5,15] (fun v i wr=>∃ q:Nat,q<=xs.length/\i = .int .i64 q/\OwnI wr w1.heap.size v (takL L q)/\Below w1.heap.size w1 wr) (fun _ i _=>xs.length-(intOf i).toNat)
    case atStart=>exact ⟨0,Nat.zero_le _,rfl,OwnI.nil _ _,Below.refl _ _⟩
    case round =>
      obtain ⟨q,hq,rfl,hown,hbel⟩:=hrel
      obtain ⟨wo,rfl⟩ : ∃ wo:World,wo=wr:=⟨_,rfl⟩
      obtain ⟨A2,c2,rfl⟩:=hown.form
      have hws:=hbel.size
      by_cases hlt:q<xs.length
      · have hIx:=HI.o.below hbel
        obtain ⟨b,off,rfl,hB,hce⟩:=hIx.2.2 (by have:=HML.o;omega)
        have hcx:=hce q (by have:=HML.o;omega)
        have hin:=HIN.o q hlt
        have hat:=HAT.o q hlt
        obtain ⟨x,hx⟩ : ∃ x,sh.getD q 0=x:=⟨_,rfl⟩
        rw [hx] at hcx hat
        have HS:=Zh (zph L (q:=q) (by rw [HLA.o];exact hlt))
        rw [hat] at HS hin
        have hk0:(0:Int)<=(q:Int):=Int.natCast_nonneg _
        have hk1:(q:Int)<(xs.length:Int):=by omega
        have hwd:IntKind.i64.wrap ((p:Int)+x)=(p:Int)+x:=i64w (by omega)
        have hwq:IntKind.i64.wrap ((q:Int)+1)=(q:Int)+1:=i64w (by omega)
        have hml:(takL L q).length<=1048576:=by have:=zpj L q;omega
        have HO:=Zh hown
        have HB:=Zh hbel
        clear hx hin hat hce hIx hown hbel
        go_wp2_with (at_builtin;refine za4 rfl _ _ rfl w1.heap.size _ (takL L q) rfl (HO.o.alloc _) _ _ rfl (zag _ _ _) hml (by simp;omega) ?_;intro v' w2 hown2 hg2;obtain ⟨A3,c3,rfl⟩:=hown2.form)
        go_roundw
        case rel=>exact ⟨q+1,hlt,by go_num,by rw [HS.o];rw [List.length_append] at hown2;exact hown2,(HB.o.alloc HB.o.size _).trans hg2⟩
        case measure=>simp [intOf];omega
      · have hqe:q=xs.length:=by omega
        have HO:=Zh (show OwnI wo w1.heap.size (.slice A2 (takL L q).length c2) L from by
          have e:takL L q=L:=zpi L (by rw [HLA.o];omega)
          rw [e] at hown ⊢;exact hown)
        have HB:=Zh hbel
        clear hown hbel hqe
        go_wp2_with fail
        go_ret
        exact ⟨_,rfl,HO.o.monoC hz,HB0.o.trans (HB.o.mono hz)⟩
  · have ho0:c % 2=0:=by omega
    have hs:shp xs c=xs:=by unfold shp;rw [if_neg ho]
    rw [hs] at HAT
    rw [ho0] at hr2 hw2
    have HB0:=Zh (Below.refl w.heap.size w)
    have HI:=Zh hA
    have HML:=Zh (rfl:xs.length=xs.length)
    have hz:=Nat.le_refl w.heap.size
    clear hs ho ho0 hrb hA
    go_enter Tryz.func199,Tryz.ntmps199
    go_wp2_with fail
    go_loopw [5,15] (fun v i wr=>∃ q:Nat,q<=xs.length/\i = .int .i64 q/\OwnI wr w.heap.size v (takL L q)/\Below w.heap.size w wr) (fun _ i _=>xs.length-(intOf i).toNat)
    case atStart=>exact ⟨0,Nat.zero_le _,rfl,OwnI.nil _ _,Below.refl _ _⟩
    case round =>
      obtain ⟨q,hq,rfl,hown,hbel⟩:=hrel
      obtain ⟨wo,rfl⟩ : ∃ wo:World,wo=wr:=⟨_,rfl⟩
      obtain ⟨A2,c2,rfl⟩:=hown.form
      have hws:=hbel.size
      by_cases hlt:q<xs.length
      · have hIx:=HI.o.below hbel
        obtain ⟨b,off,rfl,hB,hce⟩:=hIx.2.2 (by have:=HML.o;omega)
        have hcx:=hce q (by have:=HML.o;omega)
        have hin:=HIN.o q hlt
        have hat:=HAT.o q hlt
        obtain ⟨x,hx⟩ : ∃ x,xs.getD q 0=x:=⟨_,rfl⟩
        rw [hx] at hcx hat
        have HS:=Zh (zph L (q:=q) (by rw [HLA.o];exact hlt))
        rw [hat] at HS hin
        have hk0:(0:Int)<=(q:Int):=Int.natCast_nonneg _
        have hk1:(q:Int)<(xs.length:Int):=by omega
        have hwd:IntKind.i64.wrap ((p:Int)+x)=(p:Int)+x:=i64w (by omega)
        have hwq:IntKind.i64.wrap ((q:Int)+1)=(q:Int)+1:=i64w (by omega)
        have hml:(takL L q).length<=1048576:=by have:=zpj L q;omega
        have HO:=Zh hown
        have HB:=Zh hbel
        clear hx hin hat hce hIx hown hbel
        go_wp2_with (at_builtin;refine za4 rfl _ _ rfl w.heap.size _ (takL L q) rfl (HO.o.alloc _) _ _ rfl (zag _ _ _) hml (by simp;omega) ?_;intro v' w2 hown2 hg2;obtain ⟨A3,c3,rfl⟩:=hown2.form)
        go_roundw
        case rel=>exact ⟨q+1,hlt,by go_num,by rw [HS.o];rw [List.length_append] at hown2;exact hown2,(HB.o.alloc HB.o.size _).trans hg2⟩
        case measure=>simp [intOf];omega
      · have hqe:q=xs.length:=by omega
        have HO:=Zh (show OwnI wo w.heap.size (.slice A2 (takL L q).length c2) L from by
          have e:takL L q=L:=zpi L (by rw [HLA.o];omega)
          rw [e] at hown ⊢;exact hown)
        have HB:=Zh hbel
        clear hown hbel hqe
        go_wp2_with fail
        go_ret
        exact ⟨_,rfl,HO.o.monoC hz,HB0.o.trans (HB.o.mono hz)⟩
end Go.Proofs.YtjpnjchpdkogbaaGreatDoor
namespace Go.Proofs.YtjpnjchpdkogbaaGreatDoor
open Go.Shelf
def Tryz.lays27_ren:Go.Shelf.Ren:=⟨fun | 27=>203 | 28=>246 | 29=>247 | n=>n,fun | 25=>122 | 3=>3 | 27=>177 | 22=>180 | 4=>4 | 53=>225 | 0=>0 | 5=>5 | 54=>226 | n=>n,fun | 0=>3 | 1=>4 | n=>n⟩
theorem Tryz.lays27:Go.Proofs.Lays7.n27 Tryz.prog Tryz.lays27_ren:={
 mixed:=by kernel_rfl
 f27:=Tryz.func203.trans (congrArg some (by kernel_rfl))
 f28:=Tryz.func246.trans (congrArg some (by kernel_rfl))
 f29:=Tryz.func247.trans (congrArg some (by kernel_rfl))
 t0:=Tryz.underlying0
 a0:=Tryz.isAgg0
 z0:=Tryz.sizeOf0
 v0:=Tryz.zeroValue0
 i0:=by kernel_rfl
 t3:=Tryz.underlying3
 a3:=Tryz.isAgg3
 z3:=Tryz.sizeOf3
 v3:=Tryz.zeroValue3
 i3:=by kernel_rfl
 t4:=Tryz.underlying4
 a4:=Tryz.isAgg4
 z4:=Tryz.sizeOf4
 v4:=Tryz.zeroValue4
 i4:=by kernel_rfl
 t5:=Tryz.underlying5
 a5:=Tryz.isAgg5
 z5:=Tryz.sizeOf5
 v5:=Tryz.zeroValue5
 i5:=by kernel_rfl
 t22:=Tryz.underlying180
 a22:=Tryz.isAgg180
 z22:=Tryz.sizeOf180
 v22:=Tryz.zeroValue180
 i22:=by kernel_rfl
 t25:=Tryz.underlying122
 a25:=Tryz.isAgg122
 z25:=Tryz.sizeOf122
 v25:=Tryz.zeroValue122
 i25:=by kernel_rfl
 t27:=Tryz.underlying177
 a27:=Tryz.isAgg177
 z27:=Tryz.sizeOf177
 v27:=Tryz.zeroValue177
 i27:=by kernel_rfl
 t53:=Tryz.underlying225
 a53:=Tryz.isAgg225
 z53:=Tryz.sizeOf225
 v53:=Tryz.zeroValue225
 i53:=by kernel_rfl
 t54:=Tryz.underlying226
 a54:=Tryz.isAgg226
 z54:=Tryz.sizeOf226
 g0:=by kernel_rfl
 g1:=by kernel_rfl }
end Go.Proofs.YtjpnjchpdkogbaaGreatDoor
namespace Go.Proofs.YtjpnjchpdkogbaaGreatDoor
open Go.RowKit Go.Shelf
def DeB (w:World):Prop:=4<w.heap.size/\TabAt 4 Lib.deBruijn64tab w
theorem DeB.frm {S:Nat->Prop}{w w':World}(h:DeB w)(hf:Frm S w w')(hS : ¬ S 4):DeB w' :=
 ⟨Nat.lt_of_lt_of_le h.1 hf.size,fun j hj=>(hf.cell h.1 hS).trans (h.2 j hj)⟩
theorem DeB.below {w w':World}(h:DeB w)(hb:Below w.heap.size w w'):DeB w':=h.frm (Frm.pure hb (fun _=>False)) (fun h=>h)
theorem z0y (x:Nat)(hx:x<18446744073709551616)(w:World)(hD:DeB w) :
  Calls Tryz.prog 203 #[.int .u64 x] w fun e w'=>e = .returned (.int .i64 (Lib.ctz 64 x))/\w'=w:=Any7.bits_TrailingZeros Tryz.lays27 x hx w (fun _=>hD.2)
structure CovE (w:World) (base qn qo qk qp qx:Nat) (A:Option Addr) (cap:Nat) (xs:List Int) (n kinds:Nat):Prop where
 bn:qn<base
 bo:qo<base
 bk:qk<base
 bp:qp<base
 bx:qx<base
 nn:qn≠qo
 nk:qk≠qo
 np:qp≠qo
 nx:qx≠qo
 cn:w.cell? ⟨qn,0,none⟩=some (.int .i64 n)
 ck:w.cell? ⟨qk,0,none⟩=some (.int .i64 kinds)
 cp:w.cell? ⟨qp,0,none⟩=some (.slice A xs.length cap)
 cx:w.cell? ⟨qx,0,none⟩=some (.func (.func 202) #[] #[.pointer (some ⟨qn,0,none⟩),.pointer (some ⟨qo,0,none⟩),.pointer (some ⟨qk,0,none⟩),.pointer (some ⟨qp,0,none⟩),.pointer (some ⟨qx,0,none⟩)])
 ints:Ints w qo A xs
 deb:DeB w
 gb:4<qo
 size:base<=w.heap.size
theorem CovE.frm {S:Nat->Prop}{w w':World}{base qn qo qk qp qx cap n kinds:Nat}{A:Option Addr}{xs:List Int}(h:CovE w base qn qo qk qp qx A cap xs n kinds)(hf:Frm S w w')(hS : ∀ c,S c->c=qo\/base<=c):CovE w' base qn qo qk qp qx A cap xs n kinds:=by
 have hq : ∀ q,q<base->q≠qo->w'.cell? ⟨q,0,none⟩=w.cell? ⟨q,0,none⟩:=fun q h1 h2=>hf.cell (Nat.lt_of_lt_of_le h1 h.size) (fun hs=>by rcases hS q hs with h3 | h3;exact h2 h3;omega)
 refine ⟨h.bn,h.bo,h.bk,h.bp,h.bx,h.nn,h.nk,h.np,h.nx,(hq qn h.bn h.nn).trans h.cn,(hq qk h.bk h.nk).trans h.ck,(hq qp h.bp h.np).trans h.cp,(hq qx h.bx h.nx).trans h.cx,⟨h.ints.1,h.ints.2.1,fun hn=>?_⟩,h.deb.frm hf (fun hs=>by have:=h.gb;have:=h.bo;rcases hS _ hs with h3 | h3 <;> omega),h.gb,Nat.le_trans h.size hf.size⟩
 obtain ⟨b,off,e,hb,hc⟩:=h.ints.2.2 hn
 have:=h.bo
 exact ⟨b,off,e,hb,fun i hi=>(hf.cell (Nat.lt_of_lt_of_le (by omega) h.size) (fun hs=>by rcases hS b hs with h3 | h3 <;> omega)).trans (hc i hi)⟩
theorem CovE.below {w w':World}{base qn qo qk qp qx cap n kinds:Nat}{A:Option Addr}{xs:List Int}(h:CovE w base qn qo qk qp qx A cap xs n kinds)(hb:Below w.heap.size w w'):CovE w' base qn qo qk qp qx A cap xs n kinds :=
 h.frm (Frm.pure hb (fun _=>False)) (fun _ h=>h.elim)
theorem CovE.intsW {w:World}{base qn qo qk qp qx cap n kinds:Nat}{A:Option Addr}{xs:List Int}(h:CovE w base qn qo qk qp qx A cap xs n kinds):Ints w w.heap.size A xs:=h.ints.mono (by have:=h.bo;have:=h.size;omega)
def RowsOff (w:World)(base:Nat)(o:Option Nat)(rs:List SV):Prop:=∀ r∈rs,0<r.xs.length -> ∀ b off t,r.A=some ⟨b,off,t⟩->o≠some b/\base<=b/\b<w.heap.size
structure OutC (w:World) (base qo:Nat) (vo:Value) (rs:List SV) (o:Option Nat):Prop where
 cell:w.cell? ⟨qo,0,none⟩=some vo
 froz:w.frozen? ⟨qo,0,none⟩=false
 own:OwnW w base vo rs
 off : ∀ g,o=some g->vo.ownBlock≠some g
 rows:RowsOff w base o rs
 lt:qo<base
 size:base<=w.heap.size
section
variable {w w':World} {base qo:Nat} {vo vo':Value} {rs new:List SV} {o o':Option Nat} {S:Nat->Prop}
theorem RowsOff.size {w2:World}(h:RowsOff w base o rs)(hs:w.heap.size<=w2.heap.size):RowsOff w2 base o rs:=fun r hr hn b off t e=>by
 obtain ⟨h1,h2,h3⟩:=h r hr hn b off t e
 exact ⟨h1,h2,by omega⟩
theorem OwnW.keep (h:OwnW w base vo rs)(hf:Frm S w w')(h1 : ∀ g,vo.ownBlock=some g -> ¬ S g)(h2 : ∀ r∈rs,0<r.xs.length -> ∀ b off t,r.A=some ⟨b,off,t⟩ -> ¬ S b):OwnW w' base vo rs:=by
 refine ⟨⟨h.1.1,?_⟩,fun r hr=>?_⟩
 ·rcases h.1.2 with h0 | ⟨g,cap,cur,e,hb,hh,rest⟩
  ·exact .inl h0
  ·have hlt:g<w.heap.size:=(Array.getElem?_eq_some_iff.1 hh).1
   exact .inr ⟨g,cap,cur,e,hb,by rw [hf.block g hlt (h1 g (by rw [e];rfl))];exact hh,rest⟩
 ·obtain ⟨k1,k2,k3⟩:=h.2 r hr
  refine ⟨k1,⟨k2.1,k2.2.1,fun hn=>?_⟩,k3⟩
  obtain ⟨b,off,e,hb,hc⟩:=k2.2.2 hn
  exact ⟨b,off,e,Nat.lt_of_lt_of_le hb hf.size,fun i hi=>(hf.cell hb (h2 r hr hn b off none e)).trans (hc i hi)⟩
theorem OutC.keep (h:OutC w base qo vo rs o)(hf:Frm S w w')(hq : ¬ S qo)(h1 : ∀ g,vo.ownBlock=some g -> ¬ S g)(h2 : ∀ r∈rs,0<r.xs.length -> ∀ b off t,r.A=some ⟨b,off,t⟩ -> ¬ S b):OutC w' base qo vo rs o :=
 ⟨(hf.cell (Nat.lt_of_lt_of_le h.lt h.size) hq).trans h.cell,(hf.frozen (Nat.lt_of_lt_of_le h.lt h.size) hq).trans h.froz,h.own.keep hf h1 h2,h.off,h.rows.size hf.size,h.lt,Nat.le_trans h.size hf.size⟩
theorem OutC.below (h:OutC w base qo vo rs o)(hb:Below w.heap.size w w'):OutC w' base qo vo rs o :=
 h.keep (Frm.pure hb (fun _=>False)) (fun h=>h) (fun _ _ h=>h) (fun _ _ _ _ _ _ _ h=>h)
theorem OutC.grown {v v':Value}{m:Nat}(h:OutC w base qo vo rs v.ownBlock)(hv : ∀ k,v.ownBlock=some k->base<=k)(hg:w.grownBy w' v.ownBlock)(hr:ze0 w w' v v' m):OutC w' base qo vo rs v'.ownBlock:=by
 have hf:Frm (fun c=>v.ownBlock=some c) w w':=⟨hg.os,hg.tape,hg.output,hg.size,fun c hc hS=>hg.block c hc (fun e=>hS e.symm)⟩
 have h0:=h.keep hf (fun hs=>by have:=hv _ hs;have:=h.lt;omega) (fun g e hs=>h.off g hs e) (fun r hr hn b off t e hs=>(h.rows r hr hn b off t e).1 hs)
 refine ⟨h0.cell,h0.froz,h0.own,fun g e=>?_,fun r hr' hn b off t e=>?_,h0.lt,h0.size⟩
 ·rcases hr with ⟨hr,_⟩ | ⟨g',cap,e1,e2⟩
  ·rw [hr] at e
   injection e with e
   intro hh
   have:=(h.own.lt g hh).2
   omega
  ·refine h.off g ?_
   rw [<- e,e1,e2];rfl
 ·obtain ⟨k1,k2,k3⟩:=h0.rows r hr' hn b off t e
  obtain ⟨_,_,k4⟩:=h.rows r hr' hn b off t e
  refine ⟨fun hh=>?_,k2,k3⟩
  rcases hr with ⟨hr,_⟩ | ⟨g',cap,e1,e2⟩
  ·rw [hr] at hh
   injection hh with hh
   omega
  ·refine k1 ?_
   rw [<- hh,e1,e2];rfl
end
theorem z0z {S T:Nat->Prop}{w w1 w2:World}(h:Frm S w w1)(k:Frm T w1 w2)(hT : ∀ c,c<w.heap.size->T c->S c):Frm S w w2 :=
 ⟨k.os.trans h.os,k.tape.trans h.tape,k.output.trans h.output,Nat.le_trans h.size k.size,fun c hc hS=>(k.block c (Nat.lt_of_lt_of_le hc h.size) (fun ht=>hS (hT c hc ht))).trans (h.block c hc hS)⟩
def zad (l:List Nat):List Int:=l.map Int.ofNat
theorem zc9 (l:List Nat):(zad l).length=l.length:=List.length_map ..
theorem zpm (l:List Nat)(c:Nat):zad (l++[c])=zad l++[(c:Int)]:=by unfold zad;rw [List.map_append];rfl
def CovR (w:World)(base qo:Nat)(v vo:Value)(rs:List SV)(l:List Nat)(L:List (List Nat))(w':World):Prop :=
 ∃ vo' new,OutC w' base qo vo' (rs++new) v.ownBlock/\new.map SV.xs=L.map (fun s=>zad (l++s))/\(∀ g,vo'.ownBlock=some g->vo.ownBlock=some g\/w.heap.size<=g)/\(∀ r∈new,0<r.xs.length -> ∀ b off t,r.A=some ⟨b,off,t⟩->w.heap.size<=b) /\
  OwnI w' base v (zad l)/\Frm (fun c=>c=qo\/v.ownBlock=some c\/vo.ownBlock=some c) w w'
theorem zjl {w:World}{ops:Array Oper}{o:Oper}{a:Act}{K:Act->World->Prop}{Q:Exit->Act->World->Prop}{E:Prop}(hgd:o.guard=none)(s x:Operand)
  (ho:o.op = .call { callee:=.builtin .append,args:=#[s,x],argTypes:=#[117,117] })
  (base:Nat) (v:Value) (rs:List SV) (hs:a.eval s=v) (hown:OwnW w base v rs) (b off c:Nat) (news:List SV) (hx:a.eval x = .slice (some ⟨b,off,none⟩) news.length c)
  (hc : ∀ i (hi:i<news.length),w.cell? ⟨b,off+i,none⟩=some news[i].slc) (hn : ∀ r∈news,r.Rd w v.ownBlock) (hm:0<news.length) (hlen:rs.length+news.length<=1000000000) (hbase:base<=w.heap.size)
  (h : ∀ v' w',OwnW w' base v' (rs++news)->w.grownBy w' v.ownBlock->(∀ g,v'.ownBlock=some g->v.ownBlock=some g\/w.heap.size<=g)->K (a.put o.dst v') w') :
  if Region.wanted o (yielded ops a.tmps)=true then Oper.wp Tryz.prog o a w K Q else E:=by
 obtain ⟨i,hi,hz,hsz,hby⟩:=info_parts Tryz.infoIntS
 refine step_append_lies w hgd s x _ ho base 25 i _ 1 24 Tryz.underlying117 hi hz hsz hby rfl (by omega) v rs.length _ hs hown.1 ⟨b,off,none⟩ news.length c (news.map SV.slc) hx (by simp) (zga hc).1 (zga hc).2 hm (by unfold maxLen;omega) (by omega) hbase _ rfl ?_
 intro g cap w' hown' hgrow hat hlt
 have:=hown.appended hown' hgrow hat hn
 rw [List.length_append] at this
 exact h _ w' this hgrow (fun k hk=>by
  have e:g=k:=by simpa [Value.ownBlock] using hk
  subst e
  rcases hat with h1 | h1
  ·exact .inl h1
  ·exact .inr (by omega))
theorem z00 (T:Nat)(h:T<2 ^ 24):IntKind.u64.wrap (bits BinOp.xor IntKind.i64 (-1) (T:Int))=((2 ^ 64-1-T:Nat):Int):=by
 have e:(BitVec.ofInt 64 (-1) ^^^ BitVec.ofInt 64 (T:Int)).toNat=2 ^ 64-1-T:=by
  have h1:BitVec.ofInt 64 (-1)=BitVec.allOnes 64:=by decide
  rw [h1,BitVec.allOnes_xor,BitVec.toNat_not]
  rw [BitVec.ofInt_natCast,BitVec.toNat_ofNat,Nat.mod_eq_of_lt (by omega)]
 have e2:bits BinOp.xor IntKind.i64 (-1) (T:Int)=IntKind.i64.wrap ((2 ^ 64-1-T:Nat):Int):=by
  show IntKind.i64.wrap ((BitVec.ofInt 64 (-1) ^^^ BitVec.ofInt 64 (T:Int)).toNat:Int)=_
  rw [e]
 rw [e2,IntKind.wrap_i64,IntKind.wrap_u64]
 omega
theorem z01 (m v:Nat)(hm:m<2 ^ 40)(hv:v<40):bits BinOp.or IntKind.i64 (m:Int) (wrap64 (2 ^ v))=((m ||| 2 ^ v:Nat):Int):=by
 have h2:(2:Nat) ^ v<2 ^ 40:=Nat.pow_lt_pow_right (by omega) hv
 have e:wrap64 (2 ^ v)=((2 ^ v:Nat):Int):=by
  rw [show ((2:Int) ^ v)=((2 ^ v:Nat):Int) by simp]
  generalize 2 ^ v=x at h2
  unfold wrap64
  omega
 rw [e]
 exact zc1 m (2 ^ v) (by omega) (by omega)
theorem z02 (v:Nat)(hv:v<40):wrap64 (2 ^ v)=((2 ^ v:Nat):Int):=by
 have h2:(2:Nat) ^ v<2 ^ 40:=Nat.pow_lt_pow_right (by omega) hv
 rw [show ((2:Int) ^ v)=((2 ^ v:Nat):Int) by simp]
 generalize 2 ^ v=x at h2
 unfold wrap64
 omega
def covK (n a b f m s1:Nat):Nat->List (List Nat)
 | 0=>[]
 | k+1=>covK n a b f m s1 k++(if s1 &&& (if k % 2=1 then b else a)=0/\(if k % 2=1 then b else a) / 2 ^ (n-m)=0 then (covL n a b f m (s1 ||| (if k % 2=1 then b else a))).map (List.cons (2*m+k)) else [])
theorem z03 {n a b f t s m s1:Nat}(hm:t+stN (n-t) s=m)(hs:s / 2 ^ stN (n-t) s=s1)(h:m≠n)(hab:b≠a):covL n a b (f+1) t s=covK n a b f m s1 2:=by
 rw [zjf hm hs h]
 unfold covK covK covK
 simp [hab]
theorem z04 {n a b f t s m s1:Nat}(hm:t+stN (n-t) s=m)(hs:s / 2 ^ stN (n-t) s=s1)(h:m≠n)(hab:b=a):covL n a b (f+1) t s=covK n a b f m s1 1:=by
 rw [zjf hm hs h]
 unfold covK covK
 simp [hab]
theorem zpn (n a b f m s1:Nat) : ∀ k,(covK n a b f m s1 k).length<=k*2 ^ f
 | 0=>by simp [covK]
 | k+1=>by
  have hk:=zpn n a b f m s1 k
  rw [covK,List.length_append,show (k+1)*2 ^ f=k*2 ^ f+2 ^ f from Nat.succ_mul _ _]
  obtain ⟨M,hM⟩ : ∃ M,(if k % 2=1 then b else a)=M:=⟨_,rfl⟩
  rw [hM]
  have:=zo7 n a b f m (s1 ||| M)
  by_cases c:s1 &&& M=0/\M / 2 ^ (n-m)=0
  ·rw [if_pos c,List.length_map];omega
  ·rw [if_neg c,List.length_nil];omega
theorem z05 {n a b f m s1 k M:Nat}(hM:(if k % 2=1 then b else a)=M)(h1:s1 &&& M=0)(h2:M / 2 ^ (n-m)=0):covK n a b f m s1 (k+1)=covK n a b f m s1 k++(covL n a b f m (s1 ||| M)).map (List.cons (2*m+k)):=by
 rw [covK,hM,if_pos ⟨h1,h2⟩]
theorem z06 {n a b f m s1 k M:Nat}(hM:(if k % 2=1 then b else a)=M)(h : ¬ (s1 &&& M=0/\M / 2 ^ (n-m)=0)):covK n a b f m s1 (k+1)=covK n a b f m s1 k:=by
 rw [covK,hM,if_neg h,List.append_nil]
section
variable {w w1 w2 w3 w4:World} {base qo:Nat} {v vo v4:Value} {rs:List SV} {l:List Nat}
theorem z07 (hO:OutC w base qo vo rs v.ownBlock)(hX:OwnI w base v (zad l)):CovR w base qo v vo rs l [] w :=
 ⟨vo,[],by rw [List.append_nil];exact hO,rfl,fun g h=>.inl h,(fun r hr=>by cases hr),hX,Frm.refl _ _⟩
theorem CovR.below {L:List (List Nat)}(h:CovR w base qo v vo rs l L w1)(hb:Below w1.heap.size w1 w2):CovR w base qo v vo rs l L w2:=by
 obtain ⟨vo1,new1,h1,h2,h3,h4,h5,h6⟩:=h
 exact ⟨vo1,new1,h1.below hb,h2,h3,h4,h5.grown hb,h6.trans (Frm.pure hb _)⟩
theorem CovR.mk {L:List (List Nat)}{vo1:Value}{new1:List SV}(h1:OutC w1 base qo vo1 (rs++new1) v.ownBlock)(h2:new1.map SV.xs=L.map (fun s=>zad (l++s))/\(∀ g,vo1.ownBlock=some g->vo.ownBlock=some g\/w.heap.size<=g)/\(∀ r∈new1,0<r.xs.length -> ∀ b off t,r.A=some ⟨b,off,t⟩->w.heap.size<=b))
  (h5:OwnI w1 base v (zad l))(h6:Frm (fun c=>c=qo\/v.ownBlock=some c\/vo.ownBlock=some c) w w1):CovR w base qo v vo rs l L w1:=⟨vo1,new1,h1,h2.1,h2.2.1,h2.2.2,h5,h6⟩
theorem CovR.frame {L:List (List Nat)}(h:CovR w base qo v vo rs l L w1):Frm (fun c=>c=qo\/v.ownBlock=some c\/vo.ownBlock=some c) w w1:=by
 obtain ⟨_,_,_,_,_,_,_,h6⟩:=h
 exact h6
theorem zjm {A2:Option Addr}{c2:Nat}(hO:OutC w3 base qo vo rs v.ownBlock)(hX:OwnI w3 base v (zad l))(hb:Below w.heap.size w w3)(hvb : ∀ k,v.ownBlock=some k->k<w.heap.size)
  (hA2:0<l.length -> ∀ b off t,A2=some ⟨b,off,t⟩->w.heap.size<=b/\b<w3.heap.size)(h4:OwnW w4 base v4 (rs++[⟨zad l,A2,c2⟩]))(hg:w3.grownBy w4 vo.ownBlock)
  (hat : ∀ g,v4.ownBlock=some g->vo.ownBlock=some g\/w3.heap.size<=g)(hbase:base<=w.heap.size):CovR w base qo v vo rs l [[]] (w4.setCell ⟨qo,0,none⟩ v4):=by
 have hf4:Frm (fun c=>vo.ownBlock=some c) w3 w4:=⟨hg.os,hg.tape,hg.output,hg.size,fun c hc hS=>hg.block c hc (fun e=>hS e.symm)⟩
 have hvo : ∀ g,vo.ownBlock=some g->base<=g:=fun g e=>(hO.own.lt g e).1
 have hlt:=hO.lt
 have hq : ¬ vo.ownBlock=some qo:=fun e=>by have:=hvo _ e;omega
 have hs3:=hb.size
 have hs4:=hg.size
 have hs5:(w4.setCell ⟨qo,0,none⟩ v4).heap.size=w4.heap.size:=by simp [World.setCell]
 have hf5:Frm (fun c=>c=qo) w4 (w4.setCell ⟨qo,0,none⟩ v4):=Frm.setCell (S:=fun c=>c=qo) (p:=⟨qo,0,none⟩) (Frm.refl _ _) rfl _
 have hc4:w4.cell? ⟨qo,0,none⟩=some vo:=(hf4.cell (by omega) hq).trans hO.cell
 have hne : ∀ r∈rs++[(⟨zad l,A2,c2⟩:SV)],0<r.xs.length -> ∀ b off t,r.A=some ⟨b,off,t⟩->v.ownBlock≠some b/\base<=b/\b<w4.heap.size:=fun r hr hn b off t e=>by
  rcases List.mem_append.1 hr with h1 | h1
  ·obtain ⟨k1,k2,k3⟩:=hO.rows r h1 hn b off t e
   exact ⟨k1,k2,by omega⟩
  ·rw [List.mem_singleton] at h1
   subst h1
   obtain ⟨k1,k2⟩:=hA2 (by rwa [zc9] at hn) b off t e
   exact ⟨fun hh=>by have:=hvb b hh;omega,by omega,by omega⟩
 refine ⟨v4,[⟨zad l,A2,c2⟩],⟨World.cell?_setCell_same w4 _ _ hc4,?_,?_,?_,?_,hlt,by omega⟩,by simp,fun g e=>?_,fun r hr hn b off t e=>?_,?_,?_⟩
 ·rw [World.frozen?_setCell]
  exact (hf4.frozen (by omega) hq).trans hO.froz
 ·refine h4.keep hf5 (fun g e hh=>?_) (fun r hr hn b off t e hh=>?_)
  ·have:=(h4.lt g e).1;omega
  ·have:=(hne r hr hn b off t e).2.1;omega
 ·intro g e hh
  rcases hat g hh with h1 | h1
  ·exact hO.off g e h1
  ·have:=hvb g e;omega
 ·intro r hr hn b off t e
  obtain ⟨k1,k2,k3⟩:=hne r hr hn b off t e
  exact ⟨k1,k2,by omega⟩
 ·rcases hat g e with h1 | h1
  ·exact .inl h1
  ·exact .inr (by omega)
 ·rw [List.mem_singleton] at hr
  subst hr
  exact (hA2 (by rwa [zc9] at hn) b off t e).1
 ·exact (hX.frmC hf4 (fun k e hh=>hO.off k e hh)).frmC hf5 (fun k e hh=>by have:=(hX.lt k e).1;omega)
 ·exact ((Frm.pure hb _).trans (hf4.mono (fun c h=>.inr (.inr h)))).trans (hf5.mono (fun c h=>.inl h))
theorem z08 {L L':List (List Nat)}{c:Nat}{v' vo1:Value}{new1:List SV}(hR : ∀ g,v.ownBlock=some g->g<w.heap.size)(hws:w.heap.size<=w1.heap.size)
  (h1:OutC w1 base qo vo1 (rs++new1) v.ownBlock)(hk:new1.map SV.xs=L.map (fun s=>zad (l++s)))(hvo : ∀ g,vo1.ownBlock=some g->vo.ownBlock=some g\/w.heap.size<=g)(hnw : ∀ r∈new1,0<r.xs.length -> ∀ b off t,r.A=some ⟨b,off,t⟩->w.heap.size<=b)
  (hX1:OwnI w2 base v (zad l))(hF1:Frm (fun c=>c=qo\/v.ownBlock=some c\/vo.ownBlock=some c) w w3)
  (hgr:Frm (fun c=>v.ownBlock=some c) w2 w3)(hr:ze0 w2 w3 v v' (zad l).length)(hw12:w1.heap.size<=w2.heap.size)
  (h2:CovR w3 base qo v' vo1 (rs++new1) (l++[c]) L' w4):CovR w base qo v vo rs l (L++L'.map (List.cons c)) w4:=by
 obtain ⟨vo2,new2,hO2,hk2,hvo2,hnw2,hX2,hF2⟩:=h2
 have hw23:=hgr.size
 have hw34:=hF2.size
 have hown:v'.ownBlock=some w2.heap.size\/v'.ownBlock=v.ownBlock:=by
  rcases hr with ⟨hr,_⟩ | ⟨g,cap,e1,e2⟩
  ·exact .inl hr
  ·exact .inr (by rw [e1,e2];rfl)
 have hlt2 : ∀ g,v.ownBlock=some g->g<w2.heap.size:=fun g e=>by have:=hR g e;omega
 refine ⟨vo2,new1++new2,?_,?_,fun g e=>?_,fun r hr' hn b off t e=>?_,?_,?_⟩
 ·rw [<- List.append_assoc]
  refine ⟨hO2.cell,hO2.froz,hO2.own,fun g e hh=>?_,fun r hr' hn b off t e=>?_,hO2.lt,hO2.size⟩
  ·rcases hvo2 g hh with h5 | h5
   ·exact h1.off g e h5
   ·have:=hlt2 g e;omega
  ·obtain ⟨k1,k2,k3⟩:=hO2.rows r hr' hn b off t e
   refine ⟨fun hh=>?_,k2,k3⟩
   rcases List.mem_append.1 hr' with h5 | h5
   ·exact (h1.rows r h5 hn b off t e).1 hh
   ·have:=hnw2 r h5 hn b off t e
    have:=hlt2 b hh
    omega
 ·rw [List.map_append,List.map_append,hk,hk2,List.map_map]
  congr 1
  refine List.map_congr_left fun s _=>?_
  simp
 ·rcases hvo2 g e with h5 | h5
  ·exact hvo g h5
  ·exact .inr (by have:=hF1.size;omega)
 ·rcases List.mem_append.1 hr' with h5 | h5
  ·exact hnw r h5 hn b off t e
  ·have:=hnw2 r h5 hn b off t e;have:=hF1.size;omega
 ·have hX2':OwnI w4 base v' (zad l++[(c:Int)]):=by rw [<- zpm];exact hX2
  refine hX1.back hr hX2' fun hn hol k e=>?_
  have hk2:=hlt2 k e
  rw [hF2.block k (by omega) (fun hh=>by
   rcases hh with hh | hh | hh
   ·have:=(hX1.lt k e).1;have:=h1.lt;omega
   ·rw [hn] at hh;injection hh with hh;omega
   ·exact h1.off k e hh)]
  exact hol k hk2
 ·refine z0z hF1 hF2 fun c hc hh=>?_
  rcases hh with hh | hh | hh
  ·exact .inl hh
  ·rcases hown with h5 | h5
   ·rw [h5] at hh;injection hh with hh;omega
   ·exact .inr (.inl (by rw [<- h5];exact hh))
  ·rcases hvo c hh with h5 | h5
   ·exact .inr (.inr h5)
   ·omega
end
end Go.Proofs.YtjpnjchpdkogbaaGreatDoor
