/- Parts of the proof of the card of the law FnConsole. -/
import Derived.Test.YtjpnjchpdkogbaaGreatDoorG24
import Derived.Test.YtjpnjchpdkogbaaGreatDoorTabU
import Derived.Test.YtjpnjchpdkogbaaGreatDoorG03
import Derived.Test.YtjpnjchpdkogbaaGreatDoorG02
import Derived.Test.YtjpnjchpdkogbaaGreatDoorG21
import Derived.Lib.BitFns
import Derived.Test.YtjpnjchpdkogbaaGreatDoorG04
import Derived.Lib.AppendZeros
import Derived.Deep.Upon
import Derived.Test.YtjpnjchpdkogbaaGreatDoorG10
import Derived.Test.YtjpnjchpdkogbaaGreatDoorG05
import Derived.Test.YtjpnjchpdkogbaaGreatDoorG13
set_option linter.unusedVariables false
set_option linter.unusedSimpArgs false
set_option maxRecDepth 100000
set_option maxHeartbeats 2000000
namespace Go.Proofs.YtjpnjchpdkogbaaGreatDoor
open Go.RowKit Go.Shelf
theorem z1b (A1 A2:Option Addr)(c1 c2 g:Nat)(l:List Int)(w:World)(h1:Ints w w.heap.size A1 l)(h2:Ints w w.heap.size A2 l)(hg:Bx w g (.slice A2 l.length c2)) :
  Calls Tryz.prog 245 #[.slice A1 l.length c1,.pointer (some ⟨g,0,none⟩)] w fun e w'=>e = .returned (.bool true)/\Below w.heap.size w w':=by
 have HEQ:=zpg A1 A2 c1 c2 l l w w.heap.size w.heap.size h1 h2
 rw [decide_eq_true rfl] at HEQ
 have HEQ:=Zh HEQ
 obtain ⟨_,g0,_⟩:=hg
 clear h1 h2
 go_enter Tryz.func245,Tryz.ntmps245
 go_wp2_with fail
 refine HEQ.o.mono ?_
 rintro e w2 ⟨rfl,z,rfl⟩
 go_wp2_with fail
 go_ret
 exact ⟨rfl,Below.drewN_ (Below.refl w.heap.size w) z⟩
theorem z1c (A1 A2:Option Addr)(c1 c2 g gr m cr:Nat)(l:List Int)(w:World)(h1:Ints w w.heap.size A1 l)(h2:Ints w w.heap.size A2 l)(hg:Bx w g (.slice A2 l.length c2))(hr:w.cell? ⟨gr,0,none⟩=some (.slice A1 l.length c1))(hm:0<m) :
  Calls Tryz.prog 287 #[.slice (some ⟨gr,0,none⟩) m cr,.func (.func 245) #[] #[.pointer (some ⟨g,0,none⟩)]] w fun e w'=>e = .returned (.int .i64 0)/\Below w.heap.size w w':=by
 have HC:=Zh (z1b A1 A2 c1 c2 g l w h1 h2 hg)
 have hm0:(0:Int)<(m:Int):=by omega
 clear h1 h2 hg
 go_enter Tryz.func287,Tryz.ntmps287
 go_wp2_with fail
 go_loopw [8] (fun i wr=>i = .int .i64 0/\w=wr) (fun _ _=>0)
 case atStart=>exact ⟨rfl,rfl⟩
 case round =>
  obtain ⟨rfl,rfl⟩:=hrel
  go_wp2_with fail
  refine HC.o.mono ?_
  rintro e w2 ⟨rfl,hb⟩
  go_wp2_with fail
  go_ret
  exact ⟨rfl,hb⟩
theorem z1d (A1 A2:Option Addr)(c1 c2 g gr m cr:Nat)(l:List Int)(w:World)(h1:Ints w w.heap.size A1 l)(h2:Ints w w.heap.size A2 l)(hg:Bx w g (.slice A2 l.length c2))(hr:w.cell? ⟨gr,0,none⟩=some (.slice A1 l.length c1))(hm:0<m) :
  Calls Tryz.prog 244 #[.slice (some ⟨gr,0,none⟩) m cr,.func (.func 245) #[] #[.pointer (some ⟨g,0,none⟩)]] w fun e w'=>e = .returned (.bool true)/\Below w.heap.size w w':=by
 have HC:=Zh (z1c A1 A2 c1 c2 g gr m cr l w h1 h2 hg hr hm)
 clear h1 h2 hg hr hm
 go_enter Tryz.func244,Tryz.ntmps244
 go_wp2_with fail
 refine HC.o.mono ?_
 rintro e w2 ⟨rfl,hb⟩
 go_wp2_with fail
 go_ret
 exact ⟨rfl,hb⟩
theorem z1e (A A2:Option Addr)(cap c2:Nat)(xs:List Int)(n:Nat)(cs:List Nat)(rest:List (List Nat))(w:World)(hA:Ints w w.heap.size A xs)(hL:Ints w w.heap.size A2 (zad cs))(hp:patB xs=true)(hn:n<=24)(hD:DeB w)(hc:covN xs n=cs::rest) :
  Calls Tryz.prog 198 #[.slice A xs.length cap,.int .i64 n,.slice A2 (zad cs).length c2] w fun e w'=>e = .returned (.bool true)/\Below w.heap.size w w':=by
 have hb:=(Below.refl w.heap.size w).alloc (Nat.le_refl _) (.cells #[.slice A2 (zad cs).length c2] 25)
 have hx:=Bx.new w (.slice A2 (zad cs).length c2) 25
 have hL2:=hL.lift hb
 have hA2:=hA.lift hb
 have hD2:=hD.below hb
 have HB:=Zh hb
 have HX:=Zh hx
 have HL:=Zh hL2
 have HPO:=zdo A cap xs _ hA2
 rw [hp] at HPO
 have HPO:=Zh HPO
 have hin:inB (n:Int) 0 24=true:=zan.2 (by omega)
 have HCV:=Zh (zjn A cap xs n _ hA2 hp hn hD2)
 rw [hc] at HCV
 clear hA hL hD hb hx hL2 hA2 hD2 hc
 go_enter Tryz.func198,Tryz.ntmps198
 go_wp2_with fail
 generalize w.alloc (.cells #[.slice A2 (zad cs).length c2] 25)=w1 at *
 refine HPO.o.mono ?_
 rintro e w' ⟨rfl,hw'⟩
 obtain rfl:=hw'
 go_wp2_with (go_at_call 22;refine (zac _ _ _ _).mono ?_;rintro e w' ⟨rfl,rfl⟩)
 refine HCV.o.mono ?_
 rintro e w2 ⟨v2,rs,rfl,hown2,hkey,hb2⟩
 obtain ⟨A3,c3,rfl⟩:=hown2.form
 have hlen:0<rs.length:=by
  have:=congrArg List.length hkey
  rw [List.length_map,List.length_map] at this
  simp at this
  omega
 obtain ⟨g3,rfl,_,_,hcell⟩:=hown2.cells hlen
 have hc0:=hcell 0 hlen
 have hr0:=(hown2.2 _ (List.getElem_mem hlen)).2.1
 have hx0:rs[0].xs=zad cs:=by
  have:=congrArg (fun L=>L[0]?) hkey
  simp only [List.getElem?_map,List.getElem?_eq_getElem hlen,Option.map_some,List.map_cons,List.getElem?_cons_zero,Option.some.injEq] at this
  exact this
 unfold SV.slc at hc0
 rw [hx0] at hc0 hr0
 have HCF:=Zh (z1d rs[0].A A2 rs[0].c c2 w.heap.size g3 rs.length c3 (zad cs) w2 hr0 (HL.o.lift hb2) (HX.o.lift hb2) hc0 hlen)
 have HB:=Zh (HB.o.trans (hb2.mono HB.o.size))
 clear hown2 hkey hb2 hcell hc0 hr0 hx0 hlen
 go_wp2_with fail
 refine HCF.o.mono ?_
 rintro e w3 ⟨rfl,hb3⟩
 go_wp2_with fail
 go_ret
 exact ⟨rfl,HB.o.trans (hb3.mono HB.o.size)⟩
end Go.Proofs.YtjpnjchpdkogbaaGreatDoor
namespace Go.Proofs.YtjpnjchpdkogbaaGreatDoor
open Go.RowKit Go.Shelf
def byF (f:Nat->Int)(t:Nat):UInt8:=if f t<0 then 0 else UInt8.ofNat (97+(f t).toNat)
theorem z1f (f:Nat->Int)(L:List Int)(k j:Nat)(x:Nat)(hx:L.getD j 0=(x:Int))(t:Nat):byF (putJ f L k (j+1)) t=if t=x then UInt8.ofNat (97+k) else byF (putJ f L k j) t:=by
 have e:putJ f L (k:Int) (j+1) t=if (t:Int)=L.getD j 0 then (k:Int) else putJ f L (k:Int) j t:=rfl
 unfold byF
 rw [e,hx]
 by_cases h:t=x
 ·subst h
  rw [if_pos rfl,if_pos rfl,if_neg (by omega)]
  rfl
 ·have : ¬ ((t:Int)=(x:Int)):=by omega
  simp only [this,h,if_false]
theorem z1g {xs:List Int}{n:Nat}(hp:patB xs=true){cs:List Nat}(h:cs∈covN xs n):tabL n (byF (takI xs cs cs.length))=covS xs n cs:=by
 unfold tabL covS
 refine List.map_congr_left fun t ht=>?_
 have:=z0s hp h t (List.mem_range.1 ht)
 unfold byF
 rw [if_neg (by omega)]
theorem z1h (A A2:Option Addr)(cap c2:Nat)(xs:List Int)(n:Nat)(cs:List Nat)(rest:List (List Nat))(w:World)(hA:Ints w w.heap.size A xs)(hL:Ints w w.heap.size A2 (zad cs))(hp:patB xs=true)(hn:n<=24)(hD:DeB w)(hc:covN xs n=cs::rest) :
  Calls Tryz.prog 138 #[.slice A xs.length cap,.int .i64 n,.slice A2 (zad cs).length c2] w fun e w'=>e = .returned (.string (mkS (covS xs n cs)))/\Below w.heap.size w w':=by
 have HA:=Zh hA
 have HL:=Zh hL
 have HIC:=Zh (z1e A A2 cap c2 xs n cs rest w hA hL hp hn hD hc)
 have hmem:cs∈covN xs n:=by rw [hc];exact List.mem_cons_self
 have hcl:=z0t hmem
 have HAT:=Zh (fun i hi=>z0u hp hmem (i:=i) hi)
 have HBY:=Zh (z1g hp hmem)
 have hpl:=zgh hp
 have HCC:=Zh (zc9 cs)
 have hmk:=fun W:World=>zkh n (by omega) W
 obtain ⟨S,hS⟩ : ∃ S,covS xs n cs=S:=⟨_,rfl⟩
 rw [hS] at HBY ⊢
 rw [zc9] at HIC ⊢
 clear hA hL hD hc hmem hS
 go_enter Tryz.func138,Tryz.ntmps138
 go_wp2_with fail
 refine HIC.o.mono ?_
 rintro e w1 ⟨rfl,hb⟩
 have HB1:=Zh hb
 clear hb
 go_wp2_with fail
 have hnew:=zkg w1 n 5
 have hb2:=(Below.refl w1.heap.size w1).alloc (Nat.le_refl _) (.cells (madeCells #[.int .u8 0] n) 5)
 have HN2:=Zh hnew
 have HB2:=Zh (HB1.o.trans (hb2.mono HB1.o.size))
 obtain ⟨gb,hgb⟩ : ∃ g,w1.heap.size=g:=⟨_,rfl⟩
 have HGB:=Zh (show w.heap.size<=gb from hgb ▸ HB1.o.size)
 rw [hgb] at HN2 ⊢
 generalize w1.alloc (.cells (madeCells #[.int .u8 0] n) 5)=w2 at *
 clear hnew hb2 hgb
 go_loopw [21] (fun i wr=>∃ k:Nat,k<=cs.length/\i = .int .i64 k/\TabU wr gb n (byF (takI xs cs k))/\Below w.heap.size w wr) (fun i _=>cs.length-(intOf i).toNat)
 case atStart=>exact ⟨0,Nat.zero_le _,rfl,HN2.o.congr (fun t _=>rfl),HB2.o⟩
 case round =>
  obtain ⟨k,hk,rfl,htab,hbel⟩:=hrel
  obtain ⟨wo,rfl⟩ : ∃ wo:World,wo=wr:=⟨_,rfl⟩
  have HT:=Zh htab
  have HB:=Zh hbel
  clear htab hbel
  by_cases hlt:k<cs.length
  ·obtain ⟨b2,off2,rfl,hB2,hce⟩:=HL.o.2.2 (by rw [HCC.o];omega)
   have hcx:=hce k (by rw [HCC.o];omega)
   rw [<- HB.o.cell (p:=⟨b2,off2+k,none⟩) hB2] at hcx
   have hcd:(zad cs).getD k 0=((cs.getD k 0:Nat):Int):=by
    unfold zad
    rw [List.getD_eq_getElem?_getD,List.getElem?_map,List.getElem?_eq_getElem hlt,List.getD_eq_getElem?_getD,List.getElem?_eq_getElem hlt]
    rfl
   rw [hcd] at hcx
   obtain ⟨h1,h2,h3,h4⟩:=HAT.o k hlt
   have HTS:=Zh (show takI xs cs (k+1)=putJ (takI xs cs k) (zaz xs (cs.getD k 0)) k xs.length from rfl)
   obtain ⟨c,hc⟩ : ∃ c,cs.getD k 0=c:=⟨_,rfl⟩
   rw [hc] at hcx h2 h4 HTS
   have HLD:=Zh (zpl A cap xs c wo ((HA.o.below HB.o).mono HB.o.size) hp (by omega))
   have HLL:=Zh (zgk xs c)
   have HFT:=Zh (zpa hp (show c<100 by omega))
   have H4:=Zh h4
   have hki:(k:Int)<(cs.length:Int):=by omega
   have hk0:(0:Int)<=(k:Int):=Int.natCast_nonneg _
   have hwk:IntKind.i64.wrap ((k:Int)+1)=(k:Int)+1:=i64w (by omega)
   have hw97:IntKind.i64.wrap (97+(k:Int))=97+(k:Int):=i64w (by omega)
   have hu97:IntKind.u8.wrap (97+(k:Int))=97+(k:Int):=by
    show (97+(k:Int)) % 256=_
    omega
   clear hce hcd h1 h2 h3 h4 hc
   generalize zaz xs c=L at *
   generalize takI xs cs k=f at *
   go_wp2_with fail
   refine HLD.o.mono ?_
   rintro e w3 ⟨v3,rfl,hown3,hb3⟩
   obtain ⟨A3,c3,rfl⟩:=hown3.form
   have HI3:=Zh (hown3.ints HFT.o)
   rw [HLL.o]
   have HT3:=Zh (HT.o.below hb3 HT.o.1)
   have HNB:=Zh (show ∀ b off t,A3=some ⟨b,off,t⟩->b≠gb from fun b off t e h=>by
    have h1:=hown3.lt b (by rw [e];rfl)
    have h2:=HT.o.1
    omega)
   have HB3:=Zh (HB.o.trans (hb3.mono HB.o.size))
   clear hown3 hb3
   go_wp2_with fail
   go_loopw [30] (fun i wr=>∃ j:Nat,j<=xs.length/\i = .int .i64 j/\TabU wr gb n (byF (putJ f L k j))/\Frm (fun c=>c=gb) w3 wr) (fun i _=>xs.length-(intOf i).toNat)
   case atStart=>exact ⟨0,Nat.zero_le _,rfl,HT3.o,Frm.refl _ _⟩
   case round =>
    obtain ⟨j,hj,rfl,htab,hfr⟩:=hrel
    obtain ⟨wq,rfl⟩ : ∃ wq:World,wq=wr:=⟨_,rfl⟩
    have HT4:=Zh htab
    have HF4:=Zh hfr
    clear htab hfr
    by_cases hjl:j<xs.length
    ·obtain ⟨b3,off3,rfl,hB3,hce3⟩:=HI3.o.2.2 (by rw [HLL.o];omega)
     have hcx3:=hce3 j (by rw [HLL.o];omega)
     rw [<- HF4.o.cell (c:=b3) hB3 (HNB.o _ _ _ rfl)] at hcx3
     obtain ⟨hx0,hx1,_⟩:=H4.o j hjl
     have HPT:=Zh (fun x hx t=>z1f f L k j x hx t)
     obtain ⟨x,hx⟩ : ∃ x,L.getD j 0=x:=⟨_,rfl⟩
     rw [hx] at hcx3 hx0 hx1 HPT
     obtain ⟨x,rfl⟩:=Int.eq_ofNat_of_zero_le hx0
     have hxn:x<n:=by omega
     have htc:=(HT4.o.2 x hxn).1
     have htf:=HT4.o.frz hxn
     have hji:(j:Int)<(xs.length:Int):=by omega
     have hj0:(0:Int)<=(j:Int):=Int.natCast_nonneg _
     have hwj:IntKind.i64.wrap ((j:Int)+1)=(j:Int)+1:=i64w (by omega)
     have HST:=Zh (HT4.o.set_ x (UInt8.ofNat (97+k)) hxn (.int .u8 (97+(k:Int))) (by rw [UInt8.toNat_ofNat'];congr 1;omega))
     have HSF:=Zh (HF4.o.setCell (p:=⟨gb,x,none⟩) rfl (.int .u8 (97+(k:Int))))
     clear hce3 hx
     go_wp2_with fail
     go_roundw
     case rel=>exact ⟨j+1,hjl,by go_num,HST.o.congr (fun t _=>(HPT.o x rfl t).symm),HSF.o⟩
     case measure=>simp [intOf];omega
    ·have hje:j=xs.length:=by omega
     have hji : ¬ (j:Int)<(xs.length:Int):=by omega
     have HT5:=Zh (show TabU wq gb n (byF (takI xs cs (k+1))) from by rw [HTS.o,<- hje];exact HT4.o)
     have HB5:=Zh (show Below w.heap.size w wq from HB3.o.trans (HF4.o.below (fun c h=>by rw [h];exact HGB.o) (by have:=HB3.o.size;omega)))
     clear hje
     go_wp2_with fail
     go_roundw
     case rel=>exact ⟨k+1,hlt,by go_num,HT5.o,HB5.o⟩
     case measure=>simp [intOf];omega
  ·have hke:k=cs.length:=by omega
   have hki : ¬ (k:Int)<(cs.length:Int):=by omega
   have hst:=HT.o.string n
   rw [hke,HBY.o] at hst
   go_wp2_with fail
   go_ret
   exact ⟨rfl,HB.o⟩
def cvlV (xs:List Int):Txt :=
 if patB xs then (if inB (zap xs:Int) 1 16 then itoL (zap xs:Int)++[32]++covS xs (zap xs) ((covN xs (zap xs)).headD []) else itoL (zap xs:Int)) else [110,111,110,101]
theorem zpu (xs:List Int):zap xs<=24:=by
 rcases zjp xs with ⟨_,h⟩ | ⟨_,_,_,h,_⟩ <;> omega
theorem z1i {xs:List Int}(h:inB (zap xs:Int) 1 16=true) : ∃ cs rest,covN xs (zap xs)=cs::rest:=by
 have h1:=zan.1 h
 rcases zjp xs with ⟨_,h2⟩ | ⟨_,_,_,_,h2⟩
 ·omega
 ·cases hc:covN xs (zap xs) with
  | nil=>exact absurd hc h2
  | cons cs rest=>exact ⟨cs,rest,rfl⟩
theorem z1j (A:Option Addr)(cap:Nat)(xs:List Int)(w:World)(hA:Ints w w.heap.size A xs)(hD:DeB w)(hP:Pow w) :
  Calls Tryz.prog 74 #[.slice A xs.length cap] w fun e w'=>e = .returned (.string (mkS (cvlV xs)))/\Below w.heap.size w w':=by
 have HA:=Zh hA
 have HD:=Zh hD
 have HPO:=zdo A cap xs w hA
 cases hp:patB xs
 ·have HV:=Zh (show cvlV xs=[110,111,110,101] by unfold cvlV;rw [hp];rfl)
  rw [hp] at HPO
  have HPO:=Zh HPO
  generalize cvlV xs=v at HV ⊢
  clear hA hp hD
  go_enter Tryz.func74,Tryz.ntmps74
  go_wp2_with fail
  refine HPO.o.mono ?_
  rintro e w' ⟨rfl,hw'⟩
  obtain rfl:=hw'
  go_wp2_with fail
  go_ret
  exact ⟨zbw (by rw [HV.o];rfl),Below.refl _ _⟩
 rw [hp] at HPO
 have HPO:=Zh HPO
 have HLC:=Zh (z1a A cap xs w hA hp hD)
 have hle:=zpu xs
 have HFI:=Zh (fun V (hb:Below w.heap.size w V)=>zbq (zap xs:Int) (by unfold Fits;omega) V (hP.below hb))
 cases hin:inB (zap xs:Int) 1 16
 ·have HV:=Zh (show cvlV xs=itoL (zap xs:Int) by unfold cvlV;rw [hp,hin];rfl)
  generalize cvlV xs=v at HV ⊢
  generalize zap xs=lc at *
  clear hA hD
  go_enter Tryz.func74,Tryz.ntmps74
  go_wp2_with fail
  refine HPO.o.mono ?_
  rintro e w' ⟨rfl,hw'⟩
  obtain rfl:=hw'
  go_wp2_with fail
  refine HLC.o.mono ?_
  rintro e w1 ⟨rfl,hb⟩
  have HB1:=Zh hb
  clear hb
  go_wp2_with (go_at_call 22;refine (zac _ _ _ _).mono ?_;rintro e w' ⟨rfl,rfl⟩)
  refine (HFI.o _ HB1.o).mono ?_
  rintro e w2 ⟨rfl,hb⟩
  have HB2:=Zh (HB1.o.trans (hb.mono HB1.o.size))
  clear hb
  go_wp2_with fail
  go_ret
  exact ⟨zbw (by rw [HV.o]),HB2.o⟩
 ·obtain ⟨cs,rest,hc⟩:=z1i hin
  have hi2:=zan.1 hin
  have HV:=Zh (show cvlV xs=itoL (zap xs:Int)++[32]++covS xs (zap xs) cs by unfold cvlV;rw [hp,hin,hc];rfl)
  have HCV:=Zh (fun V (h:Below w.heap.size w V)=>zjn A cap xs (zap xs) V ((hA.below h).mono h.size) hp hle (hD.below h))
  have HTX:=Zh (fun A2 c2 V (h:Below w.heap.size w V) h2=>z1h A A2 cap c2 xs (zap xs) cs rest V ((hA.below h).mono h.size) h2 hp hle (hD.below h) hc)
  rw [hc] at HCV
  have hcl:=zpd xs (zap xs) cs
  have hsz:(mkS (itoL (zap xs:Int))).size<=20:=by rw [za2];exact zbe _ (by unfold Fits;omega)
  have hsz2:(mkS (covS xs (zap xs) cs)).size<=24:=by rw [za2,hcl];exact hle
  have HS1:=Zh (za9 (itoL (zap xs:Int)))
  have HS2:=Zh (za9 (covS xs (zap xs) cs))
  generalize mkS (itoL (zap xs:Int))=S1 at *
  generalize mkS (covS xs (zap xs) cs)=S2 at *
  have HRES:=Zh (show (S1++(⟨#[32]⟩:ByteArray))++S2=mkS (cvlV xs) by
   rw [HV.o]
   exact Str.eq (Str.app (Str.app HS1.o (show Str ⟨#[32]⟩ [32] from rfl)) HS2.o))
  generalize mkS (cvlV xs)=R at HRES ⊢
  generalize zap xs=lc at *
  have HCC:=Zh (zc9 cs)
  clear hA hD hc hcl HV
  go_enter Tryz.func74,Tryz.ntmps74
  go_wp2_with fail
  refine HPO.o.mono ?_
  rintro e w' ⟨rfl,hw'⟩
  obtain rfl:=hw'
  go_wp2_with fail
  refine HLC.o.mono ?_
  rintro e w1 ⟨rfl,hb⟩
  have HB1:=Zh hb
  clear hb
  go_wp2_with (go_at_call 22;refine (zac _ _ _ _).mono ?_;rintro e w' ⟨rfl,rfl⟩)
  refine (HFI.o _ HB1.o).mono ?_
  rintro e w2 ⟨rfl,hb⟩
  have HB2:=Zh (HB1.o.trans (hb.mono HB1.o.size))
  clear hb
  go_wp2_with fail
  refine (HCV.o _ HB2.o).mono ?_
  rintro e w3 ⟨v3,rs,rfl,hown3,hkey,hb3⟩
  obtain ⟨A3,c3,rfl⟩:=hown3.form
  have hlen:0<rs.length:=by
   have:=congrArg List.length hkey
   rw [List.length_map,List.length_map] at this
   simp at this
   omega
  obtain ⟨g3,rfl,_,_,hcell⟩:=hown3.cells hlen
  have hc0:=hcell 0 hlen
  have hr0:=(hown3.2 _ (List.getElem_mem hlen)).2.1
  have hx0:rs[0].xs=zad cs:=by
   have:=congrArg (fun L=>L[0]?) hkey
   simp only [List.getElem?_map,List.getElem?_eq_getElem hlen,Option.map_some,List.map_cons,List.getElem?_cons_zero,Option.some.injEq] at this
   exact this
  unfold SV.slc at hc0
  rw [hx0] at hc0 hr0
  generalize rs[0].A=Ar at *
  generalize rs[0].c=cr at *
  have HR0:=Zh hr0
  have hli:(0:Int)<(rs.length:Int):=by omega
  have HB3:=Zh (HB2.o.trans (hb3.mono HB2.o.size))
  clear hown3 hkey hb3 hcell hr0 hx0
  go_wp2_with fail
  refine (HTX.o Ar cr _ HB3.o HR0.o).mono ?_
  rintro e w4 ⟨rfl,hb⟩
  have HB4:=Zh (HB3.o.trans (hb.mono HB3.o.size))
  clear hb
  go_wp2_with fail
  go_ret
  exact ⟨zbw HRES.o,HB4.o⟩
end Go.Proofs.YtjpnjchpdkogbaaGreatDoor
namespace Go.Proofs.YtjpnjchpdkogbaaGreatDoor
open Go.RowKit
theorem zgm : ∀ (f x:Nat),x<2 ^ f->x<2 ^ 64->x<2 ^ Lib.bitLen x
 | 0,x,h,_=>by
  rw [Nat.pow_zero] at h
  exact Nat.lt_of_lt_of_le h (Nat.two_pow_pos _)
 | f+1,x,h,hx=>by
  by_cases h0:x=0
  ·subst h0;exact Nat.two_pow_pos _
  ·rw [Lib.bitLen_half x h0 hx,Nat.pow_add,Nat.pow_one]
   have:=zgm f (x / 2) (by rw [Nat.pow_succ] at h;omega) (by omega)
   omega
theorem zjq : ∀ (f x:Nat),x<2 ^ f->x≠0->x<2 ^ 64 -> ∃ L,Lib.bitLen x=L+1/\2 ^ L<=x
 | 0,x,h,h0,_=>by rw [Nat.pow_zero] at h;omega
 | f+1,x,h,h0,hx=>by
  rw [Lib.bitLen_half x h0 hx]
  by_cases h1:x / 2=0
  ·refine ⟨0,?_,by rw [Nat.pow_zero];omega⟩
   rw [h1];rfl
  ·obtain ⟨L,e,hL⟩:=zjq f (x / 2) (by rw [Nat.pow_succ] at h;omega) h1 (by omega)
   refine ⟨L+1,by omega,?_⟩
   rw [Nat.pow_succ];omega
theorem zpv {x L:Nat}(h1:2 ^ L<=x)(h2:x<2 ^ (L+1)):x.testBit L=true:=by
 rw [Nat.testBit_eq_decide_div_mod_eq,decide_eq_true_eq]
 have hp:=Nat.two_pow_pos L
 rw [Nat.pow_succ] at h2
 have a1:1<=x / 2 ^ L:=(Nat.le_div_iff_mul_le hp).2 (by omega)
 have a2:x / 2 ^ L<2:=(Nat.div_lt_iff_lt_mul hp).2 (by omega)
 omega
theorem z1k {x y L:Nat}(h1:2 ^ L<=x)(h2:x<2 ^ (L+1))(h3:2 ^ L<=y)(h4:y<2 ^ (L+1)):x ^^^ y<2 ^ L:=by
 refine Nat.lt_pow_two_of_testBit _ fun i hi=>?_
 rw [Nat.testBit_xor]
 by_cases e:i=L
 ·subst e
  rw [zpv h1 h2,zpv h3 h4];rfl
 ·have hp:2 ^ (L+1)<=2 ^ i:=Nat.pow_le_pow_right (by omega) (by omega)
  rw [Nat.testBit_lt_two_pow (Nat.lt_of_lt_of_le h2 hp),Nat.testBit_lt_two_pow (Nat.lt_of_lt_of_le h4 hp)];rfl
def dvT (b:Nat):Nat->Nat->Nat->Nat × Nat
 | 0,q,a=>(q,a)
 | f+1,q,a=>if Lib.bitLen b<=Lib.bitLen a/\a≠0 then dvT b f (q ||| 2 ^ (Lib.bitLen a-Lib.bitLen b)) (a ^^^ b*2 ^ (Lib.bitLen a-Lib.bitLen b)) else (q,a)
theorem zpw {b a:Nat}(h : ¬ (Lib.bitLen b<=Lib.bitLen a/\a≠0))(f q:Nat):dvT b f q a=(q,a):=by
 cases f with
 | zero=>rfl
 | succ f=>unfold dvT;rw [if_neg h]
theorem z1l {b a:Nat}(h1:Lib.bitLen b<=Lib.bitLen a)(h2:a≠0)(f q:Nat):dvT b (f+1) q a=dvT b f (q ||| 2 ^ (Lib.bitLen a-Lib.bitLen b)) (a ^^^ b*2 ^ (Lib.bitLen a-Lib.bitLen b)):=by
 conv=>lhs;unfold dvT
 rw [if_pos ⟨h1,h2⟩]
theorem z1m {a b:Nat}(ha:a≠0)(hb:b≠0)(ha2:a<2 ^ 64)(hb2:b<2 ^ 64)(h:Lib.bitLen b<=Lib.bitLen a) :
  ∃ L,Lib.bitLen a=L+1/\b*2 ^ (Lib.bitLen a-Lib.bitLen b)<2 ^ (L+1)/\a ^^^ b*2 ^ (Lib.bitLen a-Lib.bitLen b)<2 ^ L:=by
 obtain ⟨L,eL,hL⟩:=zjq 64 a ha2 ha ha2
 obtain ⟨M,eM,hM⟩:=zjq 64 b hb2 hb hb2
 have a1:=zgm 64 a ha2 ha2
 have b1:=zgm 64 b hb2 hb2
 rw [eL] at a1 h ⊢
 rw [eM] at b1 h ⊢
 have hs:L+1-(M+1)=L-M:=by omega
 rw [hs]
 have hp:=Nat.two_pow_pos (L-M)
 have c1:2 ^ L<=b*2 ^ (L-M):=by
  have:2 ^ L=2 ^ M*2 ^ (L-M):=by rw [<- Nat.pow_add];congr 1;omega
  rw [this]
  exact Nat.mul_le_mul_right _ hM
 have c2:b*2 ^ (L-M)<2 ^ (L+1):=by
  have:2 ^ (L+1)=2 ^ (M+1)*2 ^ (L-M):=by rw [<- Nat.pow_add];congr 1;omega
  rw [this]
  exact (Nat.mul_lt_mul_right hp).2 b1
 exact ⟨L,rfl,c2,z1k hL a1 c1 c2⟩
theorem z1n (a b:Nat)(ha:a<9223372036854775808)(hb:b<9223372036854775808):bits .xor .i64 (a:Int) (b:Int)=((a ^^^ b:Nat):Int):=by
 have hx:a ^^^ b<2 ^ 63:=Nat.xor_lt_two_pow (by omega) (by omega)
 show IntKind.i64.wrap ((BitVec.ofInt 64 (a:Int) ^^^ BitVec.ofInt 64 (b:Int)).toNat:Int)=_
 rw [BitVec.toNat_xor,zds a ha,zds b hb,IntKind.wrap_i64]
 omega
theorem z1o (m v:Nat)(hm:m<2 ^ 41)(hv:v<41):bits BinOp.or IntKind.i64 (m:Int) (wrap64 (2 ^ v))=((m ||| 2 ^ v:Nat):Int):=by
 have h2:(2:Nat) ^ v<2 ^ 41:=Nat.pow_lt_pow_right (by omega) hv
 have e:wrap64 (2 ^ v)=((2 ^ v:Nat):Int):=by
  rw [show ((2:Int) ^ v)=((2 ^ v:Nat):Int) by simp]
  generalize 2 ^ v=x at h2
  unfold wrap64
  omega
 rw [e]
 exact zc1 m (2 ^ v) (by omega) (by omega)
def etB (xs:List Int)(n:Nat):Bool:=patB xs && decide ((dvT (mkN xs xs.length) 64 0 (2 ^ n-1)).2=0)
def twF (xs:List Int):Nat->Nat->Int
 | 0,_=>0
 | f+1,n=>if etB xs n then n else twF xs f (n+1)
def twoV (xs:List Int):Int:=twF xs 40 1
theorem zpx (xs:List Int) : ∀ (f n:Nat),f+n<=100->0<=twF xs f n/\twF xs f n<=100
 | 0,n,_=>⟨Int.le_refl _,by show (0:Int)<=100;omega⟩
 | f+1,n,h=>by
  unfold twF
  split
  ·omega
  ·exact zpx xs f (n+1) (by omega)
end Go.Proofs.YtjpnjchpdkogbaaGreatDoor
namespace Go.Proofs.YtjpnjchpdkogbaaGreatDoor
open Go.RowKit
theorem zpy {w:World}{ops:Array Oper}{rest:List Oper}{o:Oper}{a:Act}{Q:Exit->Act->World->Prop}(hgd:o.guard=none)(s x:Operand)
  (ho:o.op = .call { callee:=.builtin .append,args:=#[s,x],argTypes:=#[25,25] })
  (base:Nat) (v:Value) (xs:List Int) (hs:a.eval s=v) (hown:OwnI w base v xs) (A:Option Addr) (c:Nat) (ys:List Int) (hx:a.eval x = .slice A ys.length c)
  (hI:Ints w w.heap.size A ys) (hlen:xs.length+ys.length<=1000000000) (hbase:base<=w.heap.size)
  (h : ∀ v' w',OwnI w' base v' (xs++ys)->Below base w w'->wpList Tryz.prog ops Q rest (a.put o.dst v') w'):wpList Tryz.prog ops Q (o::rest) a w:=by
 by_cases h0:0<ys.length
 ·obtain ⟨b,off,rfl,hb,hc⟩:=hI.2.2 h0
  exact zr0 hgd s x ho base v xs hs hown b off c ys hx hc hlen hbase (fun v' w' h1 h2 _=>h v' w' h1 h2)
 ·have hy:ys=[]:=List.eq_nil_of_length_eq_zero (by omega)
  subst hy
  obtain ⟨i,hi,hz,hsz,hby⟩:=info_parts Tryz.infoInt
  obtain ⟨A1,c1,rfl⟩:=hown.form
  have hle:xs.length<=c1:=by
   rcases hown.2 with ⟨hv,h0⟩ | ⟨g,cap',cur,hv,_,hh,hnc,hm,hsz,hxs⟩
   ·omega
   ·injection hv with _ _ h3;omega
  have hsrc:Src Tryz.prog i.size 25 (.slice A ([]:List Int).length c) 0 [] w:=by
   cases A with
   | none=>exact Src.ofNil w Tryz.underlying25 c
   | some p=>exact Src.ofSlice w Tryz.underlying25 p 0 c [] (by simp) (fun j u hj=>by simp at hj) (fun u hu=>by cases hu)
  refine Lib.wpList_append_run w hgd s x _ _ ho _ _ hs hx _ _ (run_append_nothing w 25 25 o.type 3 i Tryz.underlying25 hi A1 xs.length c1 hle _ hsrc) ?_
  exact h _ w (by rw [List.append_nil];exact hown) (Below.refl _ _)
theorem z1p (w:World) :
  Calls Tryz.prog 224 #[.slice none 0 0,.int .i64 0] w fun e w'=>∃ v,e = .returned v/\OwnI w' w.heap.size v []/\Below w.heap.size w w':=by
 go_enter Tryz.func224,Tryz.ntmps224
 go_wp2_with fail
 go_ret
 exact ⟨_,rfl,OwnI.nil _ _,Below.refl _ _⟩
theorem z1q (n:Nat)(w:World)(h1:1<=n)(h2:n<=1000000) :
  Calls Tryz.prog 224 #[.slice none 0 0,.int .i64 n] w fun e w'=>∃ v,e = .returned v/\OwnI w' w.heap.size v []/\Below w.heap.size w w':=by
 obtain ⟨i,hi,hz,hsz,hby⟩:=info_parts Tryz.infoInt
 have hr:=fun ty=>Lib.run_append_nil_zeros (P:=Tryz.prog) w 25 3 ty 3 i (.int .i64 0) .i64 .i64 Tryz.underlying25 Tryz.underlying3 hi hz n h1 (by rw [hsz];omega) (by omega) (by rw [hby];omega)
 have hge:=grownCap_ge w n 0 3
 have hle:=grownCap_le_maxLen w n 0 3 (by unfold maxLen;omega)
 generalize grownCap w n 0 3=C at *
 have HOW:=Zh (show OwnI (w.drew.alloc (.cells (Builtin.zeroCells (Value.cells (.int .i64 0)) n++Builtin.zeroCells (Value.cells (.int .i64 0)) (C-n)) 3)) w.heap.size (.slice (some ⟨w.heap.size,0,none⟩) 0 C) [] from
  ⟨rfl,.inr ⟨w.heap.size,C,_,rfl,Nat.le_refl _,heap_alloc_new w.drew _,Nat.zero_le _,hle,by
   rw [Array.size_append,size_zeroCells,size_zeroCells]
   show n*1+(C-n)*1=C*1
   omega,rfl⟩⟩)
 have HBL:=Zh (show Below w.heap.size w (w.drew.alloc (.cells (Builtin.zeroCells (Value.cells (.int .i64 0)) n++Builtin.zeroCells (Value.cells (.int .i64 0)) (C-n)) 3)) from (show Below w.heap.size w w.drew from ⟨rfl,rfl,rfl,Nat.le_refl _,fun _ _=>rfl⟩).alloc (Nat.le_refl _) _)
 have hn0 : ¬ (n:Int)<0:=by omega
 have hn1:(0:Int)<(n:Int):=by omega
 have hw0:IntKind.i64.wrap (n:Int)=(n:Int):=i64w (by omega)
 have hC0:(0:Int)<=(C:Int):=Int.natCast_nonneg _
 generalize w.drew.alloc (.cells (Builtin.zeroCells (Value.cells (.int .i64 0)) n++Builtin.zeroCells (Value.cells (.int .i64 0)) (C-n)) 3)=W at *
 go_enter Tryz.func224,Tryz.ntmps224
 go_wp2_with (at_builtin;refine Lib.wpList_append_run _ rfl _ _ _ _ rfl _ _ rfl rfl _ _ (hr _) ?_)
 go_ret
 exact ⟨_,rfl,HOW.o,HBL.o⟩
theorem zpz (g:Nat)(A B:Option Addr)(ca cb:Nat)(xs ys:List Int)(w:World)(h0:w.cell? ⟨g,0,none⟩=some (.slice A xs.length ca))(h1:w.cell? ⟨g,1,none⟩=some (.slice B ys.length cb))(hg:g<w.heap.size)
  (hA:Ints w w.heap.size A xs)(hB:Ints w w.heap.size B ys)(hlx:xs.length<=1000)(hly:ys.length<=1000) :
  Calls Tryz.prog 162 #[.slice (some ⟨g,0,none⟩) 2 2] w fun e w'=>∃ v,e = .returned v/\OwnI w' w.heap.size v (xs++ys)/\Below w.heap.size w w':=by
 have HA:=Zh hA
 have HB:=Zh hB
 have hwx:IntKind.i64.wrap (xs.length:Int)=(xs.length:Int):=i64w (by omega)
 have hwy:IntKind.i64.wrap ((xs.length:Int)+(ys.length:Int))=(xs.length:Int)+(ys.length:Int):=i64w (by omega)
 have hx0 : ¬ (xs.length:Int)<0:=by omega
 have hy0 : ¬ (xs.length:Int)+(ys.length:Int)<0:=by omega
 have HGR:=Zh (fun V=>show Calls Tryz.prog 224 #[.slice none 0 0,.int .i64 ((xs.length:Int)+(ys.length:Int))] V fun e w'=>∃ v,e = .returned v/\OwnI w' V.heap.size v []/\Below V.heap.size V w' by
  rw [show (xs.length:Int)+(ys.length:Int)=((xs.length+ys.length:Nat):Int) by omega]
  rcases Nat.eq_zero_or_pos (xs.length+ys.length) with h | h
  ·rw [h];exact z1p V
  ·exact z1q (xs.length+ys.length) V h (by omega))
 clear hA hB
 go_enter Tryz.func162,Tryz.ntmps162
 go_wp2_with fail
 go_loop [3,11] (fun sz i=>(i = .int .i64 0/\sz = .int .i64 0)\/(i = .int .i64 1/\sz = .int .i64 xs.length)\/(i = .int .i64 2/\sz = .int .i64 ((xs.length:Int)+(ys.length:Int)))) (fun _ i=>2-(intOf i).toNat)
 case atStart=>exact .inl ⟨rfl,rfl⟩
 case round =>
  rcases hrel with ⟨rfl,rfl⟩ | ⟨rfl,rfl⟩ | ⟨rfl,rfl⟩
  ·go_wp2_with fail
   go_round
   case rel=>exact .inr (.inl ⟨by go_num,rfl⟩)
   case measure=>simp [intOf]
  ·go_wp2_with fail
   go_round
   case rel=>exact .inr (.inr ⟨by go_num,rfl⟩)
   case measure=>simp [intOf]
  ·go_wp2_with fail
   refine (HGR.o _).mono ?_
   rintro e w1 ⟨v1,rfl,hown1,hb1⟩
   obtain ⟨A1,c1,rfl⟩:=hown1.form
   have HO1:=Zh hown1
   have HB1:=Zh hb1
   clear hown1 hb1
   go_wp2_with fail
   go_loopw [6,27] (fun so i wr=>Below w.heap.size w wr/\((i = .int .i64 0/\OwnI wr w.heap.size so [])\/(i = .int .i64 1/\OwnI wr w.heap.size so xs)\/(i = .int .i64 2/\OwnI wr w.heap.size so (xs++ys)))) (fun _ i _=>2-(intOf i).toNat)
   case atStart=>exact ⟨HB1.o,.inl ⟨rfl,HO1.o⟩⟩
   case round =>
    obtain ⟨hbel,hrel⟩:=hrel
    obtain ⟨wo,rfl⟩ : ∃ wo:World,wo=wr:=⟨_,rfl⟩
    have HBE:=Zh hbel
    have hz:=hbel.size
    have hc0:=(hbel.cell (p:=⟨g,0,none⟩) hg).trans h0
    have hc1:=(hbel.cell (p:=⟨g,1,none⟩) hg).trans h1
    have HAO:=Zh (HA.o.lift hbel)
    have HBO:=Zh (HB.o.lift hbel)
    clear hbel h0 h1 HO1 HB1
    rcases hrel with ⟨rfl,hown⟩ | ⟨rfl,hown⟩ | ⟨rfl,hown⟩
    ·obtain ⟨A2,c2,rfl⟩:=hown.form
     have HO:=Zh hown
     clear hown
     go_wp2_with (at_builtin;refine zpy rfl (.tmp 31) (.tmp 32) rfl w.heap.size _ [] rfl HO.o A ca xs rfl HAO.o (by simp;omega) hz ?_;intro v2 w2 hown2 hb2)
     have HO2:=Zh hown2
     have HB2:=Zh (HBE.o.trans hb2)
     clear hown2 hb2
     go_wp2_with fail
     go_roundw
     case rel=>exact ⟨HB2.o,.inr (.inl ⟨by go_num,HO2.o⟩)⟩
     case measure=>simp [intOf]
    ·obtain ⟨A2,c2,rfl⟩:=hown.form
     have HO:=Zh hown
     clear hown
     go_wp2_with (at_builtin;refine zpy rfl (.tmp 31) (.tmp 32) rfl w.heap.size _ xs rfl HO.o B cb ys rfl HBO.o (by omega) hz ?_;intro v2 w2 hown2 hb2)
     have HO2:=Zh hown2
     have HB2:=Zh (HBE.o.trans hb2)
     clear hown2 hb2
     go_wp2_with fail
     go_roundw
     case rel=>exact ⟨HB2.o,.inr (.inr ⟨by go_num,HO2.o⟩)⟩
     case measure=>simp [intOf]
    ·have HO:=Zh hown
     clear hown
     go_wp2_with fail
     go_ret
     exact ⟨_,rfl,HO.o,HBE.o⟩
end Go.Proofs.YtjpnjchpdkogbaaGreatDoor
namespace Go.Proofs.YtjpnjchpdkogbaaGreatDoor
open Go.RowKit
theorem z1r (n m:Int)(A B:Option Addr)(ca cb:Nat)(a b:List Int)(w:World)(hn:Fits n)(hm:Fits m)(hA:Ints w w.heap.size A a)(hB:Ints w w.heap.size B b) :
  Calls Tryz.prog 163 #[.agg #[.int .i64 n,.slice A a.length ca],.agg #[.int .i64 m,.slice B b.length cb]] w fun e w'=>e = .returned (.bool (rhB n a && rhB m b && decide (n=m)))/\Below w.heap.size w w':=by
 have hal0:=(Below.refl w.heap.size w).alloc (Nat.le_refl _) (.cells #[.int .i64 n,.slice A a.length ca] 27)
 have hal1:=hal0.alloc hal0.size (.cells #[.int .i64 m,.slice B b.length cb] 27)
 have HC0:=Zh ((Cells2.new w (.int .i64 n) (.slice A a.length ca) 27).alloc (.cells #[.int .i64 m,.slice B b.length cb] 27))
 have HD0:=Zh (Cells2.new_at (w.alloc (.cells #[.int .i64 n,.slice A a.length ca] 27)) (.int .i64 m) (.slice B b.length cb) 27 (w.heap.size+1) (by simp))
 have HB0:=Zh hal1
 have HIA:=Zh (hA.lift hal1)
 have HIB:=Zh (hB.lift hal1)
 clear hA hB hal0 hal1
 obtain ⟨c0,c1,_,_,_⟩:=HC0.o
 obtain ⟨d0,d1,_,_,_⟩:=HD0.o
 have HR1:=Zh (fun V h=>zav n A ca a V hn h)
 have HR2:=Zh (fun V h=>zav m B cb b V hm h)
 cases h1:rhB n a
 ·rw [h1] at HR1
  clear h1
  go_enter Tryz.func163,Tryz.ntmps163
  go_wp2_with fail
  refine (HR1.o _ HIA.o).mono ?_
  rintro e w1 ⟨rfl,hb⟩
  have HB1:=Zh (HB0.o.trans (hb.mono HB0.o.size))
  clear hb
  go_wp2_with fail
  go_ret
  exact ⟨rfl,HB1.o⟩
 rw [h1] at HR1
 cases h2:rhB m b
 ·rw [h2] at HR2
  clear h1 h2
  go_enter Tryz.func163,Tryz.ntmps163
  go_wp2_with fail
  refine (HR1.o _ HIA.o).mono ?_
  rintro e w1 ⟨rfl,hb⟩
  have HB1:=Zh (HB0.o.trans (hb.mono HB0.o.size))
  have HI1:=Zh (HIB.o.lift hb)
  have HD1:=Zh (HD0.o.below hb HD0.o.2.2.2.2)
  clear hb d0 d1
  obtain ⟨d0,d1,_,_,_⟩:=HD1.o
  go_wp2_with fail
  refine (HR2.o _ HI1.o).mono ?_
  rintro e w2 ⟨rfl,hb⟩
  have HB2:=Zh (HB1.o.trans (hb.mono HB1.o.size))
  clear hb
  go_wp2_with fail
  go_ret
  exact ⟨rfl,HB2.o⟩
 rw [h2] at HR2
 clear h1 h2
 obtain ⟨q,hq⟩ : ∃ q:Bool,decide (n=m)=q:=⟨_,rfl⟩
 have HQ:=Zh hq
 have hq2:(n==m)=q:=by rw [<- hq];by_cases h:n=m <;> simp [h]
 clear hq
 go_enter Tryz.func163,Tryz.ntmps163
 go_wp2_with fail
 refine (HR1.o _ HIA.o).mono ?_
 rintro e w1 ⟨rfl,hb⟩
 have HB1:=Zh (HB0.o.trans (hb.mono HB0.o.size))
 have HI1:=Zh (HIB.o.lift hb)
 have HC1:=Zh (HC0.o.below hb HC0.o.2.2.2.2)
 have HD1:=Zh (HD0.o.below hb HD0.o.2.2.2.2)
 clear hb c0 c1 d0 d1
 obtain ⟨c0,c1,_,_,_⟩:=HC1.o
 obtain ⟨d0,d1,_,_,_⟩:=HD1.o
 go_wp2_with fail
 refine (HR2.o _ HI1.o).mono ?_
 rintro e w2 ⟨rfl,hb⟩
 have HB2:=Zh (HB1.o.trans (hb.mono HB1.o.size))
 have HC2:=Zh (HC1.o.below hb HC1.o.2.2.2.2)
 have HD2:=Zh (HD1.o.below hb HD1.o.2.2.2.2)
 clear hb c0 c1 d0 d1
 obtain ⟨c0,c1,_,_,_⟩:=HC2.o
 obtain ⟨d0,d1,_,_,_⟩:=HD2.o
 go_wp2_with fail
 go_ret
 exact ⟨zaq (by rw [HQ.o];simp),HB2.o⟩
end Go.Proofs.YtjpnjchpdkogbaaGreatDoor
namespace Go.Proofs.YtjpnjchpdkogbaaGreatDoor
open Go.RowKit
def joiL (N:Nat)(xs ys:List Int):List Int:=ofL (modL N (xs++ys) (xs++ys).length) N
def comV (k m:Int):Nat:=if inB k 1 12 && inB m 1 12 && decide (k.toNat / Nat.gcd k.toNat m.toNat*m.toNat<=24) then k.toNat / Nat.gcd k.toNat m.toNat*m.toNat else 0
def polV (k m:Int):Option (Nat × List Int):=if comV k m=0 then none else some (comV k m,joiL (comV k m) (layL (comV k m / k.toNat) k.toNat) (layL (comV k m / m.toNat) m.toNat))
theorem ze1 {N:Nat}{bs:List Int}(hok:RhOk N bs):bs.length<=N:=by
 have:=zfa N bs 0
 rwa [(zdt hok 0).2 (fun t ht=>by rw [show (t:Int)-0=t by omega,Int.emod_eq_of_lt (by omega) (by omega)])] at this
theorem zjr {N:Nat}(hN:1<=N)(xs:List Int):zak (modL N xs xs.length)=ofL (modL N xs xs.length) N:=by
 refine zcq (zcg _).1 (zdu _ _) fun x=>?_
 rw [(zcg _).2,zde]
 constructor
 ·intro hx
  obtain ⟨y,hy,rfl⟩:=zhj.1 hx
  have h0:=Int.emod_nonneg y (show (N:Int)≠0 by omega)
  have h1:=Int.emod_lt_of_pos y (show (0:Int)<N by omega)
  obtain ⟨t,ht⟩:=Int.eq_ofNat_of_zero_le h0
  refine ⟨t,by omega,?_,ht⟩
  unfold hasB
  rw [decide_eq_true_eq,<- ht]
  exact hx
 ·rintro ⟨t,ht,hb,rfl⟩
  unfold hasB at hb
  rwa [decide_eq_true_eq] at hb
theorem z1s (k m:Int)(w:World) :
  Calls Tryz.prog 107 #[.int .i64 k,.int .i64 m] w fun e w'=>e = .returned (.int .i64 (comV k m:Nat))/\Below w.heap.size w w':=by
 cases h1:inB k 1 12
 ·have HV:=Zh (show comV k m=0 by unfold comV;rw [h1];rfl)
  rw [HV.o]
  go_enter Tryz.func107,Tryz.ntmps107
  go_wp2_with (go_at_call 22;refine (zac _ _ _ _).mono ?_;rintro e w' ⟨rfl,rfl⟩)
  go_ret
  exact ⟨rfl,Below.refl _ _⟩
 ·cases h2:inB m 1 12
  ·have HV:=Zh (show comV k m=0 by unfold comV;rw [h1,h2];rfl)
   rw [HV.o]
   go_enter Tryz.func107,Tryz.ntmps107
   go_wp2_with (go_at_call 22;refine (zac _ _ _ _).mono ?_;rintro e w' ⟨rfl,rfl⟩)
   go_ret
   exact ⟨rfl,Below.refl _ _⟩
  ·have i1:=zan.1 h1
   have i2:=zan.1 h2
   obtain ⟨K,rfl⟩:=Int.eq_ofNat_of_zero_le (show 0<=k by omega)
   obtain ⟨M,rfl⟩:=Int.eq_ofNat_of_zero_le (show 0<=m by omega)
   have HG:=Zh (fun V=>zin K M V (by omega) (by omega))
   have hgp:0<Nat.gcd K M:=Nat.gcd_pos_of_pos_left _ (by omega)
   have hql:K / Nat.gcd K M<=K:=Nat.div_le_self _ _
   have hml:K / Nat.gcd K M*M<=12*12:=Nat.mul_le_mul (by omega) (by omega)
   have HV:=Zh (show comV K M=if decide (K / Nat.gcd K M*M<=24)=true then K / Nat.gcd K M*M else 0 by unfold comV;rw [h1,h2];rfl)
   generalize comV (K:Int) (M:Int)=C at *
   have hdv:Int.tdiv (K:Int) ((Nat.gcd K M:Nat):Int)=((K / Nat.gcd K M:Nat):Int):=by rw [Int.tdiv_eq_ediv_of_nonneg (by omega),Int.natCast_ediv]
   generalize Nat.gcd K M=G at *
   obtain ⟨Q,hQ⟩ : ∃ Q,K / G=Q:=⟨_,rfl⟩
   rw [hQ] at hdv hql hml HV
   have hwq:IntKind.i64.wrap (Q:Int)=(Q:Int):=i64w (by omega)
   have hpm:(Q:Int)*(M:Int)=((Q*M:Nat):Int):=by push_cast;rfl
   obtain ⟨P,hP⟩ : ∃ P,Q*M=P:=⟨_,rfl⟩
   rw [hP] at hpm hml HV
   have hwp:IntKind.i64.wrap ((Q:Int)*(M:Int))=(P:Int):=by rw [hpm];exact i64w (by omega)
   have hwp2:IntKind.i64.wrap (P:Int)=(P:Int):=i64w (by omega)
   have hg0:((G:Int)=0)=False:=eq_false (by omega)
   have hg1:(G=0)=False:=eq_false (by omega)
   have hg2:((G:Int)==0)=false:=beq_eq_false_iff_ne.2 (by omega)
   clear hQ hP i1 i2
   by_cases hc:P<=24
   ·have hci:(P:Int)<=24:=by omega
    rw [if_pos (decide_eq_true hc)] at HV
    rw [HV.o]
    go_enter Tryz.func107,Tryz.ntmps107
    go_wp2_with (first | (go_at_call 22;refine (zac _ _ _ _).mono ?_;rintro e w' ⟨rfl,rfl⟩) | (go_at_call 160;refine (HG.o _).mono ?_;rintro e w1 ⟨rfl,hb⟩))
    go_ret
    exact ⟨rfl,hb⟩
   ·have hci : ¬ (P:Int)<=24:=by omega
    rw [if_neg (by rw [decide_eq_true_eq];exact hc)] at HV
    rw [HV.o]
    go_enter Tryz.func107,Tryz.ntmps107
    go_wp2_with (first | (go_at_call 22;refine (zac _ _ _ _).mono ?_;rintro e w' ⟨rfl,rfl⟩) | (go_at_call 160;refine (HG.o _).mono ?_;rintro e w1 ⟨rfl,hb⟩))
    go_ret
    exact ⟨rfl,hb⟩
theorem z1t (N:Nat)(A B:Option Addr)(ca cb:Nat)(xs ys:List Int)(w:World)(hA:Ints w w.heap.size A xs)(hB:Ints w w.heap.size B ys)(hx:RhOk N xs)(hy:RhOk N ys) :
  Calls Tryz.prog 108 #[.agg #[.int .i64 N,.slice A xs.length ca],.agg #[.int .i64 N,.slice B ys.length cb]] w (RetRh2 w N (joiL N xs ys) true):=by
 have hn1:1<=N:=by have:=hx.1;omega
 have hn2:N<=24:=by have:=hx.2.1;omega
 have hlx:xs.length<=N:=ze1 hx
 have hly:ys.length<=N:=ze1 hy
 have hfN:Fits (N:Int):=by unfold Fits;omega
 have HS:=Zh (fun V h1 h2=>z1r N N A B ca cb xs ys V hfN hfN h1 h2)
 have HCC:=Zh (fun g V h0 h1 hg h2 h3=>zpz g A B ca cb xs ys V h0 h1 hg h2 h3 (by omega) (by omega))
 have hfx : ∀ x∈xs++ys,Fits x:=fun x hm=>by
  rcases List.mem_append.1 hm with h | h
  ·exact hA.2.1 x h
  ·exact hB.2.1 x h
 have HFX:=Zh hfx
 have hlxy:(xs++ys).length<=48:=by rw [List.length_append];omega
 have HRO:=Zh (fun (A2:Option Addr) (c2:Nat) V (hV:Ints V V.heap.size A2 (xs++ys))=>zjr hn1 (xs++ys) ▸ zdv N A2 c2 (xs++ys) V hV (by omega) (by omega) (by omega))
 rw [show ofL (modL N (xs++ys) (xs++ys).length) N=joiL N xs ys from rfl] at HRO
 generalize joiL N xs ys=J at *
 have HJ:=Zh hlxy
 generalize xs++ys=XY at *
 have hal0:=(Below.refl w.heap.size w).alloc (Nat.le_refl _) (.cells #[.int .i64 N,.slice A xs.length ca] 27)
 have hal1:=hal0.alloc hal0.size (.cells #[.int .i64 N,.slice B ys.length cb] 27)
 have hal2:=hal1.alloc hal1.size (.cells #[.int .i64 0,.slice none 0 0] 27)
 have HCA:=Zh (((Cells2.new w (.int .i64 N) (.slice A xs.length ca) 27).alloc (.cells #[.int .i64 N,.slice B ys.length cb] 27)).alloc (.cells #[.int .i64 0,.slice none 0 0] 27))
 have HCB:=Zh ((Cells2.new_at (w.alloc (.cells #[.int .i64 N,.slice A xs.length ca] 27)) (.int .i64 N) (.slice B ys.length cb) 27 (w.heap.size+1) (by simp)).alloc (.cells #[.int .i64 0,.slice none 0 0] 27))
 have HZ:=Zh (Cells2.new_at ((w.alloc (.cells #[.int .i64 N,.slice A xs.length ca] 27)).alloc (.cells #[.int .i64 N,.slice B ys.length cb] 27)) (.int .i64 0) (.slice none 0 0) 27 (w.heap.size+2) (by simp))
 have HB0:=Zh hal2
 have HIA:=Zh (hA.lift hal2)
 have HIB:=Zh (hB.lift hal2)
 obtain ⟨c0,c1,_,_,_⟩:=HCA.o
 obtain ⟨d0,d1,_,_,_⟩:=HCB.o
 clear hA hB hfx hal0 hal1 hal2
 rw [zao.2 hx,zao.2 hy] at HS
 simp only [decide_true,Bool.and_true] at HS
 clear hx hy
 go_enter Tryz.func108,Tryz.ntmps108
 go_wp2_with fail
 refine (HS.o _ HIA.o HIB.o).mono ?_
 rintro e w1 ⟨rfl,hb⟩
 have HB1:=Zh (HB0.o.trans (hb.mono HB0.o.size))
 have HCA1:=Zh (HCA.o.below hb HCA.o.2.2.2.2)
 have HCB1:=Zh (HCB.o.below hb HCB.o.2.2.2.2)
 have HZ1:=Zh (HZ.o.below hb HZ.o.2.2.2.2)
 have HIA1:=Zh (HIA.o.lift hb)
 have HIB1:=Zh (HIB.o.lift hb)
 clear hb
 have c0:=HCA1.o.1
 have c1:=HCA1.o.2.1
 have d1:=HCB1.o.2.1
 go_wp2_with fail
 (refine wp_region_held_drew (S:=(fun w'=>w'.cell? ⟨w.heap.size,0,none⟩=some (.int .i64 N)/\w'.cell? ⟨w.heap.size,1,none⟩=some (.slice A xs.length ca)/\w'.cell? ⟨w.heap.size+1,1,none⟩=some (.slice B ys.length cb))) (by kernel_rfl) ?_ (fun hHeld=>?_);(focus ((try dsimp only);exact ⟨c0,c1,d1⟩)))
 ((refine Zk 0 ?_;(try simp only [Act.put,Zz]));(refine Zk 1 ?_;(try simp only [Act.put,Zz]));(refine Zk 2 ?_;(try simp only [Act.put,Zz]));(refine Zk 3 ?_;(try simp only [Act.put,Zz]));(refine Zk 4 ?_;(try simp only [Act.put,Zz]));(refine Zk 5 ?_;(try simp only [Act.put,Zz])))
 have HW1:=Zh (show Below w1.heap.size w1 w1.drew from ⟨rfl,rfl,rfl,Nat.le_refl _,fun _ _=>rfl⟩)
 have HBd:=Zh (Below.drew5_ HB1.o)
 have HCAd:=Zh (show Cells2 w1.drew w.heap.size (.int .i64 N) (.slice A xs.length ca) from HCA1.o)
 have HCBd:=Zh (show Cells2 w1.drew (w.heap.size+1) (.int .i64 N) (.slice B ys.length cb) from HCB1.o)
 have HZd:=Zh (show Cells2 w1.drew (w.heap.size+2) (.int .i64 0) (.slice none 0 0) from HZ1.o)
 have HIAd:=Zh (HIA1.o.lift HW1.o)
 have HIBd:=Zh (HIB1.o.lift HW1.o)
 generalize w1.drew=wd at *
 (refine wpAnyH_ready (rs:=[6]) (by kernel_rfl) (by simp) ?_;refine AllReadyH.cons rfl (fun K hK=>?_) AllReadyH.nil;go_simp)
 have hb2:Below wd.heap.size wd (wd.alloc (.cells #[.slice A xs.length ca,.slice B ys.length cb] 25)):=(Below.refl wd.heap.size wd).alloc (Nat.le_refl _) _
 have HX2:=Zh (Cells2.new wd (.slice A xs.length ca) (.slice B ys.length cb) 25)
 have HB2:=Zh (HBd.o.trans (hb2.mono HBd.o.size))
 have HCA2:=Zh (HCAd.o.below hb2 HCAd.o.2.2.2.2)
 have HCB2:=Zh (HCBd.o.below hb2 HCBd.o.2.2.2.2)
 have HZ2:=Zh (HZd.o.below hb2 HZd.o.2.2.2.2)
 have HIA2:=Zh (HIAd.o.lift hb2)
 have HIB2:=Zh (HIBd.o.lift hb2)
 clear hb2
 generalize wd.alloc (.cells #[.slice A xs.length ca,.slice B ys.length cb] 25)=w2 at *
 (refine hK.out _ _ ?_ fun hHeld2=>?_;(focus ((try dsimp only);exact ⟨HCA2.o.1,HCA2.o.2.1,HCB2.o.2.1⟩));(clear hK K);(try simp only [Act.put,Zz]))
 (refine wpAnyH_ready (rs:=[7]) (by kernel_rfl) (by simp) ?_;refine AllReadyH.cons rfl (fun K hK=>?_) AllReadyH.nil;go_simp)
 go_at_call 162
 refine (HCC.o _ _ HX2.o.1 HX2.o.2.1 HX2.o.2.2.2.2 HIA2.o HIB2.o).mono ?_
 rintro e w3 ⟨v3,rfl,hown,hb⟩
 obtain ⟨A3,c3,rfl⟩:=hown.form
 have HB3:=Zh (HB2.o.trans (hb.mono HB2.o.size))
 have HCA3:=Zh (HCA2.o.below hb HCA2.o.2.2.2.2)
 have HCB3:=Zh (HCB2.o.below hb HCB2.o.2.2.2.2)
 have HZ3:=Zh (HZ2.o.below hb HZ2.o.2.2.2.2)
 have HI3:=Zh (hown.ints HFX.o)
 clear hb hown
 go_wp2_with fail
 (refine hK.out _ _ ?_ fun hHeld2=>?_;(focus ((try dsimp only);exact ⟨HCA3.o.1,HCA3.o.2.1,HCB3.o.2.1⟩));(clear hK K);(try simp only [Act.put,Zz]))
 (refine wpAnyH_ready (rs:=[8]) (by kernel_rfl) (by simp) ?_;refine AllReadyH.cons rfl (fun K hK=>?_) AllReadyH.nil;go_simp)
 go_at_call 97
 refine (HRO.o A3 c3 _ HI3.o).mono ?_
 rintro e w4 ⟨A4,c4,rfl,hr4,hb⟩
 have HB4:=Zh (HB3.o.trans (hb.mono HB3.o.size))
 have HCA4:=Zh (HCA3.o.below hb HCA3.o.2.2.2.2)
 have HCB4:=Zh (HCB3.o.below hb HCB3.o.2.2.2.2)
 have HZ4:=Zh (HZ3.o.below hb HZ3.o.2.2.2.2)
 have hlt:w.heap.size+2<w3.heap.size:=HZ3.o.2.2.2.2
 have HR4:=Zh hr4
 clear hb hr4
 go_wp2_with fail
 (refine hK.out _ _ ?_ fun hHeld2=>?_;(focus ((try dsimp only);exact ⟨HCA4.o.1,HCA4.o.2.1,HCB4.o.2.1⟩));(clear hK K);(try simp only [Act.put,Zz]))
 obtain ⟨z0,z1,y0,y1,_⟩:=HZ4.o
 have HF4:=Zh ((HB4.o.setCell (p:=⟨w.heap.size+2,0,none⟩) (by show w.heap.size<=w.heap.size+2;omega) (.int .i64 N)).setCell (p:=⟨w.heap.size+2,1,none⟩) (by show w.heap.size<=w.heap.size+2;omega) (.slice A4 J.length c4))
 have HZ5:=Zh ((HZ4.o.set0 (.int .i64 N)).set1 (.slice A4 J.length c4))
 have HCA5:=Zh ((HCA4.o.far (p:=⟨w.heap.size+2,0,none⟩) (by show w.heap.size≠w.heap.size+2;omega) (.int .i64 N)).far (p:=⟨w.heap.size+2,1,none⟩) (by show w.heap.size≠w.heap.size+2;omega) (.slice A4 J.length c4))
 have HCB5:=Zh ((HCB4.o.far (p:=⟨w.heap.size+2,0,none⟩) (by show w.heap.size+1≠w.heap.size+2;omega) (.int .i64 N)).far (p:=⟨w.heap.size+2,1,none⟩) (by show w.heap.size+1≠w.heap.size+2;omega) (.slice A4 J.length c4))
 (refine wpAnyH_ready (rs:=[9]) (by kernel_rfl) (by simp) ?_;refine AllReadyH.cons rfl (fun K hK=>?_) AllReadyH.nil;go_simp)
 (refine hK.out _ _ ?_ fun hHeld2=>?_;(focus ((try dsimp only);exact ⟨HCA5.o.1,HCA5.o.2.1,HCB5.o.2.1⟩));(clear hK K);(try simp only [Act.put,Zz]))
 (refine Zk 10 ?_;(try simp only [Act.put,Zz]))
 refine wpAnyH_done (by kernel_rfl) ?_ _
 obtain ⟨x0,x1,_,_,_⟩:=HZ5.o
 go_wp2_with fail
 refine bodyPost_ret (v:=.tuple #[.agg #[.int .i64 N,.slice A4 J.length c4],.bool true]) (by simp [results,Tryz.results108,go_sem,x0,x1]) rfl ?_
 exact ⟨A4,c4,rfl,((HR4.o.far (p:=⟨w.heap.size+2,0,none⟩) hlt _).far (p:=⟨w.heap.size+2,1,none⟩) hlt _).mono (by omega),HF4.o⟩
theorem zp0 {k U n:Nat}(hk:1<=k)(hU:1<=U)(hn:k*U=n)(h24:n<=24):RhOk n (layL U k):=by
 have h1:1<=n:=by rw [<- hn];exact Nat.mul_pos hk hU
 refine ⟨by omega,by omega,fun i hi=>?_,fun i hi=>?_⟩
 ·rw [zbg] at hi
  rw [zf2 U hi]
  have:i*U<n:=by rw [<- hn];exact (Nat.mul_lt_mul_right (by omega)).2 hi
  omega
 ·rw [zbg] at hi
  rw [zf2 U (by omega:i<k),zf2 U hi,Nat.add_mul]
  omega
theorem RW.fitsP {w:World}{base:Nat}{A:Option Addr}{N:Nat}{bs:List Int}(h:RW w base A bs)(hok:RhOk N bs):Ints w w.heap.size A bs :=
 h.ints fun x hx=>by
  have h1:=zba hok x hx
  have h2:=hok.2.1
  unfold Fits
  omega
theorem zp1 {k m:Int}(h:comV k m≠0) : ∃ K M U V:Nat,k=K/\m=M/\1<=K/\1<=M/\1<=U/\1<=V/\K*U=comV k m/\M*V=comV k m/\comV k m<=24/\comV k m / K=U/\comV k m / M=V:=by
 unfold comV at h ⊢
 cases hc:(inB k 1 12 && inB m 1 12 && decide (k.toNat / Nat.gcd k.toNat m.toNat*m.toNat<=24)) with
 | false=>rw [hc] at h;exact absurd rfl h
 | true =>
  rw [if_pos rfl]
  rw [Bool.and_eq_true,Bool.and_eq_true,decide_eq_true_eq] at hc
  have i1:=zan.1 hc.1.1
  have i2:=zan.1 hc.1.2
  obtain ⟨K,rfl⟩:=Int.eq_ofNat_of_zero_le (show 0<=k by omega)
  obtain ⟨M,rfl⟩:=Int.eq_ofNat_of_zero_le (show 0<=m by omega)
  have h24:=hc.2
  simp only [Int.toNat_natCast] at h24 ⊢
  have hg:0<Nat.gcd K M:=Nat.gcd_pos_of_pos_left _ (by omega)
  obtain ⟨Q,hQ⟩:=Nat.gcd_dvd_left K M
  obtain ⟨R,hR⟩:=Nat.gcd_dvd_right K M
  have hq:K / Nat.gcd K M=Q:=by
   conv=>lhs;lhs;rw [hQ]
   rw [Nat.mul_div_cancel_left _ hg]
  rw [hq] at h24 ⊢
  have hQp:1<=Q:=by
   rcases Nat.eq_zero_or_pos Q with h0 | h0
   ·rw [h0,Nat.mul_zero] at hQ;omega
   ·exact h0
  have hRp:1<=R:=by
   rcases Nat.eq_zero_or_pos R with h0 | h0
   ·rw [h0,Nat.mul_zero] at hR;omega
   ·exact h0
  have e1:K*R=Q*M:=by
   calc K*R=(Nat.gcd K M*Q)*R:=by rw [<- hQ]
    _=Q*(Nat.gcd K M*R):=by rw [Nat.mul_comm (Nat.gcd K M) Q,Nat.mul_assoc]
    _=Q*M:=by rw [<- hR]
  have e2:M*Q=Q*M:=Nat.mul_comm _ _
  refine ⟨K,M,R,Q,rfl,rfl,by omega,by omega,hRp,hQp,e1,e2,h24,?_,?_⟩
  ·rw [<- e1,Nat.mul_div_cancel_left _ (by omega)]
  ·rw [<- e2,Nat.mul_div_cancel_left _ (by omega)]
theorem zp2 {N:Nat}{xs ys:List Int}(h1:1<=N)(h2:N<=24):RhOk N (joiL N xs ys):=zfd _ h1 h2
theorem z1u (k m:Int)(w:World) :
  Calls Tryz.prog 49 #[.int .i64 k,.int .i64 m] w (RetRhO w (polV k m)):=by
 have HCP:=Zh (fun V=>z1s k m V)
 have HZ0:=Zh (Cells2.new w (.int .i64 0) (.slice none 0 0) 27)
 have HB0:=Zh ((Below.refl w.heap.size w).alloc (Nat.le_refl _) (.cells #[.int .i64 0,.slice none 0 0] 27))
 by_cases h0:comV k m=0
 ·rw [show polV k m=none by unfold polV;rw [if_pos h0]]
  rw [h0] at HCP
  clear h0
  go_enter Tryz.func49,Tryz.ntmps49
  go_wp2_with fail
  refine (HCP.o _).mono ?_
  rintro e w1 ⟨rfl,hb⟩
  have HB1:=Zh (HB0.o.trans (hb.mono HB0.o.size))
  have HZ1:=Zh (HZ0.o.below hb HZ0.o.2.2.2.2)
  clear hb
  obtain ⟨z0,z1,_,_,_⟩:=HZ1.o
  go_wp2_with fail
  refine bodyPost_ret (v:=.tuple #[.agg #[.int .i64 0,.slice none 0 0],.bool false]) (by simp [results,Tryz.results49,go_sem,z0,z1]) rfl ?_
  exact RetRhO.none_ ((HB1.o.setCell (p:=⟨w.heap.size,0,none⟩) (Nat.le_refl _) _).setCell (p:=⟨w.heap.size,1,none⟩) (Nat.le_refl _) _)
 ·obtain ⟨K,M,U,V,rfl,rfl,hK,hM,hU,hV,eK,eM,h24,dK,dM⟩:=zp1 h0
  have HPV:=Zh (show polV K M=some (comV K M,joiL (comV K M) (layL U K) (layL V M)) by
   unfold polV
   rw [if_neg h0,Int.toNat_natCast,Int.toNat_natCast,dK,dM])
  rw [HPV.o]
  generalize comV K M=C at *
  have hokK:=zp0 hK hU eK h24
  have hokM:=zp0 hM hV eM h24
  have HLK:=Zh (fun W=>zih K U C W hK hU eK h24)
  have HLM:=Zh (fun W=>zih M V C W hM hV eM h24)
  have HJ:=Zh (fun (A B:Option Addr) (ca cb:Nat) W h1 h2=>z1t C A B ca cb (layL U K) (layL V M) W h1 h2 hokK hokM)
  have HOK:=Zh (And.intro hokK hokM)
  generalize joiL C (layL U K) (layL V M)=J at *
  generalize layL U K=XK at *
  generalize layL V M=XM at *
  have hc0:((C:Int)=0)=False:=eq_false (by omega)
  have hc1:(C=0)=False:=eq_false (by omega)
  have hc2:((C:Int)==0)=false:=beq_eq_false_iff_ne.2 (by omega)
  clear hokK hokM HPV dK dM eK eM h0
  go_enter Tryz.func49,Tryz.ntmps49
  go_wp2_with fail
  refine (HCP.o _).mono ?_
  rintro e w1 ⟨rfl,hb⟩
  have HB1:=Zh (HB0.o.trans (hb.mono HB0.o.size))
  have HZ1:=Zh (HZ0.o.below hb HZ0.o.2.2.2.2)
  clear hb
  go_wp2_with fail
  refine (HLK.o _).mono ?_
  rintro e w2 ⟨A2,c2,rfl,hr,hb⟩
  have HB2:=Zh (HB1.o.trans (hb.mono HB1.o.size))
  have HZ2:=Zh (HZ1.o.below hb HZ1.o.2.2.2.2)
  have HI2:=Zh (hr.fitsP HOK.o.1)
  clear hb hr
  go_wp2_with fail
  refine (HLM.o _).mono ?_
  rintro e w3 ⟨A3,c3,rfl,hr,hb⟩
  have HB3:=Zh (HB2.o.trans (hb.mono HB2.o.size))
  have HZ3:=Zh (HZ2.o.below hb HZ2.o.2.2.2.2)
  have HI3:=Zh (hr.fitsP HOK.o.2)
  have HI23:=Zh (HI2.o.lift hb)
  have hlt:w.heap.size<w3.heap.size:=HZ3.o.2.2.2.2
  clear hb hr
  go_wp2_with fail
  refine (HJ.o _ _ _ _ _ HI23.o HI3.o).mono ?_
  rintro e w4 ⟨A4,c4,rfl,hr4,hb⟩
  have HB4:=Zh (HB3.o.trans (hb.mono HB3.o.size))
  have HZ4:=Zh (HZ3.o.below hb HZ3.o.2.2.2.2)
  have HR4:=Zh hr4
  clear hb hr4
  obtain ⟨z0,z1,y0,y1,_⟩:=HZ4.o
  have HZ5:=Zh ((HZ4.o.set0 (.int .i64 C)).set1 (.slice A4 J.length c4))
  obtain ⟨x0,x1,_,_,_⟩:=HZ5.o
  have HF4:=Zh ((HB4.o.setCell (p:=⟨w.heap.size,0,none⟩) (Nat.le_refl _) (.int .i64 C)).setCell (p:=⟨w.heap.size,1,none⟩) (Nat.le_refl _) (.slice A4 J.length c4))
  go_wp2_with fail
  refine bodyPost_ret (v:=.tuple #[.agg #[.int .i64 C,.slice A4 J.length c4],.bool true]) (by simp [results,Tryz.results49,go_sem,x0,x1]) rfl ?_
  exact ⟨A4,c4,rfl,((HR4.o.far (p:=⟨w.heap.size,0,none⟩) hlt _).far (p:=⟨w.heap.size,1,none⟩) hlt _).mono (by omega),HF4.o⟩
end Go.Proofs.YtjpnjchpdkogbaaGreatDoor
