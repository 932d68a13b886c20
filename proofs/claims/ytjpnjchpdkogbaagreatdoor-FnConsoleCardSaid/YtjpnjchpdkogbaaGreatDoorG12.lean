/- Parts of the proof of the card of the law FnConsole. -/
import Derived.Test.YtjpnjchpdkogbaaGreatDoorG11
import Derived.Test.YtjpnjchpdkogbaaGreatDoorTabU
import Derived.Test.YtjpnjchpdkogbaaGreatDoorG10
import Derived.Test.YtjpnjchpdkogbaaGreatDoorG08
import Derived.Test.YtjpnjchpdkogbaaGreatDoorChecked
import Derived.Shelf.Strings.SlTrimAscii
import Derived.Test.YtjpnjchpdkogbaaGreatDoorG04
import Derived.Test.YtjpnjchpdkogbaaGreatDoorG05
set_option linter.unusedVariables false
set_option linter.unusedSimpArgs false
set_option maxRecDepth 100000
set_option maxHeartbeats 2000000
namespace Go.Proofs.YtjpnjchpdkogbaaGreatDoor
open Go.RowKit
def zck (s:ByteArray):Option (List Int × Int):=if s.size<=60 then zdi (chr s) s.size else none
def zvo (w:World)(r:Option (List Int × Int))(e:Ending)(w':World):Prop :=
 ∃ (A:Option Addr) (cap:Nat) (p:List Int) (dd:Int) (ok:Bool),e = .returned (.tuple #[.agg #[.slice A p.length cap,.int .i64 dd],.bool ok])/\Ints w' w'.heap.size A p/\Below w.heap.size w w' /\
  (ok=true->r=some (p,dd))/\(ok=false->r=none/\p=[]/\A=none/\cap=0/\dd=0)
theorem zm1 {w:World}{B:Nat}{A:Option Addr}{xs:List Int}(h:Ints w B A xs)(p:Addr)(u:Value)(hp : ∀ b off,A=some ⟨b,off,none⟩->b≠p.block):Ints (w.setCell p u) B A xs:=by
 refine ⟨h.1,h.2.1,fun hn=>?_⟩
 obtain ⟨b,off,e,hb,hc⟩:=h.2.2 hn
 have hh:(w.setCell p u).heap[b]? = w.heap[b]?:=Below.heap_setCell w p u b (hp b off e)
 exact ⟨b,off,e,hb,fun i hi=>by rw [World.cell?_of_block (a:=⟨b,off+i,none⟩) hh];exact hc i hi⟩
theorem zvp (s:ByteArray)(w:World)(hs:s.size<=maxLen) :
  Calls Tryz.prog 208 #[.string s] w (zvo w (zck s)):=by
 unfold maxLen at hs
 obtain ⟨R,hR⟩ : ∃ R,zck s=R:=⟨_,rfl⟩
 rw [hR]
 have HR:=Zh hR
 clear hR
 by_cases h60:s.size<=60
 ·have hrd : ∀ V:World,Calls Tryz.prog 248 #[.string s,.int .i64 0,.int .i64 0] V (zeq V (rowR (chr s) s.size 3 0)):=fun V=>by
   have:=zm0 s h60 3 (by omega) 0 V (Nat.zero_le _)
   simpa using this
  have HRD:=Zh hrd
  have HS:=Zh (show zck s=zdi (chr s) s.size from if_pos h60)
  clear hrd
  go_enter Tryz.func208,Tryz.ntmps208
  go_wp2_with fail
  refine (HRD.o _).mono ?_
  rintro e w1 ⟨A2,c2,p,dd,en,ok,rfl,hI,hb,hok,hno,hfr⟩
  have hz:=hb.size
  simp only [World.size_alloc] at hz
  have HC:=Zh (((Cells2.new w (.slice none 0 0) (.int .i64 0) 162).below hb (by simp)).alloc (.cells #[.slice A2 p.length c2,.int .i64 dd] 162))
  have HG:=Zh (Cells2.new w1 (.slice A2 p.length c2) (.int .i64 dd) 162)
  have HBE:=Zh ((((Below.refl w.heap.size w).alloc (Nat.le_refl _) _).trans (hb.mono (by simp))).alloc (by omega) (.cells #[.slice A2 p.length c2,.int .i64 dd] 162))
  have HI:=Zh (hI.alloc (Nat.le_refl _) (.cells #[.slice A2 p.length c2,.int .i64 dd] 162))
  have HOK:=Zh hok
  have HNO:=Zh hno
  have hpl:p.length<=9223372036854775807:=by have:=hI.1;unfold maxLen at this;omega
  clear hI hb hok hno
  obtain ⟨f0,f1,f2,f3,f4⟩:=HC.o
  obtain ⟨m0,m1,m2,m3,m4⟩:=HG.o
  cases ok
  ·have HRES:=Zh (show R=none by rw [<- HR.o,HS.o];unfold zdi;rw [(HNO.o rfl).1])
   go_wp2_with fail
   refine bodyPost_ret (v:=.tuple #[.agg #[.slice none 0 0,.int .i64 0],.bool false]) (by simp [results,Tryz.results208,go_sem,f0,f1]) rfl ⟨none,0,[],0,false,rfl,zcc _ _ _,?_,(fun h=>by cases h),fun _=>⟨HRES.o,rfl,rfl,rfl,rfl⟩⟩
   exact (HBE.o.setCell (Nat.le_refl _) _).setCell (Nat.le_refl _) _
  ·obtain ⟨e1,hr,rfl⟩:=HOK.o rfl
   have HRG:=Zh hr
   clear hr
   by_cases he:e1<s.size
   ·have HRES:=Zh (show R=none by rw [<- HR.o,HS.o];unfold zdi;rw [HRG.o];exact if_pos (.inl he))
    go_wp2_with fail
    refine bodyPost_ret (v:=.tuple #[.agg #[.slice none 0 0,.int .i64 0],.bool false]) (by simp [results,Tryz.results208,go_sem,f0,f1]) rfl ⟨none,0,[],0,false,rfl,zcc _ _ _,?_,(fun h=>by cases h),fun _=>⟨HRES.o,rfl,rfl,rfl,rfl⟩⟩
    exact (HBE.o.setCell (Nat.le_refl _) _).setCell (Nat.le_refl _) _
   by_cases hp:500<p.length
   ·have HRES:=Zh (show R=none by rw [<- HR.o,HS.o];unfold zdi;rw [HRG.o];exact if_pos (.inr hp))
    go_wp2_with fail
    refine bodyPost_ret (v:=.tuple #[.agg #[.slice none 0 0,.int .i64 0],.bool false]) (by simp [results,Tryz.results208,go_sem,f0,f1]) rfl ⟨none,0,[],0,false,rfl,zcc _ _ _,?_,(fun h=>by cases h),fun _=>⟨HRES.o,rfl,rfl,rfl,rfl⟩⟩
    exact (HBE.o.setCell (Nat.le_refl _) _).setCell (Nat.le_refl _) _
   ·have HRES:=Zh (show R=some (p,dd) by rw [<- HR.o,HS.o];unfold zdi;rw [HRG.o];exact if_neg (by omega))
    go_wp2_with fail
    refine bodyPost_ret (v:=.tuple #[.agg #[.slice A2 p.length c2,.int .i64 dd],.bool true]) (by simp [results,Tryz.results208,go_sem,f0,f1]) rfl ⟨A2,c2,p,dd,true,rfl,?_,?_,(fun _=>HRES.o),fun h=>by cases h⟩
    ·exact zm1 (zm1 (HI.o.mono (by simp [World.setCell])) ⟨w.heap.size,0,none⟩ _ (fun b off h=>by have:=hfr b (by rw [h];rfl);simp at this;simp;omega)) ⟨w.heap.size,1,none⟩ _ (fun b off h=>by have:=hfr b (by rw [h];rfl);simp at this;simp;omega)
    ·exact (HBE.o.setCell (Nat.le_refl _) _).setCell (Nat.le_refl _) _
 ·have HRES:=Zh (show R=none by rw [<- HR.o];exact if_neg h60)
  go_enter Tryz.func208,Tryz.ntmps208
  go_wp2_with fail
  refine bodyPost_ret (v:=.tuple #[.agg #[.slice none 0 0,.int .i64 0],.bool false]) (by simp [results,Tryz.results208,go_sem]) rfl ⟨none,0,[],0,false,rfl,zcc _ _ _,?_,(fun h=>by cases h),fun _=>⟨HRES.o,rfl,rfl,rfl,rfl⟩⟩
  exact (by repeat (first | exact Below.refl _ _ | assumption | (refine Below.alloc ?_ (by first | exact Nat.le_refl _ | (simp;done) | (simp;omega) | omega) _) | (refine Below.drew ?_) | (refine Below.setCell ?_ (by first | exact Nat.le_refl _ | (simp;done) | (simp;omega) | omega) _)))
end Go.Proofs.YtjpnjchpdkogbaaGreatDoor
namespace Go.Proofs.YtjpnjchpdkogbaaGreatDoor
end Go.Proofs.YtjpnjchpdkogbaaGreatDoor
namespace Go.Proofs.YtjpnjchpdkogbaaGreatDoor
open Go.RowKit
def letL (s:ByteArray)(p:List Int):List UInt8:=p.map (fun x=>s.data.toList.getD x.toNat 0)
theorem zim (s:ByteArray)(p:List Int):(letL s p).length=p.length:=by simp [letL]
theorem zvq (s:ByteArray)(j:Nat)(h:j<s.size):s.data.toList.getD j 0=s[j]:=by
 rw [List.getD_eq_getElem?_getD,Array.getElem?_toList,Array.getElem?_eq_getElem (by simpa using h)]
 rfl
theorem zm2 {s:ByteArray}{p:List Int}{d:Int}(h:zck s=some (p,d)):s.size<=60/\p.length<=500 /\ ∀ x∈p,0<=x/\x<s.size:=by
 unfold zck at h
 by_cases h60:s.size<=60
 ·rw [if_pos h60] at h
  unfold zdi at h
  cases hr:rowR (chr s) s.size 3 0 with
  | none=>rw [hr] at h;cases h
  | some r =>
   obtain ⟨p',d',e⟩:=r
   rw [hr] at h
   simp only at h
   have hp:=zik (chr s) s.size 3 0 p' d' e (Nat.zero_le _) hr
   by_cases h4:e<s.size\/500<p'.length
   ·rw [if_pos h4] at h;cases h
   ·rw [if_neg h4] at h
    injection h with h
    injection h with e1 e2
    subst e1
    exact ⟨h60,by omega,fun x hx=>(hp.2.2.2.2.2.1 x hx).1⟩
 ·rw [if_neg h60] at h;cases h
theorem zvr (s:ByteArray)(A:Option Addr)(c:Nat)(p:List Int)(dd:Int)(w:World)(hs:s.size<=60\/p=[])(hI:Ints w w.heap.size A p)(hl:p.length<=500)(hp : ∀ x∈p,0<=x/\x<s.size) :
  Calls Tryz.prog 209 #[.agg #[.slice A p.length c,.int .i64 dd],.string s] w fun e w'=>e = .returned (.string (mkS (letL s p)))/\Below w.heap.size w w':=by
 have hmk:=fun W:World=>zkh p.length (by omega) W
 have HC:=Zh hI.2.2
 have HP:=Zh hp
 have HS:=Zh hs
 clear hI hp hs
 obtain ⟨c0,c1⟩:=box2 (Below.refl (w.heap.size+1) (w.alloc (.cells #[.slice A p.length c,.int .i64 dd] 162)))
 go_enter Tryz.func209,Tryz.ntmps209
 go_wp2
 have hnew:=zkg (w.alloc (.cells #[.slice A p.length c,.int .i64 dd] 162)) p.length 5
 simp only [World.size_alloc] at hnew
 go_loopw [15] (fun i wr=>∃ k:Nat,k<=p.length/\i = .int .i64 k/\TabU wr (w.heap.size+1) p.length (fun t=>if t<k then (letL s p).getD t 0 else 0)/\Below w.heap.size w wr) (fun i _=>p.length-(intOf i).toNat)
 case atStart=>exact ⟨0,Nat.zero_le _,rfl,hnew.congr (fun t _=>by simp),((Below.refl _ _).alloc (Nat.le_refl _) _).alloc (by first | exact Nat.le_refl _ | (simp;done) | (simp;omega) | omega) _⟩
 case round =>
  obtain ⟨k,hk,rfl,htab,hbel⟩:=hrel
  by_cases hlt:k<p.length
  ·obtain ⟨b,off,rfl,hB,hc⟩:=HC.o (by omega)
   have hcell:=hc k hlt
   rw [<- hbel.cell (p:=⟨b,off+k,none⟩) hB] at hcell
   have hx0:=HP.o (p.getD k 0) (by rw [List.getD_eq_getElem?_getD,List.getElem?_eq_getElem hlt];exact List.getElem_mem hlt)
   obtain ⟨x,hx⟩ : ∃ x,p.getD k 0=x:=⟨_,rfl⟩
   rw [hx] at hcell hx0
   obtain ⟨hxa,hxb⟩:=hx0
   obtain ⟨j,rfl⟩:=Int.eq_ofNat_of_zero_le hxa
   have hj:j<s.size:=by omega
   have h60:s.size<=60:=by
    rcases HS.o with h | h
    ·exact h
    ·rw [h] at hlt;simp at hlt
   have hto:wr.cell? ⟨w.heap.size+1,k,none⟩=some (.int .u8 0):=by simpa using (htab.2 k hlt).1
   have hfr:=htab.frz hlt
   have HX:=Zh hx
   have hget:(letL s p).getD k 0=s[j]:=by
    unfold letL
    rw [List.getD_eq_getElem?_getD,List.getElem?_map,List.getElem?_eq_getElem hlt]
    have:p[k]=(j:Int):=by rw [<- hx,List.getD_eq_getElem?_getD,List.getElem?_eq_getElem hlt];rfl
    simp only [Option.map_some,Option.getD_some,this,Int.toNat_natCast]
    exact zvq s j hj
   have HG:=Zh hget
   clear hx hc hget
   go_wp2
   go_roundw
   case rel =>
    refine ⟨k+1,by omega,by go_num,(htab.set_ k s[j] hlt _ rfl).congr (fun t ht=>?_),hbel.setCell (by simp) _⟩
    by_cases h:t=k
    ·subst h;rw [if_pos rfl,if_pos (by omega),HG.o]
    ·rw [if_neg h]
     by_cases h2:t<k
     ·rw [if_pos h2,if_pos (by omega)]
     ·rw [if_neg h2,if_neg (by omega)]
   case measure=>simp [intOf];omega
  ·have hend:=htab.congr (g:=fun t=>(letL s p).getD t 0) (fun t ht=>by rw [if_pos (by omega)])
   have hcv:=hend.string p.length
   have hL:tabL p.length (fun t=>(letL s p).getD t 0)=letL s p:=by
    refine List.ext_getElem? fun i=>?_
    by_cases hi:i<p.length
    ·rw [zkf hi,List.getD_eq_getElem?_getD,List.getElem?_eq_getElem (by rw [zim];exact hi)];rfl
    ·rw [List.getElem?_eq_none (by rw [zgz];omega),List.getElem?_eq_none (by rw [zim];omega)]
   rw [hL] at hcv
   clear hL htab hend
   go_wp2
   go_ret
   exact ⟨rfl,hbel⟩
def plaV (s:ByteArray):List UInt8:=match zck s with
 | none=>[]
 | some r=>letL s r.1
theorem zvs (s:ByteArray)(w:World)(hs:s.size<=maxLen) :
  Calls Tryz.prog 142 #[.string s] w fun e w'=>e = .returned (.string (mkS (plaV s)))/\Below w.heap.size w w':=by
 have HRS:=Zh (fun V=>zvp s V hs)
 have HV:=Zh (show plaV s=match zck s with | none=>[] | some r=>letL s r.1 from rfl)
 have HPL:=Zh (fun p d (h:zck s=some (p,d))=>zm2 h)
 generalize plaV s=n at HV ⊢
 generalize zck s=R at HRS HV HPL
 go_enter Tryz.func142,Tryz.ntmps142
 go_wp2_with fail
 refine (HRS.o _).mono ?_
 rintro e w1 ⟨A,c,p,dd,ok,rfl,hI,hb,hok,hno⟩
 have hv:n=letL s p/\(s.size<=60\/p=[])/\p.length<=500 /\ ∀ x∈p,0<=x/\x<s.size:=by
  cases ok
  ·obtain ⟨h1,h2,_⟩:=hno rfl
   rw [HV.o,h1,h2]
   exact ⟨rfl,.inr rfl,by simp,fun x hx=>by cases hx⟩
  ·have h1:=hok rfl
   obtain ⟨h2,h3,h4⟩:=HPL.o p dd h1
   rw [HV.o,h1]
   exact ⟨rfl,.inl h2,h3,h4⟩
 have HVV:=Zh hv
 have HB:=Zh (hb.alloc hb.size (.cells #[.slice A p.length c,.int .i64 dd] 162))
 have HI:=Zh ((hI.alloc (Nat.le_refl _) (.cells #[.slice A p.length c,.int .i64 dd] 162)).mono (B':=(w1.alloc (.cells #[.slice A p.length c,.int .i64 dd] 162)).heap.size) (by simp))
 clear hok hno hv hb hI
 go_wp2_with fail
 refine (zvr s A c p dd _ HVV.o.2.1 HI.o HVV.o.2.2.1 HVV.o.2.2.2).mono ?_
 rintro e w2 ⟨rfl,hb2⟩
 go_wp2_with fail
 go_ret
 exact ⟨by rw [HVV.o.1];rfl,HB.o.trans (hb2.mono HB.o.size)⟩
end Go.Proofs.YtjpnjchpdkogbaaGreatDoor
namespace Go.Proofs.YtjpnjchpdkogbaaGreatDoor
open Go.RowKit
theorem zvt (b g gw off cap:Nat)(n:Int)(R:Value)(bad:Bool)(us:List ByteArray)(z:Int)(T:ByteArray)(w:World)(hC:Con w g n R (.slice (some ⟨gw,off,none⟩) us.length cap) bad)(hW:Wds w gw off us)(hi:1<us.length)
  (hs : ∀ u∈us,u.size<=1048576)(hl:us.length<=1048577)(hE : ∀ V,Frm (zaa g) w V->Errs V)(hP : ∀ V,Frm (zaa g) w V->Pow V)(hgw:gw≠g)(hbl:b<w.heap.size)(hbg:b≠g)(hbx:w.cell? ⟨b,0,none⟩=some (.pointer (some ⟨g,0,none⟩)))
  (hF : ∀ V,Frm (zaa g) w V->Calls Tryz.prog 78 #[.int .i64 ((zab (us.getD 0 ⟨#[]⟩)).getD 0),.int .i64 ((zab (us.getD 1 ⟨#[]⟩)).getD 0)] V fun e w'=>e = .returned (.int .i64 z)/\Below V.heap.size V w')
  (hG : ∀ V,Frm (zaa g) w V->Calls Tryz.prog 64 #[.int .i64 z] V fun e w'=>e = .returned (.string T)/\Below V.heap.size V w') :
  Calls Tryz.prog 77 #[.pointer (some ⟨b,0,none⟩)] w fun e w'=>e = .returned (.string T)/\Con w' g n R (.slice (some ⟨gw,off,none⟩) us.length cap) ((bad || !(zab (us.getD 0 ⟨#[]⟩)).isSome) || !(zab (us.getD 1 ⟨#[]⟩)).isSome)/\Frm (zaa g) w w':=by
 have hfd:Frm (zaa g) w w.drew:=⟨rfl,rfl,rfl,Nat.le_refl _,fun _ _ _=>rfl⟩
 have HN:=Zh (zbm g gw off 0 cap n R bad us w.drew hC hW (by omega) hs hl (hE _ hfd) (hP _ hfd))
 have HM:=Zh (fun V bd (hf:Frm (zaa g) w V) (hc:Con V g n R (.slice (some ⟨gw,off,none⟩) us.length cap) bd)=>zbm g gw off 1 cap n R bd us V hc (hW.frm hf (fun e=>hgw e)) hi hs hl (hE _ hf) (hP _ hf))
 have HF:=Zh hF
 have HG:=Zh hG
 have hgl0:=hC.1
 generalize zab (us.getD 0 ⟨#[]⟩)=o0 at *
 generalize zab (us.getD 1 ⟨#[]⟩)=o1 at *
 generalize us.length=L at *
 clear hF hG hW hs hE hP hC
 go_enter Tryz.func77,Tryz.ntmps77
 go_wp2_with fail
 (refine wp_region_held_drew (S:=(fun w'=>w'.cell? ⟨b,0,none⟩=some (.pointer (some ⟨g,0,none⟩)))) (by kernel_rfl) ?_ (fun hHeld=>?_);(focus ((try dsimp only);exact hbx)))
 ((refine Zk 0 ?_;(try simp only [Act.put,Zz]));(refine Zk 2 ?_;(try simp only [Act.put,Zz])))
 (refine wpAnyH_ready (rs:=[1]) (by kernel_rfl) (by simp) ?_;refine AllReadyH.cons rfl (fun K hK=>?_) AllReadyH.nil;go_simp)
 go_at_call 29
 refine HN.o.mono ?_
 rintro e w1 ⟨rfl,hc1,hf0⟩
 have hf1:Frm (zaa g) w w1:=hfd.trans hf0
 have HX1:=Zh hf1
 have HM1:=Zh (HM.o w1 _ hf1 hc1)
 have hbx1:w1.cell? ⟨b,0,none⟩=some (.pointer (some ⟨g,0,none⟩)):=(hf1.cell hbl (fun e=>hbg e)).trans hbx
 clear hc1 hf1 hf0
 go_wp2_with fail
 (refine hK.out _ _ ?_ fun hHeld2=>?_;(focus ((try dsimp only);exact hbx1));(clear hK K);(try simp only [Act.put,Zz]))
 (refine wpAnyH_ready (rs:=[3]) (by kernel_rfl) (by simp) ?_;refine AllReadyH.cons rfl (fun K hK=>?_) AllReadyH.nil;go_simp)
 go_at_call 29
 refine HM1.o.mono ?_
 rintro e w2 ⟨rfl,hc2,hf0⟩
 have hf2:Frm (zaa g) w w2:=HX1.o.trans hf0
 have HC2:=Zh hc2
 have HX2:=Zh hf2
 have hbx2:w2.cell? ⟨b,0,none⟩=some (.pointer (some ⟨g,0,none⟩)):=(hf2.cell hbl (fun e=>hbg e)).trans hbx
 clear hc2 hf2 hf0
 go_wp2_with fail
 (refine hK.out _ _ ?_ fun hHeld2=>?_;(focus ((try dsimp only);exact hbx2));(clear hK K);(try simp only [Act.put,Zz]))
 (refine wpAnyH_ready (rs:=[4]) (by kernel_rfl) (by simp) ?_;refine AllReadyH.cons rfl (fun K hK=>?_) AllReadyH.nil;go_simp)
 go_at_call 78
 refine (HF.o _ HX2.o).mono ?_
 rintro e w3 ⟨rfl,hb3⟩
 have HX3:=Zh (HX2.o.trans (Frm.pure hb3 (zaa g)))
 have HC3:=Zh (HC2.o.below hb3)
 have hbx3:w3.cell? ⟨b,0,none⟩=some (.pointer (some ⟨g,0,none⟩)):=(HX3.o.cell hbl (fun e=>hbg e)).trans hbx
 clear hb3
 go_wp2_with fail
 (refine hK.out _ _ ?_ fun hHeld2=>?_;(focus ((try dsimp only);exact hbx3));(clear hK K);(try simp only [Act.put,Zz]))
 (refine wpAnyH_ready (rs:=[5]) (by kernel_rfl) (by simp) ?_;refine AllReadyH.cons rfl (fun K hK=>?_) AllReadyH.nil;go_simp)
 go_at_call 64
 refine (HG.o _ HX3.o).mono ?_
 rintro e w4 ⟨rfl,hb4⟩
 have HX4:=Zh (HX3.o.trans (Frm.pure hb4 (zaa g)))
 have HC4:=Zh (HC3.o.below hb4)
 have hbx4:w4.cell? ⟨b,0,none⟩=some (.pointer (some ⟨g,0,none⟩)):=(HX4.o.cell hbl (fun e=>hbg e)).trans hbx
 clear hb4
 go_wp2_with fail
 (refine hK.out _ _ ?_ fun hHeld2=>?_;(focus ((try dsimp only);exact hbx4));(clear hK K);(try simp only [Act.put,Zz]))
 (refine Zk 6 ?_;(try simp only [Act.put,Zz]))
 refine wpAnyH_done (by kernel_rfl) ?_ _
 go_wp2_with fail
 go_ret
 exact ⟨rfl,HC4.o,HX4.o⟩
theorem zvu (g gw off cap:Nat)(n:Int)(R:Value)(bad:Bool)(us:List ByteArray)(w:World)(hC:Con w g n R (.slice (some ⟨gw,off,none⟩) us.length cap) bad)(hW:Wds w gw off us)(hi:0<us.length)
  (hs : ∀ u∈us,u.size<=1048576)(hE:Errs w)(hP:Pow w)(hM:MaxL w)(hok : ∀ N bs,brhV ((zcj (us.getD 0 ⟨#[]⟩)).getD [])=some (N,bs)->RhOk N bs) :
  Calls Tryz.prog 50 #[.pointer (some ⟨g,0,none⟩)] w fun e w'=>e = .returned (.string (becT (brhV ((zcj (us.getD 0 ⟨#[]⟩)).getD []))))/\Bec w' g n R (.slice (some ⟨gw,off,none⟩) us.length cap) bad (brhV ((zcj (us.getD 0 ⟨#[]⟩)).getD []))/\Frm (zaa g) w w':=by
 have hcw:=hW.2 0 hi
 rw [Nat.add_zero] at hcw
 have hu0:(0:Int)<(us.length:Int):=by omega
 have hus:=hs (us.getD 0 ⟨#[]⟩) (by rw [List.getD_eq_getElem?_getD,List.getElem?_eq_getElem hi];exact List.getElem_mem hi)
 have HPB:=Zh (zu9 (us.getD 0 ⟨#[]⟩) w hus hE hP hM)
 have HBR:=Zh (fun (A:Option Addr) (c:Nat) V h=>zu3 A c ((zcj (us.getD 0 ⟨#[]⟩)).getD []) V h)
 have HOK:=Zh hok
 have HC:=Zh hC
 obtain ⟨c0,c1,c2,c3,c4,c5,c6,c7,c8⟩:=hC
 clear hok hW hs hE hP hM hus
 generalize brhV ((zcj (us.getD 0 ⟨#[]⟩)).getD [])=o at *
 generalize zcj (us.getD 0 ⟨#[]⟩)=ob at *
 generalize us.getD 0 ⟨#[]⟩=u at *
 generalize us.length=L at *
 go_enter Tryz.func50,Tryz.ntmps50
 go_wp2_with fail
 refine HPB.o.mono ?_
 rintro e w1 ⟨A1,k1,rfl,hown,hft,hb1⟩
 have HC1:=Zh (HC.o.below hb1)
 have HF1:=Zh (Frm.pure hb1 (zaa g))
 have HI1:=Zh (hown.ints hft)
 clear c0 c1 c2 c3 c4 c5 c6 c7 c8 hcw hb1 hown hft
 go_wp2_with fail
 refine (HBR.o A1 k1 w1 HI1.o).mono ?_
 rintro e w2 ⟨A2,k2,rfl,hr2,hb2⟩
 have HBC:=Zh (zbc g n R (.slice (some ⟨gw,off,none⟩) L cap) bad o A2 k2 w1.heap.size w2 (HC1.o.below hb2) hr2 HC1.o.1 HOK.o)
 have HF2:=Zh (HF1.o.trans (Frm.pure hb2 (zaa g)))
 clear hb2 hr2
 go_wp2_with fail
 refine HBC.o.mono ?_
 rintro e w3 ⟨rfl,hbec,hf3⟩
 have HBE:=Zh hbec
 have HF3:=Zh (HF2.o.trans hf3)
 clear hbec hf3
 go_wp2_with fail
 go_ret
 exact ⟨rfl,HBE.o,HF3.o⟩
def plaT (u:ByteArray):ByteArray:=if plaV u=[] then noneS else mkS (plaV u)
theorem zvv (g gw off cap:Nat)(n:Int)(R:Value)(bad:Bool)(us:List ByteArray)(w:World)(hC:Con w g n R (.slice (some ⟨gw,off,none⟩) us.length cap) bad)(hW:Wds w gw off us)(hi:0<us.length)(hs : ∀ u∈us,u.size<=1048576) :
  Calls Tryz.prog 79 #[.pointer (some ⟨g,0,none⟩)] w fun e w'=>e = .returned (.string (plaT (us.getD 0 ⟨#[]⟩)))/\Con w' g n R (.slice (some ⟨gw,off,none⟩) us.length cap) bad/\Frm (zaa g) w w':=by
 have hcw:=hW.2 0 hi
 rw [Nat.add_zero] at hcw
 have hu0:(0:Int)<(us.length:Int):=by omega
 have hus:=hs (us.getD 0 ⟨#[]⟩) (by rw [List.getD_eq_getElem?_getD,List.getElem?_eq_getElem hi];exact List.getElem_mem hi)
 have HPL:=Zh (zvs (us.getD 0 ⟨#[]⟩) w (by unfold maxLen;omega))
 have HV:=Zh (show plaT (us.getD 0 ⟨#[]⟩)=if plaV (us.getD 0 ⟨#[]⟩)=[] then noneS else mkS (plaV (us.getD 0 ⟨#[]⟩)) from rfl)
 have HC:=Zh hC
 obtain ⟨c0,c1,c2,c3,c4,c5,c6,c7,c8⟩:=hC
 clear hW hs hus
 generalize plaT (us.getD 0 ⟨#[]⟩)=T at *
 generalize plaV (us.getD 0 ⟨#[]⟩)=P at *
 generalize us.getD 0 ⟨#[]⟩=u at *
 generalize us.length=L at *
 cases P with
 | nil =>
  have HV:=Zh (show T=noneS by rw [HV.o];rfl)
  go_enter Tryz.func79,Tryz.ntmps79
  go_wp2_with fail
  refine HPL.o.mono ?_
  rintro e w1 ⟨rfl,hb1⟩
  have HC1:=Zh (HC.o.below hb1)
  have HF1:=Zh (Frm.pure hb1 (zaa g))
  clear c0 c1 c2 c3 c4 c5 c6 c7 c8 hcw hb1
  have he:(mkS []).toList.isEmpty=true:=by rw [Lib.toList_data];rfl
  have he2:(mkS []).toList=[]:=by rw [Lib.toList_data];rfl
  go_wp2_with fail
  go_ret
  rw [HV.o]
  exact ⟨rfl,HC1.o,HF1.o⟩
 | cons c r =>
  have HV:=Zh (show T=mkS (c::r) by rw [HV.o];rfl)
  obtain ⟨P,hPc⟩ : ∃ P,c::r=P:=⟨_,rfl⟩
  rw [hPc] at HV HPL
  have hP0:P≠[]:=by rw [<- hPc];exact List.cons_ne_nil _ _
  clear hPc
  go_enter Tryz.func79,Tryz.ntmps79
  go_wp2_with fail
  refine HPL.o.mono ?_
  rintro e w1 ⟨rfl,hb1⟩
  have HC1:=Zh (HC.o.below hb1)
  have HF1:=Zh (Frm.pure hb1 (zaa g))
  clear c0 c1 c2 c3 c4 c5 c6 c7 c8 hcw hb1
  have he1:(mkS P).toList≠[]:=by rw [Lib.toList_data];show P.toArray.toList≠[];simpa using hP0
  have he2:((mkS P).toList==[])=false:=beq_eq_false_iff_ne.2 he1
  have he3:((mkS P).toList=[])=False:=eq_false he1
  have he4:(mkS P).toList.isEmpty=false:=by rw [List.isEmpty_eq_false_iff];exact he1
  have he5:((mkS P).toList==(⟨#[]⟩:ByteArray).toList)=false:=by rw [show (⟨#[]⟩:ByteArray).toList=[] by rw [Lib.toList_data]];exact he2
  go_wp2_with fail
  go_ret
  rw [HV.o]
  exact ⟨rfl,HC1.o,HF1.o⟩
theorem zvw {xs t:List Int}{g:Int}(h:qntV xs g=some t):t.length<=1048576:=by
 unfold qntV at h
 cases hq:qokB xs g with
 | false=>rw [hq] at h;cases h
 | true =>
  rw [hq] at h
  have e:qnL xs g xs.length=t:=Option.some.inj h
  subst e
  unfold qokB tmsB at hq
  simp only [Bool.and_eq_true,decide_eq_true_eq] at hq
  obtain ⟨⟨hl,_⟩,_⟩:=hq
  unfold qnL mpL
  rw [List.length_map,List.length_take]
  omega
def qntT (xs:List Int)(g:Int):ByteArray:=match qntV xs g with | none=>noneS | some t=>mkS (za0 t)
theorem zvx (g gw off cap:Nat)(n:Int)(R:Value)(bad:Bool)(us:List ByteArray)(w:World)(hC:Con w g n R (.slice (some ⟨gw,off,none⟩) us.length cap) bad)(hW:Wds w gw off us)(hi:1<us.length)
  (hs : ∀ u∈us,u.size<=1048576)(hl:us.length<=1048577)(hE : ∀ V,Frm (zaa g) w V->Errs V)(hP : ∀ V,Frm (zaa g) w V->Pow V)(hgw:gw≠g) :
  Calls Tryz.prog 80 #[.pointer (some ⟨g,0,none⟩)] w fun e w'=>e = .returned (.string (qntT ((zal (us.getD 1 ⟨#[]⟩)).getD []) ((zab (us.getD 0 ⟨#[]⟩)).getD 0)))/\Con w' g n R (.slice (some ⟨gw,off,none⟩) us.length cap) ((bad || !(zab (us.getD 0 ⟨#[]⟩)).isSome) || !(zal (us.getD 1 ⟨#[]⟩)).isSome)/\Frm (zaa g) w w':=by
 have hfd:Frm (zaa g) w w:=Frm.refl _ _
 have HN:=Zh (zbm g gw off 0 cap n R bad us w hC hW (by omega) hs hl (hE _ hfd) (hP _ hfd))
 have HM:=Zh (fun V bd (hf:Frm (zaa g) w V) (hc:Con V g n R (.slice (some ⟨gw,off,none⟩) us.length cap) bd)=>zfw g gw off 1 cap n R bd us V hc (hW.frm hf (fun e=>hgw e)) hi hs hl (hE _ hf) (hP _ hf))
 have HQ:=Zh (fun (A:Option Addr) (c:Nat) V h=>zvg A c ((zal (us.getD 1 ⟨#[]⟩)).getD []) ((zab (us.getD 0 ⟨#[]⟩)).getD 0) V h)
 have HV:=Zh (show qntT ((zal (us.getD 1 ⟨#[]⟩)).getD []) ((zab (us.getD 0 ⟨#[]⟩)).getD 0)=match qntV ((zal (us.getD 1 ⟨#[]⟩)).getD []) ((zab (us.getD 0 ⟨#[]⟩)).getD 0) with | none=>noneS | some t=>mkS (za0 t) from rfl)
 have HP:=Zh hP
 have HQL:=Zh (fun t (h:qntV ((zal (us.getD 1 ⟨#[]⟩)).getD []) ((zab (us.getD 0 ⟨#[]⟩)).getD 0)=some t)=>zvw h)
 generalize qntT ((zal (us.getD 1 ⟨#[]⟩)).getD []) ((zab (us.getD 0 ⟨#[]⟩)).getD 0)=T at *
 generalize qntV ((zal (us.getD 1 ⟨#[]⟩)).getD []) ((zab (us.getD 0 ⟨#[]⟩)).getD 0)=qo at *
 generalize zab (us.getD 0 ⟨#[]⟩)=o0 at *
 generalize zal (us.getD 1 ⟨#[]⟩)=o1 at *
 generalize us.length=L at *
 clear hfd hW hs hE hP hC
 go_enter Tryz.func80,Tryz.ntmps80
 go_wp2_with fail
 refine HN.o.mono ?_
 rintro e w1 ⟨rfl,hc1,hf1⟩
 have HX1:=Zh hf1
 have HM1:=Zh (HM.o w1 _ hf1 hc1)
 clear hc1 hf1
 go_wp2_with fail
 refine HM1.o.mono ?_
 rintro e w2 ⟨⟨A2,k2,rfl,hown,hft⟩,hc2,hf2⟩
 have HX2:=Zh (HX1.o.trans hf2)
 have HC2:=Zh hc2
 have HI2:=Zh ((hown.ints hft))
 clear hc2 hf2 hown hft
 go_wp2_with fail
 refine (HQ.o A2 k2 w2 HI2.o).mono ?_
 rintro e w3 ⟨A3,k3,rfl,hown,hft,hb3⟩
 have HX3:=Zh (HX2.o.trans (Frm.pure hb3 (zaa g)))
 have HC3:=Zh (HC2.o.below hb3)
 have HI3:=Zh (hown.ints hft)
 clear hb3 hown hft
 cases qo with
 | none =>
  have HV:=Zh (show T=noneS from HV.o)
  go_wp2_with fail
  go_ret
  rw [HV.o]
  exact ⟨rfl,HC3.o,HX3.o⟩
 | some t =>
  have HV:=Zh (show T=mkS (za0 t) from HV.o)
  have HFN:=Zh (zfr A3 k3 t w3 HI3.o (HQL.o t rfl) (HP.o _ HX3.o))
  go_wp2_with fail
  refine HFN.o.mono ?_
  rintro e w4 ⟨rfl,hb4⟩
  go_wp2_with fail
  go_ret
  rw [HV.o]
  exact ⟨rfl,HC3.o.below hb4,HX3.o.trans (Frm.pure hb4 _)⟩
end Go.Proofs.YtjpnjchpdkogbaaGreatDoor
namespace Go.Proofs.YtjpnjchpdkogbaaGreatDoor
open Go.Shelf
def Tryz.lays160_ren:Go.Shelf.Ren:=⟨fun | 160=>23 | 232=>86 | 231=>85 | 227=>87 | 234=>89 | 233=>88 | 236=>91 | 235=>90 | 228=>146 | 271=>149 | 151=>148 | 197=>147 | 120=>214 | 152=>213 | 260=>212 | 137=>251 | 119=>252 | 224=>217 | 225=>216 | 217=>215 | 266=>253 | n=>n,fun | 9=>9 | 4=>4 | 3=>3 | 5=>5 | 117=>86 | 116=>85 | 0=>0 | 124=>89 | 21=>21 | 105=>124 | 46=>122 | 119=>194 | 139=>197 | 138=>196 | n=>n,fun | 3=>1 | 4=>2 | n=>n⟩
theorem Tryz.lays160:Go.Proofs.Lays.n160 Tryz.prog Tryz.lays160_ren:={
 mixed:=by kernel_rfl
 f119:=Tryz.func252.trans (congrArg some (by kernel_rfl))
 f120:=Tryz.func214.trans (congrArg some (by kernel_rfl))
 f137:=Tryz.func251.trans (congrArg some (by kernel_rfl))
 f151:=Tryz.func148.trans (congrArg some (by kernel_rfl))
 f152:=Tryz.func213.trans (congrArg some (by kernel_rfl))
 f160:=Tryz.func23.trans (congrArg some (by kernel_rfl))
 f197:=Tryz.func147.trans (congrArg some (by kernel_rfl))
 f217:=Tryz.func215.trans (congrArg some (by kernel_rfl))
 f224:=Tryz.func217.trans (congrArg some (by kernel_rfl))
 f225:=Tryz.func216.trans (congrArg some (by kernel_rfl))
 f227:=Tryz.func87.trans (congrArg some (by kernel_rfl))
 f228:=Tryz.func146.trans (congrArg some (by kernel_rfl))
 f231:=Tryz.func85.trans (congrArg some (by kernel_rfl))
 f232:=Tryz.func86.trans (congrArg some (by kernel_rfl))
 f233:=Tryz.func88.trans (congrArg some (by kernel_rfl))
 f234:=Tryz.func89.trans (congrArg some (by kernel_rfl))
 f235:=Tryz.func90.trans (congrArg some (by kernel_rfl))
 f236:=Tryz.func91.trans (congrArg some (by kernel_rfl))
 f260:=Tryz.func212.trans (congrArg some (by kernel_rfl))
 f266:=Tryz.func253.trans (congrArg some (by kernel_rfl))
 f271:=Tryz.func149.trans (congrArg some (by kernel_rfl))
 t0:=Tryz.underlying0
 a0:=Tryz.isAgg0
 z0:=Tryz.sizeOf0
 v0:=Tryz.zeroValue0
 t3:=Tryz.underlying3
 a3:=Tryz.isAgg3
 z3:=Tryz.sizeOf3
 v3:=Tryz.zeroValue3
 t4:=Tryz.underlying4
 a4:=Tryz.isAgg4
 z4:=Tryz.sizeOf4
 v4:=Tryz.zeroValue4
 t5:=Tryz.underlying5
 a5:=Tryz.isAgg5
 z5:=Tryz.sizeOf5
 v5:=Tryz.zeroValue5
 t9:=Tryz.underlying9
 a9:=Tryz.isAgg9
 z9:=Tryz.sizeOf9
 v9:=Tryz.zeroValue9
 t21:=Tryz.underlying21
 a21:=Tryz.isAgg21
 z21:=Tryz.sizeOf21
 v21:=Tryz.zeroValue21
 t46:=Tryz.underlying122
 a46:=Tryz.isAgg122
 z46:=Tryz.sizeOf122
 v46:=Tryz.zeroValue122
 t105:=Tryz.underlying124
 a105:=Tryz.isAgg124
 z105:=Tryz.sizeOf124
 v105:=Tryz.zeroValue124
 t116:=Tryz.underlying85
 a116:=Tryz.isAgg85
 z116:=Tryz.sizeOf85
 t117:=Tryz.underlying86
 a117:=Tryz.isAgg86
 z117:=Tryz.sizeOf86
 v117:=Tryz.zeroValue86
 t119:=Tryz.underlying194
 a119:=Tryz.isAgg194
 z119:=Tryz.sizeOf194
 t124:=Tryz.underlying89
 a124:=Tryz.isAgg89
 z124:=Tryz.sizeOf89
 v124:=Tryz.zeroValue89
 t138:=Tryz.underlying196
 a138:=Tryz.isAgg196
 z138:=Tryz.sizeOf196
 v138:=Tryz.zeroValue196
 t139:=Tryz.underlying197
 a139:=Tryz.isAgg197
 z139:=Tryz.sizeOf197
 v139:=Tryz.zeroValue197
 g3:=by kernel_rfl
 g4:=by kernel_rfl }
end Go.Proofs.YtjpnjchpdkogbaaGreatDoor
namespace Go.Proofs.YtjpnjchpdkogbaaGreatDoor
open Go.RowKit Go.Shelf
theorem Tryz.info116:(Tryz.prog.info? (Tryz.lays160_ren.t 116)).map (fun i=>(i.zero,i.size))=some (some (.agg (Array.replicate 256 (.bool false))),256):=by kernel_rfl
def posX (s:ByteArray)(q:Nat):List Int:=((List.range q).filter (fun t:Nat=>decide (chr s t=120))).map Int.ofNat
theorem zvy {s:ByteArray}{q:Nat}(h:chr s q=120):posX s (q+1)=posX s q++[(q:Int)]:=by
 unfold posX;rw [List.range_succ,List.filter_append];simp [h]
theorem zvz {s:ByteArray}{q:Nat}(h:chr s q≠120):posX s (q+1)=posX s q:=by
 unfold posX;rw [List.range_succ,List.filter_append];simp [h]
theorem zv0 (s:ByteArray)(q:Nat):(posX s q).length<=q:=by
 unfold posX
 rw [List.length_map]
 exact Nat.le_trans (List.length_filter_le _ _) (by simp)
theorem zm3 (s:ByteArray)(w:World)(h1:1<=s.size)(h2:s.size<=24)(ht:Lib.trimS s.data.toList [120,46]=[]) :
  Calls Tryz.prog 11 #[.string s] w (RetRh2 w s.size (posX s s.size) true):=by
 have hin:inB (s.size:Int) 1 24=true:=za1 ⟨by omega,by omega⟩
 have htr:=fun V:World=>Any.strings_Trim_laid Tryz.lays160 Tryz.info116 s ⟨#[120,46]⟩ V (by omega) (by decide) (ascii_of_all (by decide))
 rw [show (⟨#[120,46]⟩:ByteArray).data.toList=[120,46] from rfl,ht] at htr
 have HTR:=Zh htr
 have HC1:=Zh (Cells2.new w (.int .i64 0) (.slice none 0 0) 27)
 clear htr
 go_enter Tryz.func11,Tryz.ntmps11
 go_wp2_with (first
  | (go_at_call 22;refine (zac _ _ _ _).mono ?_;rintro e w' ⟨rfl,rfl⟩)
  | (go_at_call 23;refine (HTR.o _).mono ?_;rintro e w1 ⟨rfl,hb1⟩))
 have hz1:w.heap.size+1<=w1.heap.size:=by have:=hb1.size;simpa using this
 have HB1:=Zh (((Below.refl w.heap.size w).alloc (Nat.le_refl _) (.cells #[.int .i64 0,.slice none 0 0] 27)).trans (hb1.mono (by simp)))
 have HC2:=Zh (HC1.o.below hb1 (by simp))
 clear hb1
 obtain ⟨h,hh⟩ : ∃ h,w1.heap.size=h:=⟨_,rfl⟩
 rw [hh] at hz1 ⊢
 have HH:=Zh hh
 clear hh
 go_loopw [21] (fun sp wr=>∃ (q:Nat) (v:Value),q<=s.size/\sp = .int .i64 q/\Cells2 wr h (.int .i64 s.size) v/\OwnI wr (h+1) v (posX s q)/\(∃ u1 u2,Cells2 wr w.heap.size u1 u2)/\Below w.heap.size w wr/\h+1<=wr.heap.size) (fun sp _=>s.size-(intOf sp).toNat)
 case atStart =>
  refine ⟨0,.slice none 0 0,Nat.zero_le _,rfl,Cells2.new_at _ _ _ _ _ HH.o,OwnI.nil _ _,⟨_,_,HC2.o.alloc _⟩,?_,by have:=HH.o;simp;omega⟩
  exact HB1.o.alloc (by have:=HH.o;omega) _
 case round =>
  obtain ⟨q,v,hq,rfl,hc2,hown,⟨u1,u2,hc1⟩,hbel,hsz⟩:=hrel
  obtain ⟨wo,rfl⟩ : ∃ wo:World,wo=wr:=⟨_,rfl⟩
  have hple:=zv0 s q
  have HC2:=Zh hc2
  have HC1:=Zh hc1
  obtain ⟨g0,g1,g2,g3,g4⟩:=HC2.o
  obtain ⟨A1,c1,rfl⟩:=hown.form
  by_cases hlt:q<s.size
  ·obtain ⟨x,hx⟩ : ∃ x,chr s q=x:=⟨_,rfl⟩
   have hxc:((s[q]'hlt).toNat:Int)=x:=by rw [<- hx,zil hlt]
   by_cases h120:x=120
   ·have HS:=Zh (zvy (s:=s) (q:=q) (hx.trans h120))
    generalize posX s q=L at hown hple HS HC2 hc2 g1
    subst h120
    clear hx
    go_wp2_with (at_builtin;refine za4 rfl _ _ rfl (h+1) _ L rfl (hown.alloc _) _ _ rfl (zag _ _ _) (by omega) (by first | exact Nat.le_refl _ | (simp;done) | (simp;omega) | omega) ?_;intro v' w2 hown1 hg1;obtain ⟨A2,c2,rfl⟩:=hown1.form;obtain ⟨j0,j1,j2,j3,j4⟩:=(HC2.o.alloc (Obj.cells #[Value.int .i64 q] 3)).below hg1 (by omega))
    clear g0 g1 g2 g3 hown
    have hw1:h+1<=w2.heap.size:=by have:=hg1.size;simp only [World.size_alloc] at this;omega
    have HD2:=Zh (Cells2.set1 (((HC2.o.alloc (Obj.cells #[Value.int .i64 q] 3)).below hg1 (by omega))) (.slice A2 (L++[(q:Int)]).length c2))
    have HD1:=Zh (((HC1.o.alloc (Obj.cells #[Value.int .i64 q] 3)).below hg1 (by omega)).far (p:=⟨h,1,none⟩) (by simp;omega) (.slice A2 (L++[(q:Int)]).length c2))
    have HOW:=Zh (hown1.far (p:=⟨h,1,none⟩) (by simp) (.slice A2 (L++[(q:Int)]).length c2))
    have HBW:=Zh ((((hbel.alloc (by omega) _).trans (hg1.mono (by omega))).setCell (p:=⟨h,1,none⟩) (by simp;omega) (.slice A2 (L++[(q:Int)]).length c2)))
    clear j0 j1 j2 j3 j4 hg1 hown1 hbel g4 hc2 hc1
    have hlen:(L++[(q:Int)]).length=L.length+1:=by simp
    rw [hlen] at HD1 HD2 HOW HBW
    clear hlen
    go_wp2_with fail
    go_roundw
    case rel =>
     refine ⟨q+1,_,by omega,by go_num,HD2.o,by rw [HS.o];exact HOW.o,⟨u1,u2,HD1.o⟩,HBW.o,by simpa [World.setCell] using hw1⟩
    case measure=>simp [intOf];omega
   ·have hxb:(x==120)=false:=beq_eq_false_iff_ne.2 h120
    have HS:=Zh (zvz (s:=s) (q:=q) (fun e=>h120 (hx.symm.trans e)))
    have HO:=Zh hown
    clear hx hown hc1 hc2 h120
    go_wp2_with fail
    go_roundw
    case rel=>exact ⟨q+1,_,by omega,by go_num,HC2.o,by rw [HS.o];exact HO.o,⟨u1,u2,HC1.o⟩,hbel,hsz⟩
    case measure=>simp [intOf];omega
  ·have hqe:q=s.size:=by omega
   subst hqe
   obtain ⟨f0,f1,f2,f3,f4⟩:=HC1.o
   clear hc1 hc2
   go_wp2_with fail
   refine bodyPost_ret (v:=.tuple #[.agg #[.int .i64 s.size,.slice A1 (posX s s.size).length c1],.bool true]) (by simp [results,Tryz.results11,go_sem,f0,f1]) rfl ?_
   refine ⟨A1,c1,rfl,?_,?_⟩
   ·exact (((hown.far (p:=⟨w.heap.size,0,none⟩) (by simp;omega) _).far (p:=⟨w.heap.size,1,none⟩) (by simp;omega) _).rw_ (by omega)).mono (by omega)
   ·exact (hbel.setCell (Nat.le_refl _) _).setCell (Nat.le_refl _) _
end Go.Proofs.YtjpnjchpdkogbaaGreatDoor
namespace Go.Proofs.YtjpnjchpdkogbaaGreatDoor
open Go.RowKit Go.Shelf
def xdB (s:ByteArray):Bool:=s.data.toList.all fun c=>c==120 || c==46
def prhB (s:ByteArray):Bool:=decide (1<=s.size/\s.size<=24) && xdB s
def prhN (s:ByteArray):Int:=if prhB s then s.size else 0
def prhL (s:ByteArray):List Int:=if prhB s then posX s s.size else []
theorem zm4 {α:Type} (p:α->Bool) : ∀ l:List α,l.dropWhile p=[] ↔ l.all p=true
 | []=>by simp
 | x::r=>by
  rw [List.dropWhile_cons,List.all_cons]
  cases h:p x
  ·simp
  ·simpa using zm4 p r
theorem zm5 (l cs:List UInt8):Lib.trimS l cs=[] ↔ l.all (fun c=>cs.contains c)=true:=by
 have key : ∀ r:List UInt8,(r.dropWhile (fun c=>cs.contains c)).reverse.all (fun c=>cs.contains c)=true ↔ r.all (fun c=>cs.contains c)=true:=by
  intro r
  rw [List.all_reverse]
  induction r with
  | nil=>simp
  | cons x r ih =>
   rw [List.dropWhile_cons,List.all_cons]
   cases h:cs.contains x
   ·have hm:x ∉ cs:=by simpa using h
    simp [hm]
   ·simpa using ih
 unfold Lib.trimS Lib.trimLeftS Lib.trimRightS
 rw [zm4,key,List.all_reverse]
theorem zm6 (s:ByteArray):xdB s=true ↔ Lib.trimS s.data.toList [120,46]=[]:=by
 rw [zm5]
 unfold xdB
 have e:(fun c:UInt8=>c==120 || c==46)=fun c=>[120,46].contains c:=by funext c;simp only [List.contains_cons,List.contains_nil,Bool.or_false]
 rw [e]
theorem zv1 (s:ByteArray)(w:World)(hs:s.size<=maxLen) :
  Calls Tryz.prog 11 #[.string s] w (RetRh2 w (prhN s) (prhL s) (prhB s)):=by
 unfold maxLen at hs
 by_cases hin:1<=s.size/\s.size<=24
 ·cases hx:xdB s
  ·have hpb:prhB s=false:=by unfold prhB;rw [hx,Bool.and_false]
   have htr:=fun V:World=>Any.strings_Trim_laid Tryz.lays160 Tryz.info116 s ⟨#[120,46]⟩ V (by omega) (by decide) (ascii_of_all (by decide))
   rw [show (⟨#[120,46]⟩:ByteArray).data.toList=[120,46] from rfl] at htr
   have hne:Lib.trimS s.data.toList [120,46]≠[]:=fun e=>by have:=(zm6 s).2 e;rw [hx] at this;cases this
   generalize Lib.trimS s.data.toList [120,46]=T at htr hne
   have heq:(((⟨T.toArray⟩:ByteArray).toList==[]):Bool)=false:=by
    rw [beq_eq_false_iff_ne,Lib.toList_data]
    simpa using hne
   have hem:(⟨T.toArray⟩:ByteArray).toList.isEmpty=false:=by
    rw [Lib.toList_data]
    cases T with
    | nil=>exact absurd rfl hne
    | cons x r=>rfl
   have HTR:=Zh htr
   have hin':inB (s.size:Int) 1 24=true:=za1 ⟨by omega,by omega⟩
   have HP:=Zh hpb
   have HC1:=Zh (Cells2.new w (.int .i64 0) (.slice none 0 0) 27)
   clear htr hx hpb
   generalize (⟨T.toArray⟩:ByteArray)=X at *
   go_enter Tryz.func11,Tryz.ntmps11
   go_wp2_with (first
    | (go_at_call 22;refine (zac _ _ _ _).mono ?_;rintro e w' ⟨rfl,rfl⟩)
    | (go_at_call 23;refine (HTR.o _).mono ?_;rintro e w1 ⟨rfl,hb1⟩;have hz1:=hb1.size;obtain ⟨f0,f1,f2,f3,f4⟩:=HC1.o.below hb1 (by simp)))
   refine bodyPost_ret (v:=.tuple #[.agg #[.int .i64 0,.slice none 0 0],.bool false]) (by simp [results,Tryz.results11,go_sem,f0,f1]) rfl ?_
   unfold prhN prhL
   rw [HP.o]
   exact ⟨none,0,rfl,⟨by simp,fun h=>by simp at h⟩,((((Below.refl w.heap.size w).alloc (Nat.le_refl _) _).trans (hb1.mono (by simp))).setCell (Nat.le_refl _) _).setCell (Nat.le_refl _) _⟩
  ·have hpb:prhB s=true:=by unfold prhB;rw [hx,decide_eq_true hin];rfl
   unfold prhN prhL
   rw [hpb]
   exact zm3 s w hin.1 hin.2 ((zm6 s).1 hx)
 ·have hpb:prhB s=false:=by unfold prhB;rw [decide_eq_false hin,Bool.false_and]
  have hin':inB (s.size:Int) 1 24=false:=zed (by omega)
  have HP:=Zh hpb
  obtain ⟨f0,f1,f2,f3,f4⟩:=Cells2.new w (.int .i64 0) (.slice none 0 0) 27
  clear hpb
  go_enter Tryz.func11,Tryz.ntmps11
  go_wp2_with (go_at_call 22;refine (zac _ _ _ _).mono ?_;rintro e w' ⟨rfl,rfl⟩)
  refine bodyPost_ret (v:=.tuple #[.agg #[.int .i64 0,.slice none 0 0],.bool false]) (by simp [results,Tryz.results11,go_sem,f0,f1]) rfl ?_
  unfold prhN prhL
  rw [HP.o]
  exact ⟨none,0,rfl,⟨by simp,fun h=>by simp at h⟩,(Below.refl w.heap.size w).alloc (Nat.le_refl _) _⟩
end Go.Proofs.YtjpnjchpdkogbaaGreatDoor
namespace Go.Proofs.YtjpnjchpdkogbaaGreatDoor
open Go.RowKit
def gnrL (n k g:Nat):List Int:=zak (modL n (layL g k) (layL g k).length)
def genV (n k g:Int):Option (Nat × List Int) :=
 if inB n 1 24 && inB k 0 n && inB g 1 n then (if (gnrL n.toNat k.toNat g.toNat).length<k.toNat then none else some (n.toNat,gnrL n.toNat k.toNat g.toNat)) else none
theorem zv2 (n k g:Nat)(w:World)(hn1:1<=n)(hn2:n<=24)(hk:k<=n)(hg1:1<=g)(hg2:g<=n) :
  Calls Tryz.prog 31 #[.int .i64 n,.int .i64 k,.int .i64 g] w (RetRhO w (if (gnrL n k g).length<k then none else some (n,gnrL n k g))):=by
 have hin1:inB (n:Int) 1 24=true:=za1 ⟨by omega,by omega⟩
 have hin2:inB (k:Int) 0 n=true:=za1 ⟨by omega,by omega⟩
 have hin3:inB (g:Int) 1 n=true:=za1 ⟨by omega,by omega⟩
 have HRO:=Zh (fun (A2:Option Addr) (c2:Nat) V (hV:Ints V V.heap.size A2 (layL g k))=>zdv n A2 c2 (layL g k) V hV (by rw [zbg];omega) (by omega) (by omega))
 rw [show zak (modL n (layL g k) (layL g k).length)=gnrL n k g from rfl] at HRO
 have hgl:(gnrL n k g).length<=24:=by
  have h1:=zeh (modL n (layL g k) (layL g k).length)
  have h2:=zfc n (layL g k) (layL g k).length
  rw [zbg] at h2
  unfold gnrL
  rw [zbg] at *
  omega
 obtain ⟨FV,hFV⟩ : ∃ FV,(if (gnrL n k g).length<k then none else some (n,gnrL n k g):Option (Nat × List Int))=FV:=⟨_,rfl⟩
 rw [hFV]
 have HV:=Zh hFV
 clear hFV
 have HFT:=Zh (show ∀ x∈layL g k,Fits x from fun x hx=>by
  unfold layL at hx
  rw [List.mem_map] at hx
  obtain ⟨i,hi,rfl⟩:=hx
  rw [List.mem_range] at hi
  have:i*g<=24*24:=Nat.mul_le_mul (by omega) (by omega)
  unfold Fits
  omega)
 generalize gnrL n k g=G at *
 have HZ0:=Zh (Cells2.new w (.int .i64 0) (.slice none 0 0) 27)
 have HB0:=Zh ((Below.refl w.heap.size w).alloc (Nat.le_refl _) (.cells #[.int .i64 0,.slice none 0 0] 27))
 go_enter Tryz.func31,Tryz.ntmps31
 go_wp2_with (go_at_call 22;refine (zac _ _ _ _).mono ?_;rintro e w' ⟨rfl,rfl⟩)
 go_loopw [8,28] (fun so i wr=>∃ (q:Nat),q<=k/\i = .int .i64 q/\OwnI wr (w.heap.size+1) so (layL g q)/\Cells2 wr w.heap.size (.int .i64 0) (.slice none 0 0)/\Below w.heap.size w wr/\w.heap.size+1<=wr.heap.size) (fun _ i _=>k-(intOf i).toNat)
 case atStart=>exact ⟨0,Nat.zero_le _,rfl,OwnI.nil _ _,HZ0.o,HB0.o,by simp⟩
 case round =>
  obtain ⟨q,hq,rfl,hown,hc1,hbel,hsz⟩:=hrel
  obtain ⟨wo,rfl⟩ : ∃ wo:World,wo=wr:=⟨_,rfl⟩
  have HC1:=Zh hc1
  have HBE:=Zh hbel
  obtain ⟨A1,c1,rfl⟩:=hown.form
  have HOW:=Zh hown
  clear hown hbel hc1
  by_cases hlt:q<k
  ·have hqg:q*g<=24*24:=Nat.mul_le_mul (by omega) (by omega)
   have HSU:=Zh (zmp g q)
   have hp0:(q:Int)*(g:Int)=((q*g:Nat):Int):=by push_cast;rfl
   obtain ⟨D,hD⟩ : ∃ D,q*g=D:=⟨_,rfl⟩
   rw [hD] at hp0 hqg HSU
   have hw1:IntKind.i64.wrap ((q:Int)*(g:Int))=D:=by rw [hp0];exact i64w (by omega)
   have hll:=zbg g q
   generalize layL g q=L at *
   clear hD
   go_wp2_with (at_builtin;refine za4 rfl (.tmp 31) (.tmp 35) rfl (w.heap.size+1) _ L rfl (HOW.o.alloc _) _ D rfl (zag _ _ _) (by omega) (by simp;omega) ?_;intro v' w4 hown4 hb4;obtain ⟨A2,c2,rfl⟩:=hown4.form)
   have HX:=Zh ((HC1.o.alloc (.cells #[.int .i64 D] 3)).below hb4 (by omega))
   have HY:=Zh (HBE.o.alloc HBE.o.size (.cells #[.int .i64 D] 3) |>.trans (hb4.mono (by omega)))
   have hl4:(L++[(D:Int)]).length=q+1:=by simp [hll]
   rw [hl4] at hown4
   have HO4:=Zh hown4
   have hz4:=hb4.size
   clear hown4 hb4
   simp only [World.size_alloc] at hz4
   go_wp2_with fail
   go_roundw
   case rel=>exact ⟨q+1,by omega,by go_num,by rw [HSU.o];exact HO4.o,HX.o,HY.o,by omega⟩
   case measure=>simp [intOf];omega
  ·have hqe:q=k:=by omega
   subst hqe
   have hll:=zbg g q
   have HIN:=Zh (HOW.o.ints HFT.o)
   generalize layL g q=L at *
   rw [hll] at HRO
   go_wp2_with fail
   refine (HRO.o _ _ _ HIN.o).mono ?_
   rintro e w5 ⟨A5,c5,rfl,hr5,hb5⟩
   have HC5:=Zh (HC1.o.below hb5 HC1.o.2.2.2.2)
   have HB5:=Zh (HBE.o.trans (hb5.mono HBE.o.size))
   have HR5:=Zh hr5
   have hz5:=hb5.size
   clear hr5 hb5
   have HN6:=Zh (Cells2.new w5 (.int .i64 n) (.slice A5 G.length c5) 27)
   have HC6:=Zh (HC5.o.alloc (.cells #[.int .i64 n,.slice A5 G.length c5] 27))
   have HB6:=Zh (HB5.o.alloc HB5.o.size (.cells #[.int .i64 n,.slice A5 G.length c5] 27))
   have HR6:=Zh (HR5.o.below ((Below.refl w5.heap.size w5).alloc (Nat.le_refl _) (.cells #[.int .i64 n,.slice A5 G.length c5] 27)))
   obtain ⟨u0,u1,u2,u3,_⟩:=HN6.o
   obtain ⟨v0,v1,v2,v3,_⟩:=HC6.o
   by_cases hgk:G.length<q
   ·rw [if_pos hgk] at HV
    have hgi:(G.length:Int)<(q:Int):=by omega
    have HE:=Zh ((HC6.o.set0 (.int .i64 0)).set1 (.slice none 0 0))
    obtain ⟨y0,y1,_,_,_⟩:=HE.o
    go_wp2_with fail
    refine bodyPost_ret (v:=.tuple #[.agg #[.int .i64 0,.slice none 0 0],.bool false]) (by simp [results,Tryz.results31,go_sem,y0,y1]) rfl ?_
    rw [<- HV.o]
    exact RetRhO.none_ ((HB6.o.setCell (p:=⟨w.heap.size,0,none⟩) (Nat.le_refl _) _).setCell (p:=⟨w.heap.size,1,none⟩) (Nat.le_refl _) _)
   ·rw [if_neg hgk] at HV
    have hgi : ¬ (G.length:Int)<(q:Int):=by omega
    have HE:=Zh ((HC6.o.set0 (.int .i64 n)).set1 (.slice A5 G.length c5))
    obtain ⟨y0,y1,_,_,_⟩:=HE.o
    go_wp2_with fail
    refine bodyPost_ret (v:=.tuple #[.agg #[.int .i64 n,.slice A5 G.length c5],.bool true]) (by simp [results,Tryz.results31,go_sem,y0,y1]) rfl ?_
    rw [<- HV.o]
    have hlt9:w.heap.size<wo.heap.size:=by omega
    have h6:=(HR6.o.far (p:=⟨w.heap.size,0,none⟩) hlt9 (.int .i64 n)).far (p:=⟨w.heap.size,1,none⟩) hlt9 (.slice A5 G.length c5)
    exact ⟨A5,c5,rfl,h6.mono (by omega),(HB6.o.setCell (p:=⟨w.heap.size,0,none⟩) (Nat.le_refl _) _).setCell (p:=⟨w.heap.size,1,none⟩) (Nat.le_refl _) _⟩
theorem zv3 (n k g:Int)(w:World) :
  Calls Tryz.prog 31 #[.int .i64 n,.int .i64 k,.int .i64 g] w (RetRhO w (genV n k g)):=by
 cases hi:(inB n 1 24 && inB k 0 n && inB g 1 n)
 ·have HV:=Zh (show genV n k g=none by unfold genV;rw [hi];rfl)
  rw [HV.o]
  have HZ0:=Zh (Cells2.new w (.int .i64 0) (.slice none 0 0) 27)
  have HB0:=Zh ((Below.refl w.heap.size w).alloc (Nat.le_refl _) (.cells #[.int .i64 0,.slice none 0 0] 27))
  have HE:=Zh ((HZ0.o.set0 (.int .i64 0)).set1 (.slice none 0 0))
  obtain ⟨x0,x1,x2,x3,_⟩:=HZ0.o
  obtain ⟨y0,y1,_,_,_⟩:=HE.o
  cases h1:inB n 1 24
  ·go_enter Tryz.func31,Tryz.ntmps31
   go_wp2_with (go_at_call 22;refine (zac _ _ _ _).mono ?_;rintro e w' ⟨rfl,rfl⟩)
   refine bodyPost_ret (v:=.tuple #[.agg #[.int .i64 0,.slice none 0 0],.bool false]) (by simp [results,Tryz.results31,go_sem,y0,y1]) rfl ?_
   exact RetRhO.none_ HB0.o
  ·cases h2:inB k 0 n
   ·go_enter Tryz.func31,Tryz.ntmps31
    go_wp2_with (go_at_call 22;refine (zac _ _ _ _).mono ?_;rintro e w' ⟨rfl,rfl⟩)
    refine bodyPost_ret (v:=.tuple #[.agg #[.int .i64 0,.slice none 0 0],.bool false]) (by simp [results,Tryz.results31,go_sem,y0,y1]) rfl ?_
    exact RetRhO.none_ HB0.o
   ·have h3:inB g 1 n=false:=by rw [h1,h2] at hi;exact hi
    go_enter Tryz.func31,Tryz.ntmps31
    go_wp2_with (go_at_call 22;refine (zac _ _ _ _).mono ?_;rintro e w' ⟨rfl,rfl⟩)
    refine bodyPost_ret (v:=.tuple #[.agg #[.int .i64 0,.slice none 0 0],.bool false]) (by simp [results,Tryz.results31,go_sem,y0,y1]) rfl ?_
    exact RetRhO.none_ HB0.o
 ·have h9:=hi
  simp only [Bool.and_eq_true] at h9
  obtain ⟨⟨h1,h2⟩,h3⟩:=h9
  have i1:=zan.1 h1
  have i2:=zan.1 h2
  have i3:=zan.1 h3
  obtain ⟨N,rfl⟩:=Int.eq_ofNat_of_zero_le (show 0<=n by omega)
  obtain ⟨K,rfl⟩:=Int.eq_ofNat_of_zero_le (show 0<=k by omega)
  obtain ⟨G,rfl⟩:=Int.eq_ofNat_of_zero_le (show 0<=g by omega)
  have e:genV N K G=if (gnrL N K G).length<K then none else some (N,gnrL N K G):=by unfold genV;rw [hi];rfl
  rw [e]
  exact zv2 N K G w (by omega) (by omega) (by omega) (by omega) (by omega)
end Go.Proofs.YtjpnjchpdkogbaaGreatDoor
namespace Go.Proofs.YtjpnjchpdkogbaaGreatDoor
open Go.RowKit
def rotV (N:Nat)(bs:List Int)(k:Int):Option (Nat × List Int):=if inB k (-1000) 1000 then some (N,rotL N bs k) else none
theorem zv4 (N:Nat)(A:Option Addr)(cap:Nat)(bs:List Int)(k:Int)(w:World)(hA:Ints w w.heap.size A bs)(hok:RhOk N bs)(hk1 : -1000<=k/\k<=1000) :
  Calls Tryz.prog 33 #[.agg #[.int .i64 N,.slice A bs.length cap],.int .i64 k] w fun e w'=>∃ A' c,e = .returned (.tuple #[.agg #[.int .i64 N,.slice A' (rotL N bs k).length c],.bool true])/\RW w' w.heap.size A' (rotL N bs k)/\Below w.heap.size w w':=by
 have hfN:Fits (N:Int):=by have:=hok.1;have:=hok.2.1;unfold Fits;omega
 have hRO:=fun V h=>zav N A cap bs V hfN h
 rw [zao.2 hok] at hRO
 have HRO:=Zh hRO
 have hin:inB k (-1000) 1000=true:=za1 hk1
 have HM:=Zh (fun V h=>zej N A cap bs k V h hok hk1)
 generalize rotL N bs k=R at HM ⊢
 have hal0:=(Below.refl w.heap.size w).alloc (Nat.le_refl _) (.cells #[.int .i64 N,.slice A bs.length cap] 27)
 have hal2:=hal0.alloc hal0.size (.cells #[.int .i64 0,.slice none 0 0] 27)
 have HC0:=Zh ((Cells2.new w (.int .i64 N) (.slice A bs.length cap) 27).alloc (.cells #[.int .i64 0,.slice none 0 0] 27))
 have HZ0:=Zh (Cells2.new_at (w.alloc (.cells #[.int .i64 N,.slice A bs.length cap] 27)) (.int .i64 0) (.slice none 0 0) 27 (w.heap.size+1) (by simp))
 have HB0:=Zh hal2
 have HI0:=Zh (hA.lift hal2)
 clear hA hal0 hal2 hRO hok
 obtain ⟨c0,c1,_,_,_⟩:=HC0.o
 obtain ⟨z0,z1,_,_,_⟩:=HZ0.o
 go_enter Tryz.func33,Tryz.ntmps33
 go_wp2_with fail
 refine (HRO.o _ HI0.o).mono ?_
 rintro e w1 ⟨rfl,hb⟩
 have HB1:=Zh (HB0.o.trans (hb.mono HB0.o.size))
 have HC1:=Zh (HC0.o.below hb HC0.o.2.2.2.2)
 have HZ1:=Zh (HZ0.o.below hb HZ0.o.2.2.2.2)
 have HI1:=Zh (HI0.o.lift hb)
 clear hb c0 c1 z0 z1
 obtain ⟨c0,c1,_,_,_⟩:=HC1.o
 obtain ⟨z0,z1,_,_,_⟩:=HZ1.o
 go_wp2_with (go_at_call 22;refine (zac _ _ _ _).mono ?_;rintro e w' ⟨rfl,rfl⟩)
 refine (HM.o _ HI1.o).mono ?_
 rintro e w2 ⟨A2,c2,rfl,hr,hb⟩
 have HB2:=Zh (HB1.o.trans (hb.mono HB1.o.size))
 have HZ2:=Zh (HZ1.o.below hb HZ1.o.2.2.2.2)
 have HR2:=Zh hr
 have hlt:w.heap.size+1<w1.heap.size:=HZ1.o.2.2.2.2
 clear hb hr c0 c1 z0 z1
 obtain ⟨z0,z1,y0,y1,_⟩:=HZ2.o
 have HZ3:=Zh ((HZ2.o.set0 (.int .i64 N)).set1 (.slice A2 R.length c2))
 obtain ⟨x0,x1,_,_,_⟩:=HZ3.o
 have HF2:=Zh ((HB2.o.setCell (p:=⟨w.heap.size+1,0,none⟩) (by show w.heap.size<=w.heap.size+1;omega) (.int .i64 N)).setCell (p:=⟨w.heap.size+1,1,none⟩) (by show w.heap.size<=w.heap.size+1;omega) (.slice A2 R.length c2))
 go_wp2_with fail
 refine bodyPost_ret (v:=.tuple #[.agg #[.int .i64 N,.slice A2 R.length c2],.bool true]) (by simp [results,Tryz.results33,go_sem,x0,x1]) rfl ?_
 exact ⟨_,_,rfl,((HR2.o.far (p:=⟨w.heap.size+1,0,none⟩) hlt _).far (p:=⟨w.heap.size+1,1,none⟩) hlt _).mono (by omega),HF2.o⟩
theorem zv5 (N:Nat)(A:Option Addr)(cap:Nat)(bs:List Int)(k:Int)(w:World)(hA:Ints w w.heap.size A bs)(hok:RhOk N bs) :
  Calls Tryz.prog 33 #[.agg #[.int .i64 N,.slice A bs.length cap],.int .i64 k] w (RetRhO w (rotV N bs k)):=by
 cases hin:inB k (-1000) 1000
 ·rw [show rotV N bs k=none by unfold rotV;rw [hin];rfl]
  have hfN:Fits (N:Int):=by have:=hok.1;have:=hok.2.1;unfold Fits;omega
  have hRO:=fun V h=>zav N A cap bs V hfN h
  rw [zao.2 hok] at hRO
  have HRO:=Zh hRO
  have hal0:=(Below.refl w.heap.size w).alloc (Nat.le_refl _) (.cells #[.int .i64 N,.slice A bs.length cap] 27)
  have hal2:=hal0.alloc hal0.size (.cells #[.int .i64 0,.slice none 0 0] 27)
  have HC0:=Zh ((Cells2.new w (.int .i64 N) (.slice A bs.length cap) 27).alloc (.cells #[.int .i64 0,.slice none 0 0] 27))
  have HZ0:=Zh (Cells2.new_at (w.alloc (.cells #[.int .i64 N,.slice A bs.length cap] 27)) (.int .i64 0) (.slice none 0 0) 27 (w.heap.size+1) (by simp))
  have HB0:=Zh hal2
  have HI0:=Zh (hA.lift hal2)
  clear hA hal0 hal2 hRO hok
  obtain ⟨c0,c1,_,_,_⟩:=HC0.o
  obtain ⟨z0,z1,_,_,_⟩:=HZ0.o
  go_enter Tryz.func33,Tryz.ntmps33
  go_wp2_with fail
  refine (HRO.o _ HI0.o).mono ?_
  rintro e w1 ⟨rfl,hb⟩
  have HB1:=Zh (HB0.o.trans (hb.mono HB0.o.size))
  have HZ1:=Zh (HZ0.o.below hb HZ0.o.2.2.2.2)
  clear hb c0 c1 z0 z1
  obtain ⟨z0,z1,_,_,_⟩:=HZ1.o
  go_wp2_with (go_at_call 22;refine (zac _ _ _ _).mono ?_;rintro e w' ⟨rfl,rfl⟩)
  refine bodyPost_ret (v:=.tuple #[.agg #[.int .i64 0,.slice none 0 0],.bool false]) (by simp [results,Tryz.results33,go_sem,z0,z1]) rfl ?_
  exact RetRhO.none_ ((HB1.o.setCell (p:=⟨w.heap.size+1,0,none⟩) (by show w.heap.size<=w.heap.size+1;omega) _).setCell (p:=⟨w.heap.size+1,1,none⟩) (by show w.heap.size<=w.heap.size+1;omega) _)
 ·have hk1:=zan.1 hin
  rw [show rotV N bs k=some (N,rotL N bs k) by unfold rotV;rw [hin];rfl]
  refine (zv4 N A cap bs k w hA hok hk1).mono ?_
  rintro e w1 ⟨A',c,rfl,h1,h2⟩
  exact ⟨A',c,rfl,h1,h2⟩
end Go.Proofs.YtjpnjchpdkogbaaGreatDoor
