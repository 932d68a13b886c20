/- Parts of the proof of the card of the law FnConsole. -/
import Derived.Test.YtjpnjchpdkogbaaGreatDoorG28
import Derived.Test.YtjpnjchpdkogbaaGreatDoorRunH
import Derived.Deep.CutRange
import Derived.Test.YtjpnjchpdkogbaaGreatDoorG02
import Derived.Test.YtjpnjchpdkogbaaGreatDoorG01
import Derived.Shelf.Strings.BuilderK
import Derived.Test.YtjpnjchpdkogbaaGreatDoorG03
import Derived.Test.YtjpnjchpdkogbaaGreatDoorG12
import Derived.Test.YtjpnjchpdkogbaaGreatDoorG07
set_option linter.unusedVariables false
set_option linter.unusedSimpArgs false
set_option maxRecDepth 1000000
set_option maxHeartbeats 8000000
namespace Go.Proofs.YtjpnjchpdkogbaaGreatDoor
open Go.RowKit
def RetL (w:World)(r:(Nat × List Int) × ByteArray)(e:Ending)(w':World):Prop :=
 ∃ A c,e = .returned (.tuple #[.agg #[.int .i64 r.1.1,.slice A r.1.2.length c],.string r.2])/\Ints w' w'.heap.size A r.1.2/\(∀ k o,A=some ⟨k,o,none⟩->0<r.1.2.length->w.heap.size<=k)/\RhOk r.1.1 r.1.2/\Below w.heap.size w w'
theorem Ints.setFar2 {w:World}{B:Nat}{A:Option Addr}{xs:List Int}(h:Ints w B A xs){p:Addr}(hne : ∀ k o,A=some ⟨k,o,none⟩->0<xs.length->k≠p.block)(u:Value):Ints (w.setCell p u) B A xs:=h.setFarC (fun hn k o e=>hne k o e hn) u
theorem Con.new (w:World)(n:Int)(R W:Value)(bad:Bool)(t:TypeId):Con (w.alloc (.cells #[.int .i64 n,R,W,.bool bad] t)) w.heap.size n R W bad:=by
 have hh:(w.alloc (.cells #[.int .i64 n,R,W,.bool bad] t)).heap[w.heap.size]? = some (.cells #[.int .i64 n,R,W,.bool bad] t (0,0)):=heap_alloc_new w _
 exact ⟨by simp,by rw [cell_of_row _ _ _ _ _ _ hh];rfl,by rw [cell_of_row _ _ _ _ _ _ hh];rfl,by rw [cell_of_row _ _ _ _ _ _ hh];rfl,by rw [cell_of_row _ _ _ _ _ _ hh];rfl,frozen_of_row _ _ _ _ _ hh,frozen_of_row _ _ _ _ _ hh,frozen_of_row _ _ _ _ _ hh,frozen_of_row _ _ _ _ _ hh⟩
theorem zql (N:Nat)(A:Option Addr)(cap:Nat)(bs:List Int)(line:ByteArray)(w:World)(hA:Ints w w.heap.size A bs)(hok:RhOk N bs)(hls:line.size<=1048576)(hE:Env w.heap.size w)
  (hC : ∀ i,fndK (keyV (splT 32 line))=some i->zas i) :
  Calls Tryz.prog 6 #[.agg #[.int .i64 N,.slice A bs.length cap],.string line] w (RetL w (zau N bs line)):=by
 obtain ⟨q,hq⟩ : ∃ q,w.heap.size=q:=⟨_,rfl⟩
 have hal0:=(Below.refl w.heap.size w).alloc (Nat.le_refl _) (.cells #[.int .i64 N,.slice A bs.length cap] 27)
 have hal1:=hal0.alloc hal0.size (.cells #[.int .i64 0,.slice none 0 0] 27)
 have HX:=Zh ((Cells2.new w (.int .i64 N) (.slice A bs.length cap) 27).alloc (.cells #[.int .i64 0,.slice none 0 0] 27))
 have HZ:=Zh (Cells2.new_at (w.alloc (.cells #[.int .i64 N,.slice A bs.length cap] 27)) (.int .i64 0) (.slice none 0 0) 27 (w.heap.size+1) (by simp))
 have HB0:=Zh hal1
 have HI0:=Zh (hA.lift hal1)
 have hl24:bs.length<=1048576:=by have:=zcs hok;have:=hok.2.1;omega
 have HFT:=Zh hA.2.1
 have HOK:=Zh hok
 have HCL:=Zh (fun V (h:Ints V V.heap.size A bs)=>zei A cap bs V h hl24)
 have HE:=Zh hE
 have HCM:=Zh hC
 have HV:=Zh (show zau N bs line=if line.data.toList=[]\/line.data.toList.headD 0=35 then ((N,bs),⟨#[]⟩) else _ from rfl)
 clear hA hal0 hal1 hok hE hC
 generalize zau N bs line=LV at *
 obtain ⟨c0,c1,_,_,_⟩:=HX.o
 go_enter Tryz.func6,Tryz.ntmps6
 go_wp2_with fail
 generalize hW0:(w.alloc (.cells #[.int .i64 N,.slice A bs.length cap] 27)).alloc (.cells #[.int .i64 0,.slice none 0 0] 27)=W0 at *
 have hs0:W0.heap.size=q+2:=by rw [<- hW0];simp [hq]
 clear hW0
 rw [hq] at HX HZ c0 c1 HB0 HE
 try rw [hq]
 go_cut [6] from 10 to 15 (fun s6 wx=>∃ (g6:Nat) (A6:Option Addr) (c6:Nat),s6 = .pointer (some ⟨g6,0,none⟩)/\Cells2 wx g6 (.int .i64 N) (.slice A6 bs.length c6)/\Ints wx wx.heap.size A6 bs/\(∀ k o,A6=some ⟨k,o,none⟩->0<bs.length->q+2<=k)/\Below W0.heap.size W0 wx/\q+2<=g6)
 case first =>
  have HXd:=Zh (show Cells2 W0.drew q (.int .i64 N) (.slice A bs.length cap) from HX.o)
  have HBd:=Zh (show Below W0.heap.size W0 W0.drew from ⟨rfl,rfl,rfl,Nat.le_refl _,fun _ _=>rfl⟩)
  have HId:=Zh (show Ints W0.drew W0.drew.heap.size A bs from HI0.o)
  have hsd:W0.drew.heap.size=q+2:=hs0
  (refine wp_region_held_drew (S:=(fun w'=>w'.cell? ⟨q,0,none⟩=some (.int .i64 N)/\w'.cell? ⟨q,1,none⟩=some (.slice A bs.length cap))) (by kernel_rfl) ?_ (fun hHeld=>?_);(focus ((try dsimp only);exact ⟨c0,c1⟩)))
  generalize W0.drew=wd at *
  ((refine Zk 0 ?_;(try simp only [Act.put,Zz]));(refine Zk 1 ?_;(try simp only [Act.put,Zz]));(refine Zk 2 ?_;(try simp only [Act.put,Zz]));(refine Zk 3 ?_;(try simp only [Act.put,Zz])))
  refine wpAnyH_ready (rs:=[4,6]) (by kernel_rfl) (by simp) ?_
  refine AllReadyH.cons rfl (fun K hK=>?_) (AllReadyH.cons rfl (fun K hK=>?_) AllReadyH.nil)
  ·go_simp
   go_at_call 12
   refine (HCL.o _ HId.o).mono ?_
   rintro e w2 ⟨v2,rfl,hown,hb⟩
   obtain ⟨A2,k2,rfl⟩:=hown.form
   have HB2:=Zh (HBd.o.trans (hb.mono (by omega)))
   have HX2:=Zh (HXd.o.below hb HXd.o.2.2.2.2)
   have HO2:=Zh hown
   have hz2:=hb.size
   clear hb hown
   go_wp2_with fail
   (refine hK.out _ _ ?_ fun hHeld2=>?_;(focus ((try dsimp only);exact ⟨HX2.o.1,HX2.o.2.1⟩));(clear hK K);(try simp only [Act.put,Zz]))
   (refine Zk 5 ?_;(try simp only [Act.put,Zz]))
   (refine wpAnyH_ready (rs:=[6]) (by kernel_rfl) (by simp) ?_;refine AllReadyH.cons rfl (fun K hK=>?_) AllReadyH.nil;go_simp)
   have hb:=(Below.refl w2.heap.size w2).alloc (Nat.le_refl _) (.cells #[.int .i64 0,.slice none 0 0] 27)
   have HG:=Zh (Cells2.new w2 (.int .i64 0) (.slice none 0 0) 27)
   have HB2:=Zh (HB2.o.trans (hb.mono HB2.o.size))
   have HX2:=Zh (HX2.o.below hb HX2.o.2.2.2.2)
   have HI2:=Zh ((HO2.o.ints HFT.o).lift hb)
   have HNB:=Zh (show ∀ k o,A2=some ⟨k,o,none⟩->0<bs.length->q+2<=k from fun k o e hn=>by
    subst e
    have:=(HO2.o.lt k rfl).1
    omega)
   have HNE:=Zh (show ∀ k o,A2=some ⟨k,o,none⟩->0<bs.length->k≠w2.heap.size from fun k o e hn=>by
    subst e
    have:=(HO2.o.lt k rfl).2
    omega)
   have hg6:q+2<=w2.heap.size:=by omega
   clear hb
   generalize w2.alloc (.cells #[.int .i64 0,.slice none 0 0] 27)=w3 at *
   obtain ⟨g6,hg6e⟩ : ∃ g,w2.heap.size=g:=⟨_,rfl⟩
   rw [hg6e] at HG HNE hg6
   simp only [hg6e]
   clear hg6e hz2
   (refine hK.out _ _ ?_ fun hHeld2=>?_;(focus ((try dsimp only);exact ⟨HX2.o.1,HX2.o.2.1⟩));(clear hK K);(try simp only [Act.put,Zz]))
   obtain ⟨gf0,gf1,gf2,gf3,_⟩:=HG.o
   have hg6p:q≠g6:=by omega
   have HG9:=Zh ((HG.o.set0 (.int .i64 N)).set1 (.slice A2 bs.length k2))
   have HX9:=Zh ((HX2.o.far (p:=⟨g6,0,none⟩) hg6p (.int .i64 N)).far (p:=⟨g6,1,none⟩) hg6p (.slice A2 bs.length k2))
   have HB9:=Zh ((HB2.o.setCell (p:=⟨g6,0,none⟩) (by show W0.heap.size<=g6;omega) (.int .i64 N)).setCell (p:=⟨g6,1,none⟩) (by show W0.heap.size<=g6;omega) (.slice A2 bs.length k2))
   have HI9:=Zh (show Ints ((w3.setCell ⟨g6,0,none⟩ (.int .i64 N)).setCell ⟨g6,1,none⟩ (.slice A2 bs.length k2)) ((w3.setCell ⟨g6,0,none⟩ (.int .i64 N)).setCell ⟨g6,1,none⟩ (.slice A2 bs.length k2)).heap.size A2 bs from ((HI2.o.setFar2 (p:=⟨g6,0,none⟩) HNE.o (.int .i64 N)).setFar2 (p:=⟨g6,1,none⟩) HNE.o (.slice A2 bs.length k2)).mono (by simp [World.setCell]))
   (refine wpAnyH_ready (rs:=[7]) (by kernel_rfl) (by simp) ?_;refine AllReadyH.cons rfl (fun K hK=>?_) AllReadyH.nil;go_simp)
   (refine hK.out _ _ ?_ fun hHeld2=>?_;(focus ((try dsimp only);exact ⟨HX9.o.1,HX9.o.2.1⟩));(clear hK K);(try simp only [Act.put,Zz]))
   refine wpAnyH_done (by kernel_rfl) ?_ _
   go_wp2_with fail
   go_meet
   exact ⟨g6,_,_,rfl,HG9.o,HI9.o,HNB.o,HB9.o,hg6⟩
  ·go_simp
   have hb:=(Below.refl wd.heap.size wd).alloc (Nat.le_refl _) (.cells #[.int .i64 0,.slice none 0 0] 27)
   have HG:=Zh (Cells2.new wd (.int .i64 0) (.slice none 0 0) 27)
   have HB1:=Zh (HBd.o.trans (hb.mono (by omega)))
   have HX1:=Zh (HXd.o.below hb HXd.o.2.2.2.2)
   have HI1:=Zh (HId.o.lift hb)
   have hz1:(wd.alloc (.cells #[.int .i64 0,.slice none 0 0] 27)).heap.size=q+3:=by simp [hsd]
   clear hb
   generalize wd.alloc (.cells #[.int .i64 0,.slice none 0 0] 27)=w1 at *
   simp only [hsd] at HG
   try simp only [hsd]
   (refine hK.out _ _ ?_ fun hHeld2=>?_;(focus ((try dsimp only);exact ⟨HX1.o.1,HX1.o.2.1⟩));(clear hK K);(try simp only [Act.put,Zz]))
   (refine wpAnyH_ready (rs:=[4]) (by kernel_rfl) (by simp) ?_;refine AllReadyH.cons rfl (fun K hK=>?_) AllReadyH.nil;go_simp)
   go_at_call 12
   refine (HCL.o _ HI1.o).mono ?_
   rintro e w2 ⟨v2,rfl,hown,hb⟩
   obtain ⟨A2,k2,rfl⟩:=hown.form
   have HB2:=Zh (HB1.o.trans (hb.mono (by omega)))
   have HX2:=Zh (HX1.o.below hb HX1.o.2.2.2.2)
   have HG:=Zh (HG.o.below hb (by omega))
   have HI2:=Zh (hown.ints HFT.o)
   obtain ⟨g6,hg6⟩ : ∃ g,q+2=g:=⟨_,rfl⟩
   have HNB:=Zh (show ∀ k o,A2=some ⟨k,o,none⟩->0<bs.length->q+2<=k from fun k o e hn=>by
    subst e
    have:=(hown.lt k rfl).1
    omega)
   have HNE:=Zh (show ∀ k o,A2=some ⟨k,o,none⟩->0<bs.length->k≠g6 from fun k o e hn=>by
    subst e
    have:=(hown.lt k rfl).1
    omega)
   rw [hg6] at HG
   try simp only [hg6]
   have hg6:q+2<=g6:=by omega
   clear hb hown
   go_wp2_with fail
   (refine hK.out _ _ ?_ fun hHeld2=>?_;(focus ((try dsimp only);exact ⟨HX2.o.1,HX2.o.2.1⟩));(clear hK K);(try simp only [Act.put,Zz]))
   (refine Zk 5 ?_;(try simp only [Act.put,Zz]))
   obtain ⟨w3,rfl⟩ : ∃ x:World,x=w2:=⟨_,rfl⟩
   obtain ⟨gf0,gf1,gf2,gf3,_⟩:=HG.o
   have hg6p:q≠g6:=by omega
   have HG9:=Zh ((HG.o.set0 (.int .i64 N)).set1 (.slice A2 bs.length k2))
   have HX9:=Zh ((HX2.o.far (p:=⟨g6,0,none⟩) hg6p (.int .i64 N)).far (p:=⟨g6,1,none⟩) hg6p (.slice A2 bs.length k2))
   have HB9:=Zh ((HB2.o.setCell (p:=⟨g6,0,none⟩) (by show W0.heap.size<=g6;omega) (.int .i64 N)).setCell (p:=⟨g6,1,none⟩) (by show W0.heap.size<=g6;omega) (.slice A2 bs.length k2))
   have HI9:=Zh (show Ints ((w3.setCell ⟨g6,0,none⟩ (.int .i64 N)).setCell ⟨g6,1,none⟩ (.slice A2 bs.length k2)) ((w3.setCell ⟨g6,0,none⟩ (.int .i64 N)).setCell ⟨g6,1,none⟩ (.slice A2 bs.length k2)).heap.size A2 bs from ((HI2.o.setFar2 (p:=⟨g6,0,none⟩) HNE.o (.int .i64 N)).setFar2 (p:=⟨g6,1,none⟩) HNE.o (.slice A2 bs.length k2)).mono (by simp [World.setCell]))
   (refine wpAnyH_ready (rs:=[7]) (by kernel_rfl) (by simp) ?_;refine AllReadyH.cons rfl (fun K hK=>?_) AllReadyH.nil;go_simp)
   (refine hK.out _ _ ?_ fun hHeld2=>?_;(focus ((try dsimp only);exact ⟨HX9.o.1,HX9.o.2.1⟩));(clear hK K);(try simp only [Act.put,Zz]))
   refine wpAnyH_done (by kernel_rfl) ?_ _
   go_wp2_with fail
   go_meet
   exact ⟨g6,_,_,rfl,HG9.o,HI9.o,HNB.o,HB9.o,hg6⟩
 case rest =>
  obtain ⟨g6,A6,c6,rfl,hg,hi6,hn6,hb6,hq6⟩:=hcut
  have HNQ:=Zh hn6
  clear hn6
  obtain ⟨w3,rfl⟩ : ∃ x:World,x=wc:=⟨_,rfl⟩
  have HG6:=Zh hg
  have HI6:=Zh hi6
  have HB3:=Zh (HB0.o.trans (hb6.mono (by omega)))
  have HX3:=Zh (HX.o.below hb6 (by omega))
  have HZ3:=Zh (HZ.o.below hb6 (by omega))
  have HA3:=Zh (HI0.o.lift hb6)
  have hz3:q+3<=w3.heap.size:=by have:=hg.2.2.2.2;omega
  clear hg hi6 hb6 HX HZ HI0 HB0 c0 c1 hs0
  by_cases h0:line.data.toList=[]
  ·have hle:line=⟨#[]⟩:=by
    obtain ⟨d⟩:=line
    simp only at h0
    rw [Array.toList_eq_nil_iff.1 h0]
   have HV:=Zh (show LV=((N,bs),⟨#[]⟩) by rw [HV.o,if_pos (.inl h0)])
   clear h0
   subst hle
   obtain ⟨s0,s1,_,_,_⟩:=HG6.o
   obtain ⟨z0,z1,zf0,zf1,_⟩:=HZ3.o
   have HZ9:=Zh ((HZ3.o.set0 (.int .i64 N)).set1 (.slice A6 bs.length c6))
   obtain ⟨x0,x1,_,_,_⟩:=HZ9.o
   have HB9:=Zh ((HB3.o.setCell (p:=⟨q+1,0,none⟩) (by show q<=q+1;omega) (.int .i64 N)).setCell (p:=⟨q+1,1,none⟩) (by show q<=q+1;omega) (.slice A6 bs.length c6))
   have HI9:=Zh (show Ints ((w3.setCell ⟨q+1,0,none⟩ (.int .i64 N)).setCell ⟨q+1,1,none⟩ (.slice A6 bs.length c6)) ((w3.setCell ⟨q+1,0,none⟩ (.int .i64 N)).setCell ⟨q+1,1,none⟩ (.slice A6 bs.length c6)).heap.size A6 bs from ((HI6.o.setFar2 (p:=⟨q+1,0,none⟩) (fun k o e hn=>by have:=HNQ.o k o e hn;show k≠q+1;omega) (.int .i64 N)).setFar2 (p:=⟨q+1,1,none⟩) (fun k o e hn=>by have:=HNQ.o k o e hn;show k≠q+1;omega) (.slice A6 bs.length c6)).mono (by simp [World.setCell]))
   go_wp2_with fail
   refine bodyPost_ret (v:=.tuple #[.agg #[.int .i64 N,.slice A6 bs.length c6],.string ⟨#[]⟩]) (by first | (simp [results,Tryz.results6,go_sem,x0,x1];done) | (simp [results,Tryz.results6,go_sem,x0,x1,unkS];done)) rfl ?_
   rw [HV.o]
   exact ⟨A6,c6,rfl,HI9.o,fun k o e hn=>by have:=HNQ.o k o e hn;omega,HOK.o,hq ▸ HB9.o⟩
  ·obtain ⟨ch,rl,hcr⟩:=List.exists_cons_of_ne_nil h0
   have he0:line.toList=ch::rl:=by rw [Lib.toList_data];exact hcr
   have he2:(line.toList==[])=false:=by rw [he0];rfl
   have he3:(line.toList=[])=False:=eq_false (by rw [he0];exact List.cons_ne_nil _ _)
   have he4:line.toList.isEmpty=false:=by rw [he0];rfl
   have he5:(line.toList==(⟨#[]⟩:ByteArray).toList)=false:=by rw [show (⟨#[]⟩:ByteArray).toList=[] by rw [Lib.toList_data]];exact he2
   have hsz:0<line.size:=by
    have:line.data.toList.length=line.size:=by simp
    rw [hcr] at this
    simp at this
    omega
   have hL0:line[0]=ch:=by
    have e:line[0]=line.data.toList[0]'(by rw [hcr];simp):=by simp [ByteArray.getElem_eq_getElem_data]
    rw [e]
    simp [hcr]
   by_cases hch:ch=35
   ·have hbt:((line[0].toNat:Int)==35)=true:=by rw [hL0,hch];rfl
    have HV:=Zh (show LV=((N,bs),⟨#[]⟩) by rw [HV.o,if_pos (.inr (by rw [hcr];exact hch))])
    clear h0 hch hL0
    obtain ⟨s0,s1,_,_,_⟩:=HG6.o
    obtain ⟨z0,z1,zf0,zf1,_⟩:=HZ3.o
    have HZ9:=Zh ((HZ3.o.set0 (.int .i64 N)).set1 (.slice A6 bs.length c6))
    obtain ⟨x0,x1,_,_,_⟩:=HZ9.o
    have HB9:=Zh ((HB3.o.setCell (p:=⟨q+1,0,none⟩) (by show q<=q+1;omega) (.int .i64 N)).setCell (p:=⟨q+1,1,none⟩) (by show q<=q+1;omega) (.slice A6 bs.length c6))
    have HI9:=Zh (show Ints ((w3.setCell ⟨q+1,0,none⟩ (.int .i64 N)).setCell ⟨q+1,1,none⟩ (.slice A6 bs.length c6)) ((w3.setCell ⟨q+1,0,none⟩ (.int .i64 N)).setCell ⟨q+1,1,none⟩ (.slice A6 bs.length c6)).heap.size A6 bs from ((HI6.o.setFar2 (p:=⟨q+1,0,none⟩) (fun k o e hn=>by have:=HNQ.o k o e hn;show k≠q+1;omega) (.int .i64 N)).setFar2 (p:=⟨q+1,1,none⟩) (fun k o e hn=>by have:=HNQ.o k o e hn;show k≠q+1;omega) (.slice A6 bs.length c6)).mono (by simp [World.setCell]))
    go_wp2_with fail
    refine bodyPost_ret (v:=.tuple #[.agg #[.int .i64 N,.slice A6 bs.length c6],.string ⟨#[]⟩]) (by first | (simp [results,Tryz.results6,go_sem,x0,x1];done) | (simp [results,Tryz.results6,go_sem,x0,x1,unkS];done)) rfl ?_
    rw [HV.o]
    exact ⟨A6,c6,rfl,HI9.o,fun k o e hn=>by have:=HNQ.o k o e hn;omega,HOK.o,hq ▸ HB9.o⟩
   ·have hbt:((line[0].toNat:Int)==35)=false:=by
     rw [hL0,beq_eq_false_iff_ne]
     intro h
     apply hch
     have h2:ch.toNat=35:=by omega
     exact UInt8.toNat_inj.1 h2
    have HV:=Zh (show LV=_ by rw [HV.o,if_neg (fun h=>by
     rcases h with h | h
     ·exact h0 h
     ·rw [hcr] at h;exact hch h)])
    clear h0 hch hL0
    obtain ⟨us,hus⟩ : ∃ us,splT 32 line=us:=⟨_,rfl⟩
    have HSP:=Zh (hus ▸ zg3 32 line w3 hls (HE.o w3 HB3.o).2.2.1)
    have HUP:=Zh (show 0<us.length/\us.length<=1048577 /\ ∀ u∈us,u.size<=1048576 from ⟨by rw [<- hus];unfold splT;rw [List.length_map];exact zg8 _ _ _,by
     rw [<- hus];unfold splT;rw [List.length_map]
     have h1:=zeg 32 line.data.toList []
     have h2:line.data.toList.length=line.size:=by simp
     omega,fun u hu=>by
     rw [<- hus] at hu
     have:=zg2 32 line u hu
     omega⟩)
    rw [hus] at HV HCM
    clear hus
    go_wp2_with fail
    refine HSP.o.mono ?_
    rintro e w4 ⟨A4,c4,rfl,hown,hb⟩
    have hcap4:=hown.cap_
    obtain ⟨gw,rfl,hgw1,hgw2,hwd⟩:=hown.read HUP.o.1
    have HWD:=Zh (show Wds w4 gw 0 us from ⟨hgw2,fun i hi=>by rw [Nat.zero_add];exact hwd i hi⟩)
    have HB4:=Zh (HB3.o.trans (hb.mono (by omega)))
    have HX4:=Zh (HX3.o.below hb (by omega))
    have HZ4:=Zh (HZ3.o.below hb (by omega))
    have HG4:=Zh (HG6.o.below hb HG6.o.2.2.2.2)
    have HA4:=Zh (HA3.o.lift hb)
    have HI4:=Zh (HI6.o.lift hb)
    have hz4:=hb.size
    have hg6l:g6<w3.heap.size:=HG6.o.2.2.2.2
    clear hb hown hwd HX3 HZ3 HG6 HA3 HI6 HB3
    have c0:=HX4.o.1
    have c1:=HX4.o.2.1
    go_wp2_with fail
    obtain ⟨M,hM⟩ : ∃ M,us.length=M+1:=⟨us.length-1,by have:=HUP.o.1;omega⟩
    have hdl:(us.drop 1).length=M:=by rw [List.length_drop];omega
    have hM1:(1:Int)<=(M:Int)+1:=by omega
    have hM2:M+1<=c4:=by omega
    have hM3:(M:Int)+1<=(c4:Int):=by omega
    have HWDs:=Zh (fun V (hb:Below w4.heap.size w4 V) off (h:off=1\/M=0)=>show Wds V gw off (us.drop 1) from ⟨Nat.lt_of_lt_of_le hgw2 hb.size,fun i hi=>by
     rw [hdl] at hi
     rcases h with rfl | h
     ·have h2:=(HWD.o.below hb).2 (1+i) (by omega)
      rw [Nat.zero_add] at h2
      rw [h2,List.getD_eq_getElem?_getD,List.getD_eq_getElem?_getD,List.getElem?_drop]
     ·omega⟩)
    have hul:=HUP.o.2.1
    simp only [hM]
    have HM:=Zh hM
    clear hM hcap4
    go_cut [8] from 26 to 35 (fun s8 wx=>∃ (g8 off cp k8:Nat) (A8:Option Addr),s8 = .pointer (some ⟨g8,0,none⟩)/\Con wx g8 N (.slice A8 bs.length k8) (.slice (some ⟨gw,off,none⟩) M cp) false/\Wds wx gw off (us.drop 1)/\Ints wx wx.heap.size A8 bs/\bs.length<=k8/\(∀ k o,A8=some ⟨k,o,none⟩->0<bs.length->w4.heap.size<=k/\k<g8)/\Below w4.heap.size w4 wx/\w4.heap.size<=g8)
    case first =>
     have HXd:=Zh (show Cells2 w4.drew q (.int .i64 N) (.slice A bs.length cap) from HX4.o)
     have HBd:=Zh (show Below w4.heap.size w4 w4.drew from ⟨rfl,rfl,rfl,Nat.le_refl _,fun _ _=>rfl⟩)
     have HId:=Zh (show Ints w4.drew w4.drew.heap.size A bs from HA4.o)
     have hqd:q+3<=w4.heap.size:=by omega
     by_cases hck:c4=1
     ·have HCZ:=Zh (show (c4=1)=True from eq_true hck)
      have HM0:=Zh (show M=0 by omega)
      clear hck
      (refine wp_region_held_drew (S:=(fun w'=>w'.cell? ⟨q,0,none⟩=some (.int .i64 N)/\w'.cell? ⟨q,1,none⟩=some (.slice A bs.length cap))) (by kernel_rfl) ?_ (fun hHeld=>?_);(focus ((try dsimp only);exact ⟨c0,c1⟩)))
      generalize hwd:w4.drew=wd at *
      ((refine Zk 0 ?_;(try simp only [Act.put,Zz]));(refine Zk 1 ?_;(try simp only [Act.put,Zz]));(refine Zk 2 ?_;(try simp only [Act.put,Zz]));(refine Zk 3 ?_;(try simp only [Act.put,Zz]));(refine Zk 6 ?_;(try simp only [Act.put,Zz])))
      have hcz:=HCZ.o
      (refine Zk 7 ?_;(try simp only [Act.put,Zz]))
      clear hcz
      (refine wpAnyH_ready (rs:=[4]) (by kernel_rfl) (by simp) ?_;refine AllReadyH.cons rfl (fun K hK=>?_) AllReadyH.nil;go_simp)
      go_at_call 12
      refine (HCL.o _ HId.o).mono ?_
      rintro e w5 ⟨v5,rfl,hown,hb⟩
      obtain ⟨A5,k5,rfl⟩:=hown.form
      have hk5:=OwnI.capE hown
      have HB5:=Zh (HBd.o.trans (hb.mono (by rw [<- hwd];exact Nat.le_refl _)))
      have HX5:=Zh (HXd.o.below hb HXd.o.2.2.2.2)
      have HO5:=Zh hown
      have hz5:w4.heap.size<=w5.heap.size:=HB5.o.size
      have hwds:wd.heap.size=w4.heap.size:=by rw [<- hwd];rfl
      clear hb hown
      go_wp2_with fail
      (refine hK.out _ _ ?_ fun hHeld2=>?_;(focus ((try dsimp only);exact ⟨HX5.o.1,HX5.o.2.1⟩));(clear hK K);(try simp only [Act.put,Zz]))
      ((refine Zk 5 ?_;(try simp only [Act.put,Zz]));(refine Zk 8 ?_;(try simp only [Act.put,Zz])))
      (refine wpAnyH_ready (rs:=[9]) (by kernel_rfl) (by simp) ?_;refine AllReadyH.cons rfl (fun K hK=>?_) AllReadyH.nil;go_simp)
      have hb:=(Below.refl w5.heap.size w5).alloc (Nat.le_refl _) (.cells #[.int .i64 N,.slice A5 bs.length k5,.slice (some ⟨gw,0,none⟩) M (c4-1),.bool false] 44)
      have HCN:=Zh (Con.new w5 N (.slice A5 bs.length k5) (.slice (some ⟨gw,0,none⟩) M (c4-1)) false 44)
      have HX6:=Zh (HX5.o.below hb HX5.o.2.2.2.2)
      have HB6:=Zh (HB5.o.trans (hb.mono hz5))
      have HI6b:=Zh ((HO5.o.ints HFT.o).lift hb)
      have HNK:=Zh (show ∀ k o,A5=some ⟨k,o,none⟩->0<bs.length->w4.heap.size<=k/\k<w5.heap.size from fun k o e hn=>by
       subst e
       have:=HO5.o.lt k rfl
       omega)
      clear hb
      generalize w5.alloc (.cells #[.int .i64 N,.slice A5 bs.length k5,.slice (some ⟨gw,0,none⟩) M (c4-1),.bool false] 44)=w6 at *
      (refine hK.out _ _ ?_ fun hHeld2=>?_;(focus ((try dsimp only);exact ⟨HX6.o.1,HX6.o.2.1⟩));(clear hK K);(try simp only [Act.put,Zz]))
      (refine Zk 10 ?_;(try simp only [Act.put,Zz]))
      refine wpAnyH_done (by kernel_rfl) ?_ _
      go_wp2_with fail
      go_meet
      exact ⟨_,_,_,_,_,rfl,HCN.o,HWDs.o _ HB6.o 0 (by first | exact .inl rfl | exact .inr HM0.o),HI6b.o,hk5,HNK.o,HB6.o,hz5⟩
     ·have HCZ:=Zh (show (c4=1)=False from eq_false hck)
      clear hck
      (refine wp_region_held_drew (S:=(fun w'=>w'.cell? ⟨q,0,none⟩=some (.int .i64 N)/\w'.cell? ⟨q,1,none⟩=some (.slice A bs.length cap))) (by kernel_rfl) ?_ (fun hHeld=>?_);(focus ((try dsimp only);exact ⟨c0,c1⟩)))
      generalize hwd:w4.drew=wd at *
      ((refine Zk 0 ?_;(try simp only [Act.put,Zz]));(refine Zk 1 ?_;(try simp only [Act.put,Zz]));(refine Zk 2 ?_;(try simp only [Act.put,Zz]));(refine Zk 3 ?_;(try simp only [Act.put,Zz]));(refine Zk 6 ?_;(try simp only [Act.put,Zz])))
      have hcz:=HCZ.o
      (refine Zk 7 ?_;(try simp only [Act.put,Zz]))
      clear hcz
      (refine wpAnyH_ready (rs:=[4]) (by kernel_rfl) (by simp) ?_;refine AllReadyH.cons rfl (fun K hK=>?_) AllReadyH.nil;go_simp)
      go_at_call 12
      refine (HCL.o _ HId.o).mono ?_
      rintro e w5 ⟨v5,rfl,hown,hb⟩
      obtain ⟨A5,k5,rfl⟩:=hown.form
      have hk5:=OwnI.capE hown
      have HB5:=Zh (HBd.o.trans (hb.mono (by rw [<- hwd];exact Nat.le_refl _)))
      have HX5:=Zh (HXd.o.below hb HXd.o.2.2.2.2)
      have HO5:=Zh hown
      have hz5:w4.heap.size<=w5.heap.size:=HB5.o.size
      have hwds:wd.heap.size=w4.heap.size:=by rw [<- hwd];rfl
      clear hb hown
      go_wp2_with fail
      (refine hK.out _ _ ?_ fun hHeld2=>?_;(focus ((try dsimp only);exact ⟨HX5.o.1,HX5.o.2.1⟩));(clear hK K);(try simp only [Act.put,Zz]))
      ((refine Zk 5 ?_;(try simp only [Act.put,Zz]));(refine Zk 8 ?_;(try simp only [Act.put,Zz])))
      (refine wpAnyH_ready (rs:=[9]) (by kernel_rfl) (by simp) ?_;refine AllReadyH.cons rfl (fun K hK=>?_) AllReadyH.nil;go_simp)
      have hb:=(Below.refl w5.heap.size w5).alloc (Nat.le_refl _) (.cells #[.int .i64 N,.slice A5 bs.length k5,.slice (some ⟨gw,1,none⟩) M (c4-1),.bool false] 44)
      have HCN:=Zh (Con.new w5 N (.slice A5 bs.length k5) (.slice (some ⟨gw,1,none⟩) M (c4-1)) false 44)
      have HX6:=Zh (HX5.o.below hb HX5.o.2.2.2.2)
      have HB6:=Zh (HB5.o.trans (hb.mono hz5))
      have HI6b:=Zh ((HO5.o.ints HFT.o).lift hb)
      have HNK:=Zh (show ∀ k o,A5=some ⟨k,o,none⟩->0<bs.length->w4.heap.size<=k/\k<w5.heap.size from fun k o e hn=>by
       subst e
       have:=HO5.o.lt k rfl
       omega)
      clear hb
      generalize w5.alloc (.cells #[.int .i64 N,.slice A5 bs.length k5,.slice (some ⟨gw,1,none⟩) M (c4-1),.bool false] 44)=w6 at *
      (refine hK.out _ _ ?_ fun hHeld2=>?_;(focus ((try dsimp only);exact ⟨HX6.o.1,HX6.o.2.1⟩));(clear hK K);(try simp only [Act.put,Zz]))
      (refine Zk 10 ?_;(try simp only [Act.put,Zz]))
      refine wpAnyH_done (by kernel_rfl) ?_ _
      go_wp2_with fail
      go_meet
      exact ⟨_,_,_,_,_,rfl,HCN.o,HWDs.o _ HB6.o 1 (by first | exact .inl rfl | exact .inr HM0.o),HI6b.o,hk5,HNK.o,HB6.o,hz5⟩
    case rest =>
     obtain ⟨g8,off,cp,k8,A8,rfl,hcon,hwds,hi8,hk8,hn8,hb8,hg8⟩:=hcut
     obtain ⟨w8,rfl⟩ : ∃ x:World,x=wc:=⟨_,rfl⟩
     have hwd0:=(HWD.o.below hb8).2 0 (by rw [HM.o];omega)
     rw [Nat.zero_add] at hwd0
     have hgwl:gw<w8.heap.size:=Nat.lt_of_lt_of_le hgw2 hb8.size
     have HB8:=Zh (HB4.o.trans (hb8.mono (by omega)))
     have HZ8:=Zh (HZ4.o.below hb8 (by omega))
     have HG8:=Zh (HG4.o.below hb8 (by omega))
     have HI8:=Zh (HI4.o.lift hb8)
     have HE8:=Zh (HE.o.step HB8.o)
     have HCN:=Zh hcon
     have HW8:=Zh hwds
     have HA8:=Zh hi8
     have HN8:=Zh hn8
     have hus0:=HUP.o.2.2 (us.getD 0 ⟨#[]⟩) (by rw [List.getD_eq_getElem?_getD,List.getElem?_eq_getElem (by rw [HM.o];omega:0<us.length)];exact List.getElem_mem _)
     have hMl:M<=1048577:=by have:=HM.o;omega
     have hi0:(0:Int)<(M:Int)+1:=by omega
     have hql:q+1<w8.heap.size:=HZ8.o.2.2.2.2
     have hq8:q+1<g8:=by omega
     have hg68:g6≠g8:=by omega
     have hPW : ∀ V,Frm (zaa g8) w8 V->Pow V:=fun V hf=>(HE8.o V (hf.below (fun c hc=>by rw [show c=g8 from hc];omega) (by omega))).2.1
     have hky:keyV us=(us.getD 0 ⟨#[]⟩).data.toList++[32]++itoL (M:Int):=by unfold keyV;rw [HM.o,Nat.add_sub_cancel]
     have HDR:=Zh (fun u (h:u∈us.drop 1)=>HUP.o.2.2 u (List.mem_of_mem_drop h))
     have HDL:=Zh hdl
     have HNG:=Zh (show ∀ k o,A6=some ⟨k,o,none⟩->0<bs.length -> ¬ zaa g8 k from fun k o e hn h=>by
      obtain ⟨k2,o2,e2,hk2,_⟩:=HI4.o.2.2 hn
      rw [e] at e2
      injection e2 with e2
      injection e2 with e2
      have:k=g8:=h
      omega)
     clear hcon hwds hi8 hn8 hb8 HX4 HZ4 HG4 HA4 HI4 HB4 HWD HWDs hdl c0 c1
     generalize us.drop 1=ws at *
     generalize us.getD 0 ⟨#[]⟩=u0 at *
     cases hfn:fndK (keyV us) with
     | none =>
      have HV:=Zh (show LV=((N,bs),unkS) by rw [HV.o,hfn])
      rw [hky] at hfn
      have HRM:=Zh (z12 g8 gw off cp N (.slice A8 bs.length k8) M u0 w8 HCN.o hMl hus0 hPW hfn)
      clear hfn hPW hky
      go_wp2_with fail
      refine HRM.o.mono ?_
      rintro e w9 ⟨rfl,hc9,hf9⟩
      have HB9:=Zh (HB8.o.trans (hf9.below (fun c hc=>by rw [show c=g8 from hc];omega) (show q<=w8.heap.size by omega)))
      have HZ9:=Zh (show Cells2 w9 (q+1) (.int .i64 0) (.slice none 0 0) from ⟨(hf9.cell hql (fun h=>by have:q+1=g8:=h;omega)).trans HZ8.o.1,(hf9.cell hql (fun h=>by have:q+1=g8:=h;omega)).trans HZ8.o.2.1,(hf9.frozen hql (fun h=>by have:q+1=g8:=h;omega)).trans HZ8.o.2.2.1,(hf9.frozen hql (fun h=>by have:q+1=g8:=h;omega)).trans HZ8.o.2.2.2.1,Nat.lt_of_lt_of_le hql hf9.size⟩)
      have HG9:=Zh (show Cells2 w9 g6 (.int .i64 N) (.slice A6 bs.length c6) from ⟨(hf9.cell HG8.o.2.2.2.2 hg68).trans HG8.o.1,(hf9.cell HG8.o.2.2.2.2 hg68).trans HG8.o.2.1,(hf9.frozen HG8.o.2.2.2.2 hg68).trans HG8.o.2.2.1,(hf9.frozen HG8.o.2.2.2.2 hg68).trans HG8.o.2.2.2.1,Nat.lt_of_lt_of_le HG8.o.2.2.2.2 hf9.size⟩)
      have HI9:=Zh (show Ints w9 w9.heap.size A6 bs from ⟨HI8.o.1,HI8.o.2.1,fun hn=>by
       obtain ⟨k,o,e,hk,hc⟩:=HI8.o.2.2 hn
       refine ⟨k,o,e,Nat.lt_of_lt_of_le hk hf9.size,fun i hi=>?_⟩
       rw [hf9.cell hk (fun h=>HNG.o k o e hn h)]
       exact hc i hi⟩)
      obtain ⟨d0,d1,d2,d3,d4,_⟩:=hc9
      obtain ⟨s0,s1,_,_,_⟩:=HG9.o
      obtain ⟨z0,z1,zf0,zf1,_⟩:=HZ9.o
      have HZ9:=Zh ((HZ9.o.set0 (.int .i64 N)).set1 (.slice A6 bs.length c6))
      obtain ⟨x0,x1,_,_,_⟩:=HZ9.o
      have HB9:=Zh ((HB9.o.setCell (p:=⟨q+1,0,none⟩) (by show q<=q+1;omega) (.int .i64 N)).setCell (p:=⟨q+1,1,none⟩) (by show q<=q+1;omega) (.slice A6 bs.length c6))
      have HI9:=Zh (show Ints ((w9.setCell ⟨q+1,0,none⟩ (.int .i64 N)).setCell ⟨q+1,1,none⟩ (.slice A6 bs.length c6)) ((w9.setCell ⟨q+1,0,none⟩ (.int .i64 N)).setCell ⟨q+1,1,none⟩ (.slice A6 bs.length c6)).heap.size A6 bs from ((HI9.o.setFar2 (p:=⟨q+1,0,none⟩) (fun k o e hn=>by have:=HNQ.o k o e hn;show k≠q+1;omega) (.int .i64 N)).setFar2 (p:=⟨q+1,1,none⟩) (fun k o e hn=>by have:=HNQ.o k o e hn;show k≠q+1;omega) (.slice A6 bs.length c6)).mono (by simp [World.setCell]))
      go_wp2_with fail
      refine bodyPost_ret (v:=.tuple #[.agg #[.int .i64 N,.slice A6 bs.length c6],.string unkS]) (by first | (simp [results,Tryz.results6,go_sem,x0,x1];done) | (simp [results,Tryz.results6,go_sem,x0,x1,unkS];done)) rfl ?_
      rw [HV.o]
      exact ⟨A6,c6,rfl,HI9.o,fun k o e hn=>by have:=HNQ.o k o e hn;omega,HOK.o,hq ▸ HB9.o⟩
     | some i =>
      have HV:=Zh (show LV=if (cmdV N bs ws i).1=true then ((N,bs),unkS) else ((cmdV N bs ws i).2.2.getD (N,bs),(cmdV N bs ws i).2.1) by rw [HV.o,hfn])
      have HCI:=Zh (HCM.o i hfn)
      rw [hky] at hfn
      have har:=(z18 hMl hfn).2
      have HF : ∀ V b,w8.heap.size<=b->b<V.heap.size->V.cell? ⟨b,0,none⟩=some (.pointer (some ⟨g8,0,none⟩))->Below w8.heap.size w8 V ->
        Calls Tryz.prog (cloF i) (cloA b g8 i) V fun e w'=>e = .returned (.string (cmdV N bs ws i).2.1)/\(Lft w' g8 N bs.length k8 A8 (.slice (some ⟨gw,off,none⟩) M cp) (cmdV N bs ws i)/\Frm (zaa g8) w8 w'):=by
       intro V b hb1 hb2 hbx hbw
       have p:CmdPre V N bs A8 k8 ws gw off cp g8 b q:={
        con:=by rw [HDL.o];exact HCN.o.below hbw
        ints:=HA8.o.lift hbw
        hcap:=hk8
        ok:=HOK.o
        wds:=HW8.o.below hbw
        siz:=HDR.o
        gwg:=by omega
        bg:=by have:=HCN.o.1;omega
        bl:=hb2
        bx:=hbx
        Bg:=by omega
        Bs:=by have:=hbw.size;omega
        env:=HE8.o.step (hbw.mono (by omega))
        ne:=fun k o e hn=>by have:=HN8.o k o e hn;omega }
       refine (HCI.o N bs A8 k8 ws gw off cp g8 b q V p (by rw [HDL.o];exact har)).mono ?_
       rintro e w' ⟨h1,h2,h3⟩
       rw [HDL.o] at h2
       exact ⟨h1,h2,(Frm.pure hbw _).trans h3⟩
      have HRH:=Zh (z4k g8 gw off cp N (.slice A8 bs.length k8) M u0 w8 HCN.o hMl hus0 hPW i hfn _ _ HF)
      generalize cmdV N bs ws i=r at *
      obtain ⟨bad,T,o⟩:=r
      clear hfn hPW hky HF har HCI HCM HDR HW8
      go_wp2_with fail
      refine HRH.o.mono ?_
      rintro e w9 ⟨rfl,hlf,hf9⟩
      have HB9:=Zh (HB8.o.trans (hf9.below (fun c hc=>by rw [show c=g8 from hc];omega) (show q<=w8.heap.size by omega)))
      have HZ9:=Zh (show Cells2 w9 (q+1) (.int .i64 0) (.slice none 0 0) from ⟨(hf9.cell hql (fun h=>by have:q+1=g8:=h;omega)).trans HZ8.o.1,(hf9.cell hql (fun h=>by have:q+1=g8:=h;omega)).trans HZ8.o.2.1,(hf9.frozen hql (fun h=>by have:q+1=g8:=h;omega)).trans HZ8.o.2.2.1,(hf9.frozen hql (fun h=>by have:q+1=g8:=h;omega)).trans HZ8.o.2.2.2.1,Nat.lt_of_lt_of_le hql hf9.size⟩)
      have HG9:=Zh (show Cells2 w9 g6 (.int .i64 N) (.slice A6 bs.length c6) from ⟨(hf9.cell HG8.o.2.2.2.2 hg68).trans HG8.o.1,(hf9.cell HG8.o.2.2.2.2 hg68).trans HG8.o.2.1,(hf9.frozen HG8.o.2.2.2.2 hg68).trans HG8.o.2.2.1,(hf9.frozen HG8.o.2.2.2.2 hg68).trans HG8.o.2.2.2.1,Nat.lt_of_lt_of_le HG8.o.2.2.2.2 hf9.size⟩)
      have HI9:=Zh (show Ints w9 w9.heap.size A6 bs from ⟨HI8.o.1,HI8.o.2.1,fun hn=>by
       obtain ⟨k,o,e,hk,hc⟩:=HI8.o.2.2 hn
       refine ⟨k,o,e,Nat.lt_of_lt_of_le hk hf9.size,fun i hi=>?_⟩
       rw [hf9.cell hk (fun h=>HNG.o k o e hn h)]
       exact hc i hi⟩)
      cases bad
      ·have HV:=Zh (show LV=(o.getD (N,bs),T) from HV.o)
       have hex : ∃ (M':Nat) (xs:List Int) (A':Option Addr) (c':Nat),Con w9 g8 M' (.slice A' xs.length c') (.slice (some ⟨gw,off,none⟩) M cp) false/\Ints w9 w9.heap.size A' xs/\RhOk M' xs/\(∀ k o,A'=some ⟨k,o,none⟩->0<xs.length->q+2<=k)/\o.getD (N,bs)=(M',xs):=by
        cases o with
        | none =>
         refine ⟨N,bs,A8,k8,hlf,⟨HA8.o.1,HA8.o.2.1,fun hn=>?_⟩,HOK.o,fun k o e hn=>by have:=HN8.o k o e hn;omega,rfl⟩
         obtain ⟨k,o,e,hk,hc⟩:=HA8.o.2.2 hn
         refine ⟨k,o,e,Nat.lt_of_lt_of_le hk hf9.size,fun i hi=>?_⟩
         rw [hf9.cell hk (fun h=>by have:=HN8.o k o e hn;have h2:k=g8:=h;omega)]
         exact hc i hi
        | some p =>
         obtain ⟨M',xs⟩:=p
         obtain ⟨h1,A',c',h2,h3,h4⟩:=hlf
         exact ⟨M',xs,A',c',h2,h3,h1,fun k o e hn=>by have:=h4 k o e hn;omega,rfl⟩
       obtain ⟨M',xs,A',c',hc9,hi9,hok9,hloc,heq⟩:=hex
       have HNQ:=Zh hloc
       have HIX:=Zh hi9
       have HOX:=Zh hok9
       have HV:=Zh (show LV=((M',xs),T) by rw [HV.o,heq])
       clear hlf hf9 hi9 hok9 hloc heq
       obtain ⟨d0,d1,d2,d3,d4,_⟩:=hc9
       obtain ⟨z0,z1,zf0,zf1,_⟩:=HZ9.o
       have HZ9:=Zh ((HZ9.o.set0 (.int .i64 M')).set1 (.slice A' xs.length c'))
       obtain ⟨x0,x1,_,_,_⟩:=HZ9.o
       have HB9:=Zh ((HB9.o.setCell (p:=⟨q+1,0,none⟩) (by show q<=q+1;omega) (.int .i64 M')).setCell (p:=⟨q+1,1,none⟩) (by show q<=q+1;omega) (.slice A' xs.length c'))
       have HI9:=Zh (show Ints ((w9.setCell ⟨q+1,0,none⟩ (.int .i64 M')).setCell ⟨q+1,1,none⟩ (.slice A' xs.length c')) ((w9.setCell ⟨q+1,0,none⟩ (.int .i64 M')).setCell ⟨q+1,1,none⟩ (.slice A' xs.length c')).heap.size A' xs from ((HIX.o.setFar2 (p:=⟨q+1,0,none⟩) (fun k o e hn=>by have:=HNQ.o k o e hn;show k≠q+1;omega) (.int .i64 M')).setFar2 (p:=⟨q+1,1,none⟩) (fun k o e hn=>by have:=HNQ.o k o e hn;show k≠q+1;omega) (.slice A' xs.length c')).mono (by simp [World.setCell]))
       go_wp2_with fail
       refine bodyPost_ret (v:=.tuple #[.agg #[.int .i64 M',.slice A' xs.length c'],.string T]) (by first | (simp [results,Tryz.results6,go_sem,x0,x1];done) | (simp [results,Tryz.results6,go_sem,x0,x1,unkS];done)) rfl ?_
       rw [HV.o]
       exact ⟨A',c',rfl,HI9.o,fun k o e hn=>by have:=HNQ.o k o e hn;omega,HOX.o,hq ▸ HB9.o⟩
      ·have HV:=Zh (show LV=((N,bs),unkS) from HV.o)
       have hex : ∃ (n':Int) (R':Value),Con w9 g8 n' R' (.slice (some ⟨gw,off,none⟩) M cp) true:=by
        cases o with
        | none=>exact ⟨_,_,hlf⟩
        | some p=>obtain ⟨M',xs⟩:=p;obtain ⟨h1,A',c',h2,h3,h4⟩:=hlf;exact ⟨_,_,h2⟩
       obtain ⟨n',R',hc9⟩:=hex
       clear hlf hf9
       obtain ⟨d0,d1,d2,d3,d4,_⟩:=hc9
       obtain ⟨s0,s1,_,_,_⟩:=HG9.o
       obtain ⟨z0,z1,zf0,zf1,_⟩:=HZ9.o
       have HZ9:=Zh ((HZ9.o.set0 (.int .i64 N)).set1 (.slice A6 bs.length c6))
       obtain ⟨x0,x1,_,_,_⟩:=HZ9.o
       have HB9:=Zh ((HB9.o.setCell (p:=⟨q+1,0,none⟩) (by show q<=q+1;omega) (.int .i64 N)).setCell (p:=⟨q+1,1,none⟩) (by show q<=q+1;omega) (.slice A6 bs.length c6))
       have HI9:=Zh (show Ints ((w9.setCell ⟨q+1,0,none⟩ (.int .i64 N)).setCell ⟨q+1,1,none⟩ (.slice A6 bs.length c6)) ((w9.setCell ⟨q+1,0,none⟩ (.int .i64 N)).setCell ⟨q+1,1,none⟩ (.slice A6 bs.length c6)).heap.size A6 bs from ((HI9.o.setFar2 (p:=⟨q+1,0,none⟩) (fun k o e hn=>by have:=HNQ.o k o e hn;show k≠q+1;omega) (.int .i64 N)).setFar2 (p:=⟨q+1,1,none⟩) (fun k o e hn=>by have:=HNQ.o k o e hn;show k≠q+1;omega) (.slice A6 bs.length c6)).mono (by simp [World.setCell]))
       go_wp2_with fail
       refine bodyPost_ret (v:=.tuple #[.agg #[.int .i64 N,.slice A6 bs.length c6],.string unkS]) (by first | (simp [results,Tryz.results6,go_sem,x0,x1];done) | (simp [results,Tryz.results6,go_sem,x0,x1,unkS];done)) rfl ?_
       rw [HV.o]
       exact ⟨A6,c6,rfl,HI9.o,fun k o e hn=>by have:=HNQ.o k o e hn;omega,HOK.o,hq ▸ HB9.o⟩
end Go.Proofs.YtjpnjchpdkogbaaGreatDoor
namespace Go.Proofs.YtjpnjchpdkogbaaGreatDoor
open Go.RowKit Go.Shelf
section
variable {P:Program} {ρ:Ren}
theorem z4l (L:Lays.n240 P ρ)(X:Builder.X72 P ρ)(b:Nat)(p v:Value)(bs:List Value)(w:World)(hp:p = .pointer none\/p = .pointer (some ⟨b,0,none⟩))(hbk:w.heap[b]? = some (.cells #[p,v] (ρ.t 72) (0,0)))
  (hown:w.ownsRow b (ρ.t 5) 1 v bs.length bs)(hne:v.ownBlock≠some b) :
  Calls P (ρ.f 240) #[.pointer (some ⟨b,0,none⟩)] w fun e w1=>e = .returned (.tuple #[])/\w1.heap[b]? = some (.cells #[.pointer (some ⟨b,0,none⟩),v] (ρ.t 72) (0,0))/\w1.ownsRow b (ρ.t 5) 1 v bs.length bs/\Below b w w1/\w1.heap.size=w.heap.size /\ ∀ i,i≠b->w1.heap[i]? = w.heap[i]?:=by
 have h0:w.cell? ⟨b,0,none⟩=some p:=by rw [Lib.cell_of_heap hbk];rfl
 rcases hp with rfl | rfl
 ·refine (Any.Builder_copyCheck_fresh L X b w h0 (by simp [World.shape?,hbk]) (Lib.frozen_of_heap hbk 0)).mono ?_
  rintro e w' ⟨rfl,rfl⟩
  refine ⟨rfl,by simp [World.setCell,Array.getElem?_modify,hbk],?_,(Below.refl b w).setCell (p:=⟨b,0,none⟩) (Nat.le_refl _) _,by simp [World.setCell],fun i hi=>Below.heap_setCell _ _ _ _ (fun e=>hi e)⟩
  exact hown.kept (row:=some b) ⟨rfl,rfl,rfl,by simp [World.setCell],fun k _ hk=>Below.heap_setCell _ _ _ _ (fun e=>hk (by simp [e]))⟩ (Or.inr hne)
 ·refine (Any.Builder_copyCheck_used L X b w h0).mono ?_
  rintro e w' ⟨rfl,rfl⟩
  exact ⟨rfl,hbk,hown,Below.refl _ _,rfl,fun _ _=>rfl⟩
theorem z4m (L:Lays.n166 P ρ)(X:Builder.Extra P ρ)(b:Nat)(p v:Value)(bs:List Value)(s:ByteArray)(w:World)(hp:p = .pointer none\/p = .pointer (some ⟨b,0,none⟩))(hbk:w.heap[b]? = some (.cells #[p,v] (ρ.t 72) (0,0)))
  (hown:w.ownsRow b (ρ.t 5) 1 v bs.length bs)(hlen:bs.length+s.size<=140737488355328) :
  Calls P (ρ.f 166) #[.pointer (some ⟨b,0,none⟩),.string s] w fun e w'=>e = .returned (.tuple #[.int .i64 s.size,.nilIface]) /\ ∃ v',w'.heap[b]? = some (.cells #[.pointer (some ⟨b,0,none⟩),v'] (ρ.t 72) (0,0)) /\
   w'.ownsRow b (ρ.t 5) 1 v' (bs++Lib.strCells s).length (bs++Lib.strCells s)/\Below b w w' /\ ∀ i,i<w.heap.size->i≠b->v.ownBlock≠some i->w'.heap[i]? = w.heap[i]?:=by
 have hne0:=Lib.ownBlock_ne hown hbk X.neB5
 have hbl:b<w.heap.size:=(Array.getElem?_eq_some_iff.1 hbk).1
 obtain ⟨i0,hi,hz0,hz1,hz2⟩:=info_parts X.infoByte
 have mixed:=L.mixed
 have t72:=L.t72;have a72:=L.a72;have z72:=L.z72;have v72:=L.v72;have u72:=run_underlying L.t72
 have t70:=L.t70;have a70:=L.a70;have z70:=L.z70;have v70:=L.v70;have u70:=run_underlying L.t70
 have t37:=L.t37;have a37:=L.a37;have z37:=L.z37;have v37:=L.v37;have u37:=run_underlying L.t37
 have t3:=L.t3;have a3:=L.a3;have z3:=L.z3;have v3:=L.v3;have u3:=run_underlying L.t3
 have t9:=L.t9;have a9:=L.a9;have z9:=L.z9;have v9:=L.v9;have u9:=run_underlying L.t9
 have t4:=L.t4;have a4:=L.a4;have z4:=L.z4;have v4:=L.v4;have u4:=run_underlying L.t4
 have t164:=L.t164;have a164:=L.a164;have z164:=L.z164;have v164:=L.v164;have u164:=run_underlying L.t164
 have t5:=X.t5;have a5:=X.a5;have z5:=X.z5;have v5:=X.v5;have u5:=run_underlying X.t5
 have e240 : ∀ args w,(callFunc (ρ.f 240) args).run P w = .ok (.enter (ρ.f 240) args) w:=enters_of L.f240 (by kernel_rfl) rfl
 go_enter L.f166,Body.n166_ntmps ρ
 go_wp2_with (go_at_fn (ρ.f 240);refine (z4l { L with } X.toX72 b p v bs _ hp hbk hown hne0).mono ?_)
 rintro e w1 ⟨rfl,hbk1,hown1,hb1,hs1,hk1⟩
 have hne:=Lib.ownBlock_ne hown1 hbk1 X.neB5
 have c0:w1.cell? ⟨b,0,none⟩=some (.pointer (some ⟨b,0,none⟩)):=by rw [Lib.cell_of_heap hbk1];rfl
 have c1:w1.cell? ⟨b,1,none⟩=some v:=by rw [Lib.cell_of_heap hbk1];rfl
 go_wp2_with (at_builtin;refine Lib.wpList_append_own_string _ rfl _ _ (ρ.t 37) (ρ.t 9) rfl b (ρ.t 5) i0 L.t37 L.t9 hi hz0 hz1 hz2 _ _ _ rfl hown1 s rfl ?c3 ?c4 ?c5 ?_)
 case c3=>unfold maxLen;omega
 case c4=>omega
 case c5=>omega
 intro v' w2 hown' hgrow _
 have hlt:b<w1.heap.size:=by omega
 have hb2:w2.heap[b]? = some (.cells #[.pointer (some ⟨b,0,none⟩),v] (ρ.t 72) (0,0)):=by
  rw [hgrow.block b hlt (fun e=>hne e.symm)]
  exact hbk1
 have d0:w2.cell? ⟨b,0,none⟩=some (.pointer (some ⟨b,0,none⟩)):=by rw [Lib.cell_of_heap hb2];rfl
 have d1:w2.cell? ⟨b,1,none⟩=some v:=by rw [Lib.cell_of_heap hb2];rfl
 have f1:w2.frozen? ⟨b,1,none⟩=false:=Lib.frozen_of_heap hb2 1
 obtain ⟨ao,n',cap,rfl⟩ : ∃ ao n' cap,v' = .slice ao n' cap:=by
  rcases hown'.2 with ⟨hv,_⟩ | ⟨g,cap,cur,hv,_⟩
  ·exact ⟨_,_,_,hv⟩
  ·exact ⟨_,_,_,hv⟩
 go_wp2
 go_ret2
 have hpt:=Lib.BuilderAt.put (T:=(ρ.t 72)) (e:=(ρ.t 5)) (Nat.le_refl b) hb2 (bs':=bs++Lib.strCells s) (by simpa [Lib.strCells_length] using hown') X.neB5
 obtain ⟨_,v2,hv2,ho2,_⟩:=hpt
 refine ⟨rfl,v2,hv2,ho2,(hb1.grown hgrow (by omega) (fun k hk=>(hown1.lt k hk).1)).setCell (p:=⟨b,1,none⟩) (Nat.le_refl _) _,fun i hi hib hiv=>?_⟩
 rw [Below.heap_setCell _ _ _ _ (fun e=>hib e),hgrow.block i (by omega) (fun e=>hiv e.symm),hk1 i hib]
end
def Bld (w:World)(b:Nat)(v:Value)(l:List UInt8):Prop :=
 ∃ p,(p = .pointer none\/p = .pointer (some ⟨b,0,none⟩))/\w.heap[b]? = some (.cells #[p,v] 49 (0,0))/\w.ownsRow b 5 1 v (Lib.byteCells l).length (Lib.byteCells l)
theorem Bld.lt {w:World}{b:Nat}{v:Value}{l:List UInt8}(h:Bld w b v l):b<w.heap.size:=by
 obtain ⟨p,_,hb,_⟩:=h
 exact (Array.getElem?_eq_some_iff.1 hb).1
theorem Bld.row {w:World}{b:Nat}{v:Value}{l:List UInt8}(h:Bld w b v l) : ∀ k,v.ownBlock=some k->k<w.heap.size:=by
 obtain ⟨p,_,_,ho⟩:=h
 exact fun k hk=>(ho.lt k hk).2
theorem Bld.below {w w':World}{b:Nat}{v:Value}{l:List UInt8}(h:Bld w b v l)(hb:Below w.heap.size w w'):Bld w' b v l:=by
 have hl:=h.lt
 obtain ⟨p,hp,hk,ho⟩:=h
 exact ⟨p,hp,by rw [hb.block b hl];exact hk,ho.kept (row:=none) ⟨hb.os,hb.tape,hb.output,hb.size,fun k hk _=>hb.block k hk⟩ (by by_cases h9:v.ownBlock=none <;> simp [h9])⟩
theorem Bld.new (w:World):Bld (w.alloc (.cells #[.pointer none,.slice none 0 0] 49)) w.heap.size (.slice none 0 0) [] :=
 ⟨_,.inl rfl,heap_alloc_new w _,World.ownsRow_nil _ _ _ _⟩
theorem z4n (l:List UInt8)(s:ByteArray):Lib.byteCells l++Lib.strCells s=Lib.byteCells (l++s.data.toList):=by
 simp [Lib.byteCells,Lib.strCells]
theorem z4o (b:Nat)(v:Value)(l:List UInt8)(s:ByteArray)(w:World)(h:Bld w b v l)(hlen:l.length+s.size<=140737488355328) :
  Calls Tryz.prog 16 #[.pointer (some ⟨b,0,none⟩),.string s] w fun e w'=>(∃ x,e = .returned x) /\ ∃ v',Bld w' b v' (l++s.data.toList)/\Below b w w' /\ ∀ i,i<w.heap.size->i≠b->v.ownBlock≠some i->w'.heap[i]? = w.heap[i]?:=by
 obtain ⟨p,hp,hk,ho⟩:=h
 have hbl:(Lib.byteCells l).length=l.length:=by simp [Lib.byteCells]
 refine (z4m (ρ:=Tryz.lays156_ren) { Tryz.lays156 with } Tryz.bx156 b p v (Lib.byteCells l) s w hp hk ho (by rw [hbl];exact hlen)).mono ?_
 rintro e w' ⟨rfl,v',hk',ho',hb,hs⟩
 rw [z4n] at ho'
 exact ⟨⟨_,rfl⟩,v',⟨_,.inr rfl,hk',ho'⟩,hb,hs⟩
theorem z4p (b:Nat)(v:Value)(l:List UInt8)(w:World)(h:Bld w b v l) :
  Calls Tryz.prog 17 #[.pointer (some ⟨b,0,none⟩)] w fun e w'=>e = .returned (.string ⟨l.toArray⟩)/\Below b w w':=by
 have hbl:=h.lt
 obtain ⟨p,hp,hk,ho⟩:=h
 have hne:=Lib.ownBlock_ne ho hk (show 49≠5 by decide)
 have hat:Lib.BuilderAt 49 5 b b p (Lib.byteCells l) w:=⟨Nat.le_refl _,v,hk,ho,hne⟩
 have hib:Lib.IsBuilder 49 5 b b (Lib.byteCells l) w:=by
  rcases hp with rfl | rfl
  ·exact .inl hat
  ·exact .inr hat
 refine (Any.Builder_String_any_k (ρ:=Tryz.lays156_ren) { Tryz.lays156 with } Tryz.bx156 b b l w (Lib.IsBuilderF.of hib) (Nat.le_of_lt hbl)).mono ?_
 rintro e w' ⟨rfl,_,h2,_⟩
 exact ⟨rfl,h2⟩
end Go.Proofs.YtjpnjchpdkogbaaGreatDoor
namespace Go.Proofs.YtjpnjchpdkogbaaGreatDoor
open Go.RowKit
end Go.Proofs.YtjpnjchpdkogbaaGreatDoor
namespace Go.Proofs.YtjpnjchpdkogbaaGreatDoor
open Go.RowKit
theorem zqm (w:World):Calls Tryz.prog 5 #[] w (zbr w 8 [0,3,6]):=by
 have hpr:=fun V:World=>zm3 ⟨#[120,46,46,120,46,46,120,46]⟩ V (by decide) (by decide) (by decide)
 rw [show posX ⟨#[120,46,46,120,46,46,120,46]⟩ (ByteArray.size ⟨#[120,46,46,120,46,46,120,46]⟩)=[0,3,6] by decide,show (ByteArray.size ⟨#[120,46,46,120,46,46,120,46]⟩)=8 from rfl] at hpr
 have hpr : ∀ V:World,Calls Tryz.prog 11 #[.string ⟨#[120,46,46,120,46,46,120,46]⟩] V (RetRh2 V 8 [0,3,6] true):=hpr
 have HPR:=Zh hpr
 clear hpr
 obtain ⟨R,hR⟩ : ∃ R:List Int,[0,3,6]=R:=⟨_,rfl⟩
 rw [hR] at HPR ⊢
 clear hR
 have HN:=Zh (Cells2.new w (.int .i64 0) (.slice none 0 0) 27)
 go_enter Tryz.func5,Tryz.ntmps5
 go_wp2_with fail
 refine (HPR.o _).mono ?_
 rintro e w2 ⟨A2,c2,rfl,hrw,hb2⟩
 have hz2:=hb2.size
 simp only [World.size_alloc] at hz2
 obtain ⟨f0,f1,f2,f3,f4⟩:=(HN.o.below hb2 (by simp)).alloc (.cells #[.int .i64 8,.slice A2 R.length c2] 27)
 have HRW:=Zh (hrw.below ((Below.refl _ _).alloc (Nat.le_refl _) (.cells #[.int .i64 8,.slice A2 R.length c2] 27)))
 have HBB:=Zh ((((Below.refl w.heap.size w).alloc (Nat.le_refl _) (.cells #[.int .i64 0,.slice none 0 0] 27)).trans (hb2.mono (by simp))).alloc (by omega) (.cells #[.int .i64 8,.slice A2 R.length c2] 27))
 obtain ⟨d0,d1,_,_,_⟩:=Cells2.new w2 (.int .i64 8) (.slice A2 R.length c2) 27
 go_wp2_with fail
 refine bodyPost_ret (v:=.agg #[.int .i64 8,.slice A2 R.length c2]) (by simp [results,Tryz.results5,go_sem,f0,f1]) rfl ?_
 refine ⟨A2,c2,rfl,?_,?_⟩
 ·exact ((HRW.o.far (p:=⟨w.heap.size,0,none⟩) (by simp) _).far (p:=⟨w.heap.size,1,none⟩) (by simp) _).mono (by simp)
 ·exact (HBB.o.setCell (Nat.le_refl _) _).setCell (Nat.le_refl _) _
end Go.Proofs.YtjpnjchpdkogbaaGreatDoor
