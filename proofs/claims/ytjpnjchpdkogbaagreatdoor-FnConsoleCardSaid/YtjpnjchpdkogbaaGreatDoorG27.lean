/- Parts of the proof of the card of the law FnConsole. -/
import Derived.Test.YtjpnjchpdkogbaaGreatDoorG10
import Derived.Test.YtjpnjchpdkogbaaGreatDoorChecked
import Derived.Shelf.Sort.So_math_bits_LenIn
import Derived.Test.YtjpnjchpdkogbaaGreatDoorG25
import Derived.Test.YtjpnjchpdkogbaaGreatDoorG21
import Derived.Sort.EveryDepth
set_option linter.unusedVariables false
set_option linter.unusedSimpArgs false
set_option maxRecDepth 100000
set_option maxHeartbeats 2000000
namespace Go.Proofs.YtjpnjchpdkogbaaGreatDoor
open Go.RowKit
theorem z2m (b g gw off cap:Nat)(n:Int)(R:Value)(bad:Bool)(us:List ByteArray)(o:Option (Nat × List Int))(w:World)(hC:Con w g n R (.slice (some ⟨gw,off,none⟩) us.length cap) bad)(hW:Wds w gw off us)(hi:1<us.length)
  (hs : ∀ u∈us,u.size<=1048576)(hl:us.length<=1048577)(hE : ∀ V,Frm (zaa g) w V->Errs V)(hP : ∀ V,Frm (zaa g) w V->Pow V)(hgw:gw≠g)(hbl:b<w.heap.size)(hbg:b≠g)(hbx:w.cell? ⟨b,0,none⟩=some (.pointer (some ⟨g,0,none⟩)))(hok : ∀ N bs,o=some (N,bs)->RhOk N bs)
  (hF : ∀ V,Frm (zaa g) w V->Calls Tryz.prog 28 #[.int .i64 ((zab (us.getD 0 ⟨#[]⟩)).getD 0),.int .i64 ((zab (us.getD 1 ⟨#[]⟩)).getD 0)] V (RetRhO V o)) :
  Calls Tryz.prog 27 #[.pointer (some ⟨b,0,none⟩)] w fun e w'=>e = .returned (.string (becT o))/\Bec w' g n R (.slice (some ⟨gw,off,none⟩) us.length cap) ((bad || !(zab (us.getD 0 ⟨#[]⟩)).isSome) || !(zab (us.getD 1 ⟨#[]⟩)).isSome) o/\Frm (zaa g) w w':=by
 have hfd:Frm (zaa g) w w.drew:=⟨rfl,rfl,rfl,Nat.le_refl _,fun _ _ _=>rfl⟩
 have HN:=Zh (zbm g gw off 0 cap n R bad us w.drew hC hW (by omega) hs hl (hE _ hfd) (hP _ hfd))
 have HM:=Zh (fun V bd (hf:Frm (zaa g) w V) (hc:Con V g n R (.slice (some ⟨gw,off,none⟩) us.length cap) bd)=>zbm g gw off 1 cap n R bd us V hc (hW.frm hf (fun e=>hgw e)) hi hs hl (hE _ hf) (hP _ hf))
 have HF:=Zh hF
 have HOK:=Zh hok
 have hgl0:=hC.1
 generalize zab (us.getD 0 ⟨#[]⟩)=o0 at *
 generalize zab (us.getD 1 ⟨#[]⟩)=o1 at *
 generalize us.length=L at *
 clear hF hok hW hs hE hP hC
 go_enter Tryz.func27,Tryz.ntmps27
 go_wp2_with fail
 (refine wp_region_held_drew (S:=(fun w'=>w'.cell? ⟨b,0,none⟩=some (.pointer (some ⟨g,0,none⟩)))) (by kernel_rfl) ?_ (fun hHeld=>?_);(focus ((try dsimp only);exact hbx)))
 ((refine Zk 0 ?_;(try simp only [Act.put,Zz]));(refine Zk 1 ?_;(try simp only [Act.put,Zz]));(refine Zk 3 ?_;(try simp only [Act.put,Zz])))
 (refine wpAnyH_ready (rs:=[2]) (by kernel_rfl) (by simp) ?_;refine AllReadyH.cons rfl (fun K hK=>?_) AllReadyH.nil;go_simp)
 go_at_call 29
 refine HN.o.mono ?_
 rintro e w1 ⟨rfl,hc1,hf0⟩
 have hf1:Frm (zaa g) w w1:=hfd.trans hf0
 have HX1:=Zh hf1
 have HM1:=Zh (HM.o w1 _ hf1 hc1)
 have hbx1:w1.cell? ⟨b,0,none⟩=some (.pointer (some ⟨g,0,none⟩)):=(hf1.cell hbl (fun e=>hbg e)).trans hbx
 clear hc1 hf1 hf0
 go_wp2_with fail
 (refine hK.out _ _ ?_ fun hHeld2=>?_;(focus ((try dsimp only);exact hbx1));(clear hK K);(try simp only [Act.put,Zz]))
 (refine wpAnyH_ready (rs:=[4]) (by kernel_rfl) (by simp) ?_;refine AllReadyH.cons rfl (fun K hK=>?_) AllReadyH.nil;go_simp)
 go_at_call 29
 refine HM1.o.mono ?_
 rintro e w2 ⟨rfl,hc2,hf0⟩
 have hf2:Frm (zaa g) w w2:=HX1.o.trans hf0
 have HC2:=Zh hc2
 have HX2:=Zh hf2
 have hbx2:w2.cell? ⟨b,0,none⟩=some (.pointer (some ⟨g,0,none⟩)):=(hf2.cell hbl (fun e=>hbg e)).trans hbx
 clear hc2 hf2 hf0
 go_wp2_with fail
 (refine hK.out _ _ ?_ fun hHeld2=>?_;(focus ((try dsimp only);exact hbx2));(clear hK K);(try simp only [Act.put,Zz]))
 (refine wpAnyH_ready (rs:=[5]) (by kernel_rfl) (by simp) ?_;refine AllReadyH.cons rfl (fun K hK=>?_) AllReadyH.nil;go_simp)
 go_at_call 28
 refine (HF.o _ HX2.o).mono ?_
 rintro e w3 ⟨A3,k3,rfl,hr3,hb3⟩
 have HX3:=Zh (HX2.o.trans (Frm.pure hb3 (zaa g)))
 have HBC:=Zh (zbc g n R (.slice (some ⟨gw,off,none⟩) L cap) _ o A3 k3 w2.heap.size w3 (HC2.o.below hb3) hr3 HC2.o.1 HOK.o)
 have hbx3:w3.cell? ⟨b,0,none⟩=some (.pointer (some ⟨g,0,none⟩)):=(HX3.o.cell hbl (fun e=>hbg e)).trans hbx
 clear hb3 hr3
 go_wp2_with fail
 (refine hK.out _ _ ?_ fun hHeld2=>?_;(focus ((try dsimp only);exact hbx3));(clear hK K);(try simp only [Act.put,Zz]))
 ((refine Zk 6 ?_;(try simp only [Act.put,Zz]));(refine Zk 7 ?_;(try simp only [Act.put,Zz])))
 (refine wpAnyH_ready (rs:=[8]) (by kernel_rfl) (by simp) ?_;refine AllReadyH.cons rfl (fun K hK=>?_) AllReadyH.nil;go_simp)
 go_at_call 26
 refine HBC.o.mono ?_
 rintro e w4 ⟨rfl,hbec,hf4⟩
 have HBE:=Zh hbec
 have HF4:=Zh (HX3.o.trans hf4)
 have hbx4:w4.cell? ⟨b,0,none⟩=some (.pointer (some ⟨g,0,none⟩)):=(HF4.o.cell hbl (fun e=>hbg e)).trans hbx
 clear hbec hf4
 go_wp2_with fail
 (refine hK.out _ _ ?_ fun hHeld2=>?_;(focus ((try dsimp only);exact hbx4));(clear hK K);(try simp only [Act.put,Zz]))
 (refine Zk 9 ?_;(try simp only [Act.put,Zz]))
 refine wpAnyH_done (by kernel_rfl) ?_ _
 go_wp2_with fail
 go_ret
 exact ⟨rfl,HBE.o,HF4.o⟩
theorem z2n (b g gw off cap:Nat)(n:Int)(R:Value)(bad:Bool)(us:List ByteArray)(o:Option (Nat × List Int))(w:World)(hC:Con w g n R (.slice (some ⟨gw,off,none⟩) us.length cap) bad)(hW:Wds w gw off us)(hi:1<us.length)
  (hs : ∀ u∈us,u.size<=1048576)(hl:us.length<=1048577)(hE : ∀ V,Frm (zaa g) w V->Errs V)(hP : ∀ V,Frm (zaa g) w V->Pow V)(hgw:gw≠g)(hbl:b<w.heap.size)(hbg:b≠g)(hbx:w.cell? ⟨b,0,none⟩=some (.pointer (some ⟨g,0,none⟩)))(hok : ∀ N bs,o=some (N,bs)->RhOk N bs)
  (hF : ∀ V,Frm (zaa g) w V->Calls Tryz.prog 49 #[.int .i64 ((zab (us.getD 0 ⟨#[]⟩)).getD 0),.int .i64 ((zab (us.getD 1 ⟨#[]⟩)).getD 0)] V (RetRhO V o)) :
  Calls Tryz.prog 48 #[.pointer (some ⟨b,0,none⟩)] w fun e w'=>e = .returned (.string (becT o))/\Bec w' g n R (.slice (some ⟨gw,off,none⟩) us.length cap) ((bad || !(zab (us.getD 0 ⟨#[]⟩)).isSome) || !(zab (us.getD 1 ⟨#[]⟩)).isSome) o/\Frm (zaa g) w w':=by
 have hfd:Frm (zaa g) w w.drew:=⟨rfl,rfl,rfl,Nat.le_refl _,fun _ _ _=>rfl⟩
 have HN:=Zh (zbm g gw off 0 cap n R bad us w.drew hC hW (by omega) hs hl (hE _ hfd) (hP _ hfd))
 have HM:=Zh (fun V bd (hf:Frm (zaa g) w V) (hc:Con V g n R (.slice (some ⟨gw,off,none⟩) us.length cap) bd)=>zbm g gw off 1 cap n R bd us V hc (hW.frm hf (fun e=>hgw e)) hi hs hl (hE _ hf) (hP _ hf))
 have HF:=Zh hF
 have HOK:=Zh hok
 have hgl0:=hC.1
 generalize zab (us.getD 0 ⟨#[]⟩)=o0 at *
 generalize zab (us.getD 1 ⟨#[]⟩)=o1 at *
 generalize us.length=L at *
 clear hF hok hW hs hE hP hC
 go_enter Tryz.func48,Tryz.ntmps48
 go_wp2_with fail
 (refine wp_region_held_drew (S:=(fun w'=>w'.cell? ⟨b,0,none⟩=some (.pointer (some ⟨g,0,none⟩)))) (by kernel_rfl) ?_ (fun hHeld=>?_);(focus ((try dsimp only);exact hbx)))
 ((refine Zk 0 ?_;(try simp only [Act.put,Zz]));(refine Zk 1 ?_;(try simp only [Act.put,Zz]));(refine Zk 3 ?_;(try simp only [Act.put,Zz])))
 (refine wpAnyH_ready (rs:=[2]) (by kernel_rfl) (by simp) ?_;refine AllReadyH.cons rfl (fun K hK=>?_) AllReadyH.nil;go_simp)
 go_at_call 29
 refine HN.o.mono ?_
 rintro e w1 ⟨rfl,hc1,hf0⟩
 have hf1:Frm (zaa g) w w1:=hfd.trans hf0
 have HX1:=Zh hf1
 have HM1:=Zh (HM.o w1 _ hf1 hc1)
 have hbx1:w1.cell? ⟨b,0,none⟩=some (.pointer (some ⟨g,0,none⟩)):=(hf1.cell hbl (fun e=>hbg e)).trans hbx
 clear hc1 hf1 hf0
 go_wp2_with fail
 (refine hK.out _ _ ?_ fun hHeld2=>?_;(focus ((try dsimp only);exact hbx1));(clear hK K);(try simp only [Act.put,Zz]))
 (refine wpAnyH_ready (rs:=[4]) (by kernel_rfl) (by simp) ?_;refine AllReadyH.cons rfl (fun K hK=>?_) AllReadyH.nil;go_simp)
 go_at_call 29
 refine HM1.o.mono ?_
 rintro e w2 ⟨rfl,hc2,hf0⟩
 have hf2:Frm (zaa g) w w2:=HX1.o.trans hf0
 have HC2:=Zh hc2
 have HX2:=Zh hf2
 have hbx2:w2.cell? ⟨b,0,none⟩=some (.pointer (some ⟨g,0,none⟩)):=(hf2.cell hbl (fun e=>hbg e)).trans hbx
 clear hc2 hf2 hf0
 go_wp2_with fail
 (refine hK.out _ _ ?_ fun hHeld2=>?_;(focus ((try dsimp only);exact hbx2));(clear hK K);(try simp only [Act.put,Zz]))
 (refine wpAnyH_ready (rs:=[5]) (by kernel_rfl) (by simp) ?_;refine AllReadyH.cons rfl (fun K hK=>?_) AllReadyH.nil;go_simp)
 go_at_call 49
 refine (HF.o _ HX2.o).mono ?_
 rintro e w3 ⟨A3,k3,rfl,hr3,hb3⟩
 have HX3:=Zh (HX2.o.trans (Frm.pure hb3 (zaa g)))
 have HBC:=Zh (zbc g n R (.slice (some ⟨gw,off,none⟩) L cap) _ o A3 k3 w2.heap.size w3 (HC2.o.below hb3) hr3 HC2.o.1 HOK.o)
 have hbx3:w3.cell? ⟨b,0,none⟩=some (.pointer (some ⟨g,0,none⟩)):=(HX3.o.cell hbl (fun e=>hbg e)).trans hbx
 clear hb3 hr3
 go_wp2_with fail
 (refine hK.out _ _ ?_ fun hHeld2=>?_;(focus ((try dsimp only);exact hbx3));(clear hK K);(try simp only [Act.put,Zz]))
 ((refine Zk 6 ?_;(try simp only [Act.put,Zz]));(refine Zk 7 ?_;(try simp only [Act.put,Zz])))
 (refine wpAnyH_ready (rs:=[8]) (by kernel_rfl) (by simp) ?_;refine AllReadyH.cons rfl (fun K hK=>?_) AllReadyH.nil;go_simp)
 go_at_call 26
 refine HBC.o.mono ?_
 rintro e w4 ⟨rfl,hbec,hf4⟩
 have HBE:=Zh hbec
 have HF4:=Zh (HX3.o.trans hf4)
 have hbx4:w4.cell? ⟨b,0,none⟩=some (.pointer (some ⟨g,0,none⟩)):=(HF4.o.cell hbl (fun e=>hbg e)).trans hbx
 clear hbec hf4
 go_wp2_with fail
 (refine hK.out _ _ ?_ fun hHeld2=>?_;(focus ((try dsimp only);exact hbx4));(clear hK K);(try simp only [Act.put,Zz]))
 (refine Zk 9 ?_;(try simp only [Act.put,Zz]))
 refine wpAnyH_done (by kernel_rfl) ?_ _
 go_wp2_with fail
 go_ret
 exact ⟨rfl,HBE.o,HF4.o⟩
end Go.Proofs.YtjpnjchpdkogbaaGreatDoor
namespace Go.Proofs.YtjpnjchpdkogbaaGreatDoor
open Go.RowKit
theorem z2o (b g gw off cap:Nat)(n:Int)(R:Value)(bad:Bool)(us:List ByteArray)(o:Option (Nat × List Int))(w:World)(hC:Con w g n R (.slice (some ⟨gw,off,none⟩) us.length cap) bad)(hW:Wds w gw off us)(hi:2<us.length)
  (hs : ∀ u∈us,u.size<=1048576)(hl:us.length<=1048577)(hE : ∀ V,Frm (zaa g) w V->Errs V)(hP : ∀ V,Frm (zaa g) w V->Pow V)(hgw:gw≠g)(hbl:b<w.heap.size)(hbg:b≠g)(hbx:w.cell? ⟨b,0,none⟩=some (.pointer (some ⟨g,0,none⟩)))(hok : ∀ N bs,o=some (N,bs)->RhOk N bs)
  (hF : ∀ V,Frm (zaa g) w V->Calls Tryz.prog 31 #[.int .i64 ((zab (us.getD 0 ⟨#[]⟩)).getD 0),.int .i64 ((zab (us.getD 1 ⟨#[]⟩)).getD 0),.int .i64 ((zab (us.getD 2 ⟨#[]⟩)).getD 0)] V (RetRhO V o)) :
  Calls Tryz.prog 30 #[.pointer (some ⟨b,0,none⟩)] w fun e w'=>e = .returned (.string (becT o))/\Bec w' g n R (.slice (some ⟨gw,off,none⟩) us.length cap) (((bad || !(zab (us.getD 0 ⟨#[]⟩)).isSome) || !(zab (us.getD 1 ⟨#[]⟩)).isSome) || !(zab (us.getD 2 ⟨#[]⟩)).isSome) o/\Frm (zaa g) w w':=by
 have hfd:Frm (zaa g) w w.drew:=⟨rfl,rfl,rfl,Nat.le_refl _,fun _ _ _=>rfl⟩
 have HN:=Zh (zbm g gw off 0 cap n R bad us w.drew hC hW (by omega) hs hl (hE _ hfd) (hP _ hfd))
 have HM:=Zh (fun V bd (hf:Frm (zaa g) w V) (hc:Con V g n R (.slice (some ⟨gw,off,none⟩) us.length cap) bd)=>zbm g gw off 1 cap n R bd us V hc (hW.frm hf (fun e=>hgw e)) (by omega) hs hl (hE _ hf) (hP _ hf))
 have HM2:=Zh (fun V bd (hf:Frm (zaa g) w V) (hc:Con V g n R (.slice (some ⟨gw,off,none⟩) us.length cap) bd)=>zbm g gw off 2 cap n R bd us V hc (hW.frm hf (fun e=>hgw e)) hi hs hl (hE _ hf) (hP _ hf))
 have HF:=Zh hF
 have HOK:=Zh hok
 have hgl0:=hC.1
 generalize zab (us.getD 0 ⟨#[]⟩)=o0 at *
 generalize zab (us.getD 1 ⟨#[]⟩)=o1 at *
 generalize zab (us.getD 2 ⟨#[]⟩)=o2 at *
 generalize us.length=L at *
 clear hF hok hW hs hE hP hC
 go_enter Tryz.func30,Tryz.ntmps30
 go_wp2_with fail
 (refine wp_region_held_drew (S:=(fun w'=>w'.cell? ⟨b,0,none⟩=some (.pointer (some ⟨g,0,none⟩)))) (by kernel_rfl) ?_ (fun hHeld=>?_);(focus ((try dsimp only);exact hbx)))
 ((refine Zk 0 ?_;(try simp only [Act.put,Zz]));(refine Zk 1 ?_;(try simp only [Act.put,Zz]));(refine Zk 3 ?_;(try simp only [Act.put,Zz]));(refine Zk 5 ?_;(try simp only [Act.put,Zz])))
 (refine wpAnyH_ready (rs:=[2]) (by kernel_rfl) (by simp) ?_;refine AllReadyH.cons rfl (fun K hK=>?_) AllReadyH.nil;go_simp)
 go_at_call 29
 refine HN.o.mono ?_
 rintro e w1 ⟨rfl,hc1,hf0⟩
 have hf1:Frm (zaa g) w w1:=hfd.trans hf0
 have HX1:=Zh hf1
 have HM1:=Zh (HM.o w1 _ hf1 hc1)
 have hbx1:w1.cell? ⟨b,0,none⟩=some (.pointer (some ⟨g,0,none⟩)):=(hf1.cell hbl (fun e=>hbg e)).trans hbx
 clear hc1 hf1 hf0
 go_wp2_with fail
 (refine hK.out _ _ ?_ fun hHeld2=>?_;(focus ((try dsimp only);exact hbx1));(clear hK K);(try simp only [Act.put,Zz]))
 (refine wpAnyH_ready (rs:=[4]) (by kernel_rfl) (by simp) ?_;refine AllReadyH.cons rfl (fun K hK=>?_) AllReadyH.nil;go_simp)
 go_at_call 29
 refine HM1.o.mono ?_
 rintro e w2 ⟨rfl,hc2,hf0⟩
 have hf2:Frm (zaa g) w w2:=HX1.o.trans hf0
 have HX2:=Zh hf2
 have HM3:=Zh (HM2.o w2 _ hf2 hc2)
 have hbx2:w2.cell? ⟨b,0,none⟩=some (.pointer (some ⟨g,0,none⟩)):=(hf2.cell hbl (fun e=>hbg e)).trans hbx
 clear hc2 hf2 hf0
 go_wp2_with fail
 (refine hK.out _ _ ?_ fun hHeld2=>?_;(focus ((try dsimp only);exact hbx2));(clear hK K);(try simp only [Act.put,Zz]))
 (refine wpAnyH_ready (rs:=[6]) (by kernel_rfl) (by simp) ?_;refine AllReadyH.cons rfl (fun K hK=>?_) AllReadyH.nil;go_simp)
 go_at_call 29
 refine HM3.o.mono ?_
 rintro e w5 ⟨rfl,hc5,hf0⟩
 have hf5:Frm (zaa g) w w5:=HX2.o.trans hf0
 have HC2:=Zh hc5
 have HX5:=Zh hf5
 have hbx5:w5.cell? ⟨b,0,none⟩=some (.pointer (some ⟨g,0,none⟩)):=(hf5.cell hbl (fun e=>hbg e)).trans hbx
 clear hc5 hf5 hf0
 go_wp2_with fail
 (refine hK.out _ _ ?_ fun hHeld2=>?_;(focus ((try dsimp only);exact hbx5));(clear hK K);(try simp only [Act.put,Zz]))
 (refine wpAnyH_ready (rs:=[7]) (by kernel_rfl) (by simp) ?_;refine AllReadyH.cons rfl (fun K hK=>?_) AllReadyH.nil;go_simp)
 go_at_call 31
 refine (HF.o _ HX5.o).mono ?_
 rintro e w3 ⟨A3,k3,rfl,hr3,hb3⟩
 have HX3:=Zh (HX5.o.trans (Frm.pure hb3 (zaa g)))
 have HBC:=Zh (zbc g n R (.slice (some ⟨gw,off,none⟩) L cap) _ o A3 k3 w5.heap.size w3 (HC2.o.below hb3) hr3 HC2.o.1 HOK.o)
 have hbx3:w3.cell? ⟨b,0,none⟩=some (.pointer (some ⟨g,0,none⟩)):=(HX3.o.cell hbl (fun e=>hbg e)).trans hbx
 clear hb3 hr3
 go_wp2_with fail
 (refine hK.out _ _ ?_ fun hHeld2=>?_;(focus ((try dsimp only);exact hbx3));(clear hK K);(try simp only [Act.put,Zz]))
 ((refine Zk 8 ?_;(try simp only [Act.put,Zz]));(refine Zk 9 ?_;(try simp only [Act.put,Zz])))
 (refine wpAnyH_ready (rs:=[10]) (by kernel_rfl) (by simp) ?_;refine AllReadyH.cons rfl (fun K hK=>?_) AllReadyH.nil;go_simp)
 go_at_call 26
 refine HBC.o.mono ?_
 rintro e w4 ⟨rfl,hbec,hf4⟩
 have HBE:=Zh hbec
 have HF4:=Zh (HX3.o.trans hf4)
 have hbx4:w4.cell? ⟨b,0,none⟩=some (.pointer (some ⟨g,0,none⟩)):=(HF4.o.cell hbl (fun e=>hbg e)).trans hbx
 clear hbec hf4
 go_wp2_with fail
 (refine hK.out _ _ ?_ fun hHeld2=>?_;(focus ((try dsimp only);exact hbx4));(clear hK K);(try simp only [Act.put,Zz]))
 (refine Zk 11 ?_;(try simp only [Act.put,Zz]))
 refine wpAnyH_done (by kernel_rfl) ?_ _
 go_wp2_with fail
 go_ret
 exact ⟨rfl,HBE.o,HF4.o⟩
end Go.Proofs.YtjpnjchpdkogbaaGreatDoor
namespace Go.Proofs.YtjpnjchpdkogbaaGreatDoor
open Go.RowKit
theorem z2p (b g gw off cap k ca:Nat)(n:Int)(A:Option Addr)(bad:Bool)(us:List ByteArray)(o:Option (Nat × List Int))(w:World)(hC:Con w g n (.slice A k ca) (.slice (some ⟨gw,off,none⟩) us.length cap) bad)(hW:Wds w gw off us)(hi:0<us.length)
  (hs : ∀ u∈us,u.size<=1048576)(hl:us.length<=1048577)(hE:Errs w)(hP:Pow w)(hbl:b<w.heap.size)(hbg:b≠g)(hbx:w.cell? ⟨b,0,none⟩=some (.pointer (some ⟨g,0,none⟩)))(hok : ∀ N bs,o=some (N,bs)->RhOk N bs)
  (hF : ∀ V,Frm (zaa g) w V->Calls Tryz.prog 33 #[.agg #[.int .i64 n,.slice A k ca],.int .i64 ((zab (us.getD 0 ⟨#[]⟩)).getD 0)] V (RetRhO V o)) :
  Calls Tryz.prog 32 #[.pointer (some ⟨b,0,none⟩)] w fun e w'=>e = .returned (.string (becT o))/\Bec w' g n (.slice A k ca) (.slice (some ⟨gw,off,none⟩) us.length cap) (bad || !(zab (us.getD 0 ⟨#[]⟩)).isSome) o/\Frm (zaa g) w w':=by
 have hfd:Frm (zaa g) w w.drew:=⟨rfl,rfl,rfl,Nat.le_refl _,fun _ _ _=>rfl⟩
 have HN:=Zh (zbm g gw off 0 cap n (.slice A k ca) bad us w.drew hC hW hi hs hl hE hP)
 have HF:=Zh hF
 have HOK:=Zh hok
 have hgl:=hC.1
 obtain ⟨c0,c1,c2,c3,c4,c5,c6,c7,c8⟩:=hC
 generalize zab (us.getD 0 ⟨#[]⟩)=o0 at *
 generalize us.length=L at *
 clear hF hok hW hs hE hP c3 c4 c5 c6 c7 c8
 go_enter Tryz.func32,Tryz.ntmps32
 go_wp2_with fail
 (refine wp_region_held_drew (S:=(fun w'=>w'.cell? ⟨b,0,none⟩=some (.pointer (some ⟨g,0,none⟩)))) (by kernel_rfl) ?_ (fun hHeld=>?_);(focus ((try dsimp only);exact hbx)))
 ((refine Zk 0 ?_;(try simp only [Act.put,Zz]));(refine Zk 1 ?_;(try simp only [Act.put,Zz]));(refine Zk 2 ?_;(try simp only [Act.put,Zz]));(refine Zk 3 ?_;(try simp only [Act.put,Zz]));(refine Zk 5 ?_;(try simp only [Act.put,Zz])))
 refine wpAnyH_ready (rs:=[4,6]) (by kernel_rfl) (by simp) ?_
 refine AllReadyH.cons rfl (fun K hK=>?_) (AllReadyH.cons rfl (fun K hK=>?_) AllReadyH.nil)
 ·go_simp
  (refine hK.out _ _ ?_ fun hHeld2=>?_;(focus ((try dsimp only);exact hbx));(clear hK K);(try simp only [Act.put,Zz]))
  (refine wpAnyH_ready (rs:=[6]) (by kernel_rfl) (by simp) ?_;refine AllReadyH.cons rfl (fun K hK=>?_) AllReadyH.nil;go_simp)
  go_at_call 29
  refine HN.o.mono ?_
  rintro e w1 ⟨rfl,hc1,hf0⟩
  have hf1:Frm (zaa g) w w1:=hfd.trans hf0
  have HX1:=Zh hf1
  have HC1:=Zh hc1
  have d1:=hc1.2.1
  have d2:=hc1.2.2.1
  have hbx1:w1.cell? ⟨b,0,none⟩=some (.pointer (some ⟨g,0,none⟩)):=(hf1.cell hbl (fun e=>hbg e)).trans hbx
  clear hc1 hf1 hf0
  go_wp2_with fail
  (refine hK.out _ _ ?_ fun hHeld2=>?_;(focus ((try dsimp only);exact hbx1));(clear hK K);(try simp only [Act.put,Zz]))
  (refine wpAnyH_ready (rs:=[7]) (by kernel_rfl) (by simp) ?_;refine AllReadyH.cons rfl (fun K hK=>?_) AllReadyH.nil;go_simp)
  go_at_call 33
  refine (HF.o _ HX1.o).mono ?_
  rintro e w3 ⟨A3,k3,rfl,hr3,hb3⟩
  have HX3:=Zh (HX1.o.trans (Frm.pure hb3 (zaa g)))
  have HBC:=Zh (zbc g n (.slice A k ca) (.slice (some ⟨gw,off,none⟩) L cap) _ o A3 k3 w1.heap.size w3 (HC1.o.below hb3) hr3 HC1.o.1 HOK.o)
  have hbx3:w3.cell? ⟨b,0,none⟩=some (.pointer (some ⟨g,0,none⟩)):=(HX3.o.cell hbl (fun e=>hbg e)).trans hbx
  clear hb3 hr3 d1 d2
  go_wp2_with fail
  (refine hK.out _ _ ?_ fun hHeld2=>?_;(focus ((try dsimp only);exact hbx3));(clear hK K);(try simp only [Act.put,Zz]))
  ((refine Zk 8 ?_;(try simp only [Act.put,Zz]));(refine Zk 9 ?_;(try simp only [Act.put,Zz])))
  (refine wpAnyH_ready (rs:=[10]) (by kernel_rfl) (by simp) ?_;refine AllReadyH.cons rfl (fun K hK=>?_) AllReadyH.nil;go_simp)
  go_at_call 26
  refine HBC.o.mono ?_
  rintro e w4 ⟨rfl,hbec,hf4⟩
  have HBE:=Zh hbec
  have HF4:=Zh (HX3.o.trans hf4)
  have hbx4:w4.cell? ⟨b,0,none⟩=some (.pointer (some ⟨g,0,none⟩)):=(HF4.o.cell hbl (fun e=>hbg e)).trans hbx
  clear hbec hf4
  go_wp2_with fail
  (refine hK.out _ _ ?_ fun hHeld2=>?_;(focus ((try dsimp only);exact hbx4));(clear hK K);(try simp only [Act.put,Zz]))
  (refine Zk 11 ?_;(try simp only [Act.put,Zz]))
  refine wpAnyH_done (by kernel_rfl) ?_ _
  go_wp2_with fail
  go_ret
  exact ⟨rfl,HBE.o,HF4.o⟩
 ·go_simp
  go_at_call 29
  refine HN.o.mono ?_
  rintro e w1 ⟨rfl,hc1,hf0⟩
  have hf1:Frm (zaa g) w w1:=hfd.trans hf0
  have HX1:=Zh hf1
  have HC1:=Zh hc1
  have d1:=hc1.2.1
  have d2:=hc1.2.2.1
  have hbx1:w1.cell? ⟨b,0,none⟩=some (.pointer (some ⟨g,0,none⟩)):=(hf1.cell hbl (fun e=>hbg e)).trans hbx
  clear hc1 hf1 hf0
  go_wp2_with fail
  (refine hK.out _ _ ?_ fun hHeld2=>?_;(focus ((try dsimp only);exact hbx1));(clear hK K);(try simp only [Act.put,Zz]))
  (refine wpAnyH_ready (rs:=[4]) (by kernel_rfl) (by simp) ?_;refine AllReadyH.cons rfl (fun K hK=>?_) AllReadyH.nil;go_simp)
  (refine hK.out _ _ ?_ fun hHeld2=>?_;(focus ((try dsimp only);exact hbx1));(clear hK K);(try simp only [Act.put,Zz]))
  (refine wpAnyH_ready (rs:=[7]) (by kernel_rfl) (by simp) ?_;refine AllReadyH.cons rfl (fun K hK=>?_) AllReadyH.nil;go_simp)
  go_at_call 33
  refine (HF.o _ HX1.o).mono ?_
  rintro e w3 ⟨A3,k3,rfl,hr3,hb3⟩
  have HX3:=Zh (HX1.o.trans (Frm.pure hb3 (zaa g)))
  have HBC:=Zh (zbc g n (.slice A k ca) (.slice (some ⟨gw,off,none⟩) L cap) _ o A3 k3 w1.heap.size w3 (HC1.o.below hb3) hr3 HC1.o.1 HOK.o)
  have hbx3:w3.cell? ⟨b,0,none⟩=some (.pointer (some ⟨g,0,none⟩)):=(HX3.o.cell hbl (fun e=>hbg e)).trans hbx
  clear hb3 hr3 d1 d2
  go_wp2_with fail
  (refine hK.out _ _ ?_ fun hHeld2=>?_;(focus ((try dsimp only);exact hbx3));(clear hK K);(try simp only [Act.put,Zz]))
  ((refine Zk 8 ?_;(try simp only [Act.put,Zz]));(refine Zk 9 ?_;(try simp only [Act.put,Zz])))
  (refine wpAnyH_ready (rs:=[10]) (by kernel_rfl) (by simp) ?_;refine AllReadyH.cons rfl (fun K hK=>?_) AllReadyH.nil;go_simp)
  go_at_call 26
  refine HBC.o.mono ?_
  rintro e w4 ⟨rfl,hbec,hf4⟩
  have HBE:=Zh hbec
  have HF4:=Zh (HX3.o.trans hf4)
  have hbx4:w4.cell? ⟨b,0,none⟩=some (.pointer (some ⟨g,0,none⟩)):=(HF4.o.cell hbl (fun e=>hbg e)).trans hbx
  clear hbec hf4
  go_wp2_with fail
  (refine hK.out _ _ ?_ fun hHeld2=>?_;(focus ((try dsimp only);exact hbx4));(clear hK K);(try simp only [Act.put,Zz]))
  (refine Zk 11 ?_;(try simp only [Act.put,Zz]))
  refine wpAnyH_done (by kernel_rfl) ?_ _
  go_wp2_with fail
  go_ret
  exact ⟨rfl,HBE.o,HF4.o⟩
theorem z2q (b g gw off cap k ca:Nat)(n:Int)(A:Option Addr)(bad:Bool)(us:List ByteArray)(o:Option (Nat × List Int))(w:World)(hC:Con w g n (.slice A k ca) (.slice (some ⟨gw,off,none⟩) us.length cap) bad)(hW:Wds w gw off us)(hi:0<us.length)
  (hs : ∀ u∈us,u.size<=1048576)(hl:us.length<=1048577)(hE:Errs w)(hP:Pow w)(hbl:b<w.heap.size)(hbg:b≠g)(hbx:w.cell? ⟨b,0,none⟩=some (.pointer (some ⟨g,0,none⟩)))(hok : ∀ N bs,o=some (N,bs)->RhOk N bs)
  (hF : ∀ V,Frm (zaa g) w V->Calls Tryz.prog 39 #[.agg #[.int .i64 n,.slice A k ca],.int .i64 ((zab (us.getD 0 ⟨#[]⟩)).getD 0)] V (RetRhO V o)) :
  Calls Tryz.prog 38 #[.pointer (some ⟨b,0,none⟩)] w fun e w'=>e = .returned (.string (becT o))/\Bec w' g n (.slice A k ca) (.slice (some ⟨gw,off,none⟩) us.length cap) (bad || !(zab (us.getD 0 ⟨#[]⟩)).isSome) o/\Frm (zaa g) w w':=by
 have hfd:Frm (zaa g) w w.drew:=⟨rfl,rfl,rfl,Nat.le_refl _,fun _ _ _=>rfl⟩
 have HN:=Zh (zbm g gw off 0 cap n (.slice A k ca) bad us w.drew hC hW hi hs hl hE hP)
 have HF:=Zh hF
 have HOK:=Zh hok
 have hgl:=hC.1
 obtain ⟨c0,c1,c2,c3,c4,c5,c6,c7,c8⟩:=hC
 generalize zab (us.getD 0 ⟨#[]⟩)=o0 at *
 generalize us.length=L at *
 clear hF hok hW hs hE hP c3 c4 c5 c6 c7 c8
 go_enter Tryz.func38,Tryz.ntmps38
 go_wp2_with fail
 (refine wp_region_held_drew (S:=(fun w'=>w'.cell? ⟨b,0,none⟩=some (.pointer (some ⟨g,0,none⟩)))) (by kernel_rfl) ?_ (fun hHeld=>?_);(focus ((try dsimp only);exact hbx)))
 ((refine Zk 0 ?_;(try simp only [Act.put,Zz]));(refine Zk 1 ?_;(try simp only [Act.put,Zz]));(refine Zk 2 ?_;(try simp only [Act.put,Zz]));(refine Zk 3 ?_;(try simp only [Act.put,Zz]));(refine Zk 5 ?_;(try simp only [Act.put,Zz])))
 refine wpAnyH_ready (rs:=[4,6]) (by kernel_rfl) (by simp) ?_
 refine AllReadyH.cons rfl (fun K hK=>?_) (AllReadyH.cons rfl (fun K hK=>?_) AllReadyH.nil)
 ·go_simp
  (refine hK.out _ _ ?_ fun hHeld2=>?_;(focus ((try dsimp only);exact hbx));(clear hK K);(try simp only [Act.put,Zz]))
  (refine wpAnyH_ready (rs:=[6]) (by kernel_rfl) (by simp) ?_;refine AllReadyH.cons rfl (fun K hK=>?_) AllReadyH.nil;go_simp)
  go_at_call 29
  refine HN.o.mono ?_
  rintro e w1 ⟨rfl,hc1,hf0⟩
  have hf1:Frm (zaa g) w w1:=hfd.trans hf0
  have HX1:=Zh hf1
  have HC1:=Zh hc1
  have d1:=hc1.2.1
  have d2:=hc1.2.2.1
  have hbx1:w1.cell? ⟨b,0,none⟩=some (.pointer (some ⟨g,0,none⟩)):=(hf1.cell hbl (fun e=>hbg e)).trans hbx
  clear hc1 hf1 hf0
  go_wp2_with fail
  (refine hK.out _ _ ?_ fun hHeld2=>?_;(focus ((try dsimp only);exact hbx1));(clear hK K);(try simp only [Act.put,Zz]))
  (refine wpAnyH_ready (rs:=[7]) (by kernel_rfl) (by simp) ?_;refine AllReadyH.cons rfl (fun K hK=>?_) AllReadyH.nil;go_simp)
  go_at_call 39
  refine (HF.o _ HX1.o).mono ?_
  rintro e w3 ⟨A3,k3,rfl,hr3,hb3⟩
  have HX3:=Zh (HX1.o.trans (Frm.pure hb3 (zaa g)))
  have HBC:=Zh (zbc g n (.slice A k ca) (.slice (some ⟨gw,off,none⟩) L cap) _ o A3 k3 w1.heap.size w3 (HC1.o.below hb3) hr3 HC1.o.1 HOK.o)
  have hbx3:w3.cell? ⟨b,0,none⟩=some (.pointer (some ⟨g,0,none⟩)):=(HX3.o.cell hbl (fun e=>hbg e)).trans hbx
  clear hb3 hr3 d1 d2
  go_wp2_with fail
  (refine hK.out _ _ ?_ fun hHeld2=>?_;(focus ((try dsimp only);exact hbx3));(clear hK K);(try simp only [Act.put,Zz]))
  ((refine Zk 8 ?_;(try simp only [Act.put,Zz]));(refine Zk 9 ?_;(try simp only [Act.put,Zz])))
  (refine wpAnyH_ready (rs:=[10]) (by kernel_rfl) (by simp) ?_;refine AllReadyH.cons rfl (fun K hK=>?_) AllReadyH.nil;go_simp)
  go_at_call 26
  refine HBC.o.mono ?_
  rintro e w4 ⟨rfl,hbec,hf4⟩
  have HBE:=Zh hbec
  have HF4:=Zh (HX3.o.trans hf4)
  have hbx4:w4.cell? ⟨b,0,none⟩=some (.pointer (some ⟨g,0,none⟩)):=(HF4.o.cell hbl (fun e=>hbg e)).trans hbx
  clear hbec hf4
  go_wp2_with fail
  (refine hK.out _ _ ?_ fun hHeld2=>?_;(focus ((try dsimp only);exact hbx4));(clear hK K);(try simp only [Act.put,Zz]))
  (refine Zk 11 ?_;(try simp only [Act.put,Zz]))
  refine wpAnyH_done (by kernel_rfl) ?_ _
  go_wp2_with fail
  go_ret
  exact ⟨rfl,HBE.o,HF4.o⟩
 ·go_simp
  go_at_call 29
  refine HN.o.mono ?_
  rintro e w1 ⟨rfl,hc1,hf0⟩
  have hf1:Frm (zaa g) w w1:=hfd.trans hf0
  have HX1:=Zh hf1
  have HC1:=Zh hc1
  have d1:=hc1.2.1
  have d2:=hc1.2.2.1
  have hbx1:w1.cell? ⟨b,0,none⟩=some (.pointer (some ⟨g,0,none⟩)):=(hf1.cell hbl (fun e=>hbg e)).trans hbx
  clear hc1 hf1 hf0
  go_wp2_with fail
  (refine hK.out _ _ ?_ fun hHeld2=>?_;(focus ((try dsimp only);exact hbx1));(clear hK K);(try simp only [Act.put,Zz]))
  (refine wpAnyH_ready (rs:=[4]) (by kernel_rfl) (by simp) ?_;refine AllReadyH.cons rfl (fun K hK=>?_) AllReadyH.nil;go_simp)
  (refine hK.out _ _ ?_ fun hHeld2=>?_;(focus ((try dsimp only);exact hbx1));(clear hK K);(try simp only [Act.put,Zz]))
  (refine wpAnyH_ready (rs:=[7]) (by kernel_rfl) (by simp) ?_;refine AllReadyH.cons rfl (fun K hK=>?_) AllReadyH.nil;go_simp)
  go_at_call 39
  refine (HF.o _ HX1.o).mono ?_
  rintro e w3 ⟨A3,k3,rfl,hr3,hb3⟩
  have HX3:=Zh (HX1.o.trans (Frm.pure hb3 (zaa g)))
  have HBC:=Zh (zbc g n (.slice A k ca) (.slice (some ⟨gw,off,none⟩) L cap) _ o A3 k3 w1.heap.size w3 (HC1.o.below hb3) hr3 HC1.o.1 HOK.o)
  have hbx3:w3.cell? ⟨b,0,none⟩=some (.pointer (some ⟨g,0,none⟩)):=(HX3.o.cell hbl (fun e=>hbg e)).trans hbx
  clear hb3 hr3 d1 d2
  go_wp2_with fail
  (refine hK.out _ _ ?_ fun hHeld2=>?_;(focus ((try dsimp only);exact hbx3));(clear hK K);(try simp only [Act.put,Zz]))
  ((refine Zk 8 ?_;(try simp only [Act.put,Zz]));(refine Zk 9 ?_;(try simp only [Act.put,Zz])))
  (refine wpAnyH_ready (rs:=[10]) (by kernel_rfl) (by simp) ?_;refine AllReadyH.cons rfl (fun K hK=>?_) AllReadyH.nil;go_simp)
  go_at_call 26
  refine HBC.o.mono ?_
  rintro e w4 ⟨rfl,hbec,hf4⟩
  have HBE:=Zh hbec
  have HF4:=Zh (HX3.o.trans hf4)
  have hbx4:w4.cell? ⟨b,0,none⟩=some (.pointer (some ⟨g,0,none⟩)):=(HF4.o.cell hbl (fun e=>hbg e)).trans hbx
  clear hbec hf4
  go_wp2_with fail
  (refine hK.out _ _ ?_ fun hHeld2=>?_;(focus ((try dsimp only);exact hbx4));(clear hK K);(try simp only [Act.put,Zz]))
  (refine Zk 11 ?_;(try simp only [Act.put,Zz]))
  refine wpAnyH_done (by kernel_rfl) ?_ _
  go_wp2_with fail
  go_ret
  exact ⟨rfl,HBE.o,HF4.o⟩
theorem z2r (b g gw off cap k ca:Nat)(n:Int)(A:Option Addr)(bad:Bool)(us:List ByteArray)(o:Option (Nat × List Int))(w:World)(hC:Con w g n (.slice A k ca) (.slice (some ⟨gw,off,none⟩) us.length cap) bad)(hW:Wds w gw off us)(hi:0<us.length)
  (hs : ∀ u∈us,u.size<=1048576)(hl:us.length<=1048577)(hE:Errs w)(hP:Pow w)(hbl:b<w.heap.size)(hbg:b≠g)(hbx:w.cell? ⟨b,0,none⟩=some (.pointer (some ⟨g,0,none⟩)))(hok : ∀ N bs,o=some (N,bs)->RhOk N bs)
  (hF : ∀ V,Frm (zaa g) w V->Calls Tryz.prog 41 #[.agg #[.int .i64 n,.slice A k ca],.int .i64 ((zab (us.getD 0 ⟨#[]⟩)).getD 0)] V (RetRhO V o)) :
  Calls Tryz.prog 40 #[.pointer (some ⟨b,0,none⟩)] w fun e w'=>e = .returned (.string (becT o))/\Bec w' g n (.slice A k ca) (.slice (some ⟨gw,off,none⟩) us.length cap) (bad || !(zab (us.getD 0 ⟨#[]⟩)).isSome) o/\Frm (zaa g) w w':=by
 have hfd:Frm (zaa g) w w.drew:=⟨rfl,rfl,rfl,Nat.le_refl _,fun _ _ _=>rfl⟩
 have HN:=Zh (zbm g gw off 0 cap n (.slice A k ca) bad us w.drew hC hW hi hs hl hE hP)
 have HF:=Zh hF
 have HOK:=Zh hok
 have hgl:=hC.1
 obtain ⟨c0,c1,c2,c3,c4,c5,c6,c7,c8⟩:=hC
 generalize zab (us.getD 0 ⟨#[]⟩)=o0 at *
 generalize us.length=L at *
 clear hF hok hW hs hE hP c3 c4 c5 c6 c7 c8
 go_enter Tryz.func40,Tryz.ntmps40
 go_wp2_with fail
 (refine wp_region_held_drew (S:=(fun w'=>w'.cell? ⟨b,0,none⟩=some (.pointer (some ⟨g,0,none⟩)))) (by kernel_rfl) ?_ (fun hHeld=>?_);(focus ((try dsimp only);exact hbx)))
 ((refine Zk 0 ?_;(try simp only [Act.put,Zz]));(refine Zk 1 ?_;(try simp only [Act.put,Zz]));(refine Zk 2 ?_;(try simp only [Act.put,Zz]));(refine Zk 3 ?_;(try simp only [Act.put,Zz]));(refine Zk 5 ?_;(try simp only [Act.put,Zz])))
 refine wpAnyH_ready (rs:=[4,6]) (by kernel_rfl) (by simp) ?_
 refine AllReadyH.cons rfl (fun K hK=>?_) (AllReadyH.cons rfl (fun K hK=>?_) AllReadyH.nil)
 ·go_simp
  (refine hK.out _ _ ?_ fun hHeld2=>?_;(focus ((try dsimp only);exact hbx));(clear hK K);(try simp only [Act.put,Zz]))
  (refine wpAnyH_ready (rs:=[6]) (by kernel_rfl) (by simp) ?_;refine AllReadyH.cons rfl (fun K hK=>?_) AllReadyH.nil;go_simp)
  go_at_call 29
  refine HN.o.mono ?_
  rintro e w1 ⟨rfl,hc1,hf0⟩
  have hf1:Frm (zaa g) w w1:=hfd.trans hf0
  have HX1:=Zh hf1
  have HC1:=Zh hc1
  have d1:=hc1.2.1
  have d2:=hc1.2.2.1
  have hbx1:w1.cell? ⟨b,0,none⟩=some (.pointer (some ⟨g,0,none⟩)):=(hf1.cell hbl (fun e=>hbg e)).trans hbx
  clear hc1 hf1 hf0
  go_wp2_with fail
  (refine hK.out _ _ ?_ fun hHeld2=>?_;(focus ((try dsimp only);exact hbx1));(clear hK K);(try simp only [Act.put,Zz]))
  (refine wpAnyH_ready (rs:=[7]) (by kernel_rfl) (by simp) ?_;refine AllReadyH.cons rfl (fun K hK=>?_) AllReadyH.nil;go_simp)
  go_at_call 41
  refine (HF.o _ HX1.o).mono ?_
  rintro e w3 ⟨A3,k3,rfl,hr3,hb3⟩
  have HX3:=Zh (HX1.o.trans (Frm.pure hb3 (zaa g)))
  have HBC:=Zh (zbc g n (.slice A k ca) (.slice (some ⟨gw,off,none⟩) L cap) _ o A3 k3 w1.heap.size w3 (HC1.o.below hb3) hr3 HC1.o.1 HOK.o)
  have hbx3:w3.cell? ⟨b,0,none⟩=some (.pointer (some ⟨g,0,none⟩)):=(HX3.o.cell hbl (fun e=>hbg e)).trans hbx
  clear hb3 hr3 d1 d2
  go_wp2_with fail
  (refine hK.out _ _ ?_ fun hHeld2=>?_;(focus ((try dsimp only);exact hbx3));(clear hK K);(try simp only [Act.put,Zz]))
  ((refine Zk 8 ?_;(try simp only [Act.put,Zz]));(refine Zk 9 ?_;(try simp only [Act.put,Zz])))
  (refine wpAnyH_ready (rs:=[10]) (by kernel_rfl) (by simp) ?_;refine AllReadyH.cons rfl (fun K hK=>?_) AllReadyH.nil;go_simp)
  go_at_call 26
  refine HBC.o.mono ?_
  rintro e w4 ⟨rfl,hbec,hf4⟩
  have HBE:=Zh hbec
  have HF4:=Zh (HX3.o.trans hf4)
  have hbx4:w4.cell? ⟨b,0,none⟩=some (.pointer (some ⟨g,0,none⟩)):=(HF4.o.cell hbl (fun e=>hbg e)).trans hbx
  clear hbec hf4
  go_wp2_with fail
  (refine hK.out _ _ ?_ fun hHeld2=>?_;(focus ((try dsimp only);exact hbx4));(clear hK K);(try simp only [Act.put,Zz]))
  (refine Zk 11 ?_;(try simp only [Act.put,Zz]))
  refine wpAnyH_done (by kernel_rfl) ?_ _
  go_wp2_with fail
  go_ret
  exact ⟨rfl,HBE.o,HF4.o⟩
 ·go_simp
  go_at_call 29
  refine HN.o.mono ?_
  rintro e w1 ⟨rfl,hc1,hf0⟩
  have hf1:Frm (zaa g) w w1:=hfd.trans hf0
  have HX1:=Zh hf1
  have HC1:=Zh hc1
  have d1:=hc1.2.1
  have d2:=hc1.2.2.1
  have hbx1:w1.cell? ⟨b,0,none⟩=some (.pointer (some ⟨g,0,none⟩)):=(hf1.cell hbl (fun e=>hbg e)).trans hbx
  clear hc1 hf1 hf0
  go_wp2_with fail
  (refine hK.out _ _ ?_ fun hHeld2=>?_;(focus ((try dsimp only);exact hbx1));(clear hK K);(try simp only [Act.put,Zz]))
  (refine wpAnyH_ready (rs:=[4]) (by kernel_rfl) (by simp) ?_;refine AllReadyH.cons rfl (fun K hK=>?_) AllReadyH.nil;go_simp)
  (refine hK.out _ _ ?_ fun hHeld2=>?_;(focus ((try dsimp only);exact hbx1));(clear hK K);(try simp only [Act.put,Zz]))
  (refine wpAnyH_ready (rs:=[7]) (by kernel_rfl) (by simp) ?_;refine AllReadyH.cons rfl (fun K hK=>?_) AllReadyH.nil;go_simp)
  go_at_call 41
  refine (HF.o _ HX1.o).mono ?_
  rintro e w3 ⟨A3,k3,rfl,hr3,hb3⟩
  have HX3:=Zh (HX1.o.trans (Frm.pure hb3 (zaa g)))
  have HBC:=Zh (zbc g n (.slice A k ca) (.slice (some ⟨gw,off,none⟩) L cap) _ o A3 k3 w1.heap.size w3 (HC1.o.below hb3) hr3 HC1.o.1 HOK.o)
  have hbx3:w3.cell? ⟨b,0,none⟩=some (.pointer (some ⟨g,0,none⟩)):=(HX3.o.cell hbl (fun e=>hbg e)).trans hbx
  clear hb3 hr3 d1 d2
  go_wp2_with fail
  (refine hK.out _ _ ?_ fun hHeld2=>?_;(focus ((try dsimp only);exact hbx3));(clear hK K);(try simp only [Act.put,Zz]))
  ((refine Zk 8 ?_;(try simp only [Act.put,Zz]));(refine Zk 9 ?_;(try simp only [Act.put,Zz])))
  (refine wpAnyH_ready (rs:=[10]) (by kernel_rfl) (by simp) ?_;refine AllReadyH.cons rfl (fun K hK=>?_) AllReadyH.nil;go_simp)
  go_at_call 26
  refine HBC.o.mono ?_
  rintro e w4 ⟨rfl,hbec,hf4⟩
  have HBE:=Zh hbec
  have HF4:=Zh (HX3.o.trans hf4)
  have hbx4:w4.cell? ⟨b,0,none⟩=some (.pointer (some ⟨g,0,none⟩)):=(HF4.o.cell hbl (fun e=>hbg e)).trans hbx
  clear hbec hf4
  go_wp2_with fail
  (refine hK.out _ _ ?_ fun hHeld2=>?_;(focus ((try dsimp only);exact hbx4));(clear hK K);(try simp only [Act.put,Zz]))
  (refine Zk 11 ?_;(try simp only [Act.put,Zz]))
  refine wpAnyH_done (by kernel_rfl) ?_ _
  go_wp2_with fail
  go_ret
  exact ⟨rfl,HBE.o,HF4.o⟩
theorem z2s (b g gw off cap k ca:Nat)(n:Int)(A:Option Addr)(bad:Bool)(us:List ByteArray)(o:Option (Nat × List Int))(w:World)(hC:Con w g n (.slice A k ca) (.slice (some ⟨gw,off,none⟩) us.length cap) bad)(hW:Wds w gw off us)(hi:0<us.length)
  (hs : ∀ u∈us,u.size<=1048576)(hl:us.length<=1048577)(hE:Errs w)(hP:Pow w)(hbl:b<w.heap.size)(hbg:b≠g)(hbx:w.cell? ⟨b,0,none⟩=some (.pointer (some ⟨g,0,none⟩)))(hok : ∀ N bs,o=some (N,bs)->RhOk N bs)
  (hF : ∀ V,Frm (zaa g) w V->Calls Tryz.prog 43 #[.agg #[.int .i64 n,.slice A k ca],.int .i64 ((zab (us.getD 0 ⟨#[]⟩)).getD 0)] V (RetRhO V o)) :
  Calls Tryz.prog 42 #[.pointer (some ⟨b,0,none⟩)] w fun e w'=>e = .returned (.string (becT o))/\Bec w' g n (.slice A k ca) (.slice (some ⟨gw,off,none⟩) us.length cap) (bad || !(zab (us.getD 0 ⟨#[]⟩)).isSome) o/\Frm (zaa g) w w':=by
 have hfd:Frm (zaa g) w w.drew:=⟨rfl,rfl,rfl,Nat.le_refl _,fun _ _ _=>rfl⟩
 have HN:=Zh (zbm g gw off 0 cap n (.slice A k ca) bad us w.drew hC hW hi hs hl hE hP)
 have HF:=Zh hF
 have HOK:=Zh hok
 have hgl:=hC.1
 obtain ⟨c0,c1,c2,c3,c4,c5,c6,c7,c8⟩:=hC
 generalize zab (us.getD 0 ⟨#[]⟩)=o0 at *
 generalize us.length=L at *
 clear hF hok hW hs hE hP c3 c4 c5 c6 c7 c8
 go_enter Tryz.func42,Tryz.ntmps42
 go_wp2_with fail
 (refine wp_region_held_drew (S:=(fun w'=>w'.cell? ⟨b,0,none⟩=some (.pointer (some ⟨g,0,none⟩)))) (by kernel_rfl) ?_ (fun hHeld=>?_);(focus ((try dsimp only);exact hbx)))
 ((refine Zk 0 ?_;(try simp only [Act.put,Zz]));(refine Zk 1 ?_;(try simp only [Act.put,Zz]));(refine Zk 2 ?_;(try simp only [Act.put,Zz]));(refine Zk 3 ?_;(try simp only [Act.put,Zz]));(refine Zk 5 ?_;(try simp only [Act.put,Zz])))
 refine wpAnyH_ready (rs:=[4,6]) (by kernel_rfl) (by simp) ?_
 refine AllReadyH.cons rfl (fun K hK=>?_) (AllReadyH.cons rfl (fun K hK=>?_) AllReadyH.nil)
 ·go_simp
  (refine hK.out _ _ ?_ fun hHeld2=>?_;(focus ((try dsimp only);exact hbx));(clear hK K);(try simp only [Act.put,Zz]))
  (refine wpAnyH_ready (rs:=[6]) (by kernel_rfl) (by simp) ?_;refine AllReadyH.cons rfl (fun K hK=>?_) AllReadyH.nil;go_simp)
  go_at_call 29
  refine HN.o.mono ?_
  rintro e w1 ⟨rfl,hc1,hf0⟩
  have hf1:Frm (zaa g) w w1:=hfd.trans hf0
  have HX1:=Zh hf1
  have HC1:=Zh hc1
  have d1:=hc1.2.1
  have d2:=hc1.2.2.1
  have hbx1:w1.cell? ⟨b,0,none⟩=some (.pointer (some ⟨g,0,none⟩)):=(hf1.cell hbl (fun e=>hbg e)).trans hbx
  clear hc1 hf1 hf0
  go_wp2_with fail
  (refine hK.out _ _ ?_ fun hHeld2=>?_;(focus ((try dsimp only);exact hbx1));(clear hK K);(try simp only [Act.put,Zz]))
  (refine wpAnyH_ready (rs:=[7]) (by kernel_rfl) (by simp) ?_;refine AllReadyH.cons rfl (fun K hK=>?_) AllReadyH.nil;go_simp)
  go_at_call 43
  refine (HF.o _ HX1.o).mono ?_
  rintro e w3 ⟨A3,k3,rfl,hr3,hb3⟩
  have HX3:=Zh (HX1.o.trans (Frm.pure hb3 (zaa g)))
  have HBC:=Zh (zbc g n (.slice A k ca) (.slice (some ⟨gw,off,none⟩) L cap) _ o A3 k3 w1.heap.size w3 (HC1.o.below hb3) hr3 HC1.o.1 HOK.o)
  have hbx3:w3.cell? ⟨b,0,none⟩=some (.pointer (some ⟨g,0,none⟩)):=(HX3.o.cell hbl (fun e=>hbg e)).trans hbx
  clear hb3 hr3 d1 d2
  go_wp2_with fail
  (refine hK.out _ _ ?_ fun hHeld2=>?_;(focus ((try dsimp only);exact hbx3));(clear hK K);(try simp only [Act.put,Zz]))
  ((refine Zk 8 ?_;(try simp only [Act.put,Zz]));(refine Zk 9 ?_;(try simp only [Act.put,Zz])))
  (refine wpAnyH_ready (rs:=[10]) (by kernel_rfl) (by simp) ?_;refine AllReadyH.cons rfl (fun K hK=>?_) AllReadyH.nil;go_simp)
  go_at_call 26
  refine HBC.o.mono ?_
  rintro e w4 ⟨rfl,hbec,hf4⟩
  have HBE:=Zh hbec
  have HF4:=Zh (HX3.o.trans hf4)
  have hbx4:w4.cell? ⟨b,0,none⟩=some (.pointer (some ⟨g,0,none⟩)):=(HF4.o.cell hbl (fun e=>hbg e)).trans hbx
  clear hbec hf4
  go_wp2_with fail
  (refine hK.out _ _ ?_ fun hHeld2=>?_;(focus ((try dsimp only);exact hbx4));(clear hK K);(try simp only [Act.put,Zz]))
  (refine Zk 11 ?_;(try simp only [Act.put,Zz]))
  refine wpAnyH_done (by kernel_rfl) ?_ _
  go_wp2_with fail
  go_ret
  exact ⟨rfl,HBE.o,HF4.o⟩
 ·go_simp
  go_at_call 29
  refine HN.o.mono ?_
  rintro e w1 ⟨rfl,hc1,hf0⟩
  have hf1:Frm (zaa g) w w1:=hfd.trans hf0
  have HX1:=Zh hf1
  have HC1:=Zh hc1
  have d1:=hc1.2.1
  have d2:=hc1.2.2.1
  have hbx1:w1.cell? ⟨b,0,none⟩=some (.pointer (some ⟨g,0,none⟩)):=(hf1.cell hbl (fun e=>hbg e)).trans hbx
  clear hc1 hf1 hf0
  go_wp2_with fail
  (refine hK.out _ _ ?_ fun hHeld2=>?_;(focus ((try dsimp only);exact hbx1));(clear hK K);(try simp only [Act.put,Zz]))
  (refine wpAnyH_ready (rs:=[4]) (by kernel_rfl) (by simp) ?_;refine AllReadyH.cons rfl (fun K hK=>?_) AllReadyH.nil;go_simp)
  (refine hK.out _ _ ?_ fun hHeld2=>?_;(focus ((try dsimp only);exact hbx1));(clear hK K);(try simp only [Act.put,Zz]))
  (refine wpAnyH_ready (rs:=[7]) (by kernel_rfl) (by simp) ?_;refine AllReadyH.cons rfl (fun K hK=>?_) AllReadyH.nil;go_simp)
  go_at_call 43
  refine (HF.o _ HX1.o).mono ?_
  rintro e w3 ⟨A3,k3,rfl,hr3,hb3⟩
  have HX3:=Zh (HX1.o.trans (Frm.pure hb3 (zaa g)))
  have HBC:=Zh (zbc g n (.slice A k ca) (.slice (some ⟨gw,off,none⟩) L cap) _ o A3 k3 w1.heap.size w3 (HC1.o.below hb3) hr3 HC1.o.1 HOK.o)
  have hbx3:w3.cell? ⟨b,0,none⟩=some (.pointer (some ⟨g,0,none⟩)):=(HX3.o.cell hbl (fun e=>hbg e)).trans hbx
  clear hb3 hr3 d1 d2
  go_wp2_with fail
  (refine hK.out _ _ ?_ fun hHeld2=>?_;(focus ((try dsimp only);exact hbx3));(clear hK K);(try simp only [Act.put,Zz]))
  ((refine Zk 8 ?_;(try simp only [Act.put,Zz]));(refine Zk 9 ?_;(try simp only [Act.put,Zz])))
  (refine wpAnyH_ready (rs:=[10]) (by kernel_rfl) (by simp) ?_;refine AllReadyH.cons rfl (fun K hK=>?_) AllReadyH.nil;go_simp)
  go_at_call 26
  refine HBC.o.mono ?_
  rintro e w4 ⟨rfl,hbec,hf4⟩
  have HBE:=Zh hbec
  have HF4:=Zh (HX3.o.trans hf4)
  have hbx4:w4.cell? ⟨b,0,none⟩=some (.pointer (some ⟨g,0,none⟩)):=(HF4.o.cell hbl (fun e=>hbg e)).trans hbx
  clear hbec hf4
  go_wp2_with fail
  (refine hK.out _ _ ?_ fun hHeld2=>?_;(focus ((try dsimp only);exact hbx4));(clear hK K);(try simp only [Act.put,Zz]))
  (refine Zk 11 ?_;(try simp only [Act.put,Zz]))
  refine wpAnyH_done (by kernel_rfl) ?_ _
  go_wp2_with fail
  go_ret
  exact ⟨rfl,HBE.o,HF4.o⟩
end Go.Proofs.YtjpnjchpdkogbaaGreatDoor
namespace Go.Proofs.YtjpnjchpdkogbaaGreatDoor
open Go.Shelf
def Tryz.lays125_ren:Go.Shelf.Ren:=⟨fun | 125=>238 | 128=>284 | 129=>285 | n=>n,fun | 46=>122 | 3=>3 | 51=>177 | 53=>180 | 4=>4 | 5=>5 | 9=>9 | n=>n,fun | n=>n⟩
theorem Tryz.lays125:Go.Proofs.Lays.n125 Tryz.prog Tryz.lays125_ren:={
 mixed:=by kernel_rfl
 f125:=Tryz.func238.trans (congrArg some (by kernel_rfl))
 f128:=Tryz.func284.trans (congrArg some (by kernel_rfl))
 f129:=Tryz.func285.trans (congrArg some (by kernel_rfl))
 t3:=Tryz.underlying3
 a3:=Tryz.isAgg3
 z3:=Tryz.sizeOf3
 v3:=Tryz.zeroValue3
 t4:=Tryz.underlying4
 a4:=Tryz.isAgg4
 z4:=Tryz.sizeOf4
 v4:=Tryz.zeroValue4
 t5:=Tryz.underlying5
 a5:=Tryz.isAgg5
 z5:=Tryz.sizeOf5
 v5:=Tryz.zeroValue5
 t9:=Tryz.underlying9
 a9:=Tryz.isAgg9
 z9:=Tryz.sizeOf9
 v9:=Tryz.zeroValue9
 t46:=Tryz.underlying122
 a46:=Tryz.isAgg122
 z46:=Tryz.sizeOf122
 v46:=Tryz.zeroValue122
 t51:=Tryz.underlying177
 a51:=Tryz.isAgg177
 z51:=Tryz.sizeOf177
 v51:=Tryz.zeroValue177
 t53:=Tryz.underlying180
 a53:=Tryz.isAgg180
 z53:=Tryz.sizeOf180
 v53:=Tryz.zeroValue180 }
end Go.Proofs.YtjpnjchpdkogbaaGreatDoor
namespace Go.Proofs.YtjpnjchpdkogbaaGreatDoor
open Go.RowKit Go.Shelf
theorem z2t (A:Option Addr)(cap:Nat)(xs:List Int)(w:World)(hA:Ints w w.heap.size A xs)(hp:patB xs=true) :
  Calls Tryz.prog 205 #[.slice A xs.length cap] w fun e w'=>e = .returned (.int .i64 (mkN xs xs.length:Nat))/\w=w':=by
 obtain ⟨hpos,hpat⟩:=za6 hp
 obtain ⟨hlen,hfit,hcells⟩:=hA
 unfold maxLen at hlen
 have HC:=Zh hcells
 have HP:=Zh hpat
 clear hfit hcells hpat hp
 go_enter Tryz.func205,Tryz.ntmps205
 go_wp2
 go_loop [3,8] (fun m i=>∃ k:Nat,k<=xs.length/\m = .int .i64 (mkN xs k)/\i = .int .i64 k) (fun _ i=>xs.length-(intOf i).toNat)
 case atStart=>exact ⟨0,Nat.zero_le _,rfl,rfl⟩
 case round =>
  obtain ⟨k,hk,rfl,rfl⟩:=hrel
  by_cases hlt:k<xs.length
  ·obtain ⟨b,off,rfl,hB,hc⟩:=HC.o (by omega)
   have hcell:=hc k hlt
   have hin:=zbi (HP.o k hlt)
   have hin40:inB (xs.getD k 0) 0 40=true:=za1 ⟨by omega,by omega⟩
   have hor0:=zge HP.o k hlt
   have hmlt:=zgd HP.o k hlt
   have hsm:=zdn HP.o k (by omega)
   obtain ⟨v,hv⟩:=Int.eq_ofNat_of_zero_le hin.1
   rw [hv] at hcell hor0 hin hin40 hmlt
   have hdiv:((mkN xs k:Nat):Int) / 2 ^ v=0:=by
    have h9:mkN xs k / 2 ^ v=0:=Nat.div_eq_of_lt hmlt
    rw [show ((2:Int) ^ v)=((2 ^ v:Nat):Int) by simp,<- Int.natCast_ediv,h9];rfl
   have hand:bits .and .i64 (((mkN xs k:Nat):Int) / 2 ^ v) 1=0:=by rw [hdiv];rfl
   have hor:=zkw (mkN xs k) v (by omega) (by omega)
   rw [show mkN xs k ||| 2 ^ v=mkN xs (k+1) from hor0] at hor
   obtain ⟨m',hm'⟩ : ∃ x,mkN xs (k+1)=x:=⟨_,rfl⟩
   rw [hm'] at hor
   have HM:=Zh hm'
   generalize mkN xs k=m at hor hand hdiv ⊢
   have hv16:v<16:=by omega
   have hv0:(0:Int)<=(v:Int):=Int.natCast_nonneg _
   clear hc hv hin hor0 hsm hm' hmlt
   go_wp2_with (go_at_call 22;refine (zac _ _ _ _).mono ?_;rintro e w' ⟨rfl,rfl⟩)
   go_round
   case rel=>exact ⟨k+1,by omega,by rw [HM.o],by go_num⟩
   case measure=>simp [intOf];omega
  ·have hke:k=xs.length:=by omega
   subst hke
   go_wp2_with (go_at_call 22;refine (zac _ _ _ _).mono ?_;rintro e w' ⟨rfl,rfl⟩)
   go_ret
   exact ⟨rfl,rfl⟩
theorem z2u (q:Nat)(w:World)(hq:q<2 ^ 41) :
  Calls Tryz.prog 206 #[.int .i64 q] w fun e w'=>(∃ A l c,e = .returned (.slice A l c))/\Below w.heap.size w w':=by
 have hin:inB (q:Int) 0 2199023255551=true:=za1 ⟨by omega,by omega⟩
 go_enter Tryz.func206,Tryz.ntmps206
 go_wp2_with (go_at_call 22;refine (zac _ _ _ _).mono ?_;rintro e w' ⟨rfl,rfl⟩)
 go_loopw [3,8] (fun so i wr=>∃ (k:Nat) (L:List Int),k<=41/\i = .int .i64 k/\L.length<=k/\OwnI wr w.heap.size so L/\Below w.heap.size w wr) (fun _ i _=>41-(intOf i).toNat)
 case atStart=>exact ⟨0,[],Nat.zero_le _,rfl,Nat.le_refl _,OwnI.nil _ _,Below.refl _ _⟩
 case round =>
  obtain ⟨k,L,hk,rfl,hL,hown,hbel⟩:=hrel
  obtain ⟨wo,rfl⟩ : ∃ wo:World,wo=wr:=⟨_,rfl⟩
  have HO:=Zh hown
  have HB:=Zh hbel
  obtain ⟨A1,c1,rfl⟩:=hown.form
  clear hown hbel
  by_cases hlt:k<41
  ·have hlti:(k:Int)<41:=by omega
   have hk0:(0:Int)<=(k:Int):=Int.natCast_nonneg _
   have hpow:((q:Int) / 2 ^ k)=((q / 2 ^ k:Nat):Int):=by rw [show ((2:Int) ^ k)=((2 ^ k:Nat):Int) by simp,<- Int.natCast_ediv]
   have hle:q / 2 ^ k<=q:=Nat.div_le_self _ _
   have hand:=zcp (q / 2 ^ k) 1 (by omega) (by omega)
   rw [<- hpow,Nat.and_one_is_mod] at hand
   clear hpow hle
   rcases Nat.mod_two_eq_zero_or_one (q / 2 ^ k) with h2 | h2
   ·rw [h2] at hand
    have hand:bits .and .i64 ((q:Int) / 2 ^ k) 1=0:=hand
    clear h2
    go_wp2_with fail
    go_roundw
    case rel=>exact ⟨k+1,L,by omega,by go_num,by omega,HO.o,HB.o⟩
    case measure=>simp [intOf];omega
   ·rw [h2] at hand
    have hand:bits .and .i64 ((q:Int) / 2 ^ k) 1=1:=hand
    clear h2
    go_wp2_with (at_builtin;refine za4 rfl (.tmp 16) (.tmp 18) rfl w.heap.size _ L rfl (HO.o.alloc _) _ k rfl (zag _ _ _) (by omega) (by have:=HB.o.size;simp;omega) ?_;intro v2 w2 hown2 hb2)
    have HO2:=Zh hown2
    have HB2:=Zh ((HB.o.alloc HB.o.size _).trans hb2)
    clear hown2 hb2
    go_wp2_with fail
    go_roundw
    case rel=>exact ⟨k+1,L++[(k:Int)],by omega,by go_num,by simp;omega,HO2.o,HB2.o⟩
    case measure=>simp [intOf];omega
  ·have hke:k=41:=by omega
   subst hke
   go_wp2_with fail
   go_ret
   exact ⟨⟨_,_,_,rfl⟩,HB.o⟩
theorem z2v (x:Nat)(w:World)(hx:x<2 ^ 63) :
  Calls Tryz.prog 238 #[.int .u64 x] w fun e w'=>e = .returned (.int .i64 (Lib.bitLen x))/\w'=w:=by
 have h:=calls_of_every_depth fun D=>AnyS.bits_LenIn Tryz.lays125 D (x:Int) w (by omega) (by omega)
 rwa [Int.toNat_natCast] at h
theorem z2w (a b:Nat)(w:World)(ha:a<2 ^ 41)(hb:b<8192)(hb0:b≠0) :
  Calls Tryz.prog 204 #[.int .i64 a,.int .i64 b] w fun e w'=>e = .returned (.tuple #[.int .i64 (dvT b 64 0 a).1,.int .i64 (dvT b 64 0 a).2])/\(dvT b 64 0 a).1<2 ^ 41/\w=w':=by
 have hwb:IntKind.u64.wrap (b:Int)=(b:Int):=by rw [IntKind.wrap_u64];omega
 have HLN:=Zh (fun (x:Nat) V (h:x<2 ^ 63)=>z2v x V h)
 have hlb:=Lib.bitLen_le b 13 (by omega) (by omega)
 obtain ⟨FQ,hFQ⟩ : ∃ F,dvT b 64 0 a=F:=⟨_,rfl⟩
 have HST:=Zh hFQ
 rw [hFQ]
 have hla:=Lib.bitLen_le a 41 (by omega) ha
 obtain ⟨lb,hlbe⟩ : ∃ l,Lib.bitLen b=l:=⟨_,rfl⟩
 rw [hlbe] at hlb
 have HLB:=Zh hlbe
 clear hFQ hlbe
 go_enter Tryz.func204,Tryz.ntmps204
 go_wp2_with (go_at_call 238;refine (HLN.o b _ (by omega)).mono ?_;rintro e w1 ⟨rfl,rfl⟩;rw [HLB.o])
 go_loop [0,6] (fun av qv=>∃ (f q x:Nat),av = .int .i64 x/\qv = .int .i64 q/\x<2 ^ 41/\q<2 ^ 41/\Lib.bitLen x<=f/\dvT b f q x=FQ) (fun av _=>Lib.bitLen (intOf av).toNat)
 case atStart=>exact ⟨64,0,a,rfl,rfl,ha,by decide,by omega,HST.o⟩
 case round =>
  obtain ⟨f,q,x,rfl,rfl,hx,hq,hf,hdv⟩:=hrel
  have HD:=Zh hdv
  have hwx:IntKind.u64.wrap (x:Int)=(x:Int):=by rw [IntKind.wrap_u64];omega
  obtain ⟨lx,hlx⟩ : ∃ l,Lib.bitLen x=l:=⟨_,rfl⟩
  have HLX:=Zh hlx
  rw [hlx] at hf
  have hlx41:lx<=41:=by rw [<- hlx];exact Lib.bitLen_le x 41 (by omega) hx
  clear hdv
  by_cases hc:lb<=lx
  ·have hge:decide ((lb:Int)<=(lx:Int))=true:=decide_eq_true (by omega)
   have hgei:(lb:Int)<=(lx:Int):=by omega
   by_cases h0:x=0
   ·subst h0
    have HE:=Zh (zpw (b:=b) (a:=0) (by simp) f q)
    clear hlx
    go_wp2_with (go_at_call 238;refine (HLN.o 0 _ (by omega)).mono ?_;rintro e w1 ⟨rfl,rfl⟩;rw [HLX.o])
    go_ret2
    rw [<- HD.o,HE.o]
    exact ⟨rfl,hq,rfl⟩
   ·obtain ⟨L,hL,hsb,hxr⟩:=z1m h0 hb0 (by omega) (by omega) (by rw [HLB.o,HLX.o];exact hc)
    rw [HLX.o,HLB.o] at hsb hxr
    rw [HLX.o] at hL
    obtain ⟨f',rfl⟩ : ∃ f',f=f'+1:=⟨f-1,by omega⟩
    have hgo:=z1l (b:=b) (a:=x) (by rw [HLB.o,HLX.o];exact hc) h0 f' q
    rw [HLX.o,HLB.o] at hgo
    have HGO:=Zh (hgo.symm.trans HD.o)
    obtain ⟨s,hs⟩ : ∃ s,lx-lb=s:=⟨_,rfl⟩
    rw [hs] at hsb hxr HGO
    have hs41:s<41:=by
     rcases Nat.eq_zero_or_pos lb with h9 | h9
     ·exfalso
      have h8:=zgm 64 b (by omega) (by omega)
      rw [HLB.o,h9,Nat.pow_zero] at h8
      omega
     ·omega
    have hws:IntKind.i64.wrap ((lx:Int)-(lb:Int))=(s:Int):=by rw [show (lx:Int)-(lb:Int)=(s:Int) by omega];exact i64w (by omega)
    have hs0:(0:Int)<=(s:Int):=Int.natCast_nonneg _
    have hL41:2 ^ (L+1)<=2 ^ 41:=Nat.pow_le_pow_right (by omega) (by omega)
    have hzlt:b*2 ^ s<2 ^ 41:=Nat.lt_of_lt_of_le hsb hL41
    have h2s:2 ^ s<2 ^ 41:=Nat.pow_lt_pow_right (by decide) hs41
    have hor:=z1o q s hq hs41
    have hq2:q ||| 2 ^ s<2 ^ 41:=Nat.or_lt_two_pow hq h2s
    have hshb:wrap64 ((b:Int)*2 ^ s)=((b*2 ^ s:Nat):Int):=by
     rw [show (b:Int)*2 ^ s=((b*2 ^ s:Nat):Int) by push_cast;rfl]
     clear hsb hxr HGO
     generalize b*2 ^ s=z at hzlt
     unfold wrap64
     omega
    have hxo:=z1n x (b*2 ^ s) (Nat.lt_of_lt_of_le hx (by decide)) (Nat.lt_of_lt_of_le hzlt (by decide))
    rw [<- hshb] at hxo
    have hxr2:x ^^^ b*2 ^ s<2 ^ 41:=Nat.lt_of_lt_of_le hxr (Nat.pow_le_pow_right (by decide) (by omega))
    have hbl:=Lib.bitLen_le (x ^^^ b*2 ^ s) L (by omega) hxr
    have hne:((x:Int) != 0)=true:=by rw [bne_iff_ne];omega
    have hne2 : ¬ (x:Int)=0:=by omega
    have hne3:((x:Int)=0)=False:=eq_false hne2
    generalize x ^^^ b*2 ^ s=x' at *
    generalize q ||| 2 ^ s=q' at *
    have HLL:=Zh hL
    clear hlx hsb hxr hgo hs h2s hshb hzlt hL41 hL
    go_wp2_with (go_at_call 238;refine (HLN.o x _ (by omega)).mono ?_;rintro e w1 ⟨rfl,rfl⟩;rw [HLX.o])
    go_round
    case rel=>exact ⟨f',q',x',rfl,rfl,hxr2,hq2,by have:=HLL.o;omega,HGO.o⟩
    case measure=>simp [intOf,hxo,hws];rw [HLX.o,HLL.o];omega
  ·have hge:decide ((lb:Int)<=(lx:Int))=false:=decide_eq_false (by omega)
   have hgei : ¬ (lb:Int)<=(lx:Int):=by omega
   have HE:=Zh (zpw (b:=b) (a:=x) (by rw [HLB.o,HLX.o];exact fun h=>hc h.1) f q)
   clear hlx
   go_wp2_with (go_at_call 238;refine (HLN.o x _ (by omega)).mono ?_;rintro e w1 ⟨rfl,rfl⟩;rw [HLX.o])
   go_ret2
   rw [<- HD.o,HE.o]
   exact ⟨rfl,hq,rfl⟩
end Go.Proofs.YtjpnjchpdkogbaaGreatDoor
